import Derived.Test.YtepmllodaoanmaaK33
set_option linter.unusedVariables false
set_option linter.unusedSimpArgs false
namespace Go.Proofs.Ytepmllodaoanmaa
open Go Go.AX
set_option maxHeartbeats 8000000
set_option maxRecDepth 20000
/-- A byte of bits. -/
def byt (g : Nat → Int) (i : Nat) : Int := 128 * g (8 * i) + 64 * g (8 * i + 1) + 32 * g (8 * i + 2) + 16 * g (8 * i + 3) + 8 * g (8 * i + 4) + 4 * g (8 * i + 5) + 2 * g (8 * i + 6) + g (8 * i + 7)
def padN (m : Nat) (g : Nat → Int) : List Int := (List.range m).map (byt g)
def Bit (g : Nat → Int) : Prop := ∀ k, g k = 0 ∨ g k = 1
def updN (g : Nat → Int) (k : Nat) (x : Int) : Nat → Int := fun i => if i = k then x else g i
theorem padN_len (m : Nat) (g : Nat → Int) : (padN m g).length = m := by simp [padN]
theorem padN_get {m : Nat} (g : Nat → Int) {i : Nat} (h : i < m) : (padN m g)[i]? = some (byt g i) := by simp [padN, List.getElem?_range h]
theorem byt_range {g : Nat → Int} (h : Bit g) (i : Nat) : 0 ≤ byt g i ∧ byt g i < 256 := by
  have h0 := h (8 * i); have h1 := h (8 * i + 1); have h2 := h (8 * i + 2); have h3 := h (8 * i + 3)
  have h4 := h (8 * i + 4); have h5 := h (8 * i + 5); have h6 := h (8 * i + 6); have h7 := h (8 * i + 7)
  unfold byt
  omega
theorem byt_upd_ne {g : Nat → Int} {k i : Nat} {x : Int} (h : k / 8 ≠ i) : byt (updN g k x) i = byt g i := by
  simp only [byt, updN]
  rw [if_neg (by omega), if_neg (by omega), if_neg (by omega), if_neg (by omega), if_neg (by omega), if_neg (by omega), if_neg (by omega), if_neg (by omega)]
theorem byt_upd_eq {g : Nat → Int} {k : Nat} {x : Int} : byt (updN g k x) (k / 8) = byt g (k / 8) + (x - g k) * 2 ^ (7 - k % 8) := by
  obtain ⟨i, j, hj, rfl⟩ : ∃ i j, j < 8 ∧ k = 8 * i + j := ⟨k / 8, k % 8, by omega, by omega⟩
  rw [show (8 * i + j) / 8 = i by omega, show (8 * i + j) % 8 = j by omega]
  simp only [byt, updN]
  obtain rfl | rfl | rfl | rfl | rfl | rfl | rfl | rfl : j = 0 ∨ j = 1 ∨ j = 2 ∨ j = 3 ∨ j = 4 ∨ j = 5 ∨ j = 6 ∨ j = 7 := by omega
  all_goals
    simp only [Nat.add_left_cancel_iff, Nat.add_zero, Nat.reduceEqDiff, if_true, if_false, Nat.left_eq_add, Nat.add_eq_left]
    simp
    omega
theorem pad_set {m k : Nat} {g : Nat → Int} {x y : Int} (h : k / 8 < m) (hy : y = byt (updN g k x) (k / 8)) : (padN m g).set (k / 8) y = padN m (updN g k x) := by
  apply List.ext_getElem?
  intro i
  rcases Nat.lt_or_ge i m with hi | hi
  · by_cases e : i = k / 8
    · subst e
      rw [padN_get _ hi, List.getElem?_set_self (by rw [padN_len]; exact hi), hy]
    · rw [List.getElem?_set_ne (Ne.symm e), padN_get _ hi, padN_get _ hi, byt_upd_ne (Ne.symm e)]
  · rw [List.getElem?_eq_none (by rw [List.length_set, padN_len]; exact hi), List.getElem?_eq_none (by rw [padN_len]; exact hi)]
theorem bit_clear : ∀ (b : Fin 256) (j : Fin 8), iandNot .u8 (b.val : Int) (ishl .u8 1 (7 - (j.val : Int))) = (b.val : Int) - ((b.val / 2 ^ (7 - j.val) % 2 : Nat) : Int) * 2 ^ (7 - j.val) := by decide +kernel
theorem bit_put : ∀ (b : Fin 256) (j : Fin 8) (x : Fin 2), b.val / 2 ^ (7 - j.val) % 2 = 0 → ior .u8 (b.val : Int) (ishl .u8 (x.val : Int) (7 - (j.val : Int))) = (b.val : Int) + (x.val : Int) * 2 ^ (7 - j.val) := by decide +kernel
theorem byt_bit {g : Nat → Int} (h : Bit g) (k : Nat) : (((byt g (k / 8)).toNat / 2 ^ (7 - k % 8) % 2 : Nat) : Int) = g k := by
  obtain ⟨i, j, hj, rfl⟩ : ∃ i j, j < 8 ∧ k = 8 * i + j := ⟨k / 8, k % 8, by omega, by omega⟩
  rw [show (8 * i + j) / 8 = i by omega, show (8 * i + j) % 8 = j by omega]
  have h0 := h (8 * i); have h1 := h (8 * i + 1); have h2 := h (8 * i + 2); have h3 := h (8 * i + 3)
  have h4 := h (8 * i + 4); have h5 := h (8 * i + 5); have h6 := h (8 * i + 6); have h7 := h (8 * i + 7)
  unfold byt
  obtain rfl | rfl | rfl | rfl | rfl | rfl | rfl | rfl : j = 0 ∨ j = 1 ∨ j = 2 ∨ j = 3 ∨ j = 4 ∨ j = 5 ∨ j = 6 ∨ j = 7 := by omega
  all_goals
    simp only [Nat.add_zero, Nat.reduceSub, Nat.reducePow]
    omega
theorem byt_clear {g : Nat → Int} (h : Bit g) (k : Nat) : iandNot .u8 (byt g (k / 8)) (ishl .u8 1 (7 - (k : Int) % 8)) = byt (updN g k 0) (k / 8) := by
  have hr := byt_range h (k / 8)
  have hb := byt_bit h k
  rw [byt_upd_eq]
  obtain ⟨b, hb2⟩ : ∃ b : Fin 256, byt g (k / 8) = (b.val : Int) := ⟨⟨(byt g (k / 8)).toNat, by omega⟩, by simp; omega⟩
  have := bit_clear b ⟨k % 8, by omega⟩
  simp only at this
  rw [hb2] at hb ⊢
  rw [Int.toNat_natCast] at hb
  rw [show (k : Int) % 8 = ((k % 8 : Nat) : Int) by omega, this, hb]
  rw [Int.zero_sub, Int.neg_mul]
  omega
theorem byt_put {g : Nat → Int} (h : Bit g) (k : Nat) {x : Int} (hx : x = 0 ∨ x = 1) (h0 : g k = 0) : ior .u8 (byt g (k / 8)) (ishl .u8 x (7 - (k : Int) % 8)) = byt (updN g k x) (k / 8) := by
  have hr := byt_range h (k / 8)
  have hb := byt_bit h k
  rw [byt_upd_eq, h0, Int.sub_zero]
  obtain ⟨b, hb2⟩ : ∃ b : Fin 256, byt g (k / 8) = (b.val : Int) := ⟨⟨(byt g (k / 8)).toNat, by omega⟩, by simp; omega⟩
  obtain ⟨x', hx'⟩ : ∃ x' : Fin 2, x = (x'.val : Int) := by
    rcases hx with rfl | rfl
    · exact ⟨0, rfl⟩
    · exact ⟨1, rfl⟩
  rw [hb2] at hb ⊢
  rw [Int.toNat_natCast, h0] at hb
  have := bit_put b ⟨k % 8, by omega⟩ x' (by simp only; omega)
  simp only at this
  rw [hx', show (k : Int) % 8 = ((k % 8 : Nat) : Int) by omega, this]
theorem updN_bit {g : Nat → Int} (h : Bit g) {k : Nat} {x : Int} (hx : x = 0 ∨ x = 1) : Bit (updN g k x) := fun i => by
  unfold updN
  split
  · exact hx
  · exact h i
theorem updN_upd (g : Nat → Int) (k : Nat) (x y : Int) : updN (updN g k x) k y = updN g k y := by
  funext i
  unfold updN
  split <;> rfl
theorem updN_self (g : Nat → Int) (k : Nat) (x : Int) : updN g k x k = x := by unfold updN; rw [if_pos rfl]
theorem pad_row {m k : Nat} (g : Nat → Int) (h : k / 8 < m) : ((padN m g).map br)[((k : Int) / 8).toNat]? = some (br (byt g (k / 8))) := by
  rw [show ((k : Int) / 8).toNat = k / 8 by omega, List.getElem?_map, padN_get _ h]
  rfl
section
variable {P : Program} {N : Nat} {j : J P N} {Q : Exit → Sl → List Ch → Prop} {K : Sl → List Ch → Prop} {s : Sl} {H H' : List Ch} {dst : Option Tmp} {ty : TypeId} {pos : String} {after : Array Edge} {x y : Operand} {sv : Value} {m k : Nat} {g g2 : Nat → Int} {v : Int}
/-- A byte of bits is stored. -/
theorem st_pad [Ty P 5 (.int .u8) 1 1 (.int .u8 0)] (hx : s.ev x = some (.vp sv 1 ((k : Int) / 8).toNat 0)) (hy : s.ev y = some (byte v)) (hu : Upd (.vec sv 5 1 ((padN m g).map br)) (.vec sv 5 1 ((padN m g2).map br)) H H')
    (hE : k / 8 < m ∧ v = byt g2 (k / 8) ∧ ∀ i, i ≠ k / 8 → byt g2 i = byt g i) (h : K s H') : OP j ⟨none, .store 5 x y, ty, pos, after, none⟩ K Q s H := by
  obtain ⟨h1, h2, h3⟩ := hE
  refine op_store_vp (E := 5) (rows := (padN m g).map br) (r := br (byt g (k / 8))) hx hy (V.okc_or rfl) ?_ (pad_row g h1) rfl (Nat.le_refl 1) h
  have e : ((padN m g).map br).set ((k : Int) / 8).toNat (setAll (br (byt g (k / 8))) 0 (byte v).cells) = (padN m g2).map br := by
    show ((padN m g).map br).set ((k : Int) / 8).toNat (br v) = _
    rw [show ((k : Int) / 8).toNat = k / 8 by omega, ← List.map_set]
    congr 1
    apply List.ext_getElem?
    intro i
    rcases Nat.lt_or_ge i m with hi | hi
    · by_cases e : i = k / 8
      · subst e
        rw [padN_get _ hi, List.getElem?_set_self (by rw [padN_len]; exact hi), h2]
      · rw [List.getElem?_set_ne (Ne.symm e), padN_get _ hi, padN_get _ hi, h3 i e]
    · rw [List.getElem?_eq_none (by rw [List.length_set, padN_len]; exact hi), List.getElem?_eq_none (by rw [padN_len]; exact hi)]
  rw [e]
  exact hu
end
end Go.Proofs.Ytepmllodaoanmaa

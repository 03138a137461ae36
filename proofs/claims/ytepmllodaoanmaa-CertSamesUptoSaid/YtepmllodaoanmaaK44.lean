import Derived.Test.YtepmllodaoanmaaK41
import Derived.Test.YtepmllodaoanmaaK21
set_option linter.unusedVariables false
set_option linter.unusedSimpArgs false
namespace Go.Proofs.Ytepmllodaoanmaa
open Go Go.AX
set_option maxHeartbeats 4000000
/-- A number of bits is within a size. -/
def Sz (p : Int × Int) (n : Int) : Prop := Bd p ∧ p.1 ≤ n ∧ (n ≤ p.2 ∨ p.2 = 4503599627370496)
theorem sz_cap {a b n : Int} (h0 : 0 ≤ a) (h1 : a ≤ n) (h2 : n ≤ b ∨ 4503599627370496 ≤ b) : Sz (cap a, cap b) n := by
  refine ⟨⟨cap_b _, cap_b _⟩, ?_, ?_⟩
  · dsimp only; unfold cap; omega
  · dsimp only; unfold cap; omega
theorem sz_step {p s : Int × Int} {a n : Int} (o : Bool) (hp : Sz p a) (hs : Bd s) (hn : (o = false ∧ Sz s n) ∨ (o = true ∧ (n = 1 ∨ Sz s (n - 1) ∧ 1 ≤ n))) : Sz (szStep p o s) (a + n) := by
  obtain ⟨⟨b1, b2⟩, h1, h2⟩ := hp
  obtain ⟨c1, c2⟩ := hs
  unfold szStep
  rcases hn with ⟨rfl, hb, h3, h4⟩ | ⟨rfl, hn⟩
  · rw [if_neg (by simp)]
    exact sz_cap (by omega) (by omega) (by omega)
  · rw [if_pos rfl]
    rcases hn with rfl | ⟨⟨hb, h3, h4⟩, h5⟩
    · exact sz_cap (by omega) (by omega) (by omega)
    · exact sz_cap (by omega) (by omega) (by omega)
theorem sz_row : ∀ (l : List Typ) (ds : List Dat) (p : Int × Int) (a : Int), Sz p a → ds.length = l.length → fitRow l ds = true → (∀ x ∈ l, ∀ u ∈ ds, fitT x u = true → Sz (szT x) (pkT x u).length) → Sz (szRow l p) (a + (optL l ds).length + (pkRow l ds).length)
  | [], [], p, a, hp, _, _, _ => by simpa [szRow, optL, pkRow] using hp
  | [], d :: ds, p, a, hp, h, _, _ => by simp at h
  | t :: l, [], p, a, hp, h, _, _ => by simp at h
  | t :: l, d :: ds, p, a, hp, hl, hf, hk => by
    rw [fitRow] at hf
    simp only [Bool.and_eq_true, Bool.or_eq_true] at hf
    rw [szRow, optL, pkRow, List.length_append, List.length_append]
    have hkt := hk t (List.mem_cons_self ..) d (List.mem_cons_self ..)
    have hset : fitT t d = true → d.set = true := fun h => by
      rw [fitT_eq, Bool.and_eq_true] at h
      exact (of_decide_eq_true h.1).2.1
    have key : Sz (szStep p t.opt (szT t)) (a + (((if t.opt = true then [if d.set = true then 1 else 0] else ([] : List Int)).length : Int) + ((if d.set = true then pkT t d else []).length : Int))) := by
      refine sz_step t.opt hp (szT_b t) ?_
      cases ho : t.opt
      · rcases hf.1 with ⟨h, _⟩ | h
        · rw [ho] at h; cases h
        · refine .inl ⟨rfl, ?_⟩
          rw [if_neg (by simp), if_pos (hset h)]
          simpa using hkt h
      · refine .inr ⟨rfl, ?_⟩
        rw [if_pos rfl]
        cases hs : d.set
        · refine .inl ?_
          rw [if_neg (by simp)]
          rfl
        · simp only [if_true]
          rcases hf.1 with ⟨_, h⟩ | h
          · unfold noneD at h
            have := of_decide_eq_true h
            rw [hs] at this
            simp at this
          · refine .inr ⟨?_, by simp only [List.length_cons, List.length_nil]; omega⟩
            have := hkt h
            simp only [List.length_cons, List.length_nil]
            rwa [show (((0 + 1 : Nat) : Int) + ((pkT t d).length : Int) - 1) = ((pkT t d).length : Int) by omega]
    have := sz_row l ds _ _ key (by simpa using hl) hf.2 fun x hx u hu => hk x (List.mem_cons_of_mem _ hx) u (List.mem_cons_of_mem _ hu)
    generalize (if t.opt = true then [if d.set = true then 1 else 0] else ([] : List Int)).length = z at this ⊢
    generalize (if d.set = true then pkT t d else []).length = y at this ⊢
    rwa [show a + ((z + (optL l ds).length : Nat) : Int) + ((y + (pkRow l ds).length : Nat) : Int) = a + ((z : Int) + (y : Int)) + ((optL l ds).length : Int) + ((pkRow l ds).length : Int) by omega]
theorem szAlt_b : ∀ (l : List Typ) (p : Int × Int), Bd p → Bd (szAlt l p) ∧ (szAlt l p).1 ≤ p.1 ∧ p.2 ≤ (szAlt l p).2
  | [], p, h => by rw [szAlt]; exact ⟨h, Int.le_refl _, Int.le_refl _⟩
  | t :: l, p, h => by
    rw [szAlt]
    have hb := szT_b t
    obtain ⟨⟨h1, h2⟩, h3, h4⟩ := h
    obtain ⟨⟨b1, b2⟩, b3, b4⟩ := hb
    have := szAlt_b l (min p.1 (szT t).1, max p.2 (szT t).2) ⟨⟨by dsimp only; omega, by dsimp only; omega⟩, by dsimp only; omega, by dsimp only; omega⟩
    obtain ⟨k1, k2, k3⟩ := this
    dsimp only at k2 k3
    exact ⟨k1, by omega, by omega⟩
theorem szAlt_mem : ∀ {l : List Typ} {x : Typ} (p : Int × Int), Bd p → x ∈ l → (szAlt l p).1 ≤ (szT x).1 ∧ (szT x).2 ≤ (szAlt l p).2
  | [], x, p, _, h => by simp at h
  | t :: l, x, p, hp, h => by
    rw [szAlt]
    have hb := szT_b t
    obtain ⟨⟨h1, h2⟩, h3, h4⟩ := hp
    obtain ⟨⟨b1, b2⟩, b3, b4⟩ := hb
    have hq : Bd (min p.1 (szT t).1, max p.2 (szT t).2) := ⟨⟨by dsimp only; omega, by dsimp only; omega⟩, by dsimp only; omega, by dsimp only; omega⟩
    rcases List.mem_cons.1 h with rfl | h
    · obtain ⟨k1, k2, k3⟩ := szAlt_b l _ hq
      dsimp only at k2 k3
      exact ⟨by omega, by omega⟩
    · exact szAlt_mem _ hq h
theorem bytL_len (b : List Int) : (bytL b).length = 8 * b.length := by
  unfold bytL
  induction b with
  | nil => rfl
  | cons c b ih => rw [List.map_cons, List.flatten_cons, List.length_append, bitL_len, ih, List.length_cons]; omega
theorem sz_flat {s : Int × Int} {x : Typ} (hb : Bd s) : ∀ (ds : List Dat), (∀ u ∈ ds, Sz s (pkT x u).length) → s.1 * ds.length ≤ ((ds.map fun u => pkT x u).flatten.length : Int) ∧ (((ds.map fun u => pkT x u).flatten.length : Int) ≤ s.2 * ds.length ∨ (s.2 = 4503599627370496 ∧ 1 ≤ ds.length))
  | [], _ => by simp
  | u :: ds, h => by
    obtain ⟨ih1, ih2⟩ := sz_flat hb ds fun v hv => h v (List.mem_cons_of_mem _ hv)
    obtain ⟨_, h1, h2⟩ := h u (List.mem_cons_self ..)
    rw [List.map_cons, List.flatten_cons, List.length_append, List.length_cons, Int.natCast_add, Int.natCast_add, Int.mul_add, Int.mul_add]
    simp only [Int.natCast_one, Int.mul_one]
    exact ⟨by omega, by omega⟩
theorem sz_T : ∀ (n : Nat) (t : Typ) (d : Dat), t.wt ≤ n → okT t = true → fitT t d = true → Sz (szT t) (pkT t d).length := by
  intro n
  induction n with
  | zero => intro t d h; have := wt_eq t; omega
  | succ n ih =>
    intro t d hw hok hf
    have hwe := wt_eq t
    have hkid : ∀ x ∈ t.l, ∀ u, fitT x u = true → Sz (szT x) (pkT x u).length := fun x hx u hu => by
      obtain ⟨i, hi⟩ := List.mem_iff_getElem?.1 hx
      exact ih x u (by have := wtL_take hi; omega) (okT_kid hok x hx) hu
    clear ih
    rw [fitT_eq, Bool.and_eq_true] at hf
    obtain ⟨hf0, hf⟩ := hf
    have hwb := width_b (t.hi - t.lo)
    have hwb2 := width_b ((t.l.length : Int) - 1)
    rw [pkT_eq, szT_eq]
    rcases okT_cls hok with hk | hk | hk | hk | hk | hk | hk | hk
    · rw [if_pos (by omega), if_pos (by omega), bitL_len]
      exact ⟨⟨by decide, by decide⟩, by decide, by decide⟩
    · rw [if_neg (by omega), if_neg (by omega), if_neg (by omega), if_neg (by omega), if_neg (by omega), if_neg (by omega), if_neg (by omega), if_neg (by omega), if_neg (by omega), if_neg (by omega), if_neg (by omega)]
      have : width (t.hi - t.lo) = 0 := by rw [show t.hi - t.lo = 0 by omega]; decide
      rw [this]
      exact ⟨⟨by decide, by decide⟩, by decide, by decide⟩
    · rw [if_neg (by omega), if_neg (by omega), if_neg (by omega), if_neg (by omega), if_neg (by omega), if_neg (by omega), if_pos (by omega), bitL_len]
      exact ⟨⟨⟨hwb.1, by dsimp only; omega⟩, hwb.1, by dsimp only; omega⟩, by dsimp only; omega, by dsimp only; omega⟩
    · rw [if_neg (by omega), if_neg (by omega), if_pos (by omega)] at hf
      have hf := of_decide_eq_true hf
      rw [if_neg (by omega), if_pos (by omega), if_neg (by omega), if_neg (by omega), if_pos (by omega), List.length_append, bitL_len, bytL_len]
      exact sz_cap (by omega) (by omega) (by omega)
    · rw [if_neg (by omega), if_neg (by omega), if_neg (by omega), if_neg (by omega), if_neg (by omega), if_neg (by omega), if_pos (by omega), bitL_len]
      exact ⟨⟨⟨hwb.1, by dsimp only; omega⟩, hwb.1, by dsimp only; omega⟩, by dsimp only; omega, by dsimp only; omega⟩
    · rw [if_neg (by omega), if_neg (by omega), if_neg (by omega), if_pos (by omega)] at hf
      simp only [Bool.and_eq_true, decide_eq_true_eq] at hf
      rw [if_neg (by omega), if_neg (by omega), if_pos (by omega), if_neg (by omega), if_neg (by omega), if_neg (by omega), if_pos (by omega), List.length_append]
      have := sz_row t.l d.l (0, 0) 0 ⟨⟨by decide, by decide⟩, by decide, by decide⟩ hf.1.2 hf.2 fun x hx u hu hfu => hkid x hx u hfu
      rwa [Int.zero_add] at this
    · rw [if_neg (by omega), if_neg (by omega), if_neg (by omega), if_neg (by omega), if_pos (by omega)] at hf
      simp only [Bool.and_eq_true, decide_eq_true_eq] at hf
      obtain ⟨hf, hf2⟩ := hf
      obtain ⟨x, hx⟩ : ∃ x, t.l[d.n.toNat]? = some x := ⟨_, List.getElem?_eq_getElem (by omega)⟩
      obtain ⟨u, hu⟩ : ∃ u, d.l[0]? = some u := ⟨_, List.getElem?_eq_getElem (by omega)⟩
      rw [fitAt_eq hx hu] at hf2
      rw [if_neg (by omega), if_neg (by omega), if_neg (by omega), if_pos (by omega), if_neg (by omega), if_neg (by omega), if_neg (by omega), if_neg (by omega), if_pos (by omega), List.length_append, bitL_len, pkAt_eq hx hu]
      have hmem := List.mem_of_getElem? hx
      obtain ⟨⟨b1, b2⟩, h1, h2⟩ := hkid x hmem u hf2
      have hbd : Bd (4503599627370496, 0) := ⟨⟨by decide, by decide⟩, by decide, by decide⟩
      obtain ⟨⟨c1, c2⟩, _, _⟩ := szAlt_b t.l _ hbd
      obtain ⟨m1, m2⟩ := szAlt_mem (4503599627370496, 0) hbd hmem
      exact sz_cap (by omega) (by omega) (by omega)
    · rw [if_neg (by omega), if_neg (by omega), if_neg (by omega), if_neg (by omega), if_neg (by omega), if_pos (by omega)] at hf
      simp only [Bool.and_eq_true, decide_eq_true_eq] at hf
      obtain ⟨hf, hf2⟩ := hf
      obtain ⟨x, hx⟩ : ∃ x, t.l[0]? = some x := ⟨_, List.getElem?_eq_getElem (by omega)⟩
      have e0 : t.l = x :: t.l.drop 1 := by simpa using drop_eq hx
      have hfa : (d.l.all fun u => fitT x u) = true := by rw [e0, fitHd] at hf2; exact hf2
      have hpa : pkHd t.l d.l = (d.l.map fun u => pkT x u).flatten := by rw [e0, pkHd]
      have hsa : szHd t.l = szT x := by rw [e0, szHd]
      rw [if_neg (by omega), if_neg (by omega), if_neg (by omega), if_neg (by omega), if_pos (by omega), if_neg (by omega), if_neg (by omega), if_neg (by omega), if_neg (by omega), if_neg (by omega), if_pos (by omega), List.length_append, bitL_len, hpa, hsa]
      have hbx := szT_b x
      obtain ⟨f1, f2⟩ := sz_flat hbx d.l fun u hu => hkid x (List.mem_of_getElem? hx) u (List.all_eq_true.1 hfa u hu)
      obtain ⟨⟨b1, b2⟩, b3, b4⟩ := hbx
      have g1 : (szT x).1 * t.lo ≤ (szT x).1 * d.l.length := Int.mul_le_mul_of_nonneg_left (by omega) b1
      have g2 : (szT x).2 * d.l.length ≤ (szT x).2 * t.hi := Int.mul_le_mul_of_nonneg_left (by omega) b3
      have g0 : 0 ≤ (szT x).1 * t.lo := Int.mul_nonneg b1 (by omega)
      refine sz_cap (by omega) (by omega) ?_
      rcases f2 with f2 | ⟨f2, f3⟩
      · exact .inl (by omega)
      · refine .inr ?_
        rw [f2]
        omega
end Go.Proofs.Ytepmllodaoanmaa

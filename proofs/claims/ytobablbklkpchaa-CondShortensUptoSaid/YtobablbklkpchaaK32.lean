import Derived.Test.YtobablbklkpchaaK31
set_option linter.unusedVariables false
set_option linter.unusedSimpArgs false
namespace Go.Proofs.Ytobablbklkpchaa
open Go Go.AX
set_option linter.unusedSectionVars false
set_option maxHeartbeats 1000000
/-! ### One round -/
theorem ctl_ne {i : Ins} (h : i.op = 31 ∨ isJp i) : i.op ≠ 32 := by
  simp only [isJp] at h
  omega
theorem NI.set {l : List Nd} (h : NI l) {k : Nat} {n m : Nd} (hn : l[k]? = some n) (hi : m.i = n.i)
    (h1 : n.i.op ≠ 32 → ((k : Int) < m.yes ∧ m.yes < l.length) ∧ (k : Int) < m.no ∧ m.no < l.length)
    (h2 : (n.i.op = 31 ∨ isJp n.i → m.yes - k - 1 ≤ 255) ∧ (isJp n.i → m.no - k - 1 ≤ 255))
    (h3 : n.i.op ≠ 32 → n.i.op ≠ 31 → ¬ isJp n.i → m.yes = (k : Int) + 1) : NI (l.set k m) := by
  have hlt := (List.getElem?_eq_some_iff.1 hn).1
  have hset : ∀ (q : Nat) x, (l.set k m)[q]? = some x → (q = k ∧ x = m) ∨ l[q]? = some x := fun q x hx => by
    rw [List.getElem?_set] at hx
    split at hx
    · rename_i e; subst e; (try rw [if_pos hlt] at hx); cases hx; exact .inl ⟨rfl, rfl⟩
    · exact .inr hx
  refine ⟨by rw [List.length_set]; exact h.len, fun q x hx => ?_, fun q x hx => ?_, fun q x hx => ?_, fun q x hx => ?_⟩
  · rcases hset q x hx with ⟨rfl, rfl⟩ | hx
    · rw [hi]; exact h.op q n hn
    · exact h.op q x hx
  · rw [List.length_set]
    rcases hset q x hx with ⟨rfl, rfl⟩ | hx
    · rw [hi]; exact h1
    · exact h.fw q x hx
  · rcases hset q x hx with ⟨rfl, rfl⟩ | hx
    · rw [hi]; exact h2
    · exact h.near q x hx
  · rcases hset q x hx with ⟨rfl, rfl⟩ | hx
    · rw [hi]; exact h3
    · exact h.pl q x hx
theorem ndsL_get {L : List Ins} {q : Nat} {n : Nd} (h : (ndsL L)[q]? = some n) : ∃ i, L[q]? = some i ∧ n = ndOf q i := by
  unfold ndsL at h
  rw [List.getElem?_mapIdx] at h
  cases e : L[q]? with
  | none => rw [e] at h; cases h
  | some i => rw [e] at h; exact ⟨i, rfl, by simpa using h.symm⟩
theorem ndsL_at {L : List Ins} {q : Nat} {i : Ins} (h : L[q]? = some i) : (ndsL L)[q]? = some (ndOf q i) := by
  unfold ndsL
  rw [List.getElem?_mapIdx, h]
  rfl
theorem safe_fw {L : List Ins} (hL : Code_ L) {q : Nat} {i : Ins} (hi : L[q]? = some i) (ho : i.op ≠ 32) : (q : Int) + 1 < L.length := by
  have hlt := (List.getElem?_eq_some_iff.1 hi).1
  rcases Nat.lt_or_ge (q + 1) L.length with h | h
  · omega
  · exact absurd (hL.last i (by rw [show L.length - 1 = q by omega]; exact hi)) ho
theorem ndsL_NI {L : List Ins} (hL : Code_ L) : NI (ndsL L) := by
  have hlen := ndsL_len L
  refine ⟨by rw [hlen]; exact hL.len, fun q n hn => ?_, fun q n hn ho => ?_, fun q n hn => ?_, fun q n hn o2 o1 oj => ?_⟩
  all_goals
    obtain ⟨i, hi, rfl⟩ := ndsL_get hn
    have hs := hL.safe q i hi
    simp only [Safe] at hs
  · simp only [ndOf, isJp]
    omega
  · have hf := safe_fw hL hi ho
    rw [hlen]
    simp only [ndOf, isJp] at ho ⊢
    by_cases o1 : i.op = 31
    · rw [if_pos o1, if_neg (by omega)]; omega
    · by_cases oj : 25 ≤ i.op ∧ i.op ≤ 30
      · rw [if_neg o1, if_pos oj, if_pos oj]; omega
      · rw [if_neg o1, if_neg oj, if_neg oj]; omega
  · simp only [ndOf, isJp]
    by_cases o1 : i.op = 31
    · rw [if_pos o1, if_neg (by omega)]; omega
    · by_cases oj : 25 ≤ i.op ∧ i.op ≤ 30
      · rw [if_neg o1, if_pos oj, if_pos oj]; omega
      · rw [if_neg o1, if_neg oj, if_neg oj]; omega
  · simp only [ndOf, isJp] at o2 o1 oj ⊢
    rw [if_neg o1, if_neg oj]
theorem shY_ge {l : List Nd} (h : NI l) {k : Nat} {n : Nd} (hn : l[k]? = some n) (ho : n.i.op ≠ 32) : n.yes ≤ (shY l k n).yes ∧ (shY l k n).yes < l.length ∧ (n.yes - k - 1 ≤ 255 → (shY l k n).yes - k - 1 ≤ 255) := by
  have hf := h.fw k n hn ho
  have ht := thr_range h.nok n.i true l.length n.yes (by omega)
  unfold shY
  split
  · dsimp only; omega
  · omega
theorem shY_NI {l : List Nd} (h : NI l) {k : Nat} {n : Nd} (hn : l[k]? = some n) (hc : n.i.op = 31 ∨ isJp n.i) : NI (l.set k (shY l k n)) := by
  have ho : n.i.op ≠ 32 := ctl_ne hc
  have hf := h.fw k n hn ho
  have hg := shY_ge h hn ho
  have hnr := h.near k n hn
  have e := shY_i l k n
  refine h.set hn e.1 (fun _ => ⟨by omega, by rw [e.2.1]; exact hf.2⟩) ⟨fun h => hg.2.2 (hnr.1 h), by rw [e.2.1]; exact hnr.2⟩ fun _ o1 oj => ?_
  rcases hc with hc | hc
  · exact absurd hc o1
  · exact absurd hc oj
theorem shN_ge {l : List Nd} (h : NI l) {k : Nat} {n : Nd} (hn : l[k]? = some n) : (shN l k n).i = n.i ∧ (n.i.op ≠ 32 → n.yes ≤ (shN l k n).yes ∧ n.no ≤ (shN l k n).no) ∧ (¬ isJp n.i → (shN l k n).no = n.no) ∧ (n.i.op ≠ 31 → ¬ isJp n.i → shN l k n = n) := by
  refine ⟨(shN_i l k n).1, fun ho => ?_, fun oj => ?_, fun o1 oj => ?_⟩
  · have hg := shY_ge h hn ho
    have e := shY_i l k n
    unfold shN
    split
    · rename_i hc
      split
      · rename_i hc2
        have hN2 := shY_NI h hn hc
        have hf := h.fw k n hn ho
        have ht := thr_range hN2.nok n.i false l.length n.no (by rw [List.length_set]; omega)
        dsimp only
        omega
      · rw [e.2.1]; omega
    · exact ⟨Int.le_refl _, Int.le_refl _⟩
  · unfold shN
    split
    · rw [if_neg (fun h => oj h.1)]
      exact (shY_i l k n).2.1
    · rfl
  · unfold shN
    rw [if_neg (by omega)]
theorem shN_NI {l : List Nd} (h : NI l) {k : Nat} {n : Nd} (hn : l[k]? = some n) : NI (l.set k (shN l k n)) := by
  by_cases hc : n.i.op = 31 ∨ isJp n.i
  · have ho : n.i.op ≠ 32 := ctl_ne hc
    have hN2 := shY_NI h hn hc
    have hlt := (List.getElem?_eq_some_iff.1 hn).1
    have hk : (l.set k (shY l k n))[k]? = some (shY l k n) := by rw [List.getElem?_set_self hlt]
    have e := shY_i l k n
    unfold shN
    rw [if_pos hc]
    split
    · rename_i hc2
      have hf := h.fw k n hn ho
      have ht := thr_range hN2.nok n.i false l.length n.no (by rw [List.length_set]; omega)
      rw [List.length_set] at ht
      have := hN2.set hk (m := { shY l k n with no := thr (l.set k (shY l k n)) n.i false l.length n.no }) rfl
        (fun ho2 => by
          have := hN2.fw k _ hk ho2
          rw [List.length_set] at this ⊢
          exact ⟨this.1, by dsimp only; omega, by dsimp only; omega⟩) ⟨(hN2.near k _ hk).1, fun _ => hc2.2⟩ (hN2.pl k _ hk)
      rwa [List.set_set] at this
    · exact hN2
  · unfold shN
    rw [if_neg hc, set_same hn]
    exact h
theorem shTo_NI {l : List Nd} (h : NI l) : ∀ k, NI (shTo l k)
  | 0 => h
  | k + 1 => by
    have ih := shTo_NI h k
    rw [shTo]
    split
    · rename_i n hn; exact shN_NI ih hn
    · exact ih
theorem bare_NI {l l' : List Nd} (e : l.map bare = l'.map bare) (h : NI l) : NI l' := by
  have hlen : l.length = l'.length := by have := congrArg List.length e; simpa using this
  have hb : ∀ (a : Nat) (n' : Nd), l'[a]? = some n' → ∃ n, l[a]? = some n ∧ n.i = n'.i ∧ n.yes = n'.yes ∧ n.no = n'.no := fun a n' hn => by
    have h1 : (l'.map bare)[a]? = some (bare n') := by simp [hn]
    rw [← e, List.getElem?_map] at h1
    cases h2 : l[a]? with
    | none => rw [h2] at h1; cases h1
    | some n =>
      rw [h2] at h1
      have : bare n = bare n' := by simpa using h1
      exact ⟨n, rfl, show (bare n).i = (bare n').i by rw [this], show (bare n).yes = (bare n').yes by rw [this], show (bare n).no = (bare n').no by rw [this]⟩
  refine ⟨by rw [← hlen]; exact h.len, fun q n hn => ?_, fun q n hn => ?_, fun q n hn => ?_, fun q n hn => ?_⟩
  all_goals
    obtain ⟨n0, h0, e1, e2, e3⟩ := hb q n hn
    try rw [← hlen]
    try rw [← e1]
    try rw [← e2]
    try rw [← e3]
  · exact h.op q n0 h0
  · exact h.fw q n0 h0
  · exact h.near q n0 h0
  · exact h.pl q n0 h0
theorem mkTo_NI {l : List Nd} (h : NI l) (k : Nat) : NI (mkTo l k) := bare_NI (mkTo_bare l k).symm h
/-! ### Marks -/
theorem setR_rb {l : List Nd} {q a : Nat} {n : Nd} (hn : l[a]? = some n) : ∃ n', (setR l q)[a]? = some n' ∧ n'.i = n.i ∧ n'.yes = n.yes ∧ n'.no = n.no ∧ n'.rb = (n.rb || decide (q = a)) := by
  rw [setR_get, hn]
  split
  · rename_i e; exact ⟨_, rfl, rfl, rfl, rfl, by simp [e]⟩
  · rename_i e; exact ⟨n, rfl, rfl, rfl, rfl, by simp [e]⟩
theorem setR_self {l : List Nd} {q : Nat} {n : Nd} (h : (setR l q)[q]? = some n) : n.rb = true := by
  rw [setR_get, if_pos rfl] at h
  cases e : l[q]? with
  | none => rw [e] at h; cases h
  | some m => rw [e] at h; cases h; rfl
/-- A step of marking: all that was marked is, and just the ways of its node besides. -/
theorem mkS_rb {l : List Nd} {n : Nd} {a : Nat} {x : Nd} (hx : l[a]? = some x) : ∃ x', (mkS l n)[a]? = some x' ∧ x'.i = x.i ∧ x'.yes = x.yes ∧ x'.no = x.no ∧
    x'.rb = (x.rb || (n.rb && decide (n.i.op ≠ 32) && (decide (n.yes.toNat = a) || (decide (isJp n.i) && decide (n.no.toNat = a))))) := by
  unfold mkS
  split
  · rename_i h
    refine ⟨x, hx, rfl, rfl, rfl, ?_⟩
    rcases h with h | h <;> simp [h]
  · rename_i h
    obtain ⟨h1, h2⟩ := not_or.1 h
    have hr : n.rb = true := by simpa using h1
    split
    · rename_i hj
      obtain ⟨y, h3, h4, h5, h6, h7⟩ := setR_rb (q := n.yes.toNat) hx
      obtain ⟨z, g3, g4, g5, g6, g7⟩ := setR_rb (q := n.no.toNat) h3
      refine ⟨z, g3, by rw [g4, h4], by rw [g5, h5], by rw [g6, h6], ?_⟩
      rw [g7, h7, hr]
      simp only [isJp] at hj
      simp [h2, isJp, hj, Bool.or_assoc]
    · rename_i hj
      obtain ⟨y, h3, h4, h5, h6, h7⟩ := setR_rb (q := n.yes.toNat) hx
      refine ⟨y, h3, h4, h5, h6, ?_⟩
      rw [h7, hr]
      have : decide (isJp n.i) = false := by simpa using hj
      rw [this]
      simp [h2]
theorem mkTo_step {l : List Nd} {k a : Nat} {n x : Nd} (hk : (mkTo l k)[k]? = some n) (hx : (mkTo l k)[a]? = some x) : ∃ x', (mkTo l (k + 1))[a]? = some x' ∧ x'.i = x.i ∧ x'.yes = x.yes ∧ x'.no = x.no ∧
    x'.rb = (x.rb || (n.rb && decide (n.i.op ≠ 32) && (decide (n.yes.toNat = a) || (decide (isJp n.i) && decide (n.no.toNat = a))))) := by
  rw [mkTo, hk]
  exact mkS_rb hx
/-- The node at a place, its mark then. -/
theorem mkTo_node {l : List Nd} {a : Nat} {n : Nd} (hn : l[a]? = some n) : ∀ k, ∃ b, (mkTo l k)[a]? = some { n with rb := b }
  | 0 => by
    obtain ⟨n', h1, h2, h3, h4, h5⟩ := setR_rb (q := 0) hn
    exact ⟨n'.rb, by rw [mkTo, h1, ← h2, ← h3, ← h4]⟩
  | k + 1 => by
    obtain ⟨b, hb⟩ := mkTo_node hn k
    cases e : (mkTo l k)[k]? with
    | none => exact ⟨b, by rw [mkTo, e]; exact hb⟩
    | some n0 =>
      obtain ⟨x', h1, h2, h3, h4, h5⟩ := mkTo_step e hb
      exact ⟨x'.rb, by rw [h1]; dsimp only at h2 h3 h4; rw [← h2, ← h3, ← h4]⟩
def rbAt (l : List Nd) (k a : Nat) : Bool := match (mkTo l k)[a]? with
  | some n => n.rb
  | none => false
theorem rbAt_of {l : List Nd} {k a : Nat} {n : Nd} (h : (mkTo l k)[a]? = some n) : rbAt l k a = n.rb := by rw [rbAt, h]
theorem rbAt_zero {l : List Nd} (a : Nat) (ha : a < l.length) : rbAt l 0 a = (rbAt l 0 a && false || (match l[a]? with | some n => n.rb || decide (0 = a) | none => false)) := by
  obtain ⟨n, hn⟩ : ∃ n, l[a]? = some n := ⟨_, List.getElem?_eq_getElem ha⟩
  obtain ⟨n', h1, h2, h3, h4, h5⟩ := setR_rb (q := 0) hn
  rw [rbAt_of (show (mkTo l 0)[a]? = some n' from h1), hn, h5]
  simp
theorem rbAt_succ {l : List Nd} {k a : Nat} {n : Nd} (hn : l[k]? = some n) (ha : a < l.length) : rbAt l (k + 1) a = (rbAt l k a || (rbAt l k k && decide (n.i.op ≠ 32) && (decide (n.yes.toNat = a) || (decide (isJp n.i) && decide (n.no.toNat = a))))) := by
  obtain ⟨b, hb⟩ := mkTo_node hn k
  obtain ⟨x, hx⟩ : ∃ n, l[a]? = some n := ⟨_, List.getElem?_eq_getElem ha⟩
  obtain ⟨c, hc⟩ := mkTo_node hx k
  obtain ⟨x', h1, h2, h3, h4, h5⟩ := mkTo_step hb hc
  rw [rbAt_of h1, rbAt_of hb, rbAt_of hc, h5]
theorem rbAt_past {l : List Nd} (hI : NI l) {a : Nat} (ha : a < l.length) : ∀ d, a + d ≤ l.length → rbAt l (a + d) a = rbAt l a a
  | 0, _ => rfl
  | d + 1, h => by
    obtain ⟨n, hn⟩ : ∃ n, l[a + d]? = some n := ⟨_, List.getElem?_eq_getElem (by omega)⟩
    rw [show a + (d + 1) = (a + d) + 1 by omega, rbAt_succ hn ha, rbAt_past hI ha d (by omega)]
    by_cases ho : n.i.op = 32
    · simp [ho]
    · have hf := hI.fw _ n hn ho
      have e1 : decide (n.yes.toNat = a) = false := by simp; omega
      have e2 : decide (n.no.toNat = a) = false := by simp; omega
      rw [e1, e2]
      simp
theorem rbAt_mono {l : List Nd} {a : Nat} (ha : a < l.length) {k : Nat} (h : rbAt l k a = true) : ∀ d, k + d ≤ l.length → rbAt l (k + d) a = true
  | 0, _ => h
  | d + 1, hd => by
    obtain ⟨n, hn⟩ : ∃ n, l[k + d]? = some n := ⟨_, List.getElem?_eq_getElem (by omega)⟩
    rw [show k + (d + 1) = (k + d) + 1 by omega, rbAt_succ hn ha, rbAt_mono ha h d (by omega)]
    rfl
theorem mkTo_MK {l : List Nd} (hI : NI l) : MK (mkTo l l.length) := by
  have hlen := mkTo_len l l.length
  have node : ∀ (q : Nat) n, (mkTo l l.length)[q]? = some n → ∃ n0, l[q]? = some n0 ∧ n0.i = n.i ∧ n0.yes = n.yes ∧ n0.no = n.no := fun q n hn => by
    have hq := (List.getElem?_eq_some_iff.1 hn).1
    obtain ⟨n0, hn0⟩ : ∃ n, l[q]? = some n := ⟨_, List.getElem?_eq_getElem (by omega)⟩
    obtain ⟨b, hb⟩ := mkTo_node hn0 l.length
    rw [hn] at hb
    cases hb
    exact ⟨n0, hn0, rfl, rfl, rfl⟩
  have key : ∀ (q : Nat) n (q' : Nat) n', (mkTo l l.length)[q]? = some n → n.rb = true → n.i.op ≠ 32 → (mkTo l l.length)[q']? = some n' → (n.yes.toNat = q' ∨ (isJp n.i ∧ n.no.toNat = q')) → n'.rb = true := fun q n q' n' hn hr ho hn' ht => by
    have hq := (List.getElem?_eq_some_iff.1 hn).1
    have hq' := (List.getElem?_eq_some_iff.1 hn').1
    obtain ⟨n0, hn0, e1, e2, e3⟩ := node q n hn
    have h1 : rbAt l q q = true := by
      rw [← rbAt_past hI (a := q) (by omega) (l.length - q) (by omega), show q + (l.length - q) = l.length by omega, rbAt_of hn, hr]
    have h2 : rbAt l (q + 1) q' = true := by
      rw [rbAt_succ hn0 (by omega), h1, e1, e2, e3]
      rcases ht with ht | ⟨ht1, ht⟩
      · simp [ht, ho]
      · simp only [isJp] at ht1; simp [ht, ho, isJp, ht1]
    have h3 := rbAt_mono (by omega) h2 (l.length - (q + 1)) (by omega)
    rw [show q + 1 + (l.length - (q + 1)) = l.length by omega, rbAt_of hn'] at h3
    exact h3
  refine ⟨fun n hn => ?_, fun q n n' h1 h2 h3 h4 => key q n _ n' h1 h2 h3 h4 (.inl rfl), fun q n n' h1 h2 h3 h4 => key q n _ n' h1 h2 (by simp only [isJp] at h3; omega) h4 (.inr ⟨h3, rfl⟩)⟩
  have h0 := hI.len.1
  have h1 : rbAt l 0 0 = true := by
    obtain ⟨n0, hn0⟩ : ∃ n, l[0]? = some n := ⟨_, List.getElem?_eq_getElem h0⟩
    obtain ⟨n', h1, h2, h3, h4, h5⟩ := setR_rb (q := 0) hn0
    rw [rbAt_of (show (mkTo l 0)[0]? = some n' from h1), h5]
    simp
  have := rbAt_mono h0 h1 l.length (by omega)
  rw [Nat.zero_add, rbAt_of hn] at this
  exact this
/-- Where a mark comes from. -/
theorem rbAt_from {l : List Nd} (h0 : ∀ n ∈ l, n.rb = false) {a : Nat} (ha : a < l.length) : ∀ k, k ≤ l.length → rbAt l k a = true → a = 0 ∨ ∃ (p : Nat) (n : Nd), p < k ∧ l[p]? = some n ∧ n.i.op ≠ 32 ∧ (n.yes.toNat = a ∨ (isJp n.i ∧ n.no.toNat = a))
  | 0, _, h => by
    obtain ⟨n, hn⟩ : ∃ n, l[a]? = some n := ⟨_, List.getElem?_eq_getElem ha⟩
    obtain ⟨n', h1, h2, h3, h4, h5⟩ := setR_rb (q := 0) hn
    rw [rbAt_of (show (mkTo l 0)[a]? = some n' from h1), h5, h0 n (List.mem_of_getElem? hn)] at h
    simp at h
    exact .inl h.symm
  | k + 1, hk, h => by
    obtain ⟨n, hn⟩ : ∃ n, l[k]? = some n := ⟨_, List.getElem?_eq_getElem (by omega)⟩
    rw [rbAt_succ hn ha] at h
    rcases Bool.or_eq_true_iff.1 h with h | h
    · rcases rbAt_from h0 ha k (by omega) h with h | ⟨p, n, h1, h2⟩
      · exact .inl h
      · exact .inr ⟨p, n, by omega, h2⟩
    · refine .inr ⟨k, n, by omega, hn, ?_⟩
      simp only [Bool.and_eq_true, Bool.or_eq_true, decide_eq_true_eq] at h
      exact ⟨h.1.2, h.2⟩
/-! ### A round -/
def rnd (L : List Ins) : List Ins := layL (mkTo (shTo (ndsL L) L.length) L.length)
theorem rnd_parts {L : List Ins} (hL : Code_ L) : NI (shTo (ndsL L) L.length) ∧ NI (mkTo (shTo (ndsL L) L.length) L.length) ∧ MK (mkTo (shTo (ndsL L) L.length) L.length) ∧ (shTo (ndsL L) L.length).length = L.length ∧ (mkTo (shTo (ndsL L) L.length) L.length).length = L.length := by
  have h1 := shTo_NI (ndsL_NI hL) L.length
  have e1 : (shTo (ndsL L) L.length).length = L.length := by rw [shTo_len, ndsL_len]
  have h2 := mkTo_MK h1
  rw [e1] at h2
  exact ⟨h1, mkTo_NI h1 _, h2, e1, by rw [mkTo_len, e1]⟩
theorem rnd_code {L : List Ins} (hL : Code_ L) : Code_ (rnd L) := lay_code (rnd_parts hL).2.1 (rnd_parts hL).2.2.1
theorem rnd_len (L : List Ins) : (rnd L).length ≤ L.length := by
  have := layTo_len (mkTo (shTo (ndsL L) L.length) L.length) (chF (mkTo (shTo (ndsL L) L.length) L.length) (mkTo (shTo (ndsL L) L.length) L.length).length).1 (plF (chF (mkTo (shTo (ndsL L) L.length) L.length) (mkTo (shTo (ndsL L) L.length) L.length).length).1 (mkTo (shTo (ndsL L) L.length) L.length).length).1 (mkTo (shTo (ndsL L) L.length) L.length).length
  rw [mkTo_len, shTo_len, ndsL_len] at this
  unfold rnd layL
  rw [mkTo_len, shTo_len, ndsL_len]
  exact this
theorem rnd_run {L : List Ins} (hL : Code_ L) {real : Int} {data : List Int} {m : M} {t : Bool} {c : Nat} (h : Rn real data (ndsL L) 0 m t c) : Rle real data (ndsL (rnd L)) 0 m t c := by
  obtain ⟨h1, h2, h3, h4, h5⟩ := rnd_parts hL
  refine (shTo_run h L.length).bind fun c h => ?_
  have h6 := bare_run (mkTo_bare (shTo (ndsL L) L.length) L.length).symm h
  exact lay_run h2 h3 _ 0 m t h6 h3.zero
end Go.Proofs.Ytobablbklkpchaa

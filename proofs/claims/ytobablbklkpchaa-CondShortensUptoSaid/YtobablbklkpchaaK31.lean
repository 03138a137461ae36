import Derived.Test.YtobablbklkpchaaK30
set_option linter.unusedVariables false
set_option linter.unusedSimpArgs false
namespace Go.Proofs.Ytobablbklkpchaa
open Go Go.AX
set_option linter.unusedSectionVars false
set_option maxHeartbeats 1000000
/-! ### What is kept -/
theorem plain_ne {n : Nd} (h : plainN n) : n.i.op ≠ 32 := by
  simp only [plainN, isJp] at h
  omega
theorem chF_stay {l : List Nd} : ∀ (d e : Nat), d + e ≤ l.length → ∀ q : Int, (l.length : Int) - d ≤ q → (chF l (d + e)).1 q = (chF l d).1 q ∧ (chF l (d + e)).2 q = (chF l d).2 q
  | d, 0, _, q, _ => ⟨rfl, rfl⟩
  | d, e + 1, h, q, hq => by
    have ih := chF_stay d e (by omega) q hq
    rw [show d + (e + 1) = (d + e) + 1 by omega, chF]
    split
    · rename_i n hn
      dsimp only
      rw [upd_ne _ _ (by omega), upd_ne _ _ (by omega)]
      exact ih
    · exact ih
/-- Which nodes are kept. -/
def kpt (l : List Nd) : Int → Bool := (chF l l.length).1
/-- How many are kept from a place on. -/
def bhd (l : List Nd) : Int → Int := (chF l l.length).2
theorem kept_at {l : List Nd} {a : Nat} {n : Nd} (hn : l[a]? = some n) (hy : n.i.op ≠ 32 → (a : Int) < n.yes) :
    bhd l a = bhd l ((a : Int) + 1) + (if kpt l a then 1 else 0) ∧ (n.i.op ≠ 32 → kpt l a = keptN n (bhd l ((a : Int) + 1)) (bhd l n.yes)) ∧ (n.i.op = 32 → kpt l a = n.rb) := by
  have hlt := (List.getElem?_eq_some_iff.1 hn).1
  have hS := chF_step hn
  have st : ∀ q : Int, (a : Int) ≤ q → kpt l q = (chF l (l.length - a)).1 q ∧ bhd l q = (chF l (l.length - a)).2 q := fun q hq => by
    have := chF_stay (l := l) (l.length - a) a (by omega) q (by omega)
    rw [show l.length - a + a = l.length by omega] at this
    exact this
  have st1 : ∀ q : Int, (a : Int) < q → bhd l q = (chF l (l.length - (a + 1))).2 q := fun q hq => by
    have := chF_stay (l := l) (l.length - (a + 1)) (a + 1) (by omega) q (by omega)
    rw [show l.length - (a + 1) + (a + 1) = l.length by omega] at this
    exact this.2
  have hk := st a (Int.le_refl _)
  rw [hS] at hk
  dsimp only at hk
  rw [upd_self, upd_self] at hk
  have e1 := st1 ((a : Int) + 1) (by omega)
  refine ⟨?_, fun ho => ?_, fun ho => ?_⟩
  · rw [hk.2, e1, hk.1]
  · rw [hk.1, e1, st1 _ (hy ho)]
  · rw [hk.1, keptN]
    rw [decide_eq_false (p := plainN n) (by simp only [plainN, isJp]; omega)]
    simp
theorem bhd_end (l : List Nd) : bhd l l.length = 0 := by
  have := (chF_stay (l := l) 0 l.length (by omega) l.length (by omega)).2
  rw [Nat.zero_add] at this
  exact this
/-- How many are kept before a place. -/
def cnt (K : Int → Bool) (q : Nat) : Int := (plF K q).2
theorem cnt_succ (K : Int → Bool) (q : Nat) : cnt K (q + 1) = cnt K q + if K q then 1 else 0 := rfl
theorem cnt_le (K : Int → Bool) (q : Nat) : 0 ≤ cnt K q ∧ cnt K q ≤ q := plF_le K q
theorem plF_cnt (K : Int → Bool) {q : Nat} : ∀ {k : Nat}, q < k → (plF K k).1 q = cnt K q
  | 0, h => absurd h (by omega)
  | k + 1, h => by
    rw [plF]
    dsimp only
    by_cases e : q = k
    · subst e; rw [upd_self]; rfl
    · rw [upd_ne _ _ (by omega)]; exact plF_cnt K (by omega)
theorem cnt_mono (K : Int → Bool) {p q : Nat} (h : p ≤ q) : cnt K p ≤ cnt K q ∧ cnt K q - cnt K p ≤ q - p := by
  obtain ⟨d, rfl⟩ := Nat.exists_eq_add_of_le h
  clear h
  induction d with
  | zero => simp
  | succ d ih =>
    rw [show p + (d + 1) = (p + d) + 1 by omega, cnt_succ]
    split <;> omega
theorem cnt_bhd {l : List Nd} (hf : ∀ (a : Nat) n, l[a]? = some n → n.i.op ≠ 32 → (a : Int) < n.yes) : ∀ d : Nat, d ≤ l.length → cnt (kpt l) (l.length - d) + bhd l ((l.length - d : Nat) : Int) = cnt (kpt l) l.length
  | 0, _ => by rw [Nat.sub_zero, bhd_end, Int.add_zero]
  | d + 1, h => by
    have ih := cnt_bhd hf d (by omega)
    obtain ⟨n, hn⟩ : ∃ n, l[l.length - (d + 1)]? = some n := ⟨_, List.getElem?_eq_getElem (by omega)⟩
    have hk := (kept_at hn (hf _ _ hn)).1
    have e : l.length - d = (l.length - (d + 1)) + 1 := by omega
    rw [e, cnt_succ] at ih
    rw [hk]
    have e2 : ((l.length - (d + 1) : Nat) : Int) + 1 = ((l.length - (d + 1) + 1 : Nat) : Int) := by omega
    rw [e2]
    omega
theorem layTo_len' {l : List Nd} (K : Int → Bool) (P : Int → Int) : ∀ k, k ≤ l.length → ((layTo l K P k).length : Int) = cnt K k
  | 0, _ => rfl
  | k + 1, h => by
    have ih := layTo_len' (l := l) K P k (by omega)
    obtain ⟨n, hn⟩ : ∃ n, l[k]? = some n := ⟨_, List.getElem?_eq_getElem (by omega)⟩
    rw [layTo, hn, cnt_succ]
    dsimp only
    split
    · rw [List.length_append, List.length_singleton]; omega
    · omega
theorem layTo_get {l : List Nd} (K : Int → Bool) (P : Int → Int) {a : Nat} {n : Nd} (hn : l[a]? = some n) (hK : K a = true) : ∀ k, k ≤ l.length → a < k → (layTo l K P k)[(cnt K a).toNat]? = some (layI P a n)
  | 0, _, h => absurd h (by omega)
  | k + 1, hk, h => by
    obtain ⟨n', hn'⟩ : ∃ n', l[k]? = some n' := ⟨_, List.getElem?_eq_getElem (by omega)⟩
    have hlen := layTo_len' (l := l) K P k (by omega)
    rw [layTo, hn']
    dsimp only
    by_cases e : a = k
    · subst e
      rw [hn] at hn'
      cases hn'
      rw [if_pos hK, List.getElem?_append_right (by omega)]
      rw [show (cnt K a).toNat - (layTo l K P a).length = 0 by omega]
      rfl
    · have ih := layTo_get K P hn hK k (by omega) (by omega)
      split
      · rw [List.getElem?_append_left (by
          have := (List.getElem?_eq_some_iff.1 ih).1
          exact this)]
        exact ih
      · exact ih
/-- Each instruction of what is laid is that of a node that is kept. -/
theorem layTo_from {l : List Nd} (K : Int → Bool) (P : Int → Int) : ∀ k, k ≤ l.length → ∀ (q : Nat) i, (layTo l K P k)[q]? = some i → ∃ (a : Nat) (n : Nd), a < k ∧ l[a]? = some n ∧ K a = true ∧ i = layI P a n ∧ (q : Int) = cnt K a
  | 0, _, q, i, h => by simp [layTo] at h
  | k + 1, hk, q, i, h => by
    obtain ⟨n', hn'⟩ : ∃ n', l[k]? = some n' := ⟨_, List.getElem?_eq_getElem (by omega)⟩
    have hlen := layTo_len' (l := l) K P k (by omega)
    rw [layTo, hn'] at h
    dsimp only at h
    split at h
    · rename_i hK
      rw [List.getElem?_append] at h
      split at h
      · obtain ⟨a, n, h1, h2⟩ := layTo_from K P k (by omega) q i h
        exact ⟨a, n, by omega, h2⟩
      · have e : q - (layTo l K P k).length = 0 := by
          rcases Nat.eq_zero_or_pos (q - (layTo l K P k).length) with e | e
          · exact e
          · rw [List.getElem?_eq_none (by rw [List.length_singleton]; omega)] at h; cases h
        rw [e] at h
        simp at h
        exact ⟨k, n', by omega, hn', hK, h.symm, by omega⟩
    · obtain ⟨a, n, h1, h2⟩ := layTo_from K P k (by omega) q i h
      exact ⟨a, n, by omega, h2⟩
/-- Nodes as code has them, their ways led on. -/
structure NI (l : List Nd) : Prop where
  len : 0 < l.length ∧ l.length ≤ 400
  op : ∀ (q : Nat) n, l[q]? = some n → (0 ≤ n.i.op ∧ n.i.op ≤ 33) ∧ 0 ≤ n.i.k ∧ n.i.k ≤ 4294967295 ∧ (¬ isJp n.i → n.i.t = 0 ∧ n.i.f = 0 ∧ (n.i.op = 17 ∨ n.i.op = 18 → n.i.k < 16))
  fw : ∀ (q : Nat) n, l[q]? = some n → n.i.op ≠ 32 → ((q : Int) < n.yes ∧ n.yes < l.length) ∧ (q : Int) < n.no ∧ n.no < l.length
  near : ∀ (q : Nat) n, l[q]? = some n → (n.i.op = 31 ∨ isJp n.i → n.yes - q - 1 ≤ 255) ∧ (isJp n.i → n.no - q - 1 ≤ 255)
  pl : ∀ (q : Nat) n, l[q]? = some n → n.i.op ≠ 32 → n.i.op ≠ 31 → ¬ isJp n.i → n.yes = (q : Int) + 1
theorem NI.nok {l : List Nd} (h : NI l) : NOK l := ⟨fun q n hn => (h.op q n hn).1, h.fw⟩
/-- What is marked. -/
structure MK (l : List Nd) : Prop where
  zero : ∀ n, l[0]? = some n → n.rb = true
  yes : ∀ (q : Nat) n n', l[q]? = some n → n.rb = true → n.i.op ≠ 32 → l[n.yes.toNat]? = some n' → n'.rb = true
  no : ∀ (q : Nat) n n', l[q]? = some n → n.rb = true → isJp n.i → l[n.no.toNat]? = some n' → n'.rb = true
section
variable {l : List Nd} (hI : NI l) (hM : MK l)
include hI hM
theorem kept_or {a : Nat} {n : Nd} (hn : l[a]? = some n) (hr : n.rb = true) : kpt l a = true ∨ (kpt l a = false ∧ plainN n ∧ cnt (kpt l) n.yes.toNat = cnt (kpt l) (a + 1)) := by
  have hk := kept_at hn fun ho => (hI.fw a n hn ho).1.1
  by_cases ho : n.i.op = 32
  · exact .inl (by rw [hk.2.2 ho, hr])
  · have h1 := hI.fw a n hn ho
    have h2 := hk.2.1 ho
    have hlt := (List.getElem?_eq_some_iff.1 hn).1
    cases e : kpt l a
    · refine .inr ⟨rfl, ?_⟩
      rw [e, keptN, hr, Bool.true_and] at h2
      have h2 := h2.symm
      rw [Bool.not_eq_false', Bool.and_eq_true, decide_eq_true_eq, decide_eq_true_eq] at h2
      obtain ⟨h3, h4⟩ := h2
      refine ⟨h3, ?_⟩
      have c1 := cnt_bhd (fun a n hn ho => (hI.fw a n hn ho).1.1) (l.length - (a + 1)) (by omega)
      have c2 := cnt_bhd (fun a n hn ho => (hI.fw a n hn ho).1.1) (l.length - n.yes.toNat) (by omega)
      rw [show l.length - (l.length - (a + 1)) = a + 1 by omega] at c1
      rw [show l.length - (l.length - n.yes.toNat) = n.yes.toNat by omega] at c2
      rw [show ((n.yes.toNat : Nat) : Int) = n.yes by omega] at c2
      rw [show ((a + 1 : Nat) : Int) = (a : Int) + 1 by omega] at c1
      omega
    · exact .inl rfl
/-- Behind each node that is reached stands one that is kept. -/
theorem cnt_lt : ∀ (d a : Nat), l.length - a ≤ d → ∀ n, l[a]? = some n → n.rb = true → cnt (kpt l) a < cnt (kpt l) l.length
  | 0, a, h, n, hn, _ => by
    have := (List.getElem?_eq_some_iff.1 hn).1
    omega
  | d + 1, a, h, n, hn, hr => by
    have hlt := (List.getElem?_eq_some_iff.1 hn).1
    rcases kept_or hI hM hn hr with hk | ⟨hk, hp, he⟩
    · have := (cnt_mono (kpt l) (p := a + 1) (q := l.length) (by omega)).1
      rw [cnt_succ, hk, if_pos rfl] at this
      omega
    · have ho : n.i.op ≠ 32 := plain_ne hp
      have hf := hI.fw a n hn ho
      obtain ⟨n', hn'⟩ : ∃ n', l[n.yes.toNat]? = some n' := ⟨_, List.getElem?_eq_getElem (by omega)⟩
      have := cnt_lt d n.yes.toNat (by omega) n' hn' (hM.yes a n n' hn hr ho hn')
      rw [he, cnt_succ, hk] at this
      simpa using this
theorem place_of {a : Nat} {n n' : Nd} {y : Int} (hn : l[a]? = some n) (hK : kpt l a = true) (h : (a : Int) < y ∧ y < l.length) (hn' : l[y.toNat]? = some n') (hr : n'.rb = true) :
    (plF (kpt l) l.length).1 y = cnt (kpt l) y.toNat ∧ (plF (kpt l) l.length).1 a = cnt (kpt l) a ∧ cnt (kpt l) a < cnt (kpt l) y.toNat ∧ cnt (kpt l) y.toNat - cnt (kpt l) a ≤ y - a ∧ cnt (kpt l) y.toNat < cnt (kpt l) l.length := by
  have e1 : (plF (kpt l) l.length).1 y = cnt (kpt l) y.toNat := by
    rw [← plF_cnt (kpt l) (q := y.toNat) (k := l.length) (by omega), show ((y.toNat : Nat) : Int) = y by omega]
  have c1 := cnt_mono (kpt l) (p := a + 1) (q := y.toNat) (by omega)
  have c2 := cnt_mono (kpt l) (p := a) (q := y.toNat) (by omega)
  rw [cnt_succ, hK, if_pos rfl] at c1
  exact ⟨e1, plF_cnt _ (by omega), by omega, by omega, cnt_lt hI hM _ _ (Nat.le_refl _) n' hn' hr⟩
theorem kept_rb {a : Nat} {n : Nd} (hn : l[a]? = some n) (hK : kpt l a = true) : n.rb = true := by
  have hk := kept_at hn fun ho => (hI.fw a n hn ho).1.1
  by_cases ho : n.i.op = 32
  · rw [← hk.2.2 ho, hK]
  · have := hk.2.1 ho
    rw [hK, keptN] at this
    simp at this
    exact this.1
theorem layL_len : ((layL l).length : Int) = cnt (kpt l) l.length := layTo_len' _ _ _ (Nat.le_refl _)
theorem layL_get {a : Nat} {n : Nd} (hn : l[a]? = some n) (hK : kpt l a = true) : (layL l)[(cnt (kpt l) a).toNat]? = some (layI (plF (kpt l) l.length).1 a n) :=
  layTo_get _ _ hn hK _ (Nat.le_refl _) (List.getElem?_eq_some_iff.1 hn).1
/-- What a node that is kept becomes. -/
theorem lay_node {a : Nat} {n : Nd} (hn : l[a]? = some n) (hK : kpt l a = true) (real : Int) (data : List Int) (m : M) :
    ∃ n', (ndsL (layL l))[(cnt (kpt l) a).toNat]? = some n' ∧ (∀ t, stp real data n m = .inl t → stp real data n' m = .inl t) ∧
      ∀ b m', stp real data n m = .inr (b, m') → stp real data n' m = .inr ((cnt (kpt l) b).toNat, m') ∧ ∃ nb, l[b]? = some nb ∧ nb.rb = true := by
  have hr := kept_rb hI hM hn hK
  have hlt := (List.getElem?_eq_some_iff.1 hn).1
  have hc0 := cnt_le (kpt l) a
  refine ⟨ndOf (cnt (kpt l) a) (layI (plF (kpt l) l.length).1 a n), ?_, ?_⟩
  · unfold ndsL
    rw [List.getElem?_mapIdx, layL_get hI hM hn hK]
    simp only [Option.map_some]
    rw [show (((cnt (kpt l) a).toNat : Nat) : Int) = cnt (kpt l) a by omega]
  by_cases o32 : n.i.op = 32
  · have e : layI (plF (kpt l) l.length).1 a n = n.i := by
      unfold layI
      rw [if_neg (by simp only [isJp]; omega), if_neg (by simp only [isJp]; omega), if_neg (by omega)]
    have s1 := stp_ret (real := real) (data := data) (n := n) (m := m) o32
    have s2 := stp_ret (real := real) (data := data) (n := ndOf (cnt (kpt l) a) n.i) (m := m) o32
    rw [e, s1, s2]
    exact ⟨fun t ht => ht, fun b m' ht => by cases ht⟩
  have hf := hI.fw a n hn o32
  obtain ⟨ny, hny⟩ : ∃ n', l[n.yes.toNat]? = some n' := ⟨_, List.getElem?_eq_getElem (by omega)⟩
  have hry := hM.yes a n ny hn hr o32 hny
  have py := place_of hI hM hn hK hf.1 hny hry
  by_cases o31 : n.i.op = 31
  · have e : layI (plF (kpt l) l.length).1 a n = ⟨n.i.op, (plF (kpt l) l.length).1 n.yes - (plF (kpt l) l.length).1 a - 1, n.i.t, n.i.f⟩ := by
      unfold layI
      rw [if_neg (by simp only [isJp]; omega), if_neg (by simp only [isJp]; omega), if_pos (by omega)]
    rw [stp_jump (n := n) (.inl o31), e, stp_jump (n := ndOf (cnt (kpt l) a) ⟨n.i.op, (plF (kpt l) l.length).1 n.yes - (plF (kpt l) l.length).1 a - 1, n.i.t, n.i.f⟩) (Or.inl (show n.i.op = 31 from o31))]
    refine ⟨fun t ht => (by cases ht), fun b m' ht => ?_⟩
    cases ht
    refine ⟨?_, ny, hny, hry⟩
    simp only [ndOf]
    rw [if_pos o31, py.1, py.2.1]
    congr 2
    omega
  by_cases oj : isJp n.i
  · obtain ⟨nn, hnn⟩ : ∃ n', l[n.no.toNat]? = some n' := ⟨_, List.getElem?_eq_getElem (by omega)⟩
    have hrn := hM.no a n nn hn hr oj hnn
    have pn := place_of hI hM hn hK hf.2 hnn hrn
    by_cases ey : n.yes = n.no
    · have e : layI (plF (kpt l) l.length).1 a n = ⟨31, (plF (kpt l) l.length).1 n.yes - (plF (kpt l) l.length).1 a - 1, 0, 0⟩ := by
        unfold layI
        rw [if_pos ⟨oj, ey⟩]
      rw [stp_jump (n := n) (.inr ⟨oj, ey⟩), e, stp_jump (n := ndOf (cnt (kpt l) a) ⟨31, (plF (kpt l) l.length).1 n.yes - (plF (kpt l) l.length).1 a - 1, 0, 0⟩) (Or.inl rfl)]
      refine ⟨fun t ht => (by cases ht), fun b m' ht => ?_⟩
      cases ht
      refine ⟨?_, ny, hny, hry⟩
      simp only [ndOf]
      rw [if_pos trivial, py.1, py.2.1]
      congr 2
      omega
    · have e : layI (plF (kpt l) l.length).1 a n = ⟨n.i.op, n.i.k, (plF (kpt l) l.length).1 n.yes - (plF (kpt l) l.length).1 a - 1, (plF (kpt l) l.length).1 n.no - (plF (kpt l) l.length).1 a - 1⟩ := by
        unfold layI
        rw [if_neg (fun h => ey h.2), if_pos oj]
      rw [stp_cond (n := n) oj, e, stp_cond (n := ndOf (cnt (kpt l) a) ⟨n.i.op, n.i.k, (plF (kpt l) l.length).1 n.yes - (plF (kpt l) l.length).1 a - 1, (plF (kpt l) l.length).1 n.no - (plF (kpt l) l.length).1 a - 1⟩) (show 25 ≤ n.i.op ∧ n.i.op ≤ 30 from oj)]
      refine ⟨fun t ht => (by cases ht), fun b m' ht => ?_⟩
      cases ht
      have ej : jmp (ndOf (cnt (kpt l) a) ⟨n.i.op, n.i.k, (plF (kpt l) l.length).1 n.yes - (plF (kpt l) l.length).1 a - 1, (plF (kpt l) l.length).1 n.no - (plF (kpt l) l.length).1 a - 1⟩).i m = jmp n.i m := jmp_same rfl rfl
      rw [ej]
      simp only [ndOf]
      rw [if_neg o31, if_pos oj, if_pos oj, py.1, py.2.1, pn.1]
      cases jmp n.i m
      · refine ⟨?_, nn, by simpa using hnn, hrn⟩
        simp only [Bool.false_eq_true, if_false]
        congr 2
        omega
      · refine ⟨?_, ny, by simpa using hny, hry⟩
        simp only [if_true]
        congr 2
        omega
  · have e : layI (plF (kpt l) l.length).1 a n = n.i := by
      unfold layI
      rw [if_neg (fun h => oj h.1), if_neg oj, if_neg o31]
    have ep := hI.pl a n hn o32 o31 oj
    have et : n.yes.toNat = a + 1 := by omega
    have ec : cnt (kpt l) n.yes.toNat = cnt (kpt l) a + 1 := by rw [et, cnt_succ, hK, if_pos rfl]
    have en : (ndOf (cnt (kpt l) a) (layI (plF (kpt l) l.length).1 a n)).i = n.i := by rw [e]; rfl
    have ey : (ndOf (cnt (kpt l) a) (layI (plF (kpt l) l.length).1 a n)).yes = cnt (kpt l) a + 1 := by
      rw [e]
      simp only [ndOf]
      rw [if_neg o31, if_neg oj]
    unfold stp
    rw [en, ey, if_neg o32, if_neg o31, if_neg oj]
    rw [if_neg o32, if_neg o31, if_neg oj]
    split
    · exact ⟨fun t ht => ht, fun b m' ht => by cases ht⟩
    · refine ⟨fun t ht => (by cases ht), fun b m' ht => ?_⟩
      cases ht
      exact ⟨by rw [ec], ny, hny, hry⟩
theorem lay_run {real : Int} {data : List Int} : ∀ (c a : Nat) (m : M) (t : Bool), Rn real data l a m t c → (∀ n, l[a]? = some n → n.rb = true) → Rle real data (ndsL (layL l)) (cnt (kpt l) a).toNat m t c := by
  intro c
  induction c using Nat.strongRecOn with
  | _ c ih =>
    intro a m t h hr
    obtain ⟨n, hn⟩ := h.node
    have hr := hr n hn
    rcases kept_or hI hM hn hr with hk | ⟨hk, hp, he⟩
    · obtain ⟨n', g1, g2, g3⟩ := lay_node hI hM hn hk real data m
      cases h with
      | fin h1 h2 =>
        rw [hn] at h1
        cases h1
        exact ⟨1, Nat.le_refl _, .fin g1 (g2 _ h2)⟩
      | go h1 h2 h3 =>
        rw [hn] at h1
        cases h1
        obtain ⟨g4, nb, g5, g6⟩ := g3 _ _ h2
        obtain ⟨c', h4, h5⟩ := ih _ (by omega) _ _ _ h3 (fun n hn => by rw [g5] at hn; cases hn; exact g6)
        exact ⟨c' + 1, by omega, .go g1 g4 h5⟩
    · obtain ⟨c0, rfl, h0⟩ := h.inv_go hn (stp_jump hp)
      have ho : n.i.op ≠ 32 := plain_ne hp
      obtain ⟨c', h4, h5⟩ := ih _ (by omega) _ _ _ h0 (fun n' hn' => hM.yes a n n' hn hr ho hn')
      rw [he, cnt_succ, hk] at h5
      exact ⟨c', by omega, by simpa using h5⟩
/-- What is laid is safe. -/
theorem lay_code : Code_ (layL l) := by
  have hlen := layL_len hI hM
  have hc0 := cnt_le (kpt l) l.length
  obtain ⟨n0, hn0⟩ : ∃ n', l[0]? = some n' := ⟨_, List.getElem?_eq_getElem hI.len.1⟩
  have hpos := cnt_lt hI hM _ 0 (Nat.le_refl _) n0 hn0 (hM.zero n0 hn0)
  have hz : cnt (kpt l) 0 = 0 := rfl
  have hl4 := hI.len
  refine ⟨by omega, fun q i hi => ?_, fun i hi => ?_⟩
  · obtain ⟨a, n, h1, hn, hK, rfl, hq⟩ := layTo_from _ _ _ (Nat.le_refl _) q i hi
    have hq : (q : Int) = cnt (kpt l) a := hq
    have hK : kpt l a = true := hK
    have hr := kept_rb hI hM hn hK
    have hop := hI.op a n hn
    have hnr := hI.near a n hn
    by_cases o32 : n.i.op = 32
    · have e : layI (plF (kpt l) l.length).1 a n = n.i := by
        unfold layI
        rw [if_neg (by simp only [isJp]; omega), if_neg (by simp only [isJp]; omega), if_neg (by omega)]
      show Safe (layI (plF (kpt l) l.length).1 a n) _ _
      rw [e]
      simp only [Safe]
      simp only [isJp] at hop
      omega
    have hf := hI.fw a n hn o32
    obtain ⟨ny, hny⟩ : ∃ n', l[n.yes.toNat]? = some n' := ⟨_, List.getElem?_eq_getElem (by omega)⟩
    have hry := hM.yes a n ny hn hr o32 hny
    have py := place_of hI hM hn hK hf.1 hny hry
    show Safe (layI (plF (kpt l) l.length).1 a n) _ _
    by_cases oj : isJp n.i
    · obtain ⟨nn, hnn⟩ : ∃ n', l[n.no.toNat]? = some n' := ⟨_, List.getElem?_eq_getElem (by omega)⟩
      have hrn := hM.no a n nn hn hr oj hnn
      have pn := place_of hI hM hn hK hf.2 hnn hrn
      by_cases ey : n.yes = n.no
      · unfold layI
        rw [if_pos ⟨oj, ey⟩]
        simp only [isJp] at *
        unfold Safe
        dsimp only
        exact ⟨by omega, .inr ⟨by omega, rfl, rfl, fun _ => by omega, fun h => by omega⟩⟩
      · unfold layI
        rw [if_neg (fun h => ey h.2), if_pos oj]
        simp only [Safe, isJp] at *
        omega
    · by_cases o31 : n.i.op = 31
      · unfold layI
        rw [if_neg (fun h => oj h.1), if_neg oj, if_pos o31]
        simp only [Safe, isJp] at *
        omega
      · unfold layI
        rw [if_neg (fun h => oj h.1), if_neg oj, if_neg o31]
        simp only [Safe, isJp] at *
        omega
  · obtain ⟨a, n, h1, hn, hK, rfl, hq⟩ := layTo_from _ _ _ (Nat.le_refl _) _ i hi
    have hq : ((layL l).length - 1 : Nat) = cnt (kpt l) a := hq
    have hK : kpt l a = true := hK
    have hr := kept_rb hI hM hn hK
    by_cases o32 : n.i.op = 32
    · unfold layI
      rw [if_neg (by simp only [isJp]; omega), if_neg (by simp only [isJp]; omega), if_neg (by omega)]
      exact o32
    · exfalso
      have hf := hI.fw a n hn o32
      obtain ⟨ny, hny⟩ : ∃ n', l[n.yes.toNat]? = some n' := ⟨_, List.getElem?_eq_getElem (by omega)⟩
      have hry := hM.yes a n ny hn hr o32 hny
      have py := place_of hI hM hn hK hf.1 hny hry
      omega
end
end Go.Proofs.Ytobablbklkpchaa

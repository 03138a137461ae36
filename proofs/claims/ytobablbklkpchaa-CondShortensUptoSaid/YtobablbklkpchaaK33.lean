import Derived.Test.YtobablbklkpchaaK32
set_option linter.unusedVariables false
set_option linter.unusedSimpArgs false
namespace Go.Proofs.Ytobablbklkpchaa
open Go Go.AX
set_option linter.unusedSectionVars false
set_option maxHeartbeats 1000000
/-! ### Rounds come to an end -/
def wgt (i : Ins) : Int := if isJp i then 1000 - i.t - i.f else if i.op = 31 then 255 - i.k else 0
def wsum : List Ins → Int
  | [] => 0
  | i :: r => wgt i + wsum r
theorem shTo_ge {l : List Nd} (h : NI l) {q : Nat} {n : Nd} (hn : l[q]? = some n) : ∀ k, ∃ n', (shTo l k)[q]? = some n' ∧ n'.i = n.i ∧ (n.i.op ≠ 32 → n.yes ≤ n'.yes ∧ n.no ≤ n'.no) ∧ (¬ isJp n.i → n'.no = n.no) ∧ (n.i.op ≠ 31 → ¬ isJp n.i → n'.yes = n.yes) ∧ n'.rb = n.rb
  | 0 => ⟨n, hn, rfl, fun _ => ⟨Int.le_refl _, Int.le_refl _⟩, fun _ => rfl, fun _ _ => rfl, rfl⟩
  | k + 1 => by
    obtain ⟨n1, h1, h2, h3, h4, h5, h6⟩ := shTo_ge h hn k
    have hI := shTo_NI h k
    rw [shTo]
    split
    · rename_i x hx
      rw [List.getElem?_set]
      split
      · rename_i e
        subst e
        rw [h1] at hx
        cases hx
        rw [if_pos (List.getElem?_eq_some_iff.1 h1).1]
        have g := shN_ge hI h1
        have g2 := shN_i (shTo l k) k n1
        refine ⟨_, rfl, by rw [g.1, h2], fun ho => ?_, fun oj => ?_, fun o1 oj => ?_, by rw [g2.2, h6]⟩
        · have := g.2.1 (by rw [h2]; exact ho)
          have := h3 ho
          omega
        · rw [g.2.2.1 (by rw [h2]; exact oj), h4 oj]
        · rw [g.2.2.2 (by rw [h2]; exact o1) (by rw [h2]; exact oj), h5 o1 oj]
      · exact ⟨n1, h1, h2, h3, h4, h5, h6⟩
    · exact ⟨n1, h1, h2, h3, h4, h5, h6⟩
theorem cnt_all {K : Int → Bool} {n : Nat} (h : cnt K n = n) : ∀ q : Nat, q < n → K q = true ∧ cnt K q = q := fun q hq => by
  have h1 := cnt_mono K (p := q + 1) (q := n) (by omega)
  have h2 := cnt_le K q
  rw [cnt_succ] at h1
  cases e : K q
  · rw [e] at h1; simp at h1; omega
  · rw [e, if_pos rfl] at h1; exact ⟨rfl, by omega⟩
/-- A round that leaves as many instructions. -/
theorem rnd_same {L : List Ins} (hL : Code_ L) (hs : (rnd L).length = L.length) {q : Nat} {i : Ins} (hi : L[q]? = some i) :
    ∃ i' n', (rnd L)[q]? = some i' ∧ (mkTo (shTo (ndsL L) L.length) L.length)[q]? = some n' ∧ n'.rb = true ∧ wgt i' ≤ wgt i ∧ (wgt i' = wgt i → i' = i) ∧ (i' = i → ∃ n1, (shTo (ndsL L) L.length)[q]? = some n1 ∧ n1 = ndOf q i) := by
  obtain ⟨p1, p2, p3, p4, p5⟩ := rnd_parts hL
  obtain ⟨n1, h1, h2, h3, h4, h5, h6⟩ := shTo_ge (ndsL_NI hL) (ndsL_at hi) L.length
  obtain ⟨b, hb⟩ := mkTo_node h1 L.length
  have hq := (List.getElem?_eq_some_iff.1 hi).1
  unfold rnd at hs ⊢
  have hlen := layL_len p2 p3
  rw [hs, p5] at hlen
  have hall := cnt_all hlen.symm
  generalize mkTo (shTo (ndsL L) L.length) L.length = l at *
  obtain ⟨hK, hc⟩ := hall q hq
  have hr := kept_rb p2 p3 hb hK
  have hget := layL_get p2 p3 hb hK
  rw [hc, show ((q : Int)).toNat = q by omega] at hget
  refine ⟨_, _, hget, hb, hr, ?_⟩
  have ei : n1.i = i := h2
  have hsf := hL.safe q i hi
  simp only [Safe] at hsf
  have hpl : ∀ y : Int, (q : Int) ≤ y ∧ y < L.length → (plF (kpt l) l.length).1 y = y := fun y hy => by
    have := plF_cnt (kpt l) (q := y.toNat) (k := l.length) (by omega)
    rw [(hall y.toNat (by omega)).2, show ((y.toNat : Nat) : Int) = y by omega] at this
    exact this
  have hfw := p1.fw q n1 h1
  rw [p4] at hfw
  obtain ⟨i1, y1, o1, r1⟩ := n1
  dsimp only at *
  subst ei
  by_cases oj : isJp i1
  · have hf := hfw (by simp only [isJp] at oj; omega)
    have hg := h3 (by simp only [ndOf, isJp] at oj ⊢; omega)
    simp only [ndOf] at hg
    rw [if_neg (by simp only [isJp] at oj; omega), if_pos oj, if_pos oj] at hg
    by_cases ey : y1 = o1
    · have e : layI (plF (kpt l) l.length).1 q ⟨i1, y1, o1, b⟩ = ⟨31, y1 - q - 1, 0, 0⟩ := by
        unfold layI
        rw [if_pos ⟨oj, ey⟩, hpl y1 (by omega), hpl q (by omega)]
      rw [e]
      have e1 : wgt ⟨31, y1 - q - 1, 0, 0⟩ = 255 - (y1 - q - 1) := by
        unfold wgt
        rw [if_neg (by simp only [isJp]; omega), if_pos rfl]
      have e2 : wgt i1 = 1000 - i1.t - i1.f := by unfold wgt; rw [if_pos oj]
      rw [e1, e2]
      simp only [isJp] at oj
      refine ⟨by omega, fun h => by omega, fun h => ?_⟩
      rw [← h] at oj
      dsimp only at oj
      omega
    · have e : layI (plF (kpt l) l.length).1 q ⟨i1, y1, o1, b⟩ = ⟨i1.op, i1.k, y1 - q - 1, o1 - q - 1⟩ := by
        unfold layI
        rw [if_neg (fun h => ey h.2), if_pos oj, hpl y1 (by omega), hpl q (by omega), hpl o1 (by omega)]
      rw [e]
      have e1 : wgt ⟨i1.op, i1.k, y1 - q - 1, o1 - q - 1⟩ = 1000 - (y1 - q - 1) - (o1 - q - 1) := by unfold wgt; rw [if_pos oj]
      have e2 : wgt i1 = 1000 - i1.t - i1.f := by unfold wgt; rw [if_pos oj]
      rw [e1, e2]
      obtain ⟨op, k, t, f⟩ := i1
      dsimp only at hg ⊢
      refine ⟨by omega, fun h => ?_, fun h => ?_⟩
      · have e3 : y1 - q - 1 = t := by omega
        have e4 : o1 - q - 1 = f := by omega
        rw [e3, e4]
      · simp only [Ins.mk.injEq, true_and] at h
        refine ⟨_, h1, ?_⟩
        simp only [ndOf]
        rw [if_neg (by simp only [isJp] at oj; omega), if_pos oj, if_pos oj, show y1 = (q : Int) + 1 + t by omega, show o1 = (q : Int) + 1 + f by omega]
        simp only [Nd.mk.injEq, true_and]
        exact h6
  · have hno := h4 oj
    simp only [ndOf] at hno
    rw [if_neg oj] at hno
    by_cases o31 : i1.op = 31
    · have hf := hfw (by omega)
      have hg := (h3 (by simp only [ndOf]; omega)).1
      simp only [ndOf] at hg
      rw [if_pos o31] at hg
      have e : layI (plF (kpt l) l.length).1 q ⟨i1, y1, o1, b⟩ = ⟨i1.op, y1 - q - 1, i1.t, i1.f⟩ := by
        unfold layI
        rw [if_neg (fun h => oj h.1), if_neg oj, if_pos o31, hpl y1 (by omega), hpl q (by omega)]
      rw [e]
      have e1 : wgt ⟨i1.op, y1 - q - 1, i1.t, i1.f⟩ = 255 - (y1 - q - 1) := by unfold wgt; rw [if_neg oj, if_pos o31]
      have e2 : wgt i1 = 255 - i1.k := by unfold wgt; rw [if_neg oj, if_pos o31]
      rw [e1, e2]
      obtain ⟨op, k, t, f⟩ := i1
      dsimp only at hg ⊢
      refine ⟨by omega, fun h => ?_, fun h => ?_⟩
      · have e3 : y1 - q - 1 = k := by omega
        rw [e3]
      · simp only [Ins.mk.injEq, true_and, and_true] at h
        refine ⟨_, h1, ?_⟩
        simp only [ndOf]
        rw [if_pos o31, if_neg oj, show y1 = (q : Int) + 1 + k by omega, hno]
        simp only [Nd.mk.injEq, true_and]
        exact h6
    · have hye := h5 o31 oj
      simp only [ndOf] at hye
      rw [if_neg o31, if_neg oj] at hye
      have e : layI (plF (kpt l) l.length).1 q ⟨i1, y1, o1, b⟩ = i1 := by
        unfold layI
        rw [if_neg (fun h => oj h.1), if_neg oj, if_neg o31]
      rw [e]
      refine ⟨Int.le_refl _, fun _ => rfl, fun _ => ⟨_, h1, ?_⟩⟩
      simp only [ndOf]
      rw [if_neg o31, if_neg oj, if_neg oj, hye, hno]
      simp only [Nd.mk.injEq, true_and]
      exact h6
theorem wsum_le : ∀ (A B : List Ins), B.length = A.length → (∀ (q : Nat) i, A[q]? = some i → ∃ i', B[q]? = some i' ∧ wgt i' ≤ wgt i ∧ (wgt i' = wgt i → i' = i)) → wsum B ≤ wsum A ∧ (wsum B = wsum A → B = A)
  | [], [], _, _ => ⟨Int.le_refl _, fun _ => rfl⟩
  | [], _ :: _, h, _ => by simp at h
  | _ :: _, [], h, _ => by simp at h
  | a :: A, b :: B, h, k => by
    obtain ⟨i', h1, h2, h3⟩ := k 0 a rfl
    have e1 : b = i' := by simpa using h1
    subst e1
    have ih := wsum_le A B (by simpa using h) fun q i hi => by
      have := k (q + 1) i (by simpa using hi)
      simpa using this
    simp only [wsum]
    refine ⟨by omega, fun e => ?_⟩
    rw [h3 (by omega), ih.2 (by omega)]
theorem wsum_bound : ∀ (A : List Ins), (∀ i ∈ A, 0 ≤ wgt i ∧ wgt i ≤ 1000) → 0 ≤ wsum A ∧ wsum A ≤ 1000 * A.length
  | [], _ => by simp [wsum]
  | a :: A, h => by
    have h1 := h a (List.mem_cons_self ..)
    have h2 := wsum_bound A fun i hi => h i (List.mem_cons_of_mem _ hi)
    simp only [wsum, List.length_cons]
    omega
theorem code_wsum {L : List Ins} (hL : Code_ L) : 0 ≤ wsum L ∧ wsum L ≤ 400000 := by
  have hl := hL.len
  have := wsum_bound L fun i hi => by
    obtain ⟨q, hq⟩ := List.getElem?_of_mem hi
    have hs := hL.safe q i hq
    simp only [Safe] at hs
    unfold wgt
    simp only [isJp]
    split
    · omega
    · split <;> omega
  omega
/-- What falls with each round. -/
def mu (L : List Ins) : Nat := 1000000 * L.length + (wsum L).toNat
theorem mu_less {L : List Ins} (hL : Code_ L) (h : rnd L ≠ L) : mu (rnd L) < mu L := by
  have h1 := code_wsum hL
  have h2 := code_wsum (rnd_code hL)
  have h3 := rnd_len L
  unfold mu
  by_cases hs : (rnd L).length = L.length
  · have := wsum_le L (rnd L) hs fun q i hi => by
      obtain ⟨i', n', g1, g2, g3, g4, g5, g6⟩ := rnd_same hL hs hi
      exact ⟨i', g1, g4, g5⟩
    have : wsum (rnd L) ≠ wsum L := fun e => h (this.2 e)
    omega
  · omega
def optF : Nat → List Ins → List Ins
  | 0, L => L
  | f + 1, L => if rnd L = L then L else optF f (rnd L)
/-- Code made shorter. -/
def optL (L : List Ins) : List Ins := optF (mu L + 1) L
theorem optF_more : ∀ (f g : Nat) (L : List Ins), Code_ L → mu L < f → mu L < g → optF f L = optF g L
  | 0, _, _, _, h, _ => absurd h (by omega)
  | _, 0, _, _, _, h => absurd h (by omega)
  | f + 1, g + 1, L, hL, hf, hg => by
    rw [optF, optF]
    split
    · rfl
    · rename_i h
      have := mu_less hL h
      exact optF_more f g _ (rnd_code hL) (by omega) (by omega)
theorem optL_step {L : List Ins} (hL : Code_ L) (h : rnd L ≠ L) : optL L = optL (rnd L) := by
  unfold optL
  rw [optF, if_neg h]
  have := mu_less hL h
  exact optF_more _ _ _ (rnd_code hL) (by omega) (by omega)
theorem optL_fix {L : List Ins} (h : rnd L = L) : optL L = L := by
  unfold optL
  rw [optF, if_pos h]
theorem optL_all : ∀ (f : Nat) (L : List Ins), Code_ L → mu L < f → Code_ (optL L) ∧ rnd (optL L) = optL L ∧ (optL L).length ≤ L.length ∧
    ∀ (real : Int) (data : List Int) (m : M) (t : Bool) (c : Nat), Rn real data (ndsL L) 0 m t c → Rle real data (ndsL (optL L)) 0 m t c
  | 0, _, _, h => absurd h (by omega)
  | f + 1, L, hL, hf => by
    by_cases h : rnd L = L
    · rw [optL_fix h]
      exact ⟨hL, h, Nat.le_refl _, fun _ _ _ _ _ h => .refl h⟩
    · have hm := mu_less hL h
      obtain ⟨h1, h2, h3, h4⟩ := optL_all f (rnd L) (rnd_code hL) (by omega)
      rw [optL_step hL h]
      have := rnd_len L
      exact ⟨h1, h2, by omega, fun real data m t c hr => (rnd_run hL hr).bind fun c hr => h4 real data m t c hr⟩
theorem optL_opt {L : List Ins} (hL : Code_ L) : optL (optL L) = optL L := optL_fix (optL_all _ L hL (Nat.lt_succ_self _)).2.1
/-! ### Runs of code are runs of its nodes -/
theorem run_nodes {L : List Ins} (hL : Code_ L) (real : Int) (data : List Int) : ∀ (fuel a : Nat) (n : Int) (m : M), a < L.length → L.length - a ≤ fuel → ∃ t c, Rn real data (ndsL L) a m t c ∧ runL real data L fuel a n m = (t, n + c - 1)
  | 0, a, _, _, h1, h2 => absurd h2 (by omega)
  | fuel + 1, a, n, m, h1, h2 => by
    obtain ⟨i, hi⟩ : ∃ i, L[a]? = some i := ⟨_, List.getElem?_eq_getElem h1⟩
    have hn := ndsL_at hi
    have hs := hL.safe a i hi
    simp only [Safe] at hs
    have hf := fun h => safe_fw hL hi h
    rw [runL, hi]
    dsimp only
    have ei : (ndOf a i).i = i := rfl
    by_cases o2 : i.op = 32
    · rw [if_pos o2]
      exact ⟨_, 1, .fin hn (by unfold stp; rw [ei, if_pos o2]), by simp⟩
    rw [if_neg o2]
    by_cases o1 : i.op = 31
    · rw [if_pos o1]
      obtain ⟨t, c, h3, h4⟩ := run_nodes hL real data fuel (a + i.k.toNat + 1) (n + 1) m (by omega) (by omega)
      refine ⟨t, c + 1, .go hn (stp_jump (.inl o1)) ?_, by rw [h4]; congr 1; omega⟩
      have : (ndOf a i).yes.toNat = a + i.k.toNat + 1 := by
        simp only [ndOf]; rw [if_pos o1]; omega
      rw [this]; exact h3
    rw [if_neg o1]
    by_cases oj : 25 ≤ i.op ∧ i.op ≤ 30
    · rw [if_pos oj]
      obtain ⟨t, c, h3, h4⟩ := run_nodes hL real data fuel (a + (if jmp i m then i.t else i.f).toNat + 1) (n + 1) m (by split <;> omega) (by omega)
      refine ⟨t, c + 1, .go hn (stp_cond oj) ?_, by rw [h4]; congr 1; omega⟩
      have : (if jmp (ndOf a i).i m then (ndOf a i).yes else (ndOf a i).no).toNat = a + (if jmp i m then i.t else i.f).toNat + 1 := by
        rw [ei]
        simp only [ndOf]
        rw [if_neg o1, if_pos oj, if_pos oj]
        split <;> omega
      rw [this]; exact h3
    rw [if_neg oj]
    split
    · rename_i hd
      exact ⟨false, 1, .fin hn (by unfold stp; rw [ei, if_neg o2, if_neg o1, if_neg oj, if_pos hd]), by simp⟩
    · rename_i hd
      obtain ⟨t, c, h3, h4⟩ := run_nodes hL real data fuel (a + 1) (n + 1) (exec real data i m) (by have := hf o2; omega) (by omega)
      refine ⟨t, c + 1, .go hn (by unfold stp; rw [ei, if_neg o2, if_neg o1, if_neg oj, if_neg hd]) ?_, by rw [h4]; congr 1; omega⟩
      have : (ndOf a i).yes.toNat = a + 1 := by
        simp only [ndOf]; rw [if_neg o1, if_neg oj]; omega
      rw [this]; exact h3
/-- Code made shorter takes the same packets, with no more instructions. -/
theorem opt_run {L : List Ins} (hL : Code_ L) (real : Int) (data : List Int) : (runL real data (optL L) (optL L).length 0 1 M0).1 = (runL real data L L.length 0 1 M0).1 ∧
    (runL real data (optL L) (optL L).length 0 1 M0).2 ≤ (runL real data L L.length 0 1 M0).2 := by
  obtain ⟨h1, h2, h3, h4⟩ := optL_all _ L hL (Nat.lt_succ_self _)
  obtain ⟨t, c, g1, g2⟩ := run_nodes hL real data L.length 0 1 M0 hL.len.1 (by omega)
  obtain ⟨c1, g3, g4⟩ := h4 real data M0 t c g1
  obtain ⟨u, d, g5, g6⟩ := run_nodes h1 real data (optL L).length 0 1 M0 h1.len.1 (by omega)
  obtain ⟨rfl, rfl⟩ := g4.det g5
  rw [g2, g6]
  exact ⟨rfl, by dsimp only; omega⟩
end Go.Proofs.Ytobablbklkpchaa

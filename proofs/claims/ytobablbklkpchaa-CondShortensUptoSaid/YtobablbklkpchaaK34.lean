import Derived.Test.YtobablbklkpchaaK33
set_option linter.unusedVariables false
set_option linter.unusedSimpArgs false
namespace Go.Proofs.Ytobablbklkpchaa
open Go Go.AX
set_option linter.unusedSectionVars false
set_option maxHeartbeats 1000000
/-! ### Blocks, edges, what is reached -/
structure BlkS (B : Int → Bool) (k : Nat) (l : List (Int × Int)) : Prop where
  one : ∀ (j : Nat) p, l[j]? = some p → B p.1 = true ∧ 0 ≤ p.1 ∧ p.1 ≤ p.2 ∧ p.2 < k
  ends : ∀ q : Nat, q < k → (q + 1 = k ∨ B ((q : Int) + 1) = true) → ∃ (j : Nat) (p : Int × Int), l[j]? = some p ∧ p.2 = q
  ord : ∀ (i j : Nat) p r, l[i]? = some p → l[j]? = some r → i < j → p.2 < r.1
theorem blkTo_S {B : Int → Bool} (h0 : B 0 = true) : ∀ k, BlkS B k (blkTo B k)
  | 0 => ⟨fun j p h => by simp [blkTo] at h, fun q h => absurd h (by omega), fun i j p r h => by simp [blkTo] at h⟩
  | k + 1 => by
    have ih := blkTo_S h0 k
    have hp := blkTo_pos h0 k
    rw [blkTo]
    generalize blkTo B k = l at *
    split
    · rename_i hB
      have get : ∀ (j : Nat) p, (l ++ [((k : Int), (k : Int))])[j]? = some p → l[j]? = some p ∨ (j = l.length ∧ p = ((k : Int), (k : Int))) := fun j p h => by
        rw [List.getElem?_append] at h
        split at h
        · exact .inl h
        · rename_i hj
          rcases Nat.eq_zero_or_pos (j - l.length) with e | e
          · rw [e] at h; simp at h; exact .inr ⟨by omega, h.symm⟩
          · rw [List.getElem?_eq_none (by rw [List.length_singleton]; omega)] at h; cases h
      refine ⟨fun j p h => ?_, fun q hq hb => ?_, fun i j p r h1 h2 hij => ?_⟩
      · rcases get j p h with h | ⟨_, rfl⟩
        · have := ih.one j p h; exact ⟨this.1, this.2.1, this.2.2.1, by omega⟩
        · exact ⟨hB, by omega, Int.le_refl _, by dsimp only; omega⟩
      · by_cases e : q = k
        · subst e
          exact ⟨l.length, _, by rw [List.getElem?_append_right (Nat.le_refl _), Nat.sub_self]; rfl, rfl⟩
        · obtain ⟨j, p, h1, h2⟩ := ih.ends q (by omega) (by
          rcases hb with hb | hb
          · omega
          · exact .inr hb)
          exact ⟨j, p, by rw [List.getElem?_append_left (List.getElem?_eq_some_iff.1 h1).1]; exact h1, h2⟩
      · rcases get i p h1 with h1 | ⟨e1, rfl⟩
        · rcases get j r h2 with h2 | ⟨e2, rfl⟩
          · exact ih.ord i j p r h1 h2 hij
          · exact (ih.one i p h1).2.2.2
        · rcases get j r h2 with h2 | ⟨e2, rfl⟩
          · have := (List.getElem?_eq_some_iff.1 h2).1; omega
          · omega
    · rename_i hB
      have hk : 0 < k := by
        rcases Nat.eq_zero_or_pos k with e | e
        · subst e; exact absurd h0 (by simpa using hB)
        · exact e
      have hl := hp hk
      have get : ∀ (j : Nat) p, (l.set (l.length - 1) ((l.getD (l.length - 1) (0, 0)).1, (k : Int)))[j]? = some p → (j ≠ l.length - 1 ∧ l[j]? = some p) ∨ (j = l.length - 1 ∧ ∃ p0, l[j]? = some p0 ∧ p = (p0.1, (k : Int))) := fun j p h => by
        rw [List.getElem?_set] at h
        split at h
        · rename_i e
          rw [if_pos (by omega)] at h
          obtain ⟨p0, hp0⟩ : ∃ p0, l[l.length - 1]? = some p0 := ⟨_, List.getElem?_eq_getElem (by omega)⟩
          rw [getD_of hp0] at h
          subst e
          exact .inr ⟨rfl, p0, hp0, by simpa using h.symm⟩
        · rename_i e
          exact .inl ⟨fun h => e h.symm, h⟩
      have last : ∀ p0, l[l.length - 1]? = some p0 → p0.2 = (k : Int) - 1 := fun p0 hp0 => by
        obtain ⟨j, p, h1, h2⟩ := ih.ends (k - 1) (by omega) (.inl (by omega))
        have hj := (List.getElem?_eq_some_iff.1 h1).1
        by_cases e : j = l.length - 1
        · subst e; rw [hp0] at h1; cases h1; omega
        · have g1 := ih.ord j (l.length - 1) p p0 h1 hp0 (by omega)
          have g2 := ih.one _ p0 hp0
          omega
      refine ⟨fun j p h => ?_, fun q hq hb => ?_, fun i j p r h1 h2 hij => ?_⟩
      · rcases get j p h with ⟨_, h⟩ | ⟨e, p0, g, rfl⟩
        · have := ih.one j p h; exact ⟨this.1, this.2.1, this.2.2.1, by omega⟩
        · have := ih.one j p0 g; exact ⟨this.1, this.2.1, by dsimp only; omega, by dsimp only; omega⟩
      · by_cases e : q = k
        · subst e
          obtain ⟨p0, hp0⟩ : ∃ p0, l[l.length - 1]? = some p0 := ⟨_, List.getElem?_eq_getElem (by omega)⟩
          exact ⟨l.length - 1, _, by rw [List.getElem?_set_self (by omega)], rfl⟩
        · have hb : B ((q : Int) + 1) = true := by
            rcases hb with hb | hb
            · omega
            · exact hb
          obtain ⟨j, p, h1, h2⟩ := ih.ends q (by omega) (.inr hb)
          have hj : j ≠ l.length - 1 := fun e => by
            subst e
            have := last p h1
            rw [show (q : Int) + 1 = k by omega] at hb
            exact hB hb
          exact ⟨j, p, by rw [List.getElem?_set, if_neg (fun e => hj e.symm)]; exact h1, h2⟩
      · have hjl : j < l.length := by
          have := (List.getElem?_eq_some_iff.1 h2).1
          rwa [List.length_set] at this
        rcases get i p h1 with ⟨_, h1⟩ | ⟨e, p0, h1, rfl⟩
        · rcases get j r h2 with ⟨_, h2⟩ | ⟨e2, r0, g2, rfl⟩
          · exact ih.ord i j p r h1 h2 hij
          · exact ih.ord i j p r0 h1 g2 hij
        · omega
theorem begs_fall {L : List Ins} {p : Nat} {i : Ins} (hi : L[p]? = some i) (hc : ctl i) : ∀ k, p < k → begs L k ((p : Int) + 1) = true
  | 0, h => absurd h (by omega)
  | k + 1, h => by
    by_cases e : p = k
    · subst e
      rw [begs_succ hi, decide_eq_true hc]
      simp
    · have := begs_fall hi hc k (by omega)
      rw [begs, this]
      rfl
theorem rch_mono (wo : Int) : ∀ (E : List (Int × Int)) (S : Int → Bool) (k : Int), S k = true → rch wo E S k = true
  | [], S, k, h => h
  | e :: r, S, k, h => by
    rw [rch]
    refine rch_mono wo r _ k ?_
    split
    · simp [h]
    · exact h
theorem rch_stay (wo : Int) : ∀ (E : List (Int × Int)) (S : Int → Bool) (k : Int), (∀ e ∈ E, e.2 ≠ k) → rch wo E S k = S k
  | [], S, k, h => rfl
  | e :: r, S, k, h => by
    rw [rch, rch_stay wo r _ k fun e he => h e (List.mem_cons_of_mem _ he)]
    split
    · have := h e (List.mem_cons_self ..)
      simp
      intro h2
      exact absurd h2.symm this
    · rfl
/-- Edges that go forward, in the order of their begins: what is reached is closed. -/
theorem rch_closed : ∀ (E : List (Int × Int)) (S : Int → Bool), E.Pairwise (fun e f => e.1 ≤ f.1) → (∀ e ∈ E, e.1 < e.2 ∧ 0 ≤ e.2) → ∀ e ∈ E, rch (-1) E S e.1 = true → rch (-1) E S e.2 = true
  | [], S, _, _, e, he, _ => by simp at he
  | f :: r, S, hp, hf, e, he, h => by
    rw [rch] at h ⊢
    rw [List.pairwise_cons] at hp
    rcases List.mem_cons.1 he with rfl | he
    · have hs : rch (-1) r (if S e.1 = true ∧ e.2 ≠ -1 then fun k => S k || decide (k = e.2) else S) e.1 = (if S e.1 = true ∧ e.2 ≠ -1 then fun k => S k || decide (k = e.2) else S) e.1 :=
        rch_stay _ _ _ _ fun x hx => by
          have h1 := hp.1 x hx
          have h2 := hf x (List.mem_cons_of_mem _ hx)
          omega
      have hfe := hf e (List.mem_cons_self ..)
      rw [hs] at h
      have hS : S e.1 = true := by
        split at h
        · have : decide (e.1 = e.2) = false := by simp; omega
          simpa [this] using h
        · exact h
      refine rch_mono _ _ _ _ ?_
      rw [if_pos ⟨hS, by omega⟩]
      simp
    · exact rch_closed r _ hp.2 (fun x hx => hf x (List.mem_cons_of_mem _ hx)) e he h
theorem edI_mem {bs : List (Int × Int)} {i t : Int} : ∀ {n j : Nat} {p}, bs[j]? = some p → p.1 = t → j < n → (i, (j : Int)) ∈ edI bs i t n
  | 0, j, p, _, _, h => absurd h (by omega)
  | n + 1, j, p, h1, h2, h3 => by
    rw [edI]
    by_cases e : j = n
    · subst e
      rw [getD_of h1, if_pos h2]
      simp
    · exact List.mem_append_left _ (edI_mem h1 h2 (by omega))
theorem edI_from {bs : List (Int × Int)} {i t : Int} : ∀ {n : Nat} {e : Int × Int}, e ∈ edI bs i t n → ∃ j : Nat, j < n ∧ e = (i, (j : Int)) ∧ (bs.getD j (0, 0)).1 = t
  | 0, e, h => by simp [edI] at h
  | n + 1, e, h => by
    rw [edI] at h
    rcases List.mem_append.1 h with h | h
    · obtain ⟨j, h1, h2⟩ := edI_from h
      exact ⟨j, by omega, h2⟩
    · split at h
      · rename_i ht
        exact ⟨n, by omega, List.mem_singleton.1 h, ht⟩
      · simp at h
theorem edE_mem {L : List Ins} {bs : List (Int × Int)} {e : Int × Int} : ∀ {n i : Nat}, i < n → e ∈ edM bs i (nx L (bs.getD i (0, 0)).2) → e ∈ edE L bs n
  | 0, i, h, _ => absurd h (by omega)
  | n + 1, i, h, hm => by
    rw [edE]
    by_cases e : i = n
    · subst e; exact List.mem_append_right _ hm
    · exact List.mem_append_left _ (edE_mem (by omega) hm)
theorem edE_from {L : List Ins} {bs : List (Int × Int)} {e : Int × Int} : ∀ {n : Nat}, e ∈ edE L bs n → ∃ i : Nat, i < n ∧ e ∈ edM bs i (nx L (bs.getD i (0, 0)).2)
  | 0, h => by simp [edE] at h
  | n + 1, h => by
    rw [edE] at h
    rcases List.mem_append.1 h with h | h
    · obtain ⟨i, h1, h2⟩ := edE_from h
      exact ⟨i, by omega, h2⟩
    · exact ⟨n, by omega, h⟩
theorem edM_fst {bs : List (Int × Int)} {i : Int} {ts : List Int} {e : Int × Int} (h : e ∈ edM bs i ts) : e.1 = i := by
  obtain ⟨t, _, h⟩ := List.mem_flatMap.1 h
  exact (edI_range _ e h).1
theorem edE_sorted (L : List Ins) (bs : List (Int × Int)) : ∀ n, (edE L bs n).Pairwise fun e f => e.1 ≤ f.1
  | 0 => List.Pairwise.nil
  | n + 1 => by
    rw [edE, List.pairwise_append]
    refine ⟨edE_sorted L bs n, List.Pairwise.imp_of_mem (R := fun _ _ => True) (fun ha hb _ => ?_) ?_, fun a ha b hb => ?_⟩
    · rw [edM_fst ha, edM_fst hb]; exact Int.le_refl _
    · exact List.pairwise_of_forall (fun _ _ => trivial)
    · obtain ⟨i, hi, h⟩ := edE_from ha
      rw [edM_fst h, edM_fst hb]
      omega
section
variable {L : List Ins} (hL : Code_ L)
include hL
theorem blks_S : BlkS (begs L L.length) L.length (blks_ L) := blkTo_S (begs_zero L _) _
theorem edgs_fw : ∀ e ∈ edgs L, e.1 < e.2 ∧ 0 ≤ e.2 := fun e he => by
  have hS := blks_S hL
  obtain ⟨i, hi, h⟩ := edE_from he
  obtain ⟨t, ht, h⟩ := List.mem_flatMap.1 h
  obtain ⟨j, hj, rfl, hjt⟩ := edI_from h
  dsimp only
  refine ⟨?_, by omega⟩
  obtain ⟨p, hp⟩ : ∃ p, (blks_ L)[i]? = some p := ⟨_, List.getElem?_eq_getElem hi⟩
  obtain ⟨r, hr⟩ : ∃ r, (blks_ L)[j]? = some r := ⟨_, List.getElem?_eq_getElem hj⟩
  rw [getD_of hp] at ht
  rw [getD_of hr] at hjt
  have h1 := hS.one i p hp
  have h2 := hS.one j r hr
  unfold nx at ht
  split at ht
  · rename_i x hx
    have := nxt_range hL hx t (by rw [show ((p.2.toNat : Nat) : Int) = p.2 by omega]; exact ht)
    rcases Nat.lt_or_ge i j with h | h
    · omega
    · rcases Nat.eq_or_lt_of_le h with e | h
      · subst e; rw [hp] at hr; cases hr; omega
      · have := hS.ord j i r p hr hp h; omega
  · simp at ht
/-- A way from a place to the begin of a block: an edge. -/
theorem edge_of {p : Nat} {i : Ins} (hi : L[p]? = some i) {q : Int} (hq : q ∈ fol p i) {j : Nat} {r : Int × Int} (hr : (blks_ L)[j]? = some r) (hrq : r.1 = q) :
    ∃ k : Nat, k < j ∧ ((k : Int), (j : Int)) ∈ edgs L := by
  have hS := blks_S hL
  have hrg := fol_range hL hi q hq
  have hB : begs L L.length ((p : Int) + 1) = true := by
    by_cases hc : ctl i
    · exact begs_fall hi hc _ (by omega)
    · have e : fol p i = [(p : Int) + 1] := by
        unfold fol
        rw [if_neg (fun h => hc (.inl h)), if_neg (fun h => hc (.inr (.inl h))), if_neg (fun h => hc (.inr (.inr h)))]
      rw [e] at hq
      rw [← List.mem_singleton.1 hq, ← hrq]
      exact (hS.one j r hr).1
  obtain ⟨k, s, h1, h2⟩ := hS.ends p (by omega) (.inr hB)
  have hk := (List.getElem?_eq_some_iff.1 h1).1
  have hj := (List.getElem?_eq_some_iff.1 hr).1
  refine ⟨k, ?_, ?_⟩
  · have g1 := hS.one k s h1
    have g2 := hS.one j r hr
    rcases Nat.lt_or_ge k j with h | h
    · exact h
    · rcases Nat.eq_or_lt_of_le h with e | h
      · subst e; rw [h1] at hr; cases hr; omega
      · have := hS.ord j k r s hr h1 h; omega
  · refine edE_mem hk (List.mem_flatMap.2 ⟨q, ?_, ?_⟩)
    · rw [getD_of h1, h2]
      unfold nx
      rw [show ((p : Int)).toNat = p by omega, hi]
      dsimp only
      have := nxt_mem p i q
      rw [show (fol p i).contains q = true from List.contains_iff_mem.2 hq] at this
      exact List.contains_iff_mem.1 this
    · exact edI_mem hr hrq hj
/-- If each place is behind another one, each block is reached. -/
theorem all_reached (h : ∀ a : Nat, 0 < a → a < L.length → ∃ (p : Nat) (i : Ins), L[p]? = some i ∧ (a : Int) ∈ fol p i) : ∀ j : Nat, j < (blks_ L).length → rch (-1) (edgs L) (rch0 (-1)) j = true := by
  intro j
  induction j using Nat.strongRecOn with
  | _ j ih =>
    intro hj
    have hS := blks_S hL
    obtain ⟨r, hr⟩ : ∃ r, (blks_ L)[j]? = some r := ⟨_, List.getElem?_eq_getElem hj⟩
    have h1 := hS.one j r hr
    rcases Nat.eq_zero_or_pos j with e | e
    · subst e
      exact rch_mono _ _ _ _ (by simp [rch0])
    · obtain ⟨z, hz⟩ : ∃ z, (blks_ L)[0]? = some z := ⟨_, List.getElem?_eq_getElem (by omega)⟩
      have h2 := hS.ord 0 j z r hz hr e
      have h3 := hS.one 0 z hz
      obtain ⟨p, i, hi, hq⟩ := h r.1.toNat (by omega) (by omega)
      obtain ⟨k, hk, he⟩ := edge_of hL hi hq hr (by omega)
      have := ih k hk (by omega)
      exact rch_closed _ _ (edE_sorted L _ _) (edgs_fw hL) _ he this
/-- Code that a round leaves as it is: each block is reached. -/
theorem fix_reached (h : rnd L = L) : (rchL L).length = (blks_ L).length := by
  have hs : (rnd L).length = L.length := by rw [h]
  have e : shTo (ndsL L) L.length = ndsL L := by
    apply List.ext_getElem?
    intro q
    rcases Nat.lt_or_ge q L.length with hq | hq
    · obtain ⟨i, hi⟩ : ∃ i, L[q]? = some i := ⟨_, List.getElem?_eq_getElem hq⟩
      obtain ⟨i', n', g1, g2, g3, g4, g5, g6⟩ := rnd_same hL hs hi
      rw [h, hi] at g1
      cases g1
      obtain ⟨n1, g7, g8⟩ := g6 rfl
      rw [g7, g8, ndsL_at hi]
    · rw [List.getElem?_eq_none (by rw [shTo_len, ndsL_len]; exact hq), List.getElem?_eq_none (by rw [ndsL_len]; exact hq)]
  have hall := all_reached hL fun a ha ha2 => by
    obtain ⟨i, hi⟩ : ∃ i, L[a]? = some i := ⟨_, List.getElem?_eq_getElem ha2⟩
    obtain ⟨i', n', g1, g2, g3, g4, g5, g6⟩ := rnd_same hL hs hi
    rw [e] at g2
    have hl := ndsL_len L
    have hrb : rbAt (ndsL L) L.length a = true := by rw [rbAt_of g2, g3]
    rcases rbAt_from (fun n hn => by
      obtain ⟨q, hq⟩ := List.getElem?_of_mem hn
      obtain ⟨i, _, rfl⟩ := ndsL_get hq
      rfl) (by omega) L.length (by omega) hrb with h0 | ⟨p, n, h1, h2, h3, h4⟩
    · omega
    · obtain ⟨x, hx, rfl⟩ := ndsL_get h2
      refine ⟨p, x, hx, ?_⟩
      have hsf := hL.safe p x hx
      simp only [Safe] at hsf
      unfold fol
      simp only [ndOf, isJp] at h3 h4
      rw [if_neg h3]
      by_cases o1 : x.op = 31
      · rw [if_pos o1] at h4 ⊢
        simp
        omega
      · rw [if_neg o1] at h4 ⊢
        by_cases oj : 25 ≤ x.op ∧ x.op ≤ 30
        · rw [if_pos oj, if_pos oj] at h4
          rw [if_pos oj]
          split
          · simp; omega
          · simp; omega
        · rw [if_neg oj, if_neg oj] at h4
          rw [if_neg oj]
          simp
          omega
  unfold rchL
  rw [List.length_map, List.filter_eq_self.2 (fun k hk => hall k (List.mem_range.1 hk)), List.length_range]
end
end Go.Proofs.Ytobablbklkpchaa

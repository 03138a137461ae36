import Derived.Test.YtbhbjlhobdoomaaDoorK18
set_option linter.unusedVariables false
set_option linter.unusedSimpArgs false
namespace Go.Proofs.YtbhbjlhobdoomaaDoor
open Go Go.AX
set_option maxHeartbeats 4000000
set_option maxRecDepth 20000
theorem triR_leR {P : Program} {f : FuncId} {vs : List V} {H : List Ch} {R R' : V → List Ch → Prop} (h : TriR P f vs H R) (hr : ∀ v H', R v H' → ∃ v', V.Le v v' ∧ R' v' H') : TriR P f vs H R' := fun F w xs hp hv =>
  Calls.mono (h F w xs hp hv) fun e w' ⟨ae, H', k1, k2, k3, k4, v, hae, hR⟩ => by
    subst hae
    obtain ⟨v', hle, hR'⟩ := hr v H' hR
    obtain ⟨x, hx, hc⟩ := k1
    exact ⟨.ret v', H', ⟨x, hx, hle _ _ _ hc⟩, k2, k3, k4, v', rfl, hR'⟩
theorem fun_ofLe {P : Program} {f : FuncId} {vs : List V} {v : V} (h : TriR P f vs [] fun u H' => V.Le u v ∧ H' = []) : Fun P f vs v :=
  triR_leR h fun u H' hu => ⟨v, hu.1, rfl, hu.2⟩
theorem le_tup {vs us : List V} (h : LeL vs us) : V.Le (.tup vs) (.tup us) := fun w ow x hx => by
  simp only [conc] at hx ⊢
  obtain ⟨l, rfl, hl⟩ := hx
  exact ⟨l, rfl, h w ow l hl⟩
theorem le_nil3 (a b : V) : V.Le (.tup [.raw (.slice none 0 0), a, b]) (.tup [.ro [], a, b]) :=
  le_tup (leL_cons (fun w ow x hx => le_nil_ro w ow x hx) (leL_cons (le_refl _) (leL_cons (le_refl _) leL_nil)))
theorem skip_le (s : ByteArray) (cm : Bool) (k : Nat) : k ≤ (skip s cm k).1 := by
  rcases Nat.lt_or_ge s.size k with h | h
  · rw [skip_end (by omega)]; exact Nat.le_refl _
  · exact (skip_ge _ k cm (Nat.le_refl _) h).1
structure Tok where
  kd : Int
  n : Int
  a : Nat
  t : ByteArray
def Tok.row (t : Tok) : List V := [int t.kd, int t.n, int t.a, str t.t]
/-- The tokens behind a place, and the first place that is wrong. -/
def lxq (s : ByteArray) (r : Nat × Bool) : List Tok × Option Nat :=
  if r.2 = true ∧ r.1 < s.size then
    if h2 : (tk sigs s r.1).ok = true ∧ r.1 < (tk sigs s r.1).e ∧ r.1 < s.size then
      (⟨(tk sigs s r.1).kd, (tk sigs s r.1).n, r.1, (tk sigs s r.1).t⟩ :: (lxq s (skip s false (tk sigs s r.1).e)).1, (lxq s (skip s false (tk sigs s r.1).e)).2)
    else ([], some r.1)
  else ([], if r.2 then none else some r.1)
termination_by s.size - r.1
decreasing_by
  have := skip_le s false (tk sigs s r.1).e
  omega
theorem pEnd_mem : ∀ (l : List (Nat × Nat)), l ≠ [] → ∃ q ∈ l, pEnd l = q.2
  | [], h => absurd rfl h
  | [q], _ => ⟨q, List.mem_singleton.2 rfl, rfl⟩
  | _ :: p :: l, _ => by
    obtain ⟨q, h1, h2⟩ := pEnd_mem (p :: l) (by simp)
    exact ⟨q, List.mem_cons_of_mem _ h1, h2⟩
theorem tk_gt {s : ByteArray} {k : Nat} (hk : k < s.size) (h : (tk sigs s k).ok = true) : k < (tk sigs s k).e ∧ (tk sigs s k).e ≤ s.size := by
  unfold tk at h ⊢
  split
  · rename_i h1
    have h2 := wordEnd_bounds s _ (k + 1) (Nat.le_refl _)
    have h3 : wordEnd s k = wordEnd s (k + 1) := wordEnd_pt (by rw [ba_in hk]; exact .inl h1)
    dsimp only
    have := h2.2 hk
    omega
  · rename_i h1
    rw [if_neg h1] at h
    split
    · rename_i h2
      dsimp only
      unfold numE
      split
      · rename_i hx
        have hl := ba_lt (s := s) (k := k + 1) (by omega)
        have h1 : k + 2 ≤ runX s (k + 2) ∧ (k + 2 ≤ s.size → runX s (k + 2) ≤ s.size) := run_ge (c := fun b => decide (dgo b < 16)) (s := s) _ (k + 2) (Nat.le_refl _)
        have := h1.2 (by omega)
        show k < runX s (k + 2) ∧ runX s (k + 2) ≤ s.size
        omega
      · obtain ⟨q, hq, he⟩ := pEnd_mem _ (parts_ne s k)
        have q1 := parts_bound _ k (Nat.le_refl _) (Nat.le_of_lt hk) q hq
        have q2 := parts_pos _ k (Nat.le_refl _) (by rw [ba_in hk]; exact h2) q hq
        omega
    · rename_i h2
      rw [if_neg h2] at h
      split
      · rename_i h3
        rw [if_pos h3] at h
        dsimp only at h ⊢
        unfold txO at h
        cases ht : tx s (k + 1) with
        | none => rw [ht] at h; cases h
        | some r =>
          have := tx_gt _ (k + 1) (Nat.le_refl _) r ht
          unfold txR
          rw [ht]
          show k < r.2 ∧ r.2 ≤ s.size
          omega
      · rename_i h3
        rw [if_neg h3] at h
        dsimp only at h ⊢
        unfold sgT
        cases hg : sgn sigs s k with
        | none => rw [hg] at h; cases h
        | some g =>
          have h4 := sigs_small g (List.mem_of_find?_eq_some hg)
          have h5 : at? s k g = true := List.find?_some hg
          have := (at_iff.1 h5).1
          show k < k + g.size ∧ k + g.size ≤ s.size
          omega
theorem sigs_src : ∀ g ∈ sigs, cls (bt g 0) ≠ 0 := by decide +kernel
/-- No token begins at a byte that no source has. -/
theorem tk_bad {s : ByteArray} {k : Nat} (hk : k < s.size) (h : cls (bt s k) = 0) : (tk sigs s k).ok = false := by
  unfold tk
  rw [if_neg (fun q => by rw [← cls2] at q; omega), if_neg (fun q => by rw [← cls3] at q; omega), if_neg (fun q => by rw [q] at h; revert h; decide)]
  dsimp only
  cases hg : sgn sigs s k with
  | none => rfl
  | some g =>
    have h4 := sigs_small g (List.mem_of_find?_eq_some hg)
    have h5 : at? s k g = true := List.find?_some hg
    have := (at_iff.1 h5).2 0 (by omega)
    have h6 := sigs_src g (List.mem_of_find?_eq_some hg)
    rw [Nat.add_zero] at this
    rw [this] at h
    exact absurd h h6
theorem lxq_end {s : ByteArray} {k : Nat} (h : ¬ k < s.size) : lxq s (k, true) = ([], none) := by unfold lxq; rw [if_neg (fun q => h q.2)]; rfl
theorem lxq_wrong {s : ByteArray} {k : Nat} : lxq s (k, false) = ([], some k) := by unfold lxq; rw [if_neg (fun q => by cases q.1)]; rfl
theorem lxq_bad {s : ByteArray} {k : Nat} (h : k < s.size) (h2 : (tk sigs s k).ok = false) : lxq s (k, true) = ([], some k) := by
  unfold lxq; rw [if_pos ⟨rfl, h⟩, dif_neg (fun q => by rw [h2] at q; cases q.1)]
theorem lxq_tok {s : ByteArray} {k : Nat} (h : k < s.size) (h2 : (tk sigs s k).ok = true) : lxq s (k, true) = (⟨(tk sigs s k).kd, (tk sigs s k).n, k, (tk sigs s k).t⟩ :: (lxq s (skip s false (tk sigs s k).e)).1, (lxq s (skip s false (tk sigs s k).e)).2) := by
  conv => lhs; unfold lxq
  rw [if_pos ⟨rfl, h⟩, dif_pos ⟨h2, (tk_gt h h2).1, h⟩]
end Go.Proofs.YtbhbjlhobdoomaaDoor

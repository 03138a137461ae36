import Derived.Test.YtbhbjlhobdoomaaDoorK44
set_option linter.unusedVariables false
set_option linter.unusedSimpArgs false
set_option maxRecDepth 20000
namespace Go.Proofs.YtbhbjlhobdoomaaDoor
open Go Go.AX
theorem rows_away {w : World} {o1 o2 : Nat → Prop} {b sz : Nat} : ∀ (l : List GT) (o : Nat), concRows w o1 b sz o (l.map GT.row) → concRows w o2 b sz o (l.map GT.row)
  | [], o, _ => by simp [concRows]
  | t :: l, o, h => by
    simp only [List.map_cons, concRows] at h ⊢
    refine ⟨h.1, ?_, rows_away l _ h.2.2⟩
    have := h.2.1
    unfold GT.row at this ⊢
    simpa only [concAt, conc] using this
/-- A read slice of tokens is none of the tables. -/
theorem conc_away {w : World} {ow : Nat → Prop} {l : List GT} {x : Value} (h : conc w ow0 (.ro (l.map GT.row)) x)
    (how : ∀ b, ow b → ∃ (cs : Array Value) (T : TypeId), w.heap[b]? = some (.cells cs T (0, 0)) ∧ ∀ y ∈ cs.toList, ∃ k n, y = .int k n) : conc w ow (.ro (l.map GT.row)) x := by
  simp only [conc] at h ⊢
  obtain ⟨A, c, h1, h2, h3, h4⟩ := h
  refine ⟨A, c, h1, h2, h3, ?_⟩
  rcases h4 with h4 | ⟨b, o, sz, rfl, hb, _, hr⟩
  · exact .inl h4
  · cases l with
    | nil => exact .inl ⟨rfl, fun q => by cases q⟩
    | cons t l =>
      refine .inr ⟨b, o, sz, rfl, hb, fun q => ?_, rows_away _ _ hr⟩
      obtain ⟨cs, T, hc, hi⟩ := how b q
      simp only [List.map_cons, concRows] at hr
      have ha := hr.2.1
      unfold GT.row at ha
      simp only [concAt, conc] at ha
      obtain ⟨_, _, _, ⟨y, hy, _, hs⟩, _⟩ := ha
      simp only [World.cell?, hc] at hy
      have hm : y ∈ cs.toList := by
        have := Array.mem_of_getElem? (by simpa using hy)
        exact Array.mem_toList_iff.2 this
      obtain ⟨k, n, hk⟩ := hi y hm
      rw [hs] at hk
      cases hk
theorem own_ks2 {b : Nat} (h : own (ks2.map kbox) b) : b = 1 ∨ b = 3 := by
  obtain ⟨c, hc, hb⟩ := List.mem_filterMap.1 h
  simp only [ks2, List.map_cons, List.map_nil, List.mem_cons, List.not_mem_nil, or_false] at hc
  rcases hc with rfl | rfl
  · left
    exact (Option.some.inj (show some (1 : Nat) = some b from hb)).symm
  · right
    exact (Option.some.inj (show some (3 : Nat) = some b from hb)).symm
theorem tabs_ints {w : World} (h : ∀ k ∈ ks2, w.heap[k.1]? = some (.cells k.2.2.toArray k.2.1 (0, 0))) : ∀ b, own (ks2.map kbox) b → ∃ (cs : Array Value) (T : TypeId), w.heap[b]? = some (.cells cs T (0, 0)) ∧ ∀ y ∈ cs.toList, ∃ k n, y = .int k n := fun b hb => by
  rcases own_ks2 hb with rfl | rfl
  · refine ⟨_, _, h (lays157_ren.g 0, 94, spaceV) (List.mem_cons_self ..), fun y hy => ?_⟩
    rw [List.toList_toArray] at hy
    obtain ⟨z, _, rfl⟩ := List.mem_map.1 hy
    exact ⟨_, _, rfl⟩
  · refine ⟨_, _, h kp (List.mem_cons_of_mem _ (List.mem_cons_self ..)), fun y hy => ?_⟩
    rw [List.toList_toArray] at hy
    obtain ⟨z, _, rfl⟩ := List.mem_map.1 hy
    exact ⟨_, _, rfl⟩
end Go.Proofs.YtbhbjlhobdoomaaDoor

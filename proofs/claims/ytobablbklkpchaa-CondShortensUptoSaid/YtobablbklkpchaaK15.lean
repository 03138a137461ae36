import Derived.Test.YtobablbklkpchaaK14
import Derived.Test.YtobablbklkpchaaAx0
import Derived.Test.YtobablbklkpchaaRows
set_option linter.unusedVariables false
set_option linter.unusedSimpArgs false
set_option maxRecDepth 20000
namespace Go.Proofs.Ytobablbklkpchaa
open Go Go.AX Go.RowKit Go.ChangeShapes Go.ChangeAt Go.WideShapes
section
variable {H : Type} {enc : TypeId × Value → H} {w : World}
theorem e3 : Try.prog.cellsOf 3 = 1 := by kernel_rfl
theorem e5 : Try.prog.cellsOf 5 = 1 := by kernel_rfl
theorem e22 : Try.prog.cellsOf 22 = 1 := by kernel_rfl
theorem e23 : Try.prog.cellsOf 23 = 1 := by kernel_rfl
theorem e50 : Try.prog.cellsOf 50 = 4 := by kernel_rfl
theorem rdIns {fuel : Nat} {cs : List Value} {d : DataW H} {ps : List MemPlace} (h : DataW.trod enc Try.prog w 0 (fun _ => true) true fuel 50 cs = some (d, ps)) : ∃ i : Ins, Rdg w cs i.cells := by
  obtain ⟨hlen, n, xs, hd, hxl, hf⟩ := rd_struct Try.underlying50 h
  rw [e50] at hlen
  obtain ⟨d0, _, _, r0⟩ := hf 0 _ rfl
  obtain ⟨d1, _, _, r1⟩ := hf 1 _ rfl
  obtain ⟨d2, _, _, r2⟩ := hf 2 _ rfl
  obtain ⟨d3, _, _, r3⟩ := hf 3 _ rfl
  obtain ⟨a, _, _, q0⟩ := rd_int Try.underlying3 r0
  obtain ⟨b, _, _, q1⟩ := rd_int Try.underlying3 r1
  obtain ⟨c, _, _, q2⟩ := rd_int Try.underlying3 r2
  obtain ⟨e, _, _, q3⟩ := rd_int Try.underlying3 r3
  obtain ⟨c0, c1, c2, c3, rfl⟩ : ∃ c0 c1 c2 c3, cs = [c0, c1, c2, c3] := by
    match cs, hlen with
    | [a, b, c, d], _ => exact ⟨a, b, c, d, rfl⟩
  · simp only [List.getElem_toArray, List.getElem_cons_zero, List.getElem_cons_succ, e3, List.drop_zero, List.drop_succ_cons, List.take_succ_cons, List.take_zero] at q0 q1 q2 q3
    exact ⟨⟨a, b, c, e⟩, rdg_cons q0 (rdg_cons q1 (rdg_cons q2 q3))⟩
/-- Rows of a kind, as a list. -/
theorem rows_of {α : Type} {f : α → List V} {p : α → Prop} : ∀ {rows : List (List V)}, (∀ r ∈ rows, ∃ a, r = f a ∧ p a) → ∃ l : List α, rows = l.map f ∧ ∀ a ∈ l, p a
  | [], _ => ⟨[], rfl, by simp⟩
  | r :: rows, h => by
    obtain ⟨a, rfl, ha⟩ := h r (List.mem_cons_self ..)
    obtain ⟨l, rfl, hl⟩ := rows_of (rows := rows) fun r hr => h r (List.mem_cons_of_mem _ hr)
    exact ⟨a :: l, rfl, fun x hx => by
      rcases List.mem_cons.1 hx with rfl | hx
      · exact ha
      · exact hl x hx⟩
theorem rows_re {Re : DataW H → List V → Prop} {ds : List (DataW H)} {rows : List (List V)} (hl : ds.length = rows.length) (h : ∀ (i : Nat) (d : DataW H) (r : List V), ds[i]? = some d → rows[i]? = some r → Re d r) : ∀ r ∈ rows, ∃ d, Re d r := fun r hr => by
  obtain ⟨i, hi, rfl⟩ := List.mem_iff_getElem.1 hr
  exact ⟨_, h i _ _ (List.getElem?_eq_getElem (by omega)) (List.getElem?_eq_getElem hi)⟩
theorem rdCode {fuel : Nat} {cs : List Value} {d : DataW H} {ps : List MemPlace} (h : DataW.trod enc Try.prog w 0 (fun _ => true) true fuel 22 cs = some (d, ps)) : ∃ L : List Ins, Rdg w cs [.ro (L.map Ins.cells)] := by
  obtain ⟨rows, ds, spare, hr, hl, hre, _⟩ := rd_slice (Re := fun _ r => ∃ i : Ins, r = i.cells ∧ True) Try.underlying22 (by rw [e50]; decide) h fun d' _ fuel cs ps h' => by
    obtain ⟨i, q⟩ := rdIns h'
    exact ⟨_, ⟨i, rfl, trivial⟩, q⟩
  obtain ⟨L, rfl, _⟩ := rows_of fun r hm => let ⟨_, q⟩ := rows_re hl hre r hm; q
  exact ⟨L, hr⟩
theorem rdBytes {fuel : Nat} {cs : List Value} {d : DataW H} {ps : List MemPlace} (h : DataW.trod enc Try.prog w 0 (fun _ => true) true fuel 23 cs = some (d, ps)) : ∃ L : List Int, Bytes L ∧ Rdg w cs [.ro (L.map brow)] := by
  obtain ⟨rows, ds, spare, hr, hl, hre, _⟩ := rd_slice (Re := fun _ r => ∃ b : Int, r = brow b ∧ 0 ≤ b ∧ b ≤ 255) Try.underlying23 (by rw [e5]; decide) h fun d' _ fuel cs ps h' => by
    obtain ⟨b, hw, _, q⟩ := rd_int Try.underlying5 h'
    refine ⟨_, ⟨b, rfl, ?_⟩, q⟩
    have e1 : IntKind.u8.min = 0 := by decide
    have e2 : IntKind.u8.max = 255 := by decide
    simp [Lit.wf, e1, e2] at hw
    omega
  obtain ⟨L, rfl, hb⟩ := rows_of fun r hm => let ⟨_, q⟩ := rows_re hl hre r hm; q
  exact ⟨L, hb, hr⟩
end
end Go.Proofs.Ytobablbklkpchaa

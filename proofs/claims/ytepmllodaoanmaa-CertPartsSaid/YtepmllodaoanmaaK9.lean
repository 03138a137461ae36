import Derived.Test.YtepmllodaoanmaaK8
import Derived.Test.YtepmllodaoanmaaAx0
import Derived.Test.YtepmllodaoanmaaRows
set_option linter.unusedVariables false
set_option linter.unusedSimpArgs false
namespace Go.Proofs.Ytepmllodaoanmaa
open Go Go.AX
section
variable {H : Type} {enc : TypeId × Value → H} {w : World}
theorem e3 : Try.prog.cellsOf 3 = 1 := by kernel_rfl
theorem e5 : Try.prog.cellsOf 5 = 1 := by kernel_rfl
/-- Rows of a kind, as a list. -/
theorem rows_of {α : Type} {f : α → List V} {p : α → Prop} : ∀ {rows : List (List V)}, (∀ r ∈ rows, ∃ a, r = f a ∧ p a) → ∃ l : List α, rows = l.map f ∧ ∀ a ∈ l, p a
  | [], _ => ⟨[], rfl, by simp⟩
  | r :: rows, h => by
    obtain ⟨a, rfl, ha⟩ := h r (List.mem_cons_self ..)
    obtain ⟨l, rfl, hl⟩ := rows_of (rows := rows) fun r hr => h r (List.mem_cons_of_mem _ hr)
    exact ⟨a :: l, rfl, fun x hx => by
      rcases List.mem_cons.1 hx with rfl | hx
      · exact ha
      · exact hl x hx⟩
theorem rows_re {Re : DataW H → List V → Prop} {ds : List (DataW H)} {rows : List (List V)} (hl : ds.length = rows.length) (h : ∀ (i : Nat) (d : DataW H) (r : List V), ds[i]? = some d → rows[i]? = some r → Re d r) : ∀ r ∈ rows, ∃ d, Re d r := fun r hr => by
  obtain ⟨i, hi, rfl⟩ := List.mem_iff_getElem.1 hr
  exact ⟨_, h i _ _ (List.getElem?_eq_getElem (by omega)) (List.getElem?_eq_getElem hi)⟩
theorem rdBytes {fuel : Nat} {cs : List Value} {d : DataW H} {ps : List MemPlace} (h : DataW.trod enc Try.prog w 0 (fun _ => true) true fuel 25 cs = some (d, ps)) : ∃ L : List Int, Bytes L ∧ Rdg w cs [.ro (L.map br)] := by
  obtain ⟨rows, ds, spare, hr, hl, hre, _⟩ := rd_slice (Re := fun _ r => ∃ b : Int, r = br b ∧ 0 ≤ b ∧ b ≤ 255) Try.underlying25 (by rw [e5]; decide) h fun d' _ fuel cs ps h' => by
    obtain ⟨b, hw, _, q⟩ := rd_int Try.underlying5 h'
    refine ⟨_, ⟨b, rfl, ?_⟩, q⟩
    have e1 : IntKind.u8.min = 0 := by decide
    have e2 : IntKind.u8.max = 255 := by decide
    simp [Lit.wf, e1, e2] at hw
    omega
  obtain ⟨L, rfl, hb⟩ := rows_of fun r hm => let ⟨_, q⟩ := rows_re hl hre r hm; q
  exact ⟨L, hb, hr⟩
end
end Go.Proofs.Ytepmllodaoanmaa

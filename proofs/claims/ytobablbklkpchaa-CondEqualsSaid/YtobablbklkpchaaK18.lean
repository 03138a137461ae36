import Derived.Test.YtobablbklkpchaaK17
set_option linter.unusedVariables false
set_option linter.unusedSimpArgs false
set_option maxRecDepth 20000
namespace Go.Proofs.Ytobablbklkpchaa
open Go Go.AX Go.RowKit Go.ChangeShapes Go.ChangeAt Go.WideShapes
section
variable {H : Type} {enc : TypeId × Value → H} {w : World}
theorem rdPackets {fuel : Nat} {cs : List Value} {d : DataW H} {ps : List MemPlace} (h : DataW.trod enc Try.prog w 0 (fun _ => true) true fuel 31 cs = some (d, ps)) : ∃ L : List (List Int), (∀ p ∈ L, Bytes p) ∧ Rdg w cs [.ro (L.map prw)] := by
  obtain ⟨rows, ds, spare, hr, hl, hre, _⟩ := rd_slice (Re := fun _ r => ∃ b : List Int, r = prw b ∧ Bytes b) Try.underlying31 (by rw [e23]; decide) h fun d' _ fuel cs ps h' => by
    obtain ⟨b, hb, q⟩ := rdBytes h'
    exact ⟨_, ⟨b, rfl, hb⟩, q⟩
  obtain ⟨L, rfl, hb⟩ := rows_of fun r hm => let ⟨_, q⟩ := rows_re hl hre r hm; q
  exact ⟨L, hb, hr⟩
end
end Go.Proofs.Ytobablbklkpchaa

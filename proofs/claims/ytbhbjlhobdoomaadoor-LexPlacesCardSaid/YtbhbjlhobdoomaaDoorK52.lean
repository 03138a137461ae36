import Derived.Test.YtbhbjlhobdoomaaDoorK51
set_option linter.unusedVariables false
namespace Go.Proofs.YtbhbjlhobdoomaaDoor
open Go Go.AX
theorem bt_list {s : ByteArray} {k : Nat} (h : k < s.size) : s.data.toList[k]? = some (s.get k h) ∧ bt s k = ((s.get k h).toNat : Int) := by
  refine ⟨?_, ?_⟩
  · rw [Array.getElem?_toList]
    exact Array.getElem?_eq_getElem h
  · exact bt_get h
theorem cntB_count (s : ByteArray) : ∀ k, k ≤ s.size → cntB s 10 k = (s.data.toList.take k).count 10 := fun k hk => by
  induction k with
  | zero => rfl
  | succ k ih =>
    obtain ⟨h1, h2⟩ := bt_list (s := s) (k := k) (by omega)
    rw [List.take_add_one, h1, List.count_append, ← ih (by omega)]
    show cntB s 10 k + (if bt s k = 10 then 1 else 0) = _
    rw [h2]
    congr 1
    simp only [Option.toList, List.count_cons, List.count_nil, beq_iff_eq]
    have : ((s.get k (by omega)).toNat : Int) = 10 ↔ s.get k (by omega) = 10 := by
      constructor
      · intro q; exact UInt8.toNat.inj (by show _ = 10; omega)
      · intro q; rw [q]; rfl
    simp [this]
end Go.Proofs.YtbhbjlhobdoomaaDoor

import Derived.Test.YtbhbjlhobdoomaaDoorK50
set_option linter.unusedVariables false
set_option linter.unusedSimpArgs false
namespace Go.Proofs.YtbhbjlhobdoomaaDoor
open Go Go.AX
set_option maxHeartbeats 4000000
set_option maxRecDepth 20000
theorem lastB_extract (s : ByteArray) (n : Nat) (h : n ≤ s.size) : ∀ k, k ≤ n → lastB (s.extract 0 n) 10 k = lastB s 10 k := fun k hk => by
  induction k with
  | zero => rfl
  | succ k ih =>
    have hb : bt (s.extract 0 n) k = bt s k := by rw [bt_extract (by omega), Nat.zero_add]
    show (if bt (s.extract 0 n) k = 10 then (k : Int) else lastB (s.extract 0 n) 10 k) = if bt s k = 10 then (k : Int) else lastB s 10 k
    rw [hb, ih (by omega)]
end Go.Proofs.YtbhbjlhobdoomaaDoor

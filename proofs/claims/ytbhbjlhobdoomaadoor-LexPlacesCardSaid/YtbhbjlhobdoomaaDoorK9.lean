import Derived.Test.YtbhbjlhobdoomaaDoorK8
set_option linter.unusedVariables false
set_option linter.unusedSimpArgs false
namespace Go.Proofs.YtbhbjlhobdoomaaDoor
open Go Go.AX
set_option maxHeartbeats 4000000
set_option maxRecDepth 20000
theorem iand_255 : ∀ k : Fin 256, iand .i64 (k.val : Int) 255 = (k.val : Int) := by decide +kernel
theorem ior_nat (N K : Nat) (hN : N < 16777216) (hK : K < 256) : ior .i64 ((N : Int) * 256) (K : Int) = (N : Int) * 256 + K := by
  unfold ior
  have h1 : (BitVec.ofInt IntKind.i64.bits ((N : Int) * 256)).toNat = N * 256 := by
    rw [show ((N : Int) * 256) = ((N * 256 : Nat) : Int) by omega, BitVec.ofInt_natCast, BitVec.toNat_ofNat]
    exact Nat.mod_eq_of_lt (by show N * 256 < 2 ^ 64; omega)
  have h2 : (BitVec.ofInt IntKind.i64.bits (K : Int)).toNat = K := by
    rw [BitVec.ofInt_natCast, BitVec.toNat_ofNat]
    exact Nat.mod_eq_of_lt (by show K < 2 ^ 64; omega)
  rw [BitVec.toNat_or, h1, h2]
  have h3 := Nat.shiftLeft_add_eq_or_of_lt (i := 8) (b := K) hK N
  rw [Nat.shiftLeft_eq] at h3
  rw [show N * 256 ||| K = N * 256 + K from h3.symm]
  rw [IntWalk.i64_in _ (by omega)]
  omega
theorem bits_num (n k : Int) (h0 : 0 ≤ n) (h1 : n < 16777216) (h2 : 0 ≤ k) (h3 : k ≤ 255) : ior .i64 (ishl .i64 n 8) (iand .i64 k 255) = 256 * n + k := by
  have e1 : ishl .i64 n 8 = n * 256 := by
    unfold ishl
    rw [show min (8 : Int).toNat IntKind.i64.bits = 8 from rfl]
    exact IntWalk.i64_in _ (by omega)
  have e2 : iand .i64 k 255 = k := by
    have := iand_255 ⟨k.toNat, by omega⟩
    simp only at this
    rwa [show ((k.toNat : Nat) : Int) = k by omega] at this
  have := ior_nat n.toNat k.toNat (by omega) (by omega)
  rw [e1, e2]
  rw [show ((n.toNat : Nat) : Int) = n by omega, show ((k.toNat : Nat) : Int) = k by omega] at this
  omega
theorem pEnd_last (l : List (Nat × Nat)) (q : Nat × Nat) : pEnd (l ++ [q]) = q.2 := by
  induction l with
  | nil => rfl
  | cons a l ih =>
    cases l with
    | nil => exact ih
    | cons c l => exact ih
theorem parts_pos {s : ByteArray} : ∀ (n k : Nat), s.size - k ≤ n → isDg (ba s k) → ∀ q ∈ parts s k, q.1 < q.2
  | n, k, hn, hk, q, hq => by
    have h1 := runD_ge s k
    have hl := ba_lt (s := s) (k := k) (by omega)
    have h0 : runD s k = runD s (k + 1) := run_go hl (decide_eq_true (by rw [← ba_in hl]; exact hk))
    have h3 := runD_ge s (k + 1)
    by_cases h : ba s (runD s k) = 46 ∧ isDg (ba s (runD s k + 1))
    · rw [parts_more h] at hq
      have h2 := ba_lt (s := s) (k := runD s k) (by omega)
      rcases List.mem_cons.1 hq with rfl | hq
      · dsimp only; omega
      · cases n with
        | zero => omega
        | succ n => exact parts_pos n (runD s k + 1) (by omega) h.2 q hq
    · rw [parts_last h] at hq
      obtain rfl := List.mem_singleton.1 hq
      dsimp only; omega
theorem pv_ge (s : ByteArray) (q : Nat × Nat) : 0 ≤ pv s q := satv_ge 10 s q.2 (by decide) _ _ _ (Nat.le_refl _) (by decide)
theorem okP_many {s : ByteArray} {l : List (Nat × Nat)} (h : l.length ≠ 1) : okP s l = (decide (l.length = 4) && l.all fun q => decide (pv s q ≤ 255)) := by
  cases l with
  | nil => rfl
  | cons a l => cases l with
    | nil => exact absurd rfl h
    | cons b l => rfl
theorem numP_many {s : ByteArray} {l : List (Nat × Nat)} (h : l.length ≠ 1) : numP s l = l.foldl (fun n q => 256 * n + pv s q) 0 := by
  cases l with
  | nil => rfl
  | cons a l => cases l with
    | nil => exact absurd rfl h
    | cons b l => rfl
end Go.Proofs.YtbhbjlhobdoomaaDoor

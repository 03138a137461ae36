import Derived.Test.YtobablbklkpchaaKTy
set_option linter.unusedVariables false
set_option linter.unusedSimpArgs false
namespace Go.Proofs.Ytobablbklkpchaa
open Go Go.AX
set_option maxHeartbeats 2000000
attribute [local irreducible] AW RL OP PureV ValV HV DL Tri TriR Fun RetOk ResV
abbrev str (s : ByteArray) : V := .raw (.string s)
abbrev int (n : Int) : V := .raw (.int .i64 n)
abbrev bool (b : Bool) : V := .raw (.bool b)
abbrev byte (n : Int) : V := .raw (.int .u8 n)
/-- An instruction. -/
structure Ins where
  (op k t f : Int)
def Ins.cells (i : Ins) : List V := [int i.op, int i.k, int i.t, int i.f]
theorem ins_len (i : Ins) : i.cells.length = 4 := rfl
abbrev isJ (n : Int) : Bool := decide (25 ≤ n ∧ n ≤ 30)
theorem isJump_fun (n : Int) : Fun Try.prog 48 [int n] (bool (isJ n)) := by
  refine Fun.of (TriR.of (tri_of Try.func48 rfl Try.ntmps48 rfl fun j => ?_))
  repeat' (first | (with_reducible first | refine aw_seq ?_ | refine rl_nil ?_ | refine aw_region ?_ | refine then_n ?_ | refine aw_block ?_ | refine then_exit ?_ | refine then_ret ?_ | refine in_n ?_ | refine in_ret ?_ | refine aw_exit ?_ | refine aw_ret ?_ | refine aw_skip ?_ | refine in_exit_eq rfl ?_) | ((with_reducible refine k_move ?_); refine rl_pure (pv_move rfl) rfl rfl rfl ?_) | ((with_reducible refine k_assign ?_); refine rl_pure (pv_assign rfl) rfl rfl rfl ?_) | ((with_reducible refine k_leq ?_); refine rl_pure (pv_leq rfl rfl) rfl rfl rfl ?_) | ((with_reducible refine k_geq ?_); refine rl_pure (pv_geq rfl rfl) rfl rfl rfl ?_) | ((with_reducible refine k_pick ?_); (first | refine rl_pure (pv_pick_t rfl by_bd rfl) rfl rfl rfl ?_ | refine rl_pure (pv_pick_f rfl by_bd rfl) rfl rfl rfl ?_)) | ((with_reducible refine k_guard ?_); (first | refine rl_on_yes rfl rfl rfl by_bd rfl ?_ | refine rl_off_t rfl rfl rfl by_bd rfl ?_)) | (((with_reducible refine k_guard ?_); first | refine rl_if_t rfl rfl rfl rfl ?_ ?_ | refine rl_if_f rfl rfl rfl rfl ?_ ?_) <;> intro hb <;> (have hc := hb) <;> (try simp only [decide_eq_true_eq, decide_eq_false_iff_not, Int.not_lt, Int.not_le, ne_eq, Bool.not_eq_true, Bool.not_eq_false, Decidable.not_not] at hc) <;> (try (exfalso; omega)) <;> (try (first | contradiction | (cases hc; done)))))
  all_goals
    (first | refine ret_r (ret1 rfl by_res (List.nil_sublist _) ⟨_, rfl, ?_⟩) | refine ret_n (ret1 rfl by_res (List.nil_sublist _) ⟨_, rfl, ?_⟩))
    refine ⟨congrArg bool ?_, rfl⟩
    rw [Bool.eq_iff_iff]
    simp only [decide_eq_true_eq, Bool.false_eq_true]
    constructor <;> intro h <;> first | exact h.elim | trivial | omega
theorem isBranch_fun (n : Int) : Fun Try.prog 39 [int n] (bool (isJ n)) := by
  refine Fun.of (TriR.of (tri_of Try.func39 rfl Try.ntmps39 rfl fun j => ?_))
  repeat' (first | (with_reducible first | refine aw_seq ?_ | refine rl_nil ?_ | refine aw_region ?_ | refine then_n ?_ | refine aw_block ?_ | refine then_exit ?_ | refine then_ret ?_ | refine in_n ?_ | refine in_ret ?_ | refine aw_exit ?_ | refine aw_ret ?_ | refine aw_skip ?_ | refine in_exit_eq rfl ?_) | ((with_reducible refine k_move ?_); refine rl_pure (pv_move rfl) rfl rfl rfl ?_) | ((with_reducible refine k_assign ?_); refine rl_pure (pv_assign rfl) rfl rfl rfl ?_) | ((with_reducible refine k_leq ?_); refine rl_pure (pv_leq rfl rfl) rfl rfl rfl ?_) | ((with_reducible refine k_geq ?_); refine rl_pure (pv_geq rfl rfl) rfl rfl rfl ?_) | ((with_reducible refine k_pick ?_); (first | refine rl_pure (pv_pick_t rfl by_bd rfl) rfl rfl rfl ?_ | refine rl_pure (pv_pick_f rfl by_bd rfl) rfl rfl rfl ?_)) | ((with_reducible refine k_guard ?_); (first | refine rl_on_yes rfl rfl rfl by_bd rfl ?_ | refine rl_off_t rfl rfl rfl by_bd rfl ?_)) | (((with_reducible refine k_guard ?_); first | refine rl_if_t rfl rfl rfl rfl ?_ ?_ | refine rl_if_f rfl rfl rfl rfl ?_ ?_) <;> intro hb <;> (have hc := hb) <;> (try simp only [decide_eq_true_eq, decide_eq_false_iff_not, Int.not_lt, Int.not_le, ne_eq, Bool.not_eq_true, Bool.not_eq_false, Decidable.not_not] at hc) <;> (try (exfalso; omega)) <;> (try (first | contradiction | (cases hc; done)))))
  all_goals
    (first | refine ret_r (ret1 rfl by_res (List.nil_sublist _) ⟨_, rfl, ?_⟩) | refine ret_n (ret1 rfl by_res (List.nil_sublist _) ⟨_, rfl, ?_⟩))
    refine ⟨congrArg bool ?_, rfl⟩
    rw [Bool.eq_iff_iff]
    simp only [decide_eq_true_eq, Bool.false_eq_true]
    constructor <;> intro h <;> first | exact h.elim | trivial | omega
/-- An instruction is right, of so many, at a place. -/
def Safe (i : Ins) (at_ n : Int) : Prop :=
  (0 ≤ i.op ∧ i.op ≤ 33 ∧ 0 ≤ i.k ∧ i.k ≤ 4294967295) ∧
  (((25 ≤ i.op ∧ i.op ≤ 30) ∧ 0 ≤ i.t ∧ i.t ≤ 255 ∧ 0 ≤ i.f ∧ i.f ≤ 255 ∧ i.t < n - at_ - 1 ∧ i.f < n - at_ - 1) ∨
   (¬ (25 ≤ i.op ∧ i.op ≤ 30) ∧ i.t = 0 ∧ i.f = 0 ∧ (i.op = 31 → i.k ≤ 255 ∧ i.k < n - at_ - 1) ∧ (i.op = 17 ∨ i.op = 18 → i.k < 16)))
instance (i : Ins) (a n : Int) : Decidable (Safe i a n) := by unfold Safe; infer_instance
theorem isSafe_fun (i : Ins) (at_ n : Int) (ha : 0 ≤ at_ ∧ at_ < n ∧ n ≤ 9223372036854775807) : Fun Try.prog 29 [.agg i.cells, int at_, int n] (bool (decide (Safe i at_ n))) := by
  refine Fun.of (TriR.of (tri_of Try.func29 rfl Try.ntmps29 rfl fun j => ?_))
  repeat' (first | (with_reducible first | refine aw_seq ?_ | refine rl_nil ?_ | refine aw_region ?_ | refine then_n ?_ | refine aw_block ?_ | refine then_exit ?_ | refine then_ret ?_ | refine in_n ?_ | refine in_ret ?_ | refine aw_exit ?_ | refine aw_ret ?_ | refine aw_skip ?_ | refine in_exit_eq rfl ?_) | ((with_reducible refine k_move ?_); refine rl_pure (pv_move rfl) rfl rfl rfl ?_) | ((with_reducible refine k_assign ?_); refine rl_pure (pv_assign rfl) rfl rfl rfl ?_) | ((with_reducible refine k_load ?_); refine rl_val (vv_load_box (by rfl) by_memb (by rfl) by_bd) rfl rfl rfl ?_) | ((with_reducible refine k_fieldAddr ?_); refine rl_pure (pv_fieldAddr rfl) rfl rfl rfl ?_) | ((with_reducible refine k_box ?_); refine rl_op rfl (op_box rfl (V.okc_or (by rfl)) rfl fun b => ?_)) | ((with_reducible refine k_eql ?_); refine rl_pure (pv_eql rfl rfl) rfl rfl rfl ?_) | ((with_reducible refine k_neq ?_); refine rl_pure (pv_neq rfl rfl) rfl rfl rfl ?_) | ((with_reducible refine k_lss ?_); refine rl_pure (pv_lss rfl rfl) rfl rfl rfl ?_) | ((with_reducible refine k_leq ?_); refine rl_pure (pv_leq rfl rfl) rfl rfl rfl ?_) | ((with_reducible refine k_gtr ?_); refine rl_pure (pv_gtr rfl rfl) rfl rfl rfl ?_) | ((with_reducible refine k_geq ?_); refine rl_pure (pv_geq rfl rfl) rfl rfl rfl ?_) | ((with_reducible refine k_sub ?_); refine rl_pure (pv_sub_in rfl rfl (by omega)) rfl rfl rfl ?_) | ((with_reducible refine k_pick ?_); (first | refine rl_pure (pv_pick_t rfl by_bd rfl) rfl rfl rfl ?_ | refine rl_pure (pv_pick_f rfl by_bd rfl) rfl rfl rfl ?_)) | ((with_reducible refine k_guard ?_); (first | refine rl_on_yes rfl rfl rfl by_bd rfl ?_ | refine rl_off_t rfl rfl rfl by_bd rfl ?_ | refine rl_off_f rfl rfl rfl by_bd rfl ?_)) | ((with_reducible refine k_cond ?_); refine aw_cond_t rfl ?_) | ((with_reducible refine k_callv ?_); refine rl_op rfl (op_callF rfl rfl (isJump_fun _) rfl ?_)) | (((with_reducible refine k_guard ?_); first | refine rl_if_t rfl rfl rfl rfl ?_ ?_ | refine rl_if_f rfl rfl rfl rfl ?_ ?_) <;> intro hb <;> (have hc := hb) <;> (try simp only [decide_eq_true_eq, decide_eq_false_iff_not, Int.not_lt, Int.not_le, ne_eq, Bool.not_eq_true, Bool.not_eq_false, Decidable.not_not] at hc) <;> (try (exfalso; omega)) <;> (try (first | contradiction | (cases hc; done)))) | (((with_reducible refine k_cond ?_); refine aw_cond rfl ?_ ?_) <;> intro hb <;> (have hc := hb) <;> (try simp only [decide_eq_true_eq, decide_eq_false_iff_not, Int.not_lt, Int.not_le, ne_eq, Bool.not_eq_true, Bool.not_eq_false, Decidable.not_not] at hc) <;> (try (exfalso; omega)) <;> (try (first | contradiction | (cases hc; done)))))
  all_goals
    (first | refine ret_r (ret1 rfl by_res (List.nil_sublist _) ⟨_, rfl, ?_⟩) | refine ret_n (ret1 rfl by_res (List.nil_sublist _) ⟨_, rfl, ?_⟩))
    refine ⟨congrArg bool ?_, rfl⟩
    rw [Bool.eq_iff_iff]
    simp only [decide_eq_true_eq, decide_eq_false_iff_not, Bool.false_eq_true] at *
    simp only [Safe]
    constructor <;> intro h <;> first | exact h.elim | trivial | omega
theorem right_fun (L : List Ins) (n : Nat) (i : Ins) (hi : L[n]? = some i) (hL : L.length ≤ 400) : Fun Try.prog 30 [.ro (L.map Ins.cells), int n] (bool (decide (Safe i n L.length))) := by
  have hn : n < L.length := (List.getElem?_eq_some_iff.1 hi).1
  have hr : (L.map Ins.cells)[n]? = some i.cells := by simp [hi]
  have hj := isBranch_fun i.op
  refine Fun.of (TriR.of (tri_of Try.func30 rfl Try.ntmps30 rfl fun j => ?_))
  repeat' (first | (with_reducible first | refine aw_seq ?_ | refine rl_nil ?_ | refine aw_region ?_ | refine then_n ?_ | refine aw_block ?_ | refine then_exit ?_ | refine then_ret ?_ | refine in_n ?_ | refine in_ret ?_ | refine aw_exit ?_ | refine aw_ret ?_ | refine aw_skip ?_ | refine in_exit_eq rfl ?_) | ((with_reducible refine k_move ?_); refine rl_pure (pv_move rfl) rfl rfl rfl ?_) | ((with_reducible refine k_assign ?_); refine rl_pure (pv_assign rfl) rfl rfl rfl ?_) | ((with_reducible refine k_load ?_); (first | refine rl_val (vv_load_ro_whole (by rfl) (by rfl) (by first | rfl)) rfl rfl rfl ?_ | refine rl_val (vv_load_box (by rfl) by_memb (by rfl) by_bd) rfl rfl rfl ?_)) | ((with_reducible refine k_fieldAddr ?_); refine rl_pure (pv_fieldAddr rfl) rfl rfl rfl ?_) | ((with_reducible refine k_store ?_); refine rl_op rfl (op_store_box_whole (by rfl) (by rfl) (V.okc_or (by rfl)) by_upd (by first | rfl) (by first | rfl) ?_)) | ((with_reducible refine k_alloc ?_); refine rl_op rfl (op_alloc (by decide) rfl fun b => ?_)) | ((with_reducible refine k_eql ?_); refine rl_pure (pv_eql rfl rfl) rfl rfl rfl ?_) | ((with_reducible refine k_neq ?_); refine rl_pure (pv_neq rfl rfl) rfl rfl rfl ?_) | ((with_reducible refine k_lss ?_); refine rl_pure (pv_lss rfl rfl) rfl rfl rfl ?_) | ((with_reducible refine k_leq ?_); refine rl_pure (pv_leq rfl rfl) rfl rfl rfl ?_) | ((with_reducible refine k_gtr ?_); refine rl_pure (pv_gtr rfl rfl) rfl rfl rfl ?_) | ((with_reducible refine k_geq ?_); refine rl_pure (pv_geq rfl rfl) rfl rfl rfl ?_) | ((with_reducible refine k_sub ?_); refine rl_pure (pv_sub_in rfl rfl (by omega)) rfl rfl rfl ?_) | ((with_reducible refine k_len ?_); refine rl_pure (pv_len_ro' (by rfl) by_len) rfl rfl rfl ?_) | ((with_reducible refine k_indexAddr ?_); refine rl_pure (pv_indexAddr_ro (by rfl) rfl (by omega) (by first | rfl | assumption) (by first | rfl)) rfl rfl rfl ?_) | ((with_reducible refine k_pick ?_); (first | refine rl_pure (pv_pick_t rfl by_bd rfl) rfl rfl rfl ?_ | refine rl_pure (pv_pick_f rfl by_bd rfl) rfl rfl rfl ?_)) | ((with_reducible refine k_guard ?_); (first | refine rl_on_yes rfl rfl rfl by_bd rfl ?_ | refine rl_off_t rfl rfl rfl by_bd rfl ?_ | refine rl_off_f rfl rfl rfl by_bd rfl ?_)) | ((with_reducible refine k_cond ?_); refine aw_cond_t rfl ?_) | ((with_reducible refine k_callv ?_); refine rl_op rfl (op_callF rfl rfl (hj) rfl ?_)) | (((with_reducible refine k_guard ?_); first | refine rl_if_t rfl rfl rfl rfl ?_ ?_ | refine rl_if_f rfl rfl rfl rfl ?_ ?_) <;> intro hb <;> (have hc := hb) <;> (try simp only [decide_eq_true_eq, decide_eq_false_iff_not, Int.not_lt, Int.not_le, ne_eq, Bool.not_eq_true, Bool.not_eq_false, Decidable.not_not] at hc) <;> (try (exfalso; omega)) <;> (try (first | contradiction | (cases hc; done)))) | (((with_reducible refine k_cond ?_); refine aw_cond rfl ?_ ?_) <;> intro hb <;> (have hc := hb) <;> (try simp only [decide_eq_true_eq, decide_eq_false_iff_not, Int.not_lt, Int.not_le, ne_eq, Bool.not_eq_true, Bool.not_eq_false, Decidable.not_not] at hc) <;> (try (exfalso; omega)) <;> (try (first | contradiction | (cases hc; done)))))
  all_goals
    (first | refine ret_r (ret1 rfl by_res (List.nil_sublist _) ⟨_, rfl, ?_⟩) | refine ret_n (ret1 rfl by_res (List.nil_sublist _) ⟨_, rfl, ?_⟩))
    refine ⟨congrArg bool ?_, rfl⟩
    rw [Bool.eq_iff_iff]
    simp only [decide_eq_true_eq, decide_eq_false_iff_not, Bool.false_eq_true] at *
    simp only [Safe]
    constructor <;> intro h <;> first | exact h.elim | trivial | omega
end Go.Proofs.Ytobablbklkpchaa

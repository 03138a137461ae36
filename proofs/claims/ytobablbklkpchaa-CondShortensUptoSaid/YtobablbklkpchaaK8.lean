import Derived.Test.YtobablbklkpchaaK7
set_option linter.unusedVariables false
set_option linter.unusedSimpArgs false
namespace Go.Proofs.Ytobablbklkpchaa
open Go Go.AX
set_option maxHeartbeats 4000000
attribute [local irreducible] AW RL OP PureV ValV HV DL Tri TriR Fun RetOk ResV
theorem iand_w {a k : Int} (ha : W32 a) (hk : W32 k) : W32 (iand .i64 a k) := by
  obtain ⟨a0, a1⟩ := ha
  obtain ⟨k0, k1⟩ := hk
  obtain ⟨a, rfl⟩ := Int.eq_ofNat_of_zero_le a0
  obtain ⟨k, rfl⟩ := Int.eq_ofNat_of_zero_le k0
  rw [iand_nat _ _ (by omega) (by omega)]
  have : a &&& k ≤ a := Nat.and_le_left
  exact ⟨by omega, by omega⟩
theorem ior_w {a k : Int} (ha : W32 a) (hk : W32 k) : W32 (ior .i64 a k) := by
  obtain ⟨a0, a1⟩ := ha
  obtain ⟨k0, k1⟩ := hk
  obtain ⟨a, rfl⟩ := Int.eq_ofNat_of_zero_le a0
  obtain ⟨k, rfl⟩ := Int.eq_ofNat_of_zero_le k0
  rw [ior_nat _ _ (by omega) (by omega)]
  have : a ||| k < 2 ^ 32 := Nat.or_lt_two_pow (by omega) (by omega)
  exact ⟨by omega, by omega⟩
theorem shr_w {a k : Int} (ha : W32 a) (hk : W32 k) : W32 (shr32 a k) := by
  obtain ⟨a0, a1⟩ := ha
  unfold shr32
  split
  · exact ⟨Int.le_refl _, by decide⟩
  · unfold ishr
    have hp : (0 : Int) < 2 ^ (min k.toNat IntKind.i64.bits) := Int.pow_pos (by decide)
    rw [Int.fdiv_eq_ediv_of_nonneg _ (Int.le_of_lt hp)]
    exact ⟨Int.ediv_nonneg a0 (Int.le_of_lt hp), Int.lt_of_le_of_lt (Int.ediv_le_self _ a0) a1⟩
theorem word55 (n : Int) : Fun Try.prog 55 [int n] (int (n % 4294967296)) := by
  refine Fun.of (TriR.of (tri_of Try.func55 rfl Try.ntmps55 rfl fun j => ?_))
  repeat' (first | (with_reducible first | refine aw_seq ?_ | refine rl_nil ?_ | refine aw_region ?_ | refine then_n ?_ | refine aw_block ?_ | refine then_exit ?_ | refine then_ret ?_ | refine in_n ?_ | refine in_ret ?_ | refine aw_exit ?_ | refine aw_ret ?_ | refine aw_skip ?_ | refine in_exit_eq rfl ?_) | ((with_reducible refine k_move ?_); refine rl_pure (pv_move rfl) rfl rfl rfl ?_) | ((with_reducible refine k_assign ?_); refine rl_pure (pv_assign rfl) rfl rfl rfl ?_) | ((with_reducible refine k_and ?_); refine rl_pure (pv_and rfl rfl) rfl rfl rfl ?_))
  (first | refine ret_r (ret1 rfl by_res (List.nil_sublist _) ⟨_, rfl, ?_⟩) | refine ret_n (ret1 rfl by_res (List.nil_sublist _) ⟨_, rfl, ?_⟩))
  exact ⟨congrArg int (iand32 n), rfl⟩
def calcR (op k a : Int) : Int :=
  if op = 11 then (a + k) % 4294967296 else if op = 12 then (a - k) % 4294967296 else if op = 13 then mulm a k
  else if op = 14 then iand .i64 a k else if op = 15 then ior .i64 a k else shr32 a k
theorem wrap_mod (n : Int) : IntKind.i64.wrap n % 4294967296 = n % 4294967296 := by
  rw [IntKind.wrap_i64]; omega
theorem calc56 (p : Nat) (real : Int) (rows : List (List V)) (m : M) (tk : Bool) (op k : Int) (hm : MOk m) (hk : W32 k) : TriR Try.prog 56 [.raw (.pointer (some ⟨p, 0, none⟩)), int op, int k] [.box p 72 (rcells real rows m tk)] fun v H' =>
    v = int (calcR op k m.a) ∧ H' = [.box p 72 (rcells real rows m tk)] := by
  obtain ⟨⟨a0, a1⟩, ⟨x0, x1⟩, _⟩ := hm
  obtain ⟨k0, k1⟩ := hk
  refine TriR.of (tri_of Try.func56 rfl Try.ntmps56 rfl fun j => ?_)
  repeat' (first | (with_reducible first | refine aw_seq ?_ | refine rl_nil ?_ | refine aw_region ?_ | refine then_n ?_ | refine aw_block ?_ | refine then_exit ?_ | refine then_ret ?_ | refine in_n ?_ | refine in_ret ?_ | refine aw_exit ?_ | refine aw_ret ?_ | refine aw_skip ?_ | refine in_exit_eq rfl ?_) | ((with_reducible refine k_move ?_); refine rl_pure (pv_move rfl) rfl rfl rfl ?_) | ((with_reducible refine k_assign ?_); refine rl_pure (pv_assign rfl) rfl rfl rfl ?_) | ((with_reducible refine k_load ?_); refine rl_val (vv_load_box (by rfl) by_memb (by rfl) by_bd) rfl rfl rfl ?_) | ((with_reducible refine k_fieldAddr ?_); refine rl_pure (pv_fieldAddr rfl) rfl rfl rfl ?_) | ((with_reducible refine k_eql ?_); refine rl_pure (pv_eql rfl rfl) rfl rfl rfl ?_) | ((with_reducible refine k_gtr ?_); refine rl_pure (pv_gtr rfl rfl) rfl rfl rfl ?_) | ((with_reducible refine k_add ?_); refine rl_pure (pv_add_in rfl rfl (by omega)) rfl rfl rfl ?_) | ((with_reducible refine k_sub ?_); refine rl_pure (pv_sub_in rfl rfl (by omega)) rfl rfl rfl ?_) | ((with_reducible refine k_nilCheck ?_); refine rl_pure (pv_nilCheck rfl) rfl rfl rfl ?_) | ((with_reducible refine k_and ?_); refine rl_pure (pv_and rfl rfl) rfl rfl rfl ?_) | ((with_reducible refine k_or ?_); refine rl_pure (pv_or rfl rfl) rfl rfl rfl ?_) | ((with_reducible refine k_shr ?_); refine rl_pure (pv_shr rfl rfl (by omega)) rfl rfl rfl ?_) | ((with_reducible refine k_mul ?_); refine rl_pure (pv_mul rfl rfl) rfl rfl rfl ?_) | ((with_reducible refine k_callv ?_); refine rl_op rfl (op_callF rfl rfl (word55 _) rfl ?_)) | (((with_reducible refine k_cond ?_); refine aw_cond rfl ?_ ?_) <;> intro hb <;> (have hc := hb) <;> (try simp only [decide_eq_true_eq, decide_eq_false_iff_not, Int.not_lt, Int.not_le, ne_eq, Bool.not_eq_true, Bool.not_eq_false, Decidable.not_not] at hc) <;> (try (exfalso; omega)) <;> (try (first | contradiction | (cases hc; done)))))
  all_goals
    (first | refine ret_r (retok_pick (.cons .here .nil) (ret1 rfl by_res (List.Sublist.refl _) ⟨_, rfl, ?_⟩)) | refine ret_n (retok_pick (.cons .here .nil) (ret1 rfl by_res (List.Sublist.refl _) ⟨_, rfl, ?_⟩)))
    refine ⟨congrArg int ?_, rfl⟩
    unfold calcR
    repeat (first | rw [if_pos (by omega)] | rw [if_neg (by omega)])
    try (unfold shr32; first | rw [if_pos (by omega)] | rw [if_neg (by omega)])
    try exact wrap_mod _
theorem divided57 (p : Nat) (real : Int) (rows : List (List V)) (m : M) (tk : Bool) (op : Int) (hm : MOk m) : TriR Try.prog 57 [.raw (.pointer (some ⟨p, 0, none⟩)), int op] [.box p 72 (rcells real rows m tk)] fun v H' =>
    v = int (if m.x = 0 then 0 else if op = 24 then m.a / m.x else m.a % m.x) ∧ H' = [.box p 72 (rcells real rows { m with dead := m.dead || decide (m.x = 0) } tk)] := by
  obtain ⟨⟨a0, a1⟩, ⟨x0, x1⟩, _⟩ := hm
  refine TriR.of (tri_of Try.func57 rfl Try.ntmps57 rfl fun j => ?_)
  repeat' (first | (with_reducible first | refine aw_seq ?_ | refine rl_nil ?_ | refine aw_region ?_ | refine then_n ?_ | refine aw_block ?_ | refine then_exit ?_ | refine then_ret ?_ | refine in_n ?_ | refine in_ret ?_ | refine aw_exit ?_ | refine aw_ret ?_ | refine aw_skip ?_ | refine in_exit_eq rfl ?_) | ((with_reducible refine k_move ?_); refine rl_pure (pv_move rfl) rfl rfl rfl ?_) | ((with_reducible refine k_assign ?_); refine rl_pure (pv_assign rfl) rfl rfl rfl ?_) | ((with_reducible refine k_load ?_); refine rl_val (vv_load_box (by rfl) by_memb (by rfl) by_bd) rfl rfl rfl ?_) | ((with_reducible refine k_fieldAddr ?_); refine rl_pure (pv_fieldAddr rfl) rfl rfl rfl ?_) | ((with_reducible refine k_store ?_); refine rl_op rfl (op_store_box (by rfl) (by rfl) (V.okc_or (by rfl)) by_upd (by rfl) (by first | exact Nat.le_of_ble_eq_true rfl | assumption) ?_)) | ((with_reducible refine k_eql ?_); refine rl_pure (pv_eql rfl rfl) rfl rfl rfl ?_) | ((with_reducible refine k_nilCheck ?_); refine rl_pure (pv_nilCheck rfl) rfl rfl rfl ?_) | (with_reducible refine dl_nil by_app ?_) | ((with_reducible refine kd_move ?_); refine dl_pure (by assumption) (pv_move rfl) by_wants rfl rfl ?_) | ((with_reducible refine kd_assign ?_); refine dl_pure (by assumption) (pv_assign rfl) by_wants rfl rfl ?_) | ((with_reducible refine kd_fieldAddr ?_); refine dl_pure (by assumption) (pv_fieldAddr rfl) by_wants rfl rfl ?_) | ((with_reducible refine kd_quo ?_); refine dl_pure (by assumption) (pv_quo_in rfl rfl (by omega)) by_wants rfl rfl ?_) | ((with_reducible refine kd_rem ?_); refine dl_pure (by assumption) (pv_rem_in rfl rfl (by omega)) by_wants rfl rfl ?_) | ((with_reducible refine kd_nilCheck ?_); refine dl_pure (by assumption) (pv_nilCheck rfl) by_wants rfl rfl ?_) | ((with_reducible refine kd_load ?_); refine dl_take (by assumption) (hv_load_box (by assumption) (by rfl) by_mem0 (by rfl) by_bd) by_wants rfl rfl ?_) | (refine aw_draw (id := 5) [(false, 0), (false, 1), (false, 2), (false, 3), (false, 4), (false, 5), (false, 6), (false, 7), (false, 8), (false, 9)] [] (by kernel_rfl) (by decide +kernel) (by decide) by_lit .nil by_nos fun jd hjd => ?_) | (refine aw_draw (id := 6) [(false, 0), (false, 1), (false, 2), (false, 3), (false, 4), (false, 5), (false, 6), (false, 7), (false, 8), (false, 9)] [] (by kernel_rfl) (by decide +kernel) (by decide) by_lit .nil by_nos fun jd hjd => ?_) | (((with_reducible refine k_cond ?_); refine aw_cond rfl ?_ ?_) <;> intro hb <;> (have hc := hb) <;> (try simp only [decide_eq_true_eq, decide_eq_false_iff_not, Int.not_lt, Int.not_le, ne_eq, Bool.not_eq_true, Bool.not_eq_false, Decidable.not_not] at hc) <;> (try (exfalso; omega)) <;> (try (first | contradiction | (cases hc; done)))))
  · (first | refine ret_r (retok_pick (.cons .here .nil) (ret1 rfl by_res (List.Sublist.refl _) ⟨_, rfl, ?_⟩)) | refine ret_n (retok_pick (.cons .here .nil) (ret1 rfl by_res (List.Sublist.refl _) ⟨_, rfl, ?_⟩)))
    rw [show decide (m.x = 0) = true from decide_eq_true hc, Bool.or_true, if_pos hc]
    exact ⟨rfl, rfl⟩
  · (first | refine ret_r (retok_pick (.cons .here .nil) (ret1 rfl by_res (List.Sublist.refl _) ⟨_, rfl, ?_⟩)) | refine ret_n (retok_pick (.cons .here .nil) (ret1 rfl by_res (List.Sublist.refl _) ⟨_, rfl, ?_⟩)))
    rw [show decide (m.x = 0) = false from decide_eq_false (by omega), Bool.or_false, if_neg (by omega), if_pos hc]
    exact ⟨rfl, rfl⟩
  · (first | refine ret_r (retok_pick (.cons .here .nil) (ret1 rfl by_res (List.Sublist.refl _) ⟨_, rfl, ?_⟩)) | refine ret_n (retok_pick (.cons .here .nil) (ret1 rfl by_res (List.Sublist.refl _) ⟨_, rfl, ?_⟩)))
    rw [show decide (m.x = 0) = false from decide_eq_false (by omega), Bool.or_false, if_neg (by omega), if_neg (by omega)]
    exact ⟨rfl, rfl⟩
theorem jumps58 (p : Nat) (real : Int) (rows : List (List V)) (m : M) (tk : Bool) (i : Ins) : TriR Try.prog 58 [.raw (.pointer (some ⟨p, 0, none⟩)), int i.op, int i.k] [.box p 72 (rcells real rows m tk)] fun v H' =>
    v = bool (jmp i m) ∧ H' = [.box p 72 (rcells real rows m tk)] := by
  refine TriR.of (tri_of Try.func58 rfl Try.ntmps58 rfl fun j => ?_)
  repeat' (first | (with_reducible first | refine aw_seq ?_ | refine rl_nil ?_ | refine aw_region ?_ | refine then_n ?_ | refine aw_block ?_ | refine then_exit ?_ | refine then_ret ?_ | refine in_n ?_ | refine in_ret ?_ | refine aw_exit ?_ | refine aw_ret ?_ | refine aw_skip ?_ | refine in_exit_eq rfl ?_) | ((with_reducible refine k_move ?_); refine rl_pure (pv_move rfl) rfl rfl rfl ?_) | ((with_reducible refine k_assign ?_); refine rl_pure (pv_assign rfl) rfl rfl rfl ?_) | ((with_reducible refine k_load ?_); refine rl_val (vv_load_box (by rfl) by_memb (by rfl) by_bd) rfl rfl rfl ?_) | ((with_reducible refine k_fieldAddr ?_); refine rl_pure (pv_fieldAddr rfl) rfl rfl rfl ?_) | ((with_reducible refine k_eql ?_); refine rl_pure (pv_eql rfl rfl) rfl rfl rfl ?_) | ((with_reducible refine k_neq ?_); refine rl_pure (pv_neq rfl rfl) rfl rfl rfl ?_) | ((with_reducible refine k_gtr ?_); refine rl_pure (pv_gtr rfl rfl) rfl rfl rfl ?_) | ((with_reducible refine k_geq ?_); refine rl_pure (pv_geq rfl rfl) rfl rfl rfl ?_) | ((with_reducible refine k_nilCheck ?_); refine rl_pure (pv_nilCheck rfl) rfl rfl rfl ?_) | ((with_reducible refine k_and ?_); refine rl_pure (pv_and rfl rfl) rfl rfl rfl ?_) | (with_reducible refine dl_nil by_app ?_) | ((with_reducible refine kd_move ?_); refine dl_pure (by assumption) (pv_move rfl) by_wants rfl rfl ?_) | ((with_reducible refine kd_assign ?_); refine dl_pure (by assumption) (pv_assign rfl) by_wants rfl rfl ?_) | ((with_reducible refine kd_fieldAddr ?_); refine dl_pure (by assumption) (pv_fieldAddr rfl) by_wants rfl rfl ?_) | ((with_reducible refine kd_eql ?_); refine dl_pure (by assumption) (pv_eql rfl rfl) by_wants rfl rfl ?_) | ((with_reducible refine kd_gtr ?_); refine dl_pure (by assumption) (pv_gtr rfl rfl) by_wants rfl rfl ?_) | ((with_reducible refine kd_nilCheck ?_); refine dl_pure (by assumption) (pv_nilCheck rfl) by_wants rfl rfl ?_) | ((with_reducible refine kd_load ?_); refine dl_take (by assumption) (hv_load_box (by assumption) (by rfl) by_mem0 (by rfl) by_bd) by_wants rfl rfl ?_) | (refine aw_draw (id := 11) [(false, 0), (false, 1), (false, 2), (false, 3), (false, 4), (false, 5), (false, 6), (false, 7), (false, 8), (false, 9)] [] (by kernel_rfl) (by decide +kernel) (by decide) by_lit .nil by_nos fun jd hjd => ?_) | (refine aw_draw (id := 12) [(false, 0), (false, 1), (false, 2), (false, 3), (false, 4), (false, 5), (false, 6), (false, 7), (false, 8), (false, 9)] [] (by kernel_rfl) (by decide +kernel) (by decide) by_lit .nil by_nos fun jd hjd => ?_) | (((with_reducible refine k_cond ?_); refine aw_cond rfl ?_ ?_) <;> intro hb <;> (have hc := hb) <;> (try simp only [decide_eq_true_eq, decide_eq_false_iff_not, Int.not_lt, Int.not_le, ne_eq, Bool.not_eq_true, Bool.not_eq_false, Decidable.not_not] at hc) <;> (try (exfalso; omega)) <;> (try (first | contradiction | (cases hc; done)))))
  all_goals
    (first | refine ret_r (retok_pick (.cons .here .nil) (ret1 rfl by_res (List.Sublist.refl _) ⟨_, rfl, ?_⟩)) | refine ret_n (retok_pick (.cons .here .nil) (ret1 rfl by_res (List.Sublist.refl _) ⟨_, rfl, ?_⟩)))
    refine ⟨congrArg bool ?_, rfl⟩
    unfold jmp
    repeat (first | rw [if_pos (by omega)] | rw [if_neg (by omega)])
end Go.Proofs.Ytobablbklkpchaa

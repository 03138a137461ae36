import Derived.Test.YtobablbklkpchaaK11
set_option linter.unusedVariables false
set_option linter.unusedSimpArgs false
namespace Go.Proofs.Ytobablbklkpchaa
open Go Go.AX
set_option maxHeartbeats 8000000
set_option maxRecDepth 20000
attribute [local irreducible] AW RL OP PureV ValV HV DL Tri TriR Fun RetOk ResV
/-- The instructions that may be done behind one, in the program's order. -/
def fol (at_ : Int) (i : Ins) : List Int :=
  if i.op = 32 then [] else if i.op = 31 then [at_ + 1 + i.k]
  else if 25 ≤ i.op ∧ i.op ≤ 30 then (if i.t = i.f then [at_ + 1 + i.t] else [at_ + 1 + i.t, at_ + 1 + i.f])
  else [at_ + 1]
theorem followers46 (L : List Ins) (n : Nat) (i : Ins) (hL : Code_ L) (hi : L[n]? = some i) : TriR Try.prog 46 [.ro (L.map Ins.cells), int n] [] fun v H' =>
    v = .ro ((fol n i).map fun q => [int q]) ∧ H' = [] := by
  have hn : n < L.length := (List.getElem?_eq_some_iff.1 hi).1
  have hlen := hL.len
  have hs := hL.safe n i hi
  simp only [Safe] at hs
  have hr : (L.map Ins.cells)[n]? = some i.cells := by simp [hi]
  refine TriR.of (tri_of Try.func46 rfl Try.ntmps46 rfl fun j => ?_)
  repeat' (first | (with_reducible first | refine aw_seq ?_ | refine rl_nil ?_ | refine aw_region ?_ | refine then_n ?_ | refine aw_block ?_ | refine then_exit ?_ | refine then_ret ?_ | refine in_n ?_ | refine in_ret ?_ | refine aw_exit ?_ | refine aw_ret ?_ | refine aw_skip ?_ | refine in_exit_eq rfl ?_) | ((with_reducible refine k_move ?_); refine rl_pure (pv_move rfl) rfl rfl rfl ?_) | ((with_reducible refine k_assign ?_); refine rl_pure (pv_assign rfl) rfl rfl rfl ?_) | ((with_reducible refine k_load ?_); (first | refine rl_val (vv_load_ro_whole (by rfl) (by rfl) (by first | rfl | exact ins_len _)) rfl rfl rfl ?_ | refine rl_val (vv_load_box (by rfl) by_memb (by rfl) by_bd) rfl rfl rfl ?_)) | ((with_reducible refine k_fieldAddr ?_); refine rl_pure (pv_fieldAddr rfl) rfl rfl rfl ?_) | ((with_reducible refine k_store ?_); refine rl_op rfl (op_store_box_whole (by rfl) (by rfl) (V.okc_or (by rfl)) by_upd (by first | rfl | exact ins_len _) (by first | rfl | exact ins_len _) ?_)) | ((with_reducible refine k_alloc ?_); refine rl_op rfl (op_alloc (by decide) rfl fun b => ?_)) | ((with_reducible refine k_eql ?_); refine rl_pure (pv_eql rfl rfl) rfl rfl rfl ?_) | ((with_reducible refine k_neq ?_); refine rl_pure (pv_neq rfl rfl) rfl rfl rfl ?_) | ((with_reducible refine k_add ?_); refine rl_pure (pv_add_in rfl rfl (by omega)) rfl rfl rfl ?_) | ((with_reducible refine k_indexAddr ?_); refine rl_pure (pv_indexAddr_ro (by rfl) rfl (by omega) (by first | rfl | assumption) (by first | rfl | exact ins_len _)) rfl rfl rfl ?_) | ((with_reducible refine k_buildSlice ?_); refine rl_op rfl (op_buildSlice_ro rfl rfl rfl (by rfl) (by rfl) (by rfl) (by rfl) rfl by_rows ?_)) | ((with_reducible refine k_pick ?_); (first | refine rl_pure (pv_pick_t rfl by_bd rfl) rfl rfl rfl ?_ | refine rl_pure (pv_pick_f rfl by_bd rfl) rfl rfl rfl ?_)) | ((with_reducible refine k_guard ?_); (first | refine rl_on_yes rfl rfl rfl by_bd rfl ?_ | refine rl_off_t rfl rfl rfl by_bd rfl ?_)) | ((with_reducible refine k_cond ?_); (first | refine aw_cond_f rfl ?_ | refine aw_cond_yes rfl (by assumption) ?_ | refine aw_cond_no rfl (by assumption) ?_)) | ((with_reducible refine k_callv ?_); refine rl_op rfl (op_callF rfl rfl (isJump_fun _) rfl ?_)) | (((with_reducible refine k_guard ?_); first | refine rl_if_t rfl rfl rfl rfl ?_ ?_ | refine rl_if_f rfl rfl rfl rfl ?_ ?_) <;> intro hb <;> (have hc := hb) <;> (try simp only [decide_eq_true_eq, decide_eq_false_iff_not, Int.not_lt, Int.not_le, ne_eq, Bool.not_eq_true, Bool.not_eq_false, Decidable.not_not] at hc) <;> (try (exfalso; omega)) <;> (try (first | contradiction | (cases hc; done)))) | (((with_reducible refine k_cond ?_); refine aw_cond rfl ?_ ?_) <;> intro hb <;> (have hc := hb) <;> (try simp only [decide_eq_true_eq, decide_eq_false_iff_not, Int.not_lt, Int.not_le, ne_eq, Bool.not_eq_true, Bool.not_eq_false, Decidable.not_not] at hc) <;> (try (exfalso; omega)) <;> (try (first | contradiction | (cases hc; done)))))
  all_goals first
  | (refine ret_r (ret1 rfl (res_le (res_tmp rfl) le_nil_ro) (List.nil_sublist _) ⟨_, rfl, ?_⟩)
     exact ⟨by rw [fol, if_pos (by omega)]; rfl, rfl⟩)
  | ((first | refine ret_r (ret1 rfl by_res (List.nil_sublist _) ⟨_, rfl, ?_⟩) | refine ret_n (ret1 rfl by_res (List.nil_sublist _) ⟨_, rfl, ?_⟩))
     refine ⟨?_, rfl⟩
     first
     | (rw [fol, if_neg (by omega), if_pos (by omega)]; rfl)
     | (rw [fol, if_neg (by omega), if_neg (by omega), if_pos (by omega), if_neg (by omega)]; rfl)
     | (rw [fol, if_neg (by omega), if_neg (by omega), if_pos (by omega), if_pos (by omega)]; rfl)
     | (rw [fol, if_neg (by omega), if_neg (by omega), if_neg (by omega)]; rfl))
end Go.Proofs.Ytobablbklkpchaa

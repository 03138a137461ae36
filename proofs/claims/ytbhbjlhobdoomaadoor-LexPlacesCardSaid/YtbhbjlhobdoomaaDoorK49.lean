import Derived.Test.YtbhbjlhobdoomaaDoorK48
import Derived.Lib.Bytealg
set_option linter.unusedVariables false
set_option linter.unusedSimpArgs false
namespace Go.AX
open Go.ChangeShapes Go.WideShapes Go.ChangeAt Go.RowKit
section
variable {P : Program} {N : Nat} {j : J P N} {s : Sl} {H : List Ch} {dst : Option Tmp} {ty : TypeId} {pos : String} {after : Array Edge} {g : Option (Nat × Bool)} {x y : Operand}
/-- A call of internal/bytealg.CountString. -/
theorem pv_countString {f : FuncId} {fn : Func} {p : ByteArray} {c : Int} {ts : Array TypeId} (hx : s.ev x = some (.raw (.string p))) (hy : s.ev y = some (.raw (.int .u8 c))) (hf : P.funcs[f]? = some fn) (hn : (fn.name == "runtime.NumGoroutine") = false) (hb : fn.body.isNone = true) (h1 : Extern.findNext fn = none) (h2 : Extern.find fn = some Extern.BytealgCount.count) :
    PureV j s H ⟨dst, .call { callee := .value (.func f), args := #[x, y], argTypes := ts }, ty, pos, after, g⟩ (.raw (.int .i64 (Lib.countByte p.data.toList c.toNat.toUInt8))) := fun a w st => by
  have h3 := st.sl.ev hx
  have h4 := st.sl.ev hy
  simp only [conc] at h3 h4
  refine ⟨.int .i64 (Lib.countByte p.data.toList c.toNat.toUInt8), fun w' => ?_, rfl⟩
  have := run_callFunc_extern hf hn hb h1 h2 #[.string p, .int .u8 c] w'
  rw [Lib.run_countString] at this
  have e : a.eval (.func f) = .func (.func f) #[] #[] := rfl
  simp [execOp, resolve, e, Deferred.ofValue, invoke, h3, h4, this]
end
end Go.AX
namespace Go.Proofs.YtbhbjlhobdoomaaDoor
open Go Go.AX
set_option maxHeartbeats 4000000
set_option maxRecDepth 20000
attribute [local irreducible] AW RL RLI OP PureV ValV HV DL Tri TriR Fun RetOk ResV
abbrev nl1 : ByteArray := ⟨#[10]⟩
theorem count38 (s : ByteArray) : Fun Tryd.prog 38 [str s, str nl1] (int (Lib.countByte s.data.toList 10 : Nat)) := by
  have hz : (ByteArray.mk #[10]).size = 1 := rfl
  refine Fun.of (TriR.of (tri_of Tryd.func38 rfl Tryd.ntmps38 rfl fun j => ?_))
  repeat' (first | (with_reducible first | refine aw_seq ?_ | refine rl_nil ?_ | refine aw_region ?_ | refine then_n ?_ | refine aw_block ?_ | refine then_exit ?_ | refine then_ret ?_ | refine in_n ?_ | refine in_ret ?_ | refine aw_exit ?_ | refine aw_ret ?_ | refine aw_skip ?_ | refine in_exit_eq rfl ?_ | refine awr_succ ?_) | ((with_reducible refine k_move ?_); refine rl_pure (pv_move rfl) rfl rfl rfl ?_) | ((with_reducible refine k_assign ?_); refine rl_pure (pv_assign rfl) rfl rfl rfl ?_) | ((with_reducible refine k_eql ?_); refine rl_pure (pv_eql rfl rfl) rfl rfl rfl ?_) | ((with_reducible refine k_index ?_); refine rl_pure (pv_index_str rfl rfl by_bound) rfl rfl rfl ?_) | ((with_reducible refine k_len ?_); refine rl_pure (pv_len_str rfl) rfl rfl rfl ?_) | ((with_reducible refine k_cond ?_); (first | refine aw_cond_t rfl ?_ | refine aw_cond_f rfl ?_)))
  refine rl_pure (pv_countString rfl rfl Tryd.func56 (by kernel_rfl) (by kernel_rfl) (by kernel_rfl) (by kernel_rfl)) rfl rfl rfl ?_
  repeat' (first | (with_reducible first | refine aw_seq ?_ | refine rl_nil ?_ | refine aw_region ?_ | refine then_n ?_ | refine aw_block ?_ | refine then_exit ?_ | refine then_ret ?_ | refine in_n ?_ | refine in_ret ?_ | refine aw_exit ?_ | refine aw_ret ?_ | refine aw_skip ?_ | refine in_exit_eq rfl ?_ | refine awr_succ ?_) | ((with_reducible refine k_assign ?_); refine rl_pure (pv_assign rfl) rfl rfl rfl ?_))
  (first | refine ret_r (ret1 rfl by_res (List.nil_sublist _) ⟨_, rfl, ?_⟩) | refine ret_n (ret1 rfl by_res (List.nil_sublist _) ⟨_, rfl, ?_⟩))
  exact ⟨rfl, rfl⟩
theorem last39 (s : ByteArray) (hs : s.size ≤ 100000) : Fun Tryd.prog 39 [str s, str nl1] (int (lastB s 10 s.size)) := by
  have hz : (ByteArray.mk #[10]).size = 1 := rfl
  have g := last58 s 10 hs
  refine Fun.of (TriR.of (tri_of Tryd.func39 rfl Tryd.ntmps39 rfl fun j => ?_))
  repeat' (first | (with_reducible first | refine aw_seq ?_ | refine rl_nil ?_ | refine aw_region ?_ | refine then_n ?_ | refine aw_block ?_ | refine then_exit ?_ | refine then_ret ?_ | refine in_n ?_ | refine in_ret ?_ | refine aw_exit ?_ | refine aw_ret ?_ | refine aw_skip ?_ | refine in_exit_eq rfl ?_ | refine awr_succ ?_) | ((with_reducible refine k_move ?_); refine rl_pure (pv_move rfl) rfl rfl rfl ?_) | ((with_reducible refine k_assign ?_); refine rl_pure (pv_assign rfl) rfl rfl rfl ?_) | ((with_reducible refine k_eql ?_); refine rl_pure (pv_eql rfl rfl) rfl rfl rfl ?_) | ((with_reducible refine k_index ?_); refine rl_pure (pv_index_str rfl rfl by_bound) rfl rfl rfl ?_) | ((with_reducible refine k_len ?_); refine rl_pure (pv_len_str rfl) rfl rfl rfl ?_) | ((with_reducible refine k_cond ?_); (first | refine aw_cond_t rfl ?_ | refine aw_cond_f rfl ?_)) | ((with_reducible refine k_callv ?_); refine rl_op rfl (op_callF rfl rfl (g) rfl ?_)))
  (first | refine ret_r (ret1 rfl by_res (List.nil_sublist _) ⟨_, rfl, ?_⟩) | refine ret_n (ret1 rfl by_res (List.nil_sublist _) ⟨_, rfl, ?_⟩))
  exact ⟨rfl, rfl⟩
end Go.Proofs.YtbhbjlhobdoomaaDoor

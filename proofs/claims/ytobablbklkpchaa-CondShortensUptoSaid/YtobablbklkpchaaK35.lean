import Derived.Test.YtobablbklkpchaaK34
import Derived.Test.YtobablbklkpchaaAx1
set_option linter.unusedVariables false
set_option linter.unusedSimpArgs false
namespace Go.Proofs.Ytobablbklkpchaa
open Go Go.AX
set_option maxHeartbeats 8000000
set_option maxRecDepth 20000
attribute [local irreducible] AW RL OP PureV ValV HV DL Tri TriR Fun RetOk ResV
theorem clone33 (L : List Ins) (hlen : 0 < L.length ∧ L.length ≤ 400) : Fun Try.prog 33 [.ro (L.map Ins.cells)] (.ro (L.map Ins.cells)) := by
  have hne : L.map Ins.cells ≠ [] := fun h => by rw [List.map_eq_nil_iff] at h; rw [h] at hlen; exact absurd hlen.1 (by decide)
  refine Fun.of (TriR.of (tri_of Try.func33 rfl Try.ntmps33 rfl fun j => ?_))
  repeat' (first | (with_reducible first | refine aw_seq ?_ | refine rl_nil ?_ | refine aw_region ?_ | refine then_n ?_ | refine aw_block ?_ | refine then_exit ?_ | refine then_ret ?_ | refine in_n ?_ | refine in_ret ?_ | refine aw_exit ?_ | refine aw_ret ?_ | refine aw_skip ?_ | refine in_exit_eq rfl ?_) | ((with_reducible refine k_move ?_); refine rl_pure (pv_move rfl) rfl rfl rfl ?_) | ((with_reducible refine k_assign ?_); refine rl_pure (pv_assign rfl) rfl rfl rfl ?_) | ((with_reducible refine k_eql ?_); refine rl_pure (pv_eql_nil_ro (by rfl) (by rfl) (by assumption)) rfl rfl rfl ?_) | ((with_reducible refine k_cond ?_); refine aw_cond_f rfl ?_))
  refine rl_op rfl (op_buildSlice rfl rfl rfl (by rfl) (by rfl) (by rfl) (by rfl) rfl fun sv => ?_)
  repeat' ((with_reducible refine k_move ?_); refine rl_pure (pv_move rfl) rfl rfl rfl ?_)
  refine rl_op rfl (op_append rfl .here rfl rfl rfl rfl (by intro r hr; obtain ⟨_, _, rfl⟩ := List.mem_map.1 hr; rfl) (by simp only [List.length_map, List.length_nil]; omega) rfl fun sv' => ?_)
  refine rl_freeze (d := 7) rfl by_take ?_
  repeat' (first | (with_reducible first | refine aw_seq ?_ | refine rl_nil ?_ | refine aw_region ?_ | refine then_n ?_ | refine aw_block ?_ | refine then_exit ?_ | refine then_ret ?_ | refine in_n ?_ | refine in_ret ?_ | refine aw_exit ?_ | refine aw_ret ?_ | refine aw_skip ?_ | refine in_exit_eq rfl ?_) | ((with_reducible refine k_assign ?_); refine rl_pure (pv_assign rfl) rfl rfl rfl ?_))
  (first | refine ret_r (ret1 rfl by_res (List.nil_sublist _) ⟨_, rfl, ?_⟩) | refine ret_n (ret1 rfl by_res (List.nil_sublist _) ⟨_, rfl, ?_⟩))
  exact ⟨rfl, rfl⟩
def optP (L : List Ins) : List Ins := if (chk L).2 = 0 then optL L else []
theorem rnd_nodes (L : List Ins) : layL (mkTo (shTo (ndsL L) (ndsL L).length) (shTo (ndsL L) (ndsL L).length).length) = rnd L := by
  rw [shTo_len, ndsL_len]; rfl
theorem optimise14 (L : List Ins) : Fun Try.prog 14 [.ro (L.map Ins.cells)] (.tup [.ro ((optP L).map Ins.cells), int (chk L).2]) := by
  have hck := check8 L
  refine Fun.of (TriR.of (tri_of Try.func14 rfl Try.ntmps14 rfl fun j => ?_))
  repeat' (first | (with_reducible first | refine aw_seq ?_ | refine rl_nil ?_ | refine aw_region ?_ | refine then_n ?_ | refine aw_block ?_ | refine then_exit ?_ | refine then_ret ?_ | refine in_n ?_ | refine in_ret ?_ | refine aw_exit ?_ | refine aw_ret ?_ | refine aw_skip ?_ | refine in_exit_eq rfl ?_) | ((with_reducible refine k_move ?_); refine rl_pure (pv_move rfl) rfl rfl rfl ?_) | ((with_reducible refine k_assign ?_); refine rl_pure (pv_assign rfl) rfl rfl rfl ?_) | ((with_reducible refine k_neq ?_); refine rl_pure (pv_neq rfl rfl) rfl rfl rfl ?_) | ((with_reducible refine k_extract ?_); refine rl_pure (pv_extract rfl rfl) rfl rfl rfl ?_) | ((with_reducible refine k_callv ?_); refine rl_op rfl (op_callF rfl rfl (hck) rfl ?_)) | (((with_reducible refine k_cond ?_); refine aw_cond rfl ?_ ?_) <;> intro hb <;> (have hc := hb) <;> (try simp only [decide_eq_true_eq, decide_eq_false_iff_not, Int.not_lt, Int.not_le, ne_eq, Bool.not_eq_true, Bool.not_eq_false, Decidable.not_not] at hc) <;> (try (exfalso; omega)) <;> (try (first | contradiction | (cases hc; done)))))
  · refine ret_r (ret2 rfl (res_le (res_tmp rfl) le_nil_ro) (res_tmp rfl) (List.nil_sublist _) ⟨_, rfl, ?_⟩)
    exact ⟨by rw [optP, if_neg (by omega)]; rfl, rfl⟩
  have h0 : (chk L).2 = 0 := by omega
  have hL := chk_code h0
  have hcl := clone33 L hL.len
  repeat' (first | (with_reducible first | refine aw_seq ?_ | refine rl_nil ?_ | refine aw_region ?_ | refine then_n ?_ | refine aw_block ?_ | refine then_exit ?_ | refine then_ret ?_ | refine in_n ?_ | refine in_ret ?_ | refine aw_exit ?_ | refine aw_ret ?_ | refine aw_skip ?_ | refine in_exit_eq rfl ?_) | ((with_reducible refine k_assign ?_); refine rl_pure (pv_assign rfl) rfl rfl rfl ?_) | ((with_reducible refine k_callv ?_); refine rl_op rfl (op_callF rfl rfl (hcl) rfl ?_)))
  refine aw_iter (α := List Ins) (fun q => [(0, .ro (L.map Ins.cells)), (6, .ro (q.map Ins.cells))]) (fun q => []) (fun q => Code_ q ∧ optL L = optL q) (fun q => mu q)
    L ⟨hL, rfl⟩ (by (repeat (first | exact sub_nil | refine sub_cons (by first | rfl | (simp; done)) ?_))) .nil fun now hI => ?_
  obtain ⟨hN, hE⟩ := hI
  have hlen := hN.len
  have hn := ndsL_NI hN
  have hln := ndsL_len now
  have h1 := shTo_NI hn (ndsL now).length
  have h2 := mkTo_NI h1 (shTo (ndsL now) (ndsL now).length).length
  have hl1 := shTo_len (ndsL now) (ndsL now).length
  have hl2 := mkTo_len (shTo (ndsL now) (ndsL now).length) (shTo (ndsL now) (ndsL now).length).length
  repeat' (first | (with_reducible first | refine aw_seq ?_ | refine rl_nil ?_ | refine aw_region ?_ | refine then_n ?_ | refine aw_block ?_ | refine then_exit ?_ | refine then_ret ?_ | refine in_n ?_ | refine in_ret ?_ | refine aw_exit ?_ | refine aw_ret ?_ | refine aw_skip ?_ | refine in_exit_eq rfl ?_) | ((with_reducible refine k_move ?_); refine rl_pure (pv_move rfl) rfl rfl rfl ?_))
  (first | refine rl_op rfl (op_callR rfl rfl .nil (nodes34 now hN) rfl ?_) | refine dl_op (by assumption) by_wants (op_callR rfl rfl .nil (nodes34 now hN) rfl ?_))
  rintro _ _ ⟨sv, rfl, rfl⟩
  repeat' (first | (with_reducible first | refine aw_seq ?_ | refine rl_nil ?_ | refine aw_region ?_ | refine then_n ?_ | refine aw_block ?_ | refine then_exit ?_ | refine then_ret ?_ | refine in_n ?_ | refine in_ret ?_ | refine aw_exit ?_ | refine aw_ret ?_ | refine aw_skip ?_ | refine in_exit_eq rfl ?_) | ((with_reducible refine k_move ?_); refine rl_pure (pv_move rfl) rfl rfl rfl ?_) | ((with_reducible refine k_assign ?_); refine rl_pure (pv_assign rfl) rfl rfl rfl ?_))
  (first | refine rl_op rfl (op_callR rfl rfl (.cons .here .nil) (shorten35 sv (ndsL now) hn.nok (by omega)) rfl ?_) | refine dl_op (by assumption) by_wants (op_callR rfl rfl (.cons .here .nil) (shorten35 sv (ndsL now) hn.nok (by omega)) rfl ?_))
  rintro _ _ ⟨rfl, rfl⟩
  repeat' (first | (with_reducible first | refine aw_seq ?_ | refine rl_nil ?_ | refine aw_region ?_ | refine then_n ?_ | refine aw_block ?_ | refine then_exit ?_ | refine then_ret ?_ | refine in_n ?_ | refine in_ret ?_ | refine aw_exit ?_ | refine aw_ret ?_ | refine aw_skip ?_ | refine in_exit_eq rfl ?_) | ((with_reducible refine k_move ?_); refine rl_pure (pv_move rfl) rfl rfl rfl ?_))
  (first | refine rl_op rfl (op_callR rfl rfl (.cons .here .nil) (marked36 sv _ h1.nok (by omega)) rfl ?_) | refine dl_op (by assumption) by_wants (op_callR rfl rfl (.cons .here .nil) (marked36 sv _ h1.nok (by omega)) rfl ?_))
  rintro _ _ ⟨rfl, rfl⟩
  have h37 := laid37 sv _ h2.nok (by omega)
  rw [rnd_nodes] at h37
  have h38 := equal38 (rnd now) now (.inr hlen.2)
  repeat' (first | (with_reducible first | refine aw_seq ?_ | refine rl_nil ?_ | refine aw_region ?_ | refine then_n ?_ | refine aw_block ?_ | refine then_exit ?_ | refine then_ret ?_ | refine in_n ?_ | refine in_ret ?_ | refine aw_exit ?_ | refine aw_ret ?_ | refine aw_skip ?_ | refine in_exit_eq rfl ?_) | ((with_reducible refine k_move ?_); refine rl_pure (pv_move rfl) rfl rfl rfl ?_) | ((with_reducible refine k_assign ?_); refine rl_pure (pv_assign rfl) rfl rfl rfl ?_) | ((with_reducible refine k_callv ?_); (first | refine rl_op rfl (op_callF rfl rfl (h38) rfl ?_) | refine rl_op rfl (op_callB rfl rfl h37 (bor_cons by_memb bor_nil) rfl ?_))) | (((with_reducible refine k_cond ?_); refine aw_cond rfl ?_ ?_) <;> intro hb <;> (have hc := hb) <;> (try simp only [decide_eq_true_eq, decide_eq_false_iff_not, Int.not_lt, Int.not_le, ne_eq, Bool.not_eq_true, Bool.not_eq_false, Decidable.not_not] at hc) <;> (try (exfalso; omega)) <;> (try (first | contradiction | (cases hc; done)))))
  · have hf : rnd now = now := by simpa using hc
    (first | refine ret_r (ret2 rfl by_res by_res (List.nil_sublist _) ⟨_, rfl, ?_⟩) | refine ret_n (ret2 rfl by_res by_res (List.nil_sublist _) ⟨_, rfl, ?_⟩))
    exact ⟨by rw [optP, if_pos h0, hE, optL_fix hf, h0], rfl⟩
  · have hf : rnd now ≠ now := by simpa using hc
    exact next_of (R := [_]) (rnd now) ⟨rnd_code hN, by rw [hE, optL_step hN hf]⟩ (mu_less hN hf) (by (repeat (first | exact sub_nil | refine sub_cons (by first | rfl | (simp; done)) ?_))) .nil
end Go.Proofs.Ytobablbklkpchaa

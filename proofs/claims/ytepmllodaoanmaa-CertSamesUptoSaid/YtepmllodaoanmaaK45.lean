import Derived.Test.YtepmllodaoanmaaK44
import Derived.Test.YtepmllodaoanmaaK43
import Derived.Test.YtepmllodaoanmaaK42
import Derived.Test.YtepmllodaoanmaaAx0
set_option linter.unusedVariables false
set_option linter.unusedSimpArgs false
namespace Go.Proofs.Ytepmllodaoanmaa
open Go Go.AX
set_option maxHeartbeats 8000000
set_option maxRecDepth 20000
attribute [local irreducible] AW RL OP PureV ValV HV DL DX Tri TriR Fun RetOk ResV
theorem sames5 (t : Typ) (a b : Dat) (hw : t.wt ≤ 1048576) (haw : a.wt ≤ 1048576) (hbw : b.wt ≤ 1048576) (hao : a.ok) (hbo : b.ok) : Fun Try.prog 5 [.agg t.cells, .agg a.cells, .agg b.cells] (bool true) := by
  have h7 := over7 t hw
  have h8 := overD8 a haw
  have h8b := overD8 b hbw
  have h9 := known9
  have h20 := same20 _ a b (Nat.le_refl _) hao hbo
  have h21 := same21 _ a b (Nat.le_refl _) hao hbo
  have h20a := same20 _ a a (Nat.le_refl _) hao hao
  rw [sameD_t.2 rfl] at h20a
  have h16 := Packed16 t a hw haw hao
  have h22 := Bits22 t hw
  have hfin : ∃ x y z : Int, bitsV t = .tup [int x, int y, int z] ∧ (0 ≤ y ∧ y ≤ 4503599627370496) ∧ (pkE t a = 0 → z = 0 → x ≤ 8 * (pkB t a).length ∧ 8 * (pkB t a).length < y + 8) := by
    unfold bitsV
    split
    · rename_i h0
      have hbd := szT_b t
      refine ⟨_, _, _, rfl, hbd.2, fun h _ => ?_⟩
      have hB : (pkB t a).length = pkLen t a := by rw [pkB, if_pos h, padN_len]
      have hr : rdE t a = 0 ∧ pkLen t a ≤ 4000 := by
        unfold pkE at h
        split at h
        · rename_i h1
          split at h
          · rename_i h2; exact ⟨h1, h2.2⟩
          · cases h
        · rename_i h1; exact absurd h h1
      obtain ⟨_, h1, h2⟩ := sz_T _ t a (Nat.le_refl _) (vld_ok h0) (rdE_0 hr.1).2
      rw [hB]
      have hl := hr.2
      unfold pkLen at hl ⊢
      omega
    · rename_i h0
      exact ⟨_, _, _, rfl, ⟨by decide, by decide⟩, fun _ h => absurd h h0⟩
  obtain ⟨x, y, z, hbv, hy, hfin⟩ := hfin
  have hL : (pkB t a).length ≤ 4000 := by
    unfold pkB
    split
    · rename_i h
      rw [padN_len]
      unfold pkE at h
      split at h
      · split at h
        · rename_i h2; exact h2.2
        · cases h
      · rename_i h1; exact absurd h h1
    · simp
  rw [hbv] at h22
  generalize sameD a b = sm at h20 h21
  generalize pkE t a = e16 at h16 hfin
  generalize pkB t a = b16 at h16 hfin hL
  rw [cells_eq] at h7 h16 h22 ⊢
  rw [dcells_eq a] at h8 h20 h21 h20a h16 ⊢
  rw [dcells_eq b] at h8b h20 h21 ⊢
  refine Fun.of (TriR.of (tri_of Try.func5 rfl Try.ntmps5 rfl fun j => ?_))
  repeat' (first | (with_reducible first | refine aw_seq ?_ | refine rl_nil ?_ | refine aw_region ?_ | refine then_n ?_ | refine aw_block ?_ | refine then_exit ?_ | refine then_ret ?_ | refine in_n ?_ | refine in_ret ?_ | refine aw_exit ?_ | refine aw_ret ?_ | refine aw_skip ?_ | refine in_exit_eq rfl ?_ | refine awr_succ ?_) | ((with_reducible refine k_assign ?_); refine rl_pure (pv_assign rfl) rfl rfl rfl ?_) | ((with_reducible refine k_load ?_); refine rl_val (vv_load_box_whole (by rfl) by_memb (by rfl) (by first | rfl | exact tcells_len _ | exact dcells_len _)) rfl rfl rfl ?_) | ((with_reducible refine k_box ?_); refine rl_op rfl (op_box rfl (V.okc_or (by rfl)) rfl fun b => ?_)))
  (first | refine rl_op rfl (op_callR rfl rfl .nil h7 rfl ?_) | refine dl_op (by assumption) by_wants (op_callR rfl rfl .nil h7 rfl ?_))
  rintro _ _ ⟨⟨g1, rfl⟩, rfl⟩
  repeat' (first | (with_reducible first | refine aw_seq ?_ | refine rl_nil ?_ | refine aw_region ?_ | refine then_n ?_ | refine aw_block ?_ | refine then_exit ?_ | refine then_ret ?_ | refine in_n ?_ | refine in_ret ?_ | refine aw_exit ?_ | refine aw_ret ?_ | refine aw_skip ?_ | refine in_exit_eq rfl ?_ | refine awr_succ ?_) | ((with_reducible refine k_move ?_); refine rl_pure (pv_move rfl) rfl rfl rfl ?_) | ((with_reducible refine k_assign ?_); refine rl_pure (pv_assign rfl) rfl rfl rfl ?_) | ((with_reducible refine k_load ?_); refine rl_val (vv_load_box_whole (by rfl) by_memb (by rfl) (by first | rfl | exact tcells_len _ | exact dcells_len _)) rfl rfl rfl ?_) | ((with_reducible refine k_pick ?_); refine rl_pure (pv_pick_t rfl by_bd rfl) rfl rfl rfl ?_) | ((with_reducible refine k_guard ?_); (first | refine rl_on_yes rfl rfl rfl by_bd rfl ?_ | refine rl_off_f rfl rfl rfl by_bd rfl ?_)) | ((with_reducible refine k_cond ?_); refine aw_cond_t rfl ?_) | ((with_reducible refine k_callv ?_); refine rl_op rfl (op_callF rfl rfl (h9) rfl ?_)) | (((with_reducible refine k_guard ?_); first | refine rl_if_t rfl rfl rfl rfl ?_ ?_ | refine rl_if_f rfl rfl rfl rfl ?_ ?_) <;> ((fail_if_success (refine imp_known (by assumption) ?_)); (intro hb <;> (have hc := hb) <;> (try simp only [decide_eq_true_eq, decide_eq_false_iff_not, Int.not_lt, Int.not_le, ne_eq, Bool.not_eq_true, Bool.not_eq_false, Decidable.not_not] at hc) <;> (try (exfalso; omega)) <;> (try (exfalso; simp only [Bool.not_eq_eq_eq_not, Bool.not_true, Bool.not_false, decide_eq_true_eq, decide_eq_false_iff_not, ne_eq, Decidable.not_not, Int.not_lt, Int.not_le] at hc; omega)) <;> (try (first | contradiction | (cases hc; done))) <;> (try (first | exact absurd (hb.symm.trans (by assumption) : true = false) (by decide) | exact absurd (hb.symm.trans (by assumption) : false = true) (by decide)))))))
  · (first | refine rl_op rfl (op_callR rfl rfl .nil h8 rfl ?_) | refine dl_op (by assumption) by_wants (op_callR rfl rfl .nil h8 rfl ?_))
    rintro _ _ ⟨⟨g2, rfl⟩, rfl⟩
    repeat' (first | (with_reducible first | refine aw_seq ?_ | refine rl_nil ?_ | refine aw_region ?_ | refine then_n ?_ | refine aw_block ?_ | refine then_exit ?_ | refine then_ret ?_ | refine in_n ?_ | refine in_ret ?_ | refine aw_exit ?_ | refine aw_ret ?_ | refine aw_skip ?_ | refine in_exit_eq rfl ?_ | refine awr_succ ?_) | ((with_reducible refine k_move ?_); refine rl_pure (pv_move rfl) rfl rfl rfl ?_) | ((with_reducible refine k_assign ?_); refine rl_pure (pv_assign rfl) rfl rfl rfl ?_) | ((with_reducible refine k_load ?_); refine rl_val (vv_load_box_whole (by rfl) by_memb (by rfl) (by first | rfl | exact tcells_len _ | exact dcells_len _)) rfl rfl rfl ?_) | ((with_reducible refine k_pick ?_); (first | refine rl_pure (pv_pick_t rfl by_bd rfl) rfl rfl rfl ?_ | refine rl_pure (pv_pick_f rfl by_bd rfl) rfl rfl rfl ?_)) | ((with_reducible refine k_guard ?_); (first | refine rl_on_yes rfl rfl rfl by_bd rfl ?_ | refine rl_off_f rfl rfl rfl by_bd rfl ?_)) | ((with_reducible refine k_cond ?_); refine aw_cond_t rfl ?_) | ((with_reducible refine k_callv ?_); refine rl_op rfl (op_callF rfl rfl (h9) rfl ?_)) | (((with_reducible refine k_guard ?_); first | refine rl_if_t rfl rfl rfl rfl ?_ ?_ | refine rl_if_f rfl rfl rfl rfl ?_ ?_) <;> ((fail_if_success (refine imp_known (by assumption) ?_)); (intro hb <;> (have hc := hb) <;> (try simp only [decide_eq_true_eq, decide_eq_false_iff_not, Int.not_lt, Int.not_le, ne_eq, Bool.not_eq_true, Bool.not_eq_false, Decidable.not_not] at hc) <;> (try (exfalso; omega)) <;> (try (exfalso; simp only [Bool.not_eq_eq_eq_not, Bool.not_true, Bool.not_false, decide_eq_true_eq, decide_eq_false_iff_not, ne_eq, Decidable.not_not, Int.not_lt, Int.not_le] at hc; omega)) <;> (try (first | contradiction | (cases hc; done))) <;> (try (first | exact absurd (hb.symm.trans (by assumption) : true = false) (by decide) | exact absurd (hb.symm.trans (by assumption) : false = true) (by decide)))))))
    · (first | refine rl_op rfl (op_callR rfl rfl .nil h8b rfl ?_) | refine dl_op (by assumption) by_wants (op_callR rfl rfl .nil h8b rfl ?_))
      rintro _ _ ⟨⟨g3, rfl⟩, rfl⟩
      repeat' (first | (with_reducible first | refine aw_seq ?_ | refine rl_nil ?_ | refine aw_region ?_ | refine then_n ?_ | refine aw_block ?_ | refine then_exit ?_ | refine then_ret ?_ | refine in_n ?_ | refine in_ret ?_ | refine aw_exit ?_ | refine aw_ret ?_ | refine aw_skip ?_ | refine in_exit_eq rfl ?_ | refine awr_succ ?_) | ((with_reducible refine k_move ?_); refine rl_pure (pv_move rfl) rfl rfl rfl ?_) | ((with_reducible refine k_assign ?_); refine rl_pure (pv_assign rfl) rfl rfl rfl ?_) | ((with_reducible refine k_load ?_); refine rl_val (vv_load_box_whole (by rfl) by_memb (by rfl) (by first | rfl | exact tcells_len _ | exact dcells_len _)) rfl rfl rfl ?_) | ((with_reducible refine k_neq ?_); refine rl_pure (pv_neq rfl rfl) rfl rfl rfl ?_) | ((with_reducible refine k_lss ?_); refine rl_pure (pv_lss rfl rfl) rfl rfl rfl ?_) | ((with_reducible refine k_geq ?_); refine rl_pure (pv_geq rfl rfl) rfl rfl rfl ?_) | ((with_reducible refine k_add ?_); refine rl_pure (pv_add_in rfl rfl (by omega)) rfl rfl rfl ?_) | ((with_reducible refine k_mul ?_); refine rl_pure (pv_mul_in rfl rfl (by omega)) rfl rfl rfl ?_) | ((with_reducible refine k_extract ?_); refine rl_pure (pv_extract rfl rfl) rfl rfl rfl ?_) | ((with_reducible refine k_len ?_); refine rl_pure (pv_len_ro' (by rfl) by_len) rfl rfl rfl ?_) | ((with_reducible refine k_pick ?_); (first | refine rl_pure (pv_pick_t rfl by_bd rfl) rfl rfl rfl ?_ | refine rl_pure (pv_pick_f rfl by_bd rfl) rfl rfl rfl ?_)) | ((with_reducible refine k_guard ?_); (first | refine rl_on_yes rfl rfl rfl by_bd rfl ?_ | refine rl_off_f rfl rfl rfl by_bd rfl ?_)) | ((with_reducible refine k_cond ?_); (first | refine aw_cond_t rfl ?_ | refine aw_cond_f rfl ?_)) | (with_reducible refine dl_nil by_app ?_) | ((with_reducible refine kd_guard ?_); (first | refine dl_off rfl rfl rfl rfl by_bd rfl rfl ?_ | refine dl_off_eff rfl rfl rfl rfl by_bd rfl rfl ?_)) | ((with_reducible refine kd_move ?_); refine dl_pure (by assumption) (pv_move rfl) by_wants rfl rfl ?_) | ((with_reducible refine kd_neq ?_); refine dl_pure (by assumption) (pv_bool_neq rfl rfl) by_wants rfl rfl ?_) | ((with_reducible refine kd_not ?_); refine dl_pure (by assumption) (pv_not rfl) by_wants rfl rfl ?_) | ((with_reducible refine kd_pick ?_); (first | refine dl_pure (by assumption) (pv_pick_t rfl by_bd rfl) by_wants rfl rfl ?_ | refine dl_pure (by assumption) (pv_pick_f rfl by_bd rfl) by_wants rfl rfl ?_)) | ((with_reducible refine kd_load ?_); refine dl_take (by assumption) (hv_load_box_whole (by assumption) (by rfl) by_mem0 (by rfl) (by first | rfl | exact tcells_len _ | exact dcells_len _)) by_wants rfl rfl ?_) | (refine aw_draw (id := 3) [(false, 0), (false, 1), (false, 3), (false, 4), (true, 2), (true, 5), (false, 6), (false, 7), (false, 8), (false, 9), (true, 10), (false, 11), (false, 12)] [] (by kernel_rfl) (by decide +kernel) (by decide) by_lit .nil by_nos fun jd hjd => ?_) | ((with_reducible refine k_callv ?_); (first | refine rl_op rfl (op_callF rfl rfl (h9) rfl ?_) | refine rl_op rfl (op_callF rfl rfl (h16) rfl ?_) | refine rl_op rfl (op_callF rfl rfl (h22) rfl ?_))) | ((with_reducible refine kd_callv ?_); (first | (refine dl_op (by assumption) by_wants (op_callF rfl rfl (h20) rfl ?_); intro jd hjd) | (refine dl_op (by assumption) by_wants (op_callF rfl rfl (h21) rfl ?_); intro jd hjd) | (refine dl_op (by assumption) by_wants (op_callF rfl rfl (h20a) rfl ?_); intro jd hjd))) | (((with_reducible refine k_guard ?_); first | refine rl_if_t rfl rfl rfl rfl ?_ ?_ | refine rl_if_f rfl rfl rfl rfl ?_ ?_) <;> ((fail_if_success (refine imp_known (by assumption) ?_)); (intro hb <;> (have hc := hb) <;> (try simp only [decide_eq_true_eq, decide_eq_false_iff_not, Int.not_lt, Int.not_le, ne_eq, Bool.not_eq_true, Bool.not_eq_false, Decidable.not_not] at hc) <;> (try (exfalso; omega)) <;> (try (exfalso; simp only [Bool.not_eq_eq_eq_not, Bool.not_true, Bool.not_false, decide_eq_true_eq, decide_eq_false_iff_not, ne_eq, Decidable.not_not, Int.not_lt, Int.not_le] at hc; omega)) <;> (try (first | contradiction | (cases hc; done))) <;> (try (first | exact absurd (hb.symm.trans (by assumption) : true = false) (by decide) | exact absurd (hb.symm.trans (by assumption) : false = true) (by decide)))))) | (((with_reducible refine k_cond ?_); refine aw_cond rfl ?_ ?_) <;> ((fail_if_success (refine imp_known (by assumption) ?_)); (intro hb <;> (have hc := hb) <;> (try simp only [decide_eq_true_eq, decide_eq_false_iff_not, Int.not_lt, Int.not_le, ne_eq, Bool.not_eq_true, Bool.not_eq_false, Decidable.not_not] at hc) <;> (try (exfalso; omega)) <;> (try (exfalso; simp only [Bool.not_eq_eq_eq_not, Bool.not_true, Bool.not_false, decide_eq_true_eq, decide_eq_false_iff_not, ne_eq, Decidable.not_not, Int.not_lt, Int.not_le] at hc; omega)) <;> (try (first | contradiction | (cases hc; done))) <;> (try (first | exact absurd (hb.symm.trans (by assumption) : true = false) (by decide) | exact absurd (hb.symm.trans (by assumption) : false = true) (by decide)))))) | (((with_reducible refine kd_guard ?_); refine dl_if rfl rfl rfl ?_ ?_) <;> ((fail_if_success (refine imp_known (by assumption) ?_)); (intro hb <;> (have hc := hb) <;> (try simp only [decide_eq_true_eq, decide_eq_false_iff_not, Int.not_lt, Int.not_le, ne_eq, Bool.not_eq_true, Bool.not_eq_false, Decidable.not_not] at hc) <;> (try (exfalso; omega)) <;> (try (exfalso; simp only [Bool.not_eq_eq_eq_not, Bool.not_true, Bool.not_false, decide_eq_true_eq, decide_eq_false_iff_not, ne_eq, Decidable.not_not, Int.not_lt, Int.not_le] at hc; omega)) <;> (try (first | contradiction | (cases hc; done))) <;> (try (first | exact absurd (hb.symm.trans (by assumption) : true = false) (by decide) | exact absurd (hb.symm.trans (by assumption) : false = true) (by decide)))))))
      all_goals first
      | (exfalso; omega)
      | (exfalso; simp at hc; done)
      | ((first | refine ret_r (ret1 rfl by_res (List.nil_sublist _) ⟨_, rfl, ?_⟩) | refine ret_n (ret1 rfl by_res (List.nil_sublist _) ⟨_, rfl, ?_⟩)); exact ⟨rfl, rfl⟩)
      | (set_option pp.deepTerms false in set_option pp.deepTerms.threshold 3 in trace_state)
    · (first | refine ret_r (ret1 rfl by_res (List.nil_sublist _) ⟨_, rfl, ?_⟩) | refine ret_n (ret1 rfl by_res (List.nil_sublist _) ⟨_, rfl, ?_⟩))
      exact ⟨rfl, rfl⟩
  · (first | refine ret_r (ret1 rfl by_res (List.nil_sublist _) ⟨_, rfl, ?_⟩) | refine ret_n (ret1 rfl by_res (List.nil_sublist _) ⟨_, rfl, ?_⟩))
    exact ⟨rfl, rfl⟩
end Go.Proofs.Ytepmllodaoanmaa

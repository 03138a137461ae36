import Derived.Test.YtbhbjlhobdoomaaDoorK10
set_option linter.unusedVariables false
set_option linter.unusedSimpArgs false
namespace Go.Proofs.YtbhbjlhobdoomaaDoor
open Go Go.AX
set_option maxHeartbeats 4000000
set_option maxRecDepth 20000
attribute [local irreducible] AW RL OP PureV ValV HV DL Tri TriR Fun RetOk ResV
/-- What stands behind a backslash: a byte and the place behind it. -/
def esc (s : ByteArray) (k : Nat) : Option (Int × Nat) :=
  if ba s k = 34 ∨ ba s k = 92 then some (ba s k, k + 1) else if ba s k = 110 then some (10, k + 1)
  else if ba s k = 120 ∧ dgo (ba s (k + 1)) < 16 ∧ dgo (ba s (k + 2)) < 16 then some (16 * dgo (ba s (k + 1)) + dgo (ba s (k + 2)), k + 3) else none
theorem dgo_in {s : ByteArray} {k : Nat} (h : dgo (ba s k) < 16) : k < s.size := by
  refine ba_lt (fun e => ?_)
  rw [e] at h
  revert h; decide
theorem esc_gt {s : ByteArray} {k : Nat} {r : Int × Nat} (h : esc s k = some r) : k < r.2 ∧ r.2 ≤ s.size := by
  unfold esc at h
  split at h
  · have := ba_lt (s := s) (k := k) (by omega)
    obtain rfl := Option.some.inj h; exact ⟨Nat.lt_succ_self _, this⟩
  · split at h
    · have := ba_lt (s := s) (k := k) (by omega)
      obtain rfl := Option.some.inj h; exact ⟨Nat.lt_succ_self _, this⟩
    · split at h
      · rename_i q
        have := dgo_in q.2.2
        obtain rfl := Option.some.inj h; exact ⟨by dsimp only; omega, by dsimp only; omega⟩
      · cases h
theorem digB82 (s : ByteArray) (k : Int) : Fun Tryd.prog 82 [byte (bt s k)] (int (dgo (bt s k))) := digitOf82 _ (bt_range s k).1 (bt_range s k).2
theorem hexbits : ∀ (a b : Fin 16), ior .i64 (ishl .i64 (a.val : Int) 4) (b.val : Int) % 256 = 16 * (a.val : Int) + (b.val : Int) := by decide +kernel
theorem hexbits' (a b : Int) (h0 : 0 ≤ a) (h1 : a < 16) (h2 : 0 ≤ b) (h3 : b < 16) : ior .i64 (ishl .i64 a 4) b % 256 = 16 * a + b := by
  have := hexbits ⟨a.toNat, by omega⟩ ⟨b.toNat, by omega⟩
  simp only at this
  rwa [show ((a.toNat : Nat) : Int) = a by omega, show ((b.toNat : Nat) : Int) = b by omega] at this
theorem escaped84 (p : Nat) (s : ByteArray) (hs : s.size ≤ 100000) (R : List V) (k : Nat) (hk : k ≤ s.size) :
    TriR Tryd.prog 84 [ptr p] [sc p s k R] fun v H' => ∃ x k', v = .tup [byte x, bool (esc s k).isSome] ∧ H' = [sc p s k' R] ∧ ∀ r, esc s k = some r → x = r.1 ∧ k' = r.2 := by
  refine TriR.of (tri_of Tryd.func84 rfl Tryd.ntmps84 rfl fun j => ?_)
  by_cases hlt : k < s.size
  · have hb0 := ba_in hlt
    have e0 : (k : Int) + 1 - 1 = k := by omega
    have e1 : (k : Int) + 1 + 2 - 2 = (k : Int) + 1 := by omega
    have e2 : (k : Int) + 1 + 2 - 1 = (k : Int) + 1 + 1 := by omega
    have E1 : bt s k = 34 ∨ bt s k = 92 → esc s k = some (bt s k, k + 1) := fun h => by unfold esc; rw [hb0, if_pos h]
    have E2 : bt s k = 110 → esc s k = some (10, k + 1) := fun h => by unfold esc; rw [hb0, if_neg (by omega), if_pos h]
    have E3 : bt s k = 120 → k + 2 < s.size → dgo (bt s ((k : Int) + 1)) < 16 → dgo (bt s ((k : Int) + 1 + 1)) < 16 → esc s k = some (16 * dgo (bt s ((k : Int) + 1)) + dgo (bt s ((k : Int) + 1 + 1)), k + 3) := fun h h1 h2 h3 => by
      unfold esc
      rw [hb0, if_neg (by omega), if_neg (by omega), ba_in (s := s) (k := k + 1) (by omega), ba_in (s := s) (k := k + 2) h1, if_pos ⟨h, h2, h3⟩]
      rfl
    have E4 : ¬ (bt s k = 34 ∨ bt s k = 92 ∨ bt s k = 110) → ¬ (bt s k = 120 ∧ k + 2 < s.size ∧ dgo (bt s ((k : Int) + 1)) < 16 ∧ dgo (bt s ((k : Int) + 1 + 1)) < 16) → esc s k = none := fun h h1 => by
      unfold esc
      rw [hb0, if_neg (by omega), if_neg (by omega), if_neg]
      rintro ⟨q1, q2, q3⟩
      have l2 := dgo_in q3
      rw [ba_in (by omega)] at q2
      rw [ba_in l2] at q3
      exact h1 ⟨q1, l2, q2, q3⟩
    have d1 := dgo_range (bt s ((k : Int) + 1))
    have d2 := dgo_range (bt s ((k : Int) + 1 + 1))
    repeat' (first | (with_reducible first | refine aw_seq ?_ | refine rl_nil ?_ | refine aw_region ?_ | refine then_n ?_ | refine aw_block ?_ | refine then_exit ?_ | refine then_ret ?_ | refine in_n ?_ | refine in_ret ?_ | refine aw_exit ?_ | refine aw_ret ?_ | refine aw_skip ?_ | refine in_exit_eq rfl ?_ | refine awr_succ ?_) | ((with_reducible refine k_move ?_); refine rl_pure (pv_move rfl) rfl rfl rfl ?_) | ((with_reducible refine k_assign ?_); refine rl_pure (pv_assign rfl) rfl rfl rfl ?_) | ((with_reducible refine k_load ?_); refine rl_val (vv_load_box (by rfl) by_memb (by rfl) by_bd) rfl rfl rfl ?_) | ((with_reducible refine k_fieldAddr ?_); refine rl_pure (pv_fieldAddr rfl) rfl rfl rfl ?_) | ((with_reducible refine k_store ?_); refine rl_op rfl (op_store_box (by rfl) (by rfl) (V.okc_or (by rfl)) by_upd (by rfl) (by first | exact Nat.le_of_ble_eq_true rfl | assumption) ?_)) | ((with_reducible refine k_eql ?_); refine rl_pure (pv_eql rfl rfl) rfl rfl rfl ?_) | ((with_reducible refine k_add ?_); refine rl_pure (pv_add_in rfl rfl (by omega)) rfl rfl rfl ?_) | ((with_reducible refine k_nilCheck ?_); refine rl_pure (pv_nilCheck rfl) rfl rfl rfl ?_) | ((with_reducible refine k_cond ?_); (first | refine aw_cond_t rfl ?_ | refine aw_cond_yes rfl (by assumption) ?_)) | (with_reducible refine dl_nil by_app ?_) | ((with_reducible refine kd_guard ?_); (first | refine dl_off rfl rfl rfl rfl by_bd rfl rfl ?_ | refine dl_off_eff rfl rfl rfl rfl by_bd rfl rfl ?_)) | ((with_reducible refine kd_move ?_); refine dl_pure (by assumption) (pv_move rfl) by_wants rfl rfl ?_) | ((with_reducible refine kd_assign ?_); refine dl_pure (by assumption) (pv_assign rfl) by_wants rfl rfl ?_) | ((with_reducible refine kd_fieldAddr ?_); refine dl_pure (by assumption) (pv_fieldAddr rfl) by_wants rfl rfl ?_) | ((with_reducible refine kd_gtr ?_); refine dl_pure (by assumption) (pv_gtr rfl rfl) by_wants rfl rfl ?_) | ((with_reducible refine kd_geq ?_); refine dl_pure (by assumption) (pv_geq rfl rfl) by_wants rfl rfl ?_) | ((with_reducible refine kd_add ?_); refine dl_pure (by assumption) (pv_add_in rfl rfl (by omega)) by_wants rfl rfl ?_) | ((with_reducible refine kd_sub ?_); refine dl_pure (by assumption) (pv_sub_in rfl rfl (by omega)) by_wants rfl rfl ?_) | ((with_reducible refine kd_index ?_); refine dl_pure (by assumption) (pv_index_str rfl rfl by_bound) by_wants rfl rfl ?_) | ((with_reducible refine kd_len ?_); refine dl_pure (by assumption) (pv_len_str rfl) by_wants rfl rfl ?_) | ((with_reducible refine kd_nilCheck ?_); refine dl_pure (by assumption) (pv_nilCheck rfl) by_wants rfl rfl ?_) | ((with_reducible refine kd_or ?_); refine dl_pure (by assumption) (pv_or rfl rfl) by_wants rfl rfl ?_) | ((with_reducible refine kd_shl ?_); refine dl_pure (by assumption) (pv_shl rfl rfl (by omega)) by_wants rfl rfl ?_) | ((with_reducible refine kd_pick ?_); (first | refine dl_pure (by assumption) (pv_pick_t rfl by_bd rfl) by_wants rfl rfl ?_ | refine dl_pure (by assumption) (pv_pick_f rfl by_bd rfl) by_wants rfl rfl ?_)) | ((with_reducible refine kd_convert ?_); refine dl_pure (by assumption) (pv_convert_u8 rfl) by_wants rfl rfl ?_) | ((with_reducible refine kd_load ?_); refine dl_take (by assumption) (hv_load_box (by assumption) (by rfl) by_mem0 (by rfl) by_bd) by_wants rfl rfl ?_) | (refine aw_draw (id := 1) [(false, 0), (false, 1), (false, 2), (false, 3), (false, 4), (false, 5), (false, 6), (false, 7), (false, 8), (false, 9)] [] (by kernel_rfl) (by decide +kernel) (by decide) by_lit .nil by_nos fun jd hjd => ?_) | (refine aw_draw (id := 4) [(false, 0), (false, 1), (false, 2), (false, 3), (false, 4), (false, 5), (false, 6), (false, 7), (false, 8), (false, 9)] [] (by kernel_rfl) (by decide +kernel) (by decide) by_lit .nil by_nos fun jd hjd => ?_) | (refine aw_draw (id := 7) [(false, 0), (false, 1), (false, 2), (false, 3), (false, 4), (false, 5), (false, 6), (false, 7), (false, 8), (false, 9), (false, 10), (false, 11)] [] (by kernel_rfl) (by decide +kernel) (by decide) by_lit .nil by_nos fun jd hjd => ?_) | (refine aw_draw (id := 11) [(false, 0), (false, 1), (false, 2), (false, 3), (false, 4), (false, 5), (false, 6), (false, 7), (false, 8), (false, 9), (false, 10), (false, 11), (false, 12), (false, 13), (false, 14), (false, 15), (false, 16), (false, 17), (false, 18), (false, 19), (false, 20), (true, 21), (false, 22), (false, 23), (false, 24), (false, 25), (false, 26), (false, 27), (false, 28), (false, 29), (false, 30), (false, 31), (false, 32), (false, 33), (false, 34), (true, 35), (false, 36), (false, 37)] [] (by kernel_rfl) (by decide +kernel) (by decide) by_lit .nil by_nos fun jd hjd => ?_) | (refine aw_draw (id := 14) [(false, 0), (false, 1), (false, 2), (false, 3), (false, 4), (false, 5), (false, 6), (false, 7), (false, 8), (false, 9), (false, 12), (false, 13), (false, 14), (false, 15), (false, 16), (false, 17), (false, 18), (false, 19), (false, 20), (false, 21), (true, 10), (false, 11), (true, 22), (false, 23), (false, 24), (false, 25), (false, 26)] [] (by kernel_rfl) (by decide +kernel) (by decide) by_lit .nil by_nos fun jd hjd => ?_) | ((with_reducible refine kd_callv ?_); (refine dl_op (by assumption) by_wants (op_callF rfl rfl (digB82 _ _) rfl ?_); intro jd hjd)) | (((with_reducible refine k_cond ?_); refine aw_cond rfl ?_ ?_) <;> ((fail_if_success (refine imp_known (by assumption) ?_)); (intro hb <;> (have hc := hb) <;> (try simp only [decide_eq_true_eq, decide_eq_false_iff_not, Int.not_lt, Int.not_le, ne_eq, Bool.not_eq_true, Bool.not_eq_false, Decidable.not_not] at hc) <;> (try (exfalso; omega)) <;> (try (exfalso; simp only [Bool.not_eq_eq_eq_not, Bool.not_true, Bool.not_false, decide_eq_true_eq, decide_eq_false_iff_not, ne_eq, Decidable.not_not, Int.not_lt, Int.not_le] at hc; omega)) <;> (try (first | contradiction | (cases hc; done))) <;> (try (first | exact absurd (hb.symm.trans (by assumption) : true = false) (by decide) | exact absurd (hb.symm.trans (by assumption) : false = true) (by decide)))))) | (((with_reducible refine kd_guard ?_); refine dl_if rfl rfl rfl ?_ ?_) <;> ((fail_if_success (refine imp_known (by assumption) ?_)); (intro hb <;> (have hc := hb) <;> (try simp only [decide_eq_true_eq, decide_eq_false_iff_not, Int.not_lt, Int.not_le, ne_eq, Bool.not_eq_true, Bool.not_eq_false, Decidable.not_not] at hc) <;> (try (exfalso; omega)) <;> (try (exfalso; simp only [Bool.not_eq_eq_eq_not, Bool.not_true, Bool.not_false, decide_eq_true_eq, decide_eq_false_iff_not, ne_eq, Decidable.not_not, Int.not_lt, Int.not_le] at hc; omega)) <;> (try (first | contradiction | (cases hc; done))) <;> (try (first | exact absurd (hb.symm.trans (by assumption) : true = false) (by decide) | exact absurd (hb.symm.trans (by assumption) : false = true) (by decide)))))))
    all_goals
      simp only [e0, e1, e2] at *
      (first | refine ret_r (retok_pick (.cons .here .nil) (ret2 rfl by_res by_res (List.Sublist.refl _) ⟨_, rfl, ?_⟩)) | refine ret_n (retok_pick (.cons .here .nil) (ret2 rfl by_res by_res (List.Sublist.refl _) ⟨_, rfl, ?_⟩)))
      first
      | (have E := E1 (by omega); rw [E]; exact ⟨bt s k, k + 1, rfl, rfl, fun r h => by cases h; exact ⟨rfl, rfl⟩⟩)
      | (have E := E2 (by omega); rw [E]; exact ⟨10, k + 1, rfl, rfl, fun r h => by cases h; exact ⟨rfl, rfl⟩⟩)
      | (have E := E3 (by omega) (by omega) (by omega) (by omega); rw [E]; exact ⟨_, k + 3, rfl, rfl, fun r h => by cases h; exact ⟨hexbits' _ _ (by omega) (by omega) (by omega) (by omega), rfl⟩⟩)
      | (have E := E4 (by omega) (by omega); rw [E]; exact ⟨0, k + 1, rfl, rfl, fun r h => by cases h⟩)
  · have he : esc s k = none := by unfold esc; rw [ba_out hlt]; rfl
    rw [he]
    repeat' (first | (with_reducible first | refine aw_seq ?_ | refine rl_nil ?_ | refine aw_region ?_ | refine then_n ?_ | refine aw_block ?_ | refine then_exit ?_ | refine then_ret ?_ | refine in_n ?_ | refine in_ret ?_ | refine aw_exit ?_ | refine aw_ret ?_ | refine aw_skip ?_ | refine in_exit_eq rfl ?_ | refine awr_succ ?_) | ((with_reducible refine k_assign ?_); refine rl_pure (pv_assign rfl) rfl rfl rfl ?_) | (with_reducible refine dl_nil by_app ?_) | ((with_reducible refine kd_move ?_); refine dl_pure (by assumption) (pv_move rfl) by_wants rfl rfl ?_) | ((with_reducible refine kd_fieldAddr ?_); refine dl_pure (by assumption) (pv_fieldAddr rfl) by_wants rfl rfl ?_) | ((with_reducible refine kd_geq ?_); refine dl_pure (by assumption) (pv_geq rfl rfl) by_wants rfl rfl ?_) | ((with_reducible refine kd_len ?_); refine dl_pure (by assumption) (pv_len_str rfl) by_wants rfl rfl ?_) | ((with_reducible refine kd_nilCheck ?_); refine dl_pure (by assumption) (pv_nilCheck rfl) by_wants rfl rfl ?_) | ((with_reducible refine kd_load ?_); refine dl_take (by assumption) (hv_load_box (by assumption) (by rfl) by_mem0 (by rfl) by_bd) by_wants rfl rfl ?_) | (refine aw_draw (id := 1) [(false, 0), (false, 1), (false, 2), (false, 3), (false, 4), (false, 5), (false, 6), (false, 7), (false, 8), (false, 9)] [] (by kernel_rfl) (by decide +kernel) (by decide) by_lit .nil by_nos fun jd hjd => ?_) | (((with_reducible refine k_cond ?_); refine aw_cond rfl ?_ ?_) <;> ((fail_if_success (refine imp_known (by assumption) ?_)); (intro hb <;> (have hc := hb) <;> (try simp only [decide_eq_true_eq, decide_eq_false_iff_not, Int.not_lt, Int.not_le, ne_eq, Bool.not_eq_true, Bool.not_eq_false, Decidable.not_not] at hc) <;> (try (exfalso; omega)) <;> (try (exfalso; simp only [Bool.not_eq_eq_eq_not, Bool.not_true, Bool.not_false, decide_eq_true_eq, decide_eq_false_iff_not, ne_eq, Decidable.not_not, Int.not_lt, Int.not_le] at hc; omega)) <;> (try (first | contradiction | (cases hc; done))) <;> (try (first | exact absurd (hb.symm.trans (by assumption) : true = false) (by decide) | exact absurd (hb.symm.trans (by assumption) : false = true) (by decide)))))))
    (first | refine ret_r (retok_pick (.cons .here .nil) (ret2 rfl by_res by_res (List.Sublist.refl _) ⟨_, rfl, ?_⟩)) | refine ret_n (retok_pick (.cons .here .nil) (ret2 rfl by_res by_res (List.Sublist.refl _) ⟨_, rfl, ?_⟩)))
    exact ⟨0, k, rfl, rfl, fun r h => by cases h⟩
end Go.Proofs.YtbhbjlhobdoomaaDoor

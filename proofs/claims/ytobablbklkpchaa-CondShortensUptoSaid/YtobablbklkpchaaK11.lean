import Derived.Test.YtobablbklkpchaaK10
set_option linter.unusedVariables false
set_option linter.unusedSimpArgs false
namespace Go.Proofs.Ytobablbklkpchaa
open Go Go.AX
set_option maxHeartbeats 8000000
set_option maxRecDepth 20000
attribute [local irreducible] AW RL OP PureV ValV HV DL Tri TriR Fun RetOk ResV
theorem bad_none (len : Int) : ∀ (l : List Ins) (n : Nat), bad len l n = none → ∀ (q : Nat) i, l[q]? = some i → Safe i (n + q : Nat) len
  | [], _, _, q, i, h => by simp at h
  | x :: l, n, hbd, q, i, h => by
    simp only [bad] at hbd
    split at hbd
    · rename_i hs
      cases q with
      | zero => simp at h; subst h; simpa using hs
      | succ q =>
        have := bad_none len l (n + 1) hbd q i (by simpa using h)
        rwa [show n + (q + 1) = n + 1 + q by omega]
    · cases hbd
theorem chk_code {L : List Ins} (h : (chk L).2 = 0) : Code_ L := by
  unfold chk at h
  split at h
  · cases h
  · rename_i h1
    split at h
    · cases h
    · rename_i h2
      have hl : 0 < L.length ∧ L.length ≤ 400 := by omega
      refine ⟨hl, fun n i hi => by simpa using bad_none _ L 0 h2 n i hi, fun i hi => ?_⟩
      rw [hi] at h
      simp only at h
      split at h
      · assumption
      · cases h
/-- A run over a packet. -/
def runP (L : List Ins) (real : Int) (data : List Int) : Bool × Int × Int :=
  if (chk L).2 ≠ 0 then (false, 0, (chk L).2) else if asks real data.length ≠ 0 then (false, 0, asks real data.length)
  else ((runL real data L L.length 0 1 M0).1, (runL real data L L.length 0 1 M0).2, 0)
theorem asks_ok {real : Int} {n : Nat} (h : asks real n = 0) : n ≤ 400 ∧ 0 ≤ real ∧ real ≤ 1000000 := by
  unfold asks at h
  split at h
  · cases h
  · split at h
    · cases h
    · omega
theorem run10 (L : List Ins) (real : Int) (data : List Int) (hd : Bytes data) : TriR Try.prog 10 [.ro (L.map Ins.cells), int real, .ro (data.map brow)] [] fun v H' =>
    v = .tup [bool (runP L real data).1, int (runP L real data).2.1, int (runP L real data).2.2] ∧ H' = [] := by
  have hck := check8 L
  have hak := asked31 real data
  refine TriR.of (tri_of Try.func10 rfl Try.ntmps10 rfl fun j => ?_)
  repeat' (first | (with_reducible first | refine aw_seq ?_ | refine rl_nil ?_ | refine aw_region ?_ | refine then_n ?_ | refine aw_block ?_ | refine then_exit ?_ | refine then_ret ?_ | refine in_n ?_ | refine in_ret ?_ | refine aw_exit ?_ | refine aw_ret ?_ | refine aw_skip ?_ | refine in_exit_eq rfl ?_) | ((with_reducible refine k_move ?_); refine rl_pure (pv_move rfl) rfl rfl rfl ?_) | ((with_reducible refine k_assign ?_); refine rl_pure (pv_assign rfl) rfl rfl rfl ?_) | ((with_reducible refine k_box ?_); refine rl_op rfl (op_box rfl (V.okc_or (by rfl)) rfl fun b => ?_)) | ((with_reducible refine k_neq ?_); refine rl_pure (pv_neq rfl rfl) rfl rfl rfl ?_) | ((with_reducible refine k_extract ?_); refine rl_pure (pv_extract rfl rfl) rfl rfl rfl ?_) | ((with_reducible refine k_build ?_); refine rl_pure (pv_build rfl by_fill) rfl rfl rfl ?_) | ((with_reducible refine k_callv ?_); (first | refine rl_op rfl (op_callF rfl rfl (hck) rfl ?_) | refine rl_op rfl (op_callF rfl rfl (hak) rfl ?_))) | (((with_reducible refine k_cond ?_); refine aw_cond rfl ?_ ?_) <;> intro hb <;> (have hc := hb) <;> (try simp only [decide_eq_true_eq, decide_eq_false_iff_not, Int.not_lt, Int.not_le, ne_eq, Bool.not_eq_true, Bool.not_eq_false, Decidable.not_not] at hc) <;> (try (exfalso; omega)) <;> (try (first | contradiction | (cases hc; done)))))
  · (first | refine ret_r (ret3 rfl by_res by_res by_res (List.nil_sublist _) ⟨_, rfl, ?_⟩) | refine ret_n (ret3 rfl by_res by_res by_res (List.nil_sublist _) ⟨_, rfl, ?_⟩))
    exact ⟨by rw [runP, if_pos hc], rfl⟩
  · (first | refine ret_r (ret3 rfl by_res by_res by_res (List.nil_sublist _) ⟨_, rfl, ?_⟩) | refine ret_n (ret3 rfl by_res by_res by_res (List.nil_sublist _) ⟨_, rfl, ?_⟩))
    exact ⟨by rw [runP, if_neg (by omega), if_pos hc], rfl⟩
  · have h0 : (chk L).2 = 0 := by assumption
    have hb0 := asks_ok hc
    (first | refine rl_op rfl (op_callR rfl rfl (.cons .here .nil) (run32 _ real data L (chk_code h0) hd (by omega) (by omega) M0 m0_ok rfl) rfl ?_) | refine dl_op (by assumption) by_wants (op_callR rfl rfl (.cons .here .nil) (run32 _ real data L (chk_code h0) hd (by omega) (by omega) M0 m0_ok rfl) rfl ?_))
    rintro _ _ ⟨rfl, rfl⟩
    repeat' (first | (with_reducible first | refine aw_seq ?_ | refine rl_nil ?_ | refine aw_region ?_ | refine then_n ?_ | refine aw_block ?_ | refine then_exit ?_ | refine then_ret ?_ | refine in_n ?_ | refine in_ret ?_ | refine aw_exit ?_ | refine aw_ret ?_ | refine aw_skip ?_ | refine in_exit_eq rfl ?_) | ((with_reducible refine k_move ?_); refine rl_pure (pv_move rfl) rfl rfl rfl ?_) | ((with_reducible refine k_assign ?_); refine rl_pure (pv_assign rfl) rfl rfl rfl ?_) | ((with_reducible refine k_extract ?_); refine rl_pure (pv_extract rfl rfl) rfl rfl rfl ?_))
    (first | refine ret_r (ret3 rfl by_res by_res by_res (List.nil_sublist _) ⟨_, rfl, ?_⟩) | refine ret_n (ret3 rfl by_res by_res by_res (List.nil_sublist _) ⟨_, rfl, ?_⟩))
    exact ⟨by rw [runP, if_neg (by omega), if_neg (by omega)], rfl⟩
theorem run11 (L : List Ins) (real : Int) (data : List Int) (hd : Bytes data) : TriR Try.prog 11 [.ro (L.map Ins.cells), int real, .ro (data.map brow)] [] fun v H' =>
    v = .tup [bool (runP L real data).1, int (runP L real data).2.1, int (runP L real data).2.2] ∧ H' = [] := by
  have hck := check9 L
  refine TriR.of (tri_of Try.func11 rfl Try.ntmps11 rfl fun j => ?_)
  repeat' (first | (with_reducible first | refine aw_seq ?_ | refine rl_nil ?_ | refine aw_region ?_ | refine then_n ?_ | refine aw_block ?_ | refine then_exit ?_ | refine then_ret ?_ | refine in_n ?_ | refine in_ret ?_ | refine aw_exit ?_ | refine aw_ret ?_ | refine aw_skip ?_ | refine in_exit_eq rfl ?_) | ((with_reducible refine k_move ?_); refine rl_pure (pv_move rfl) rfl rfl rfl ?_) | ((with_reducible refine k_assign ?_); refine rl_pure (pv_assign rfl) rfl rfl rfl ?_) | ((with_reducible refine k_neq ?_); refine rl_pure (pv_neq rfl rfl) rfl rfl rfl ?_) | ((with_reducible refine k_lss ?_); refine rl_pure (pv_lss rfl rfl) rfl rfl rfl ?_) | ((with_reducible refine k_gtr ?_); refine rl_pure (pv_gtr rfl rfl) rfl rfl rfl ?_) | ((with_reducible refine k_extract ?_); refine rl_pure (pv_extract rfl rfl) rfl rfl rfl ?_) | ((with_reducible refine k_len ?_); refine rl_pure (pv_len_ro' (by rfl) by_len) rfl rfl rfl ?_) | ((with_reducible refine k_pick ?_); (first | refine rl_pure (pv_pick_t rfl by_bd rfl) rfl rfl rfl ?_ | refine rl_pure (pv_pick_f rfl by_bd rfl) rfl rfl rfl ?_)) | ((with_reducible refine k_guard ?_); (first | refine rl_on_yes rfl rfl rfl by_bd rfl ?_ | refine rl_off_f rfl rfl rfl by_bd rfl ?_)) | ((with_reducible refine k_cond ?_); refine aw_cond_t rfl ?_) | ((with_reducible refine k_callv ?_); refine rl_op rfl (op_callF rfl rfl (hck) rfl ?_)) | (((with_reducible refine k_guard ?_); first | refine rl_if_t rfl rfl rfl rfl ?_ ?_ | refine rl_if_f rfl rfl rfl rfl ?_ ?_) <;> intro hb <;> (have hc := hb) <;> (try simp only [decide_eq_true_eq, decide_eq_false_iff_not, Int.not_lt, Int.not_le, ne_eq, Bool.not_eq_true, Bool.not_eq_false, Decidable.not_not] at hc) <;> (try (exfalso; omega)) <;> (try (first | contradiction | (cases hc; done)))) | (((with_reducible refine k_cond ?_); refine aw_cond rfl ?_ ?_) <;> intro hb <;> (have hc := hb) <;> (try simp only [decide_eq_true_eq, decide_eq_false_iff_not, Int.not_lt, Int.not_le, ne_eq, Bool.not_eq_true, Bool.not_eq_false, Decidable.not_not] at hc) <;> (try (exfalso; omega)) <;> (try (first | contradiction | (cases hc; done)))))
  all_goals first
  | ((first | refine ret_r (ret3 rfl by_res by_res by_res (List.nil_sublist _) ⟨_, rfl, ?_⟩) | refine ret_n (ret3 rfl by_res by_res by_res (List.nil_sublist _) ⟨_, rfl, ?_⟩))
     exact ⟨by rw [runP, if_pos hc], rfl⟩)
  | ((first | refine ret_r (ret3 rfl by_res by_res by_res (List.nil_sublist _) ⟨_, rfl, ?_⟩) | refine ret_n (ret3 rfl by_res by_res by_res (List.nil_sublist _) ⟨_, rfl, ?_⟩))
     have ha : asks real data.length = 1 := by rw [asks, if_pos (by omega)]
     exact ⟨by rw [runP, if_neg (by omega), ha, if_pos (show (1 : Int) ≠ 0 by decide)], rfl⟩)
  | ((first | refine ret_r (ret3 rfl by_res by_res by_res (List.nil_sublist _) ⟨_, rfl, ?_⟩) | refine ret_n (ret3 rfl by_res by_res by_res (List.nil_sublist _) ⟨_, rfl, ?_⟩))
     have ha : asks real data.length = 3 := by rw [asks, if_neg (by omega), if_pos (by omega)]
     exact ⟨by rw [runP, if_neg (by omega), ha, if_pos (show (3 : Int) ≠ 0 by decide)], rfl⟩)
  | skip
  have h0 : (chk L).2 = 0 := by assumption
  have hak : asks real data.length = 0 := by rw [asks, if_neg (by omega), if_neg (by omega)]
  (first | refine rl_op rfl (op_callR rfl rfl .nil (done17 real data L (chk_code h0) hd (by omega) (by omega)) rfl ?_) | refine dl_op (by assumption) by_wants (op_callR rfl rfl .nil (done17 real data L (chk_code h0) hd (by omega) (by omega)) rfl ?_))
  rintro _ _ ⟨rfl, rfl⟩
  repeat' (first | (with_reducible first | refine aw_seq ?_ | refine rl_nil ?_ | refine aw_region ?_ | refine then_n ?_ | refine aw_block ?_ | refine then_exit ?_ | refine then_ret ?_ | refine in_n ?_ | refine in_ret ?_ | refine aw_exit ?_ | refine aw_ret ?_ | refine aw_skip ?_ | refine in_exit_eq rfl ?_) | ((with_reducible refine k_move ?_); refine rl_pure (pv_move rfl) rfl rfl rfl ?_) | ((with_reducible refine k_assign ?_); refine rl_pure (pv_assign rfl) rfl rfl rfl ?_) | ((with_reducible refine k_extract ?_); refine rl_pure (pv_extract rfl rfl) rfl rfl rfl ?_))
  (first | refine ret_r (ret3 rfl by_res by_res by_res (List.nil_sublist _) ⟨_, rfl, ?_⟩) | refine ret_n (ret3 rfl by_res by_res by_res (List.nil_sublist _) ⟨_, rfl, ?_⟩))
  exact ⟨by rw [runP, if_neg (by omega), if_neg (by omega)], rfl⟩
end Go.Proofs.Ytobablbklkpchaa

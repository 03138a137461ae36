import Derived.Test.YtafpjnkfbfkjcaaGreatDoorK3
set_option linter.unusedVariables false
set_option linter.unusedSimpArgs false
namespace Go.Proofs.YtafpjnkfbfkjcaaGreatDoor
open Go Go.AX
set_option maxHeartbeats 2000000
attribute [local irreducible] AW RL OP PureV ValV HV DL Tri TriR Fun RetOk ResV
theorem len_le_cnt : ∀ ks : List Tree, ks.length ≤ cntL ks
  | [] => by simp [cntL]
  | t :: ts => by have := len_le_cnt ts; have := cnt_pos t; simp only [cntL, List.length_cons]; omega
theorem each12 (bn bp bo : Nat) (packet : Int) : ∀ (n : Nat) (t : Tree), t.cnt ≤ n → ∀ (p : ByteArray) (vs : Vis) (H : List Ch), Keep13 bn bp bo packet vs H → vs.length + t.cnt ≤ 1048576 →
    TriR Tryz.prog 71 [.agg t.cells, str p, .fn 115 (cap13 bn bp bo)] H fun _ H' => Keep13 bn bp bo packet (vs ++ vis t p) H' := by
  intro n
  induction n with
  | zero => intro t ht; have := cnt_pos t; omega
  | succ n ih =>
    intro t ht p vs H hI hn
    obtain ⟨sv, rfl⟩ := hI
    obtain ⟨k, nm, a, sz, vk, vn, vb, ks⟩ := t
    simp only [Tree.cnt] at ht hn
    have hsub := sub13 bn bp bo packet vs (.node k nm a sz vk vn vb ks) p _ ⟨sv, rfl⟩ (by omega)
    obtain ⟨p', hp'⟩ : ∃ p', p' = if k = 0 then nm else p := ⟨_, rfl⟩
    have hvis : vis (.node k nm a sz vk vn vb ks) p = (.node k nm a sz vk vn vb ks, p) :: visL ks p' := by simp only [vis, hp']
    rw [hvis]
    clear hvis
    generalize hvv : (Tree.node k nm a sz vk vn vb ks, p) = tp at hsub ⊢
    simp only [Tree.cells] at hsub ⊢
    refine TriR.of (tri_of Tryz.func71 rfl Tryz.ntmps71 rfl fun j => ?_)
    repeat' (first | (with_reducible first | refine aw_seq ?_ | refine rl_nil ?_ | refine aw_region ?_ | refine then_n ?_ | refine aw_block ?_ | refine then_exit ?_ | refine then_ret ?_ | refine in_n ?_ | refine in_ret ?_ | refine aw_exit ?_ | refine aw_ret ?_ | refine aw_skip ?_ | refine in_exit_eq rfl ?_ | refine awr_succ ?_) | ((with_reducible refine k_move ?_); refine rl_pure (pv_move rfl) rfl rfl rfl ?_) | ((with_reducible refine k_load ?_); refine rl_val (vv_load_box_whole (by rfl) by_memb (by rfl) (by first | rfl | exact cells_len _)) rfl rfl rfl ?_) | ((with_reducible refine k_box ?_); refine rl_op rfl (op_box rfl (V.okc_or (by rfl)) rfl fun b => ?_)))
    (first | refine rl_op rfl (op_callR rfl rfl (.cons (.there .here) (.cons (.there .here) (.cons (.there .here) (.cons (.there .here) .nil)))) hsub rfl ?_) | refine dl_op (by assumption) by_wants (op_callR rfl rfl (.cons (.there .here) (.cons (.there .here) (.cons (.there .here) (.cons (.there .here) .nil)))) hsub rfl ?_))
    rintro v H' ⟨sv', rfl⟩
    repeat' (first | (with_reducible first | refine aw_seq ?_ | refine rl_nil ?_ | refine aw_region ?_ | refine then_n ?_ | refine aw_block ?_ | refine then_exit ?_ | refine then_ret ?_ | refine in_n ?_ | refine in_ret ?_ | refine aw_exit ?_ | refine aw_ret ?_ | refine aw_skip ?_ | refine in_exit_eq rfl ?_ | refine awr_succ ?_) | ((with_reducible refine k_move ?_); refine rl_pure (pv_move rfl) rfl rfl rfl ?_) | ((with_reducible refine k_assign ?_); refine rl_pure (pv_assign rfl) rfl rfl rfl ?_) | ((with_reducible refine k_load ?_); refine rl_val (vv_load_box (by rfl) by_memb (by rfl) by_bd) rfl rfl rfl ?_) | ((with_reducible refine k_fieldAddr ?_); refine rl_pure (pv_fieldAddr rfl) rfl rfl rfl ?_) | ((with_reducible refine k_eql ?_); refine rl_pure (pv_eql rfl rfl) rfl rfl rfl ?_) | ((with_reducible refine k_len ?_); refine rl_pure (pv_len_ro' (by rfl) by_len) rfl rfl rfl ?_) | (((with_reducible refine k_cond ?_); refine aw_cond rfl ?_ ?_) <;> ((fail_if_success (refine imp_known (by assumption) ?_)); (intro hb <;> (have hc := hb) <;> (try simp only [decide_eq_true_eq, decide_eq_false_iff_not, Int.not_lt, Int.not_le, ne_eq, Bool.not_eq_true, Bool.not_eq_false, Decidable.not_not] at hc) <;> (try (exfalso; omega)) <;> (try (exfalso; simp only [Bool.not_eq_eq_eq_not, Bool.not_true, Bool.not_false, decide_eq_true_eq, decide_eq_false_iff_not, ne_eq, Decidable.not_not, Int.not_lt, Int.not_le] at hc; omega)) <;> (try (first | contradiction | (cases hc; done))) <;> (try (first | exact absurd (hb.symm.trans (by assumption) : true = false) (by decide) | exact absurd (hb.symm.trans (by assumption) : false = true) (by decide)))))))
    all_goals
      first | rw [if_pos hc] at hp' | rw [if_neg hc] at hp'
      subst hp'
      have hkl := len_le_cnt ks
      have hrl := rowsOf_len ks
      refine aw_iter (α := Nat × Value) (fun q => [(1, str p'), (2, .fn 115 (cap13 bn bp bo)), (18, .ro (rowsOf ks)), (19, int (rowsOf ks).length), (20, int q.1)])
        (fun q => [.box bn 3 [int ((vs ++ [tp]) ++ visL (ks.take q.1) p').length], .box bp 3 [int packet], .box bo 33 [.own q.2], .vec q.2 38 7 ((((vs ++ [tp]) ++ visL (ks.take q.1) p').foldl (stepP packet) []).map NoteD.cells)])
        (fun q => q.1 ≤ ks.length) (fun q => ks.length - q.1) (0, sv') (Nat.zero_le _) (by (repeat (first | exact sub_nil | refine sub_cons (by first | rfl | (simp; done)) ?_))) (by simp only [List.take_zero, visL, List.append_nil]; exact (.cons .here (.cons .here (.cons .here (.cons .here .nil))))) fun q hq => ?_
      obtain ⟨i, sv⟩ := q
      dsimp only at hq ⊢
      rcases Nat.lt_or_ge i ks.length with h | h
      · obtain ⟨kid, hy⟩ : ∃ y, ks[i]? = some y := ⟨_, List.getElem?_eq_getElem h⟩
        have hr := rowsOf_get hy
        have hc1 := cntL_get hy
        have hv1 := visL_take p' hy
        have hl1 := visL_len (ks.take i) p'
        repeat' (first | (with_reducible first | refine aw_seq ?_ | refine rl_nil ?_ | refine aw_region ?_ | refine then_n ?_ | refine aw_block ?_ | refine then_exit ?_ | refine then_ret ?_ | refine in_n ?_ | refine in_ret ?_ | refine aw_exit ?_ | refine aw_ret ?_ | refine aw_skip ?_ | refine in_exit_eq rfl ?_ | refine awr_succ ?_) | ((with_reducible refine k_move ?_); refine rl_pure (pv_move rfl) rfl rfl rfl ?_) | ((with_reducible refine k_load ?_); (first | refine rl_val (vv_load_ro_whole (by rfl) (by rfl) (by first | rfl | exact cells_len _)) rfl rfl rfl ?_ | refine rl_val (vv_load_box_whole (by rfl) by_memb (by rfl) (by first | rfl | exact cells_len _)) rfl rfl rfl ?_)) | ((with_reducible refine k_store ?_); refine rl_op rfl (op_store_box_whole (by rfl) (by rfl) (V.okc_or (by rfl)) by_upd (by first | rfl | exact cells_len _) (by first | rfl | exact cells_len _) ?_)) | ((with_reducible refine k_alloc ?_); refine rl_op rfl (op_alloc (by decide) rfl fun b => ?_)) | ((with_reducible refine k_lss ?_); refine rl_pure (pv_lss rfl rfl) rfl rfl rfl ?_) | ((with_reducible refine k_indexAddr ?_); refine rl_pure (pv_indexAddr_ro (by rfl) rfl (by omega) (by first | rfl | assumption) (by first | rfl | exact cells_len _)) rfl rfl rfl ?_) | (((with_reducible refine k_cond ?_); refine aw_cond rfl ?_ ?_) <;> ((fail_if_success (refine imp_known (by assumption) ?_)); (intro hb <;> (have hc := hb) <;> (try simp only [decide_eq_true_eq, decide_eq_false_iff_not, Int.not_lt, Int.not_le, ne_eq, Bool.not_eq_true, Bool.not_eq_false, Decidable.not_not] at hc) <;> (try (exfalso; omega)) <;> (try (exfalso; simp only [Bool.not_eq_eq_eq_not, Bool.not_true, Bool.not_false, decide_eq_true_eq, decide_eq_false_iff_not, ne_eq, Decidable.not_not, Int.not_lt, Int.not_le] at hc; omega)) <;> (try (first | contradiction | (cases hc; done))) <;> (try (first | exact absurd (hb.symm.trans (by assumption) : true = false) (by decide) | exact absurd (hb.symm.trans (by assumption) : false = true) (by decide)))))))
        have hih := ih kid (by omega) p' ((vs ++ [tp]) ++ visL (ks.take i) p') _ ⟨sv, rfl⟩ (by simp only [List.length_append, List.length_cons, List.length_nil]; omega)
        (first | refine rl_op rfl (op_callR rfl rfl (.cons (.there .here) (.cons (.there .here) (.cons (.there .here) (.cons (.there .here) .nil)))) hih rfl ?_) | refine dl_op (by assumption) by_wants (op_callR rfl rfl (.cons (.there .here) (.cons (.there .here) (.cons (.there .here) (.cons (.there .here) .nil)))) hih rfl ?_))
        intro _ _ hK
        rw [List.append_assoc (vs ++ [tp]), ← hv1] at hK
        obtain ⟨sv2, rfl⟩ := hK
        repeat' (first | (with_reducible first | refine aw_seq ?_ | refine rl_nil ?_ | refine aw_region ?_ | refine then_n ?_ | refine aw_block ?_ | refine then_exit ?_ | refine then_ret ?_ | refine in_n ?_ | refine in_ret ?_ | refine aw_exit ?_ | refine aw_ret ?_ | refine aw_skip ?_ | refine in_exit_eq rfl ?_ | refine awr_succ ?_) | ((with_reducible refine k_move ?_); refine rl_pure (pv_move rfl) rfl rfl rfl ?_) | ((with_reducible refine k_add ?_); refine rl_pure (pv_add_in rfl rfl (by omega)) rfl rfl rfl ?_))
        exact next_of (i + 1, sv2) (by show i + 1 ≤ ks.length; omega) (by show ks.length - (i + 1) < ks.length - i; omega) (by (repeat (first | exact sub_nil | refine sub_cons (by first | rfl | (simp; done)) ?_))) (.cons .here (.cons .here (.cons .here (.cons .here .nil))))
      · repeat' (first | (with_reducible first | refine aw_seq ?_ | refine rl_nil ?_ | refine aw_region ?_ | refine then_n ?_ | refine aw_block ?_ | refine then_exit ?_ | refine then_ret ?_ | refine in_n ?_ | refine in_ret ?_ | refine aw_exit ?_ | refine aw_ret ?_ | refine aw_skip ?_ | refine in_exit_eq rfl ?_ | refine awr_succ ?_) | ((with_reducible refine k_lss ?_); refine rl_pure (pv_lss rfl rfl) rfl rfl rfl ?_) | (((with_reducible refine k_cond ?_); refine aw_cond rfl ?_ ?_) <;> ((fail_if_success (refine imp_known (by assumption) ?_)); (intro hb <;> (have hc := hb) <;> (try simp only [decide_eq_true_eq, decide_eq_false_iff_not, Int.not_lt, Int.not_le, ne_eq, Bool.not_eq_true, Bool.not_eq_false, Decidable.not_not] at hc) <;> (try (exfalso; omega)) <;> (try (exfalso; simp only [Bool.not_eq_eq_eq_not, Bool.not_true, Bool.not_false, decide_eq_true_eq, decide_eq_false_iff_not, ne_eq, Decidable.not_not, Int.not_lt, Int.not_le] at hc; omega)) <;> (try (first | contradiction | (cases hc; done))) <;> (try (first | exact absurd (hb.symm.trans (by assumption) : true = false) (by decide) | exact absurd (hb.symm.trans (by assumption) : false = true) (by decide)))))))
        (first | refine ret_r (retok_pick (.cons .here (.cons .here (.cons .here (.cons .here .nil)))) (ret0 rfl  (List.Sublist.refl _) ⟨_, rfl, ?_⟩)) | refine ret_n (retok_pick (.cons .here (.cons .here (.cons .here (.cons .here .nil)))) (ret0 rfl  (List.Sublist.refl _) ⟨_, rfl, ?_⟩)))
        rw [List.take_of_length_le h, List.append_assoc]
        exact ⟨sv, rfl⟩
end Go.Proofs.YtafpjnkfbfkjcaaGreatDoor

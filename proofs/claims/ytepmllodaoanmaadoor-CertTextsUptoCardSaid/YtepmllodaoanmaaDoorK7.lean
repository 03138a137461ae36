/- CertTexts: for all types and values the law returns true: the texts of a type and of a value are the reference's. Conditions: what is read is of bulk at most 1048576 (the second form). The card: the listed variables are tied to the text of the program. -/
import Derived.Test.YtepmllodaoanmaaDoorK6
import Derived.Test.YtepmllodaoanmaaDoorK2
import Derived.Test.YtepmllodaoanmaaDoorK5
import Derived.Test.YtepmllodaoanmaaDoorAx0
import Derived.Test.YtepmllodaoanmaaDoorRows
import Derived.Test.YtepmllodaoanmaaDoorAx1
import Derived.Test.YtepmllodaoanmaaDoorTie
import Derived.Test.YtepmllodaoanmaaDoorCards
import Derived.Deep.DeepWitnessRowRef
import Derived.Lay
set_option linter.unusedVariables false
set_option linter.unusedSimpArgs false
namespace Go.Proofs.YtepmllodaoanmaaDoor
open Go Go.AX
set_option maxHeartbeats 8000000
set_option maxRecDepth 20000
attribute [local irreducible] AW RL OP PureV ValV HV DL DX Tri TriR Fun RetOk ResV
theorem body60 : ∀ (n : Nat) (t : Typ) (d : Dat), t.wt ≤ n → n ≤ 1048576 → d.wt ≤ 32768 → okT t = true → fitT t d = true → Fun Tryd.prog 78 [.agg t.cells, .agg d.cells] (.ro ((bodyT t d).map br)) := by
  intro n
  induction n with
  | zero => intro t d h; have := wt_eq t; omega
  | succ n ih =>
    intro t d hw hn hdw hok hf
    have hwe := wt_eq t
    have hll := wtL_len t.l
    have hdwe := dwt_eq d
    have hdl := wtD_len d.l
    have hkid : ∀ (i : Nat) x (k : Nat) u, t.l[i]? = some x → d.l[k]? = some u → fitT x u = true → (bodyT x u).length + 10 ≤ 20 * u.wt ∧ Fun Tryd.prog 78 [.agg x.cells, .agg u.cells] (.ro ((bodyT x u).map br)) ∧ Fun Tryd.prog 53 [.agg x.cells, .agg u.cells] (.ro ((basT x u).map br)) := fun i x k u hx hu hfu => by
      have hokx := okT_kid hok x (List.mem_of_getElem? hx)
      have hwu := wtD_take hu
      have hB := ih x u (by have := wtL_take hx; omega) (by omega) (by omega) hokx hfu
      have hbl := body_len _ x u (Nat.le_refl _) hokx hfu
      exact ⟨hbl, hB, basic37 x u hokx (fit_n5 hokx hfu) (by omega) hB⟩
    clear ih
    rw [fitT_eq, Bool.and_eq_true] at hf
    obtain ⟨hf0, hf⟩ := hf
    have hf0 := of_decide_eq_true hf0
    have hout := bodyT_eq t d
    rw [cells_eq t, dcells_eq d]
    rcases okT_cls hok with hk | hk | hk | hk | hk | hk | hk | hk
    · -- 0
      rw [if_pos (by omega)] at hf hout
      rw [hout]
      have hf := of_decide_eq_true hf
      refine Fun.of (TriR.of (tri_of Tryd.func78 rfl Tryd.ntmps78 rfl fun j => ?_))
      repeat' (first | (with_reducible first | refine aw_seq ?_ | refine rl_nil ?_ | refine aw_region ?_ | refine then_n ?_ | refine aw_block ?_ | refine then_exit ?_ | refine then_ret ?_ | refine in_n ?_ | refine in_ret ?_ | refine aw_exit ?_ | refine aw_ret ?_ | refine aw_skip ?_ | refine in_exit_eq rfl ?_ | refine awr_succ ?_) | ((with_reducible refine k_assign ?_); refine rl_pure (pv_assign rfl) rfl rfl rfl ?_) | ((with_reducible refine k_load ?_); refine rl_val (vv_load_box (by rfl) by_memb (by rfl) by_bd) rfl rfl rfl ?_) | ((with_reducible refine k_fieldAddr ?_); refine rl_pure (pv_fieldAddr rfl) rfl rfl rfl ?_) | ((with_reducible refine k_box ?_); refine rl_op rfl (op_box rfl (V.okc_or (by rfl)) rfl fun b => ?_)) | ((with_reducible refine k_eql ?_); refine rl_pure (pv_eql rfl rfl) rfl rfl rfl ?_) | ((with_reducible refine k_mul ?_); refine rl_pure (pv_mul_in rfl rfl (by omega)) rfl rfl rfl ?_) | ((with_reducible refine k_buildSlice ?_); refine rl_op rfl (op_buildSlice_ro rfl rfl rfl (by rfl) (by rfl) (by rfl) (by rfl) rfl by_rows ?_)) | ((with_reducible refine k_convert ?_); refine rl_pure (pv_convert_in rfl (by first | rfl | exact IntWalk.i64_in _ (by omega) | exact IntWalk.u8_in _ (by omega) | exact IntWalk.u32_in _ (by omega))) rfl rfl rfl ?_) | (((with_reducible refine k_cond ?_); refine aw_cond rfl ?_ ?_) <;> ((fail_if_success (refine imp_known (by assumption) ?_)); (intro hb <;> (have hc := hb) <;> (try simp only [decide_eq_true_eq, decide_eq_false_iff_not, Int.not_lt, Int.not_le, ne_eq, Bool.not_eq_true, Bool.not_eq_false, Decidable.not_not] at hc) <;> (try (exfalso; omega)) <;> (try (exfalso; simp only [Bool.not_eq_eq_eq_not, Bool.not_true, Bool.not_false, decide_eq_true_eq, decide_eq_false_iff_not, ne_eq, Decidable.not_not, Int.not_lt, Int.not_le] at hc; omega)) <;> (try (first | contradiction | (cases hc; done))) <;> (try (first | exact absurd (hb.symm.trans (by assumption) : true = false) (by decide) | exact absurd (hb.symm.trans (by assumption) : false = true) (by decide)))))))
      all_goals first
      | (exfalso; omega)
      | skip
      (first | refine ret_r (ret1 rfl by_res (List.nil_sublist _) ⟨_, rfl, ?_⟩) | refine ret_n (ret1 rfl by_res (List.nil_sublist _) ⟨_, rfl, ?_⟩))
      refine ⟨?_, rfl⟩
      rw [show 255 * d.n % 256 = 255 * d.n by omega]
      rfl
    · -- 7
      rw [if_neg (by omega), if_neg (by omega), if_neg (by omega), if_neg (by omega), if_neg (by omega), if_neg (by omega)] at hf hout
      rw [hout]
      refine Fun.of (TriR.of (tri_of Tryd.func78 rfl Tryd.ntmps78 rfl fun j => ?_))
      repeat' (first | (with_reducible first | refine aw_seq ?_ | refine rl_nil ?_ | refine aw_region ?_ | refine then_n ?_ | refine aw_block ?_ | refine then_exit ?_ | refine then_ret ?_ | refine in_n ?_ | refine in_ret ?_ | refine aw_exit ?_ | refine aw_ret ?_ | refine aw_skip ?_ | refine in_exit_eq rfl ?_ | refine awr_succ ?_) | ((with_reducible refine k_move ?_); refine rl_pure (pv_move rfl) rfl rfl rfl ?_) | ((with_reducible refine k_assign ?_); refine rl_pure (pv_assign rfl) rfl rfl rfl ?_) | ((with_reducible refine k_load ?_); refine rl_val (vv_load_box (by rfl) by_memb (by rfl) by_bd) rfl rfl rfl ?_) | ((with_reducible refine k_fieldAddr ?_); refine rl_pure (pv_fieldAddr rfl) rfl rfl rfl ?_) | ((with_reducible refine k_box ?_); refine rl_op rfl (op_box rfl (V.okc_or (by rfl)) rfl fun b => ?_)) | ((with_reducible refine k_eql ?_); refine rl_pure (pv_eql rfl rfl) rfl rfl rfl ?_) | (((with_reducible refine k_cond ?_); refine aw_cond rfl ?_ ?_) <;> ((fail_if_success (refine imp_known (by assumption) ?_)); (intro hb <;> (have hc := hb) <;> (try simp only [decide_eq_true_eq, decide_eq_false_iff_not, Int.not_lt, Int.not_le, ne_eq, Bool.not_eq_true, Bool.not_eq_false, Decidable.not_not] at hc) <;> (try (exfalso; omega)) <;> (try (exfalso; simp only [Bool.not_eq_eq_eq_not, Bool.not_true, Bool.not_false, decide_eq_true_eq, decide_eq_false_iff_not, ne_eq, Decidable.not_not, Int.not_lt, Int.not_le] at hc; omega)) <;> (try (first | contradiction | (cases hc; done))) <;> (try (first | exact absurd (hb.symm.trans (by assumption) : true = false) (by decide) | exact absurd (hb.symm.trans (by assumption) : false = true) (by decide)))))))
      all_goals first
      | (exfalso; omega)
      | skip
      refine ret_r (retok_nil_ro 4 rfl (ret1 rfl by_res (List.nil_sublist _) ⟨_, rfl, ?_⟩))
      exact ⟨rfl, rfl⟩
    · -- 1
      rw [if_neg (by omega), if_pos (by omega)] at hf hout
      rw [hout]
      have hf := of_decide_eq_true hf
      have h86 := number86 d.n (by omega)
      refine Fun.of (TriR.of (tri_of Tryd.func78 rfl Tryd.ntmps78 rfl fun j => ?_))
      repeat' (first | (with_reducible first | refine aw_seq ?_ | refine rl_nil ?_ | refine aw_region ?_ | refine then_n ?_ | refine aw_block ?_ | refine then_exit ?_ | refine then_ret ?_ | refine in_n ?_ | refine in_ret ?_ | refine aw_exit ?_ | refine aw_ret ?_ | refine aw_skip ?_ | refine in_exit_eq rfl ?_ | refine awr_succ ?_) | ((with_reducible refine k_assign ?_); refine rl_pure (pv_assign rfl) rfl rfl rfl ?_) | ((with_reducible refine k_load ?_); refine rl_val (vv_load_box (by rfl) by_memb (by rfl) by_bd) rfl rfl rfl ?_) | ((with_reducible refine k_fieldAddr ?_); refine rl_pure (pv_fieldAddr rfl) rfl rfl rfl ?_) | ((with_reducible refine k_box ?_); refine rl_op rfl (op_box rfl (V.okc_or (by rfl)) rfl fun b => ?_)) | ((with_reducible refine k_eql ?_); refine rl_pure (pv_eql rfl rfl) rfl rfl rfl ?_) | ((with_reducible refine k_cond ?_); refine aw_cond_yes rfl (by assumption) ?_) | ((with_reducible refine k_callv ?_); refine rl_op rfl (op_callF rfl rfl (h86) rfl ?_)) | (((with_reducible refine k_cond ?_); refine aw_cond rfl ?_ ?_) <;> ((fail_if_success (refine imp_known (by assumption) ?_)); (intro hb <;> (have hc := hb) <;> (try simp only [decide_eq_true_eq, decide_eq_false_iff_not, Int.not_lt, Int.not_le, ne_eq, Bool.not_eq_true, Bool.not_eq_false, Decidable.not_not] at hc) <;> (try (exfalso; omega)) <;> (try (exfalso; simp only [Bool.not_eq_eq_eq_not, Bool.not_true, Bool.not_false, decide_eq_true_eq, decide_eq_false_iff_not, ne_eq, Decidable.not_not, Int.not_lt, Int.not_le] at hc; omega)) <;> (try (first | contradiction | (cases hc; done))) <;> (try (first | exact absurd (hb.symm.trans (by assumption) : true = false) (by decide) | exact absurd (hb.symm.trans (by assumption) : false = true) (by decide)))))))
      all_goals first
      | (exfalso; omega)
      | skip
      (first | refine ret_r (ret1 rfl by_res (List.nil_sublist _) ⟨_, rfl, ?_⟩) | refine ret_n (ret1 rfl by_res (List.nil_sublist _) ⟨_, rfl, ?_⟩))
      exact ⟨rfl, rfl⟩
    · -- 2
      rw [if_neg (by omega), if_neg (by omega), if_pos (by omega)] at hf hout
      rw [hout]
      refine Fun.of (TriR.of (tri_of Tryd.func78 rfl Tryd.ntmps78 rfl fun j => ?_))
      repeat' (first | (with_reducible first | refine aw_seq ?_ | refine rl_nil ?_ | refine aw_region ?_ | refine then_n ?_ | refine aw_block ?_ | refine then_exit ?_ | refine then_ret ?_ | refine in_n ?_ | refine in_ret ?_ | refine aw_exit ?_ | refine aw_ret ?_ | refine aw_skip ?_ | refine in_exit_eq rfl ?_ | refine awr_succ ?_) | ((with_reducible refine k_assign ?_); refine rl_pure (pv_assign rfl) rfl rfl rfl ?_) | ((with_reducible refine k_load ?_); refine rl_val (vv_load_box (by rfl) by_memb (by rfl) by_bd) rfl rfl rfl ?_) | ((with_reducible refine k_fieldAddr ?_); refine rl_pure (pv_fieldAddr rfl) rfl rfl rfl ?_) | ((with_reducible refine k_box ?_); refine rl_op rfl (op_box rfl (V.okc_or (by rfl)) rfl fun b => ?_)) | ((with_reducible refine k_eql ?_); refine rl_pure (pv_eql rfl rfl) rfl rfl rfl ?_) | (((with_reducible refine k_cond ?_); refine aw_cond rfl ?_ ?_) <;> ((fail_if_success (refine imp_known (by assumption) ?_)); (intro hb <;> (have hc := hb) <;> (try simp only [decide_eq_true_eq, decide_eq_false_iff_not, Int.not_lt, Int.not_le, ne_eq, Bool.not_eq_true, Bool.not_eq_false, Decidable.not_not] at hc) <;> (try (exfalso; omega)) <;> (try (exfalso; simp only [Bool.not_eq_eq_eq_not, Bool.not_true, Bool.not_false, decide_eq_true_eq, decide_eq_false_iff_not, ne_eq, Decidable.not_not, Int.not_lt, Int.not_le] at hc; omega)) <;> (try (first | contradiction | (cases hc; done))) <;> (try (first | exact absurd (hb.symm.trans (by assumption) : true = false) (by decide) | exact absurd (hb.symm.trans (by assumption) : false = true) (by decide)))))))
      all_goals first
      | (exfalso; omega)
      | skip
      (first | refine ret_r (ret1 rfl by_res (List.nil_sublist _) ⟨_, rfl, ?_⟩) | refine ret_n (ret1 rfl by_res (List.nil_sublist _) ⟨_, rfl, ?_⟩))
      exact ⟨rfl, rfl⟩
    · -- 3
      rw [if_neg (by omega), if_pos (by omega)] at hf hout
      rw [hout]
      have hf := of_decide_eq_true hf
      have h86 := number86 d.n (by omega)
      refine Fun.of (TriR.of (tri_of Tryd.func78 rfl Tryd.ntmps78 rfl fun j => ?_))
      repeat' (first | (with_reducible first | refine aw_seq ?_ | refine rl_nil ?_ | refine aw_region ?_ | refine then_n ?_ | refine aw_block ?_ | refine then_exit ?_ | refine then_ret ?_ | refine in_n ?_ | refine in_ret ?_ | refine aw_exit ?_ | refine aw_ret ?_ | refine aw_skip ?_ | refine in_exit_eq rfl ?_ | refine awr_succ ?_) | ((with_reducible refine k_assign ?_); refine rl_pure (pv_assign rfl) rfl rfl rfl ?_) | ((with_reducible refine k_load ?_); refine rl_val (vv_load_box (by rfl) by_memb (by rfl) by_bd) rfl rfl rfl ?_) | ((with_reducible refine k_fieldAddr ?_); refine rl_pure (pv_fieldAddr rfl) rfl rfl rfl ?_) | ((with_reducible refine k_box ?_); refine rl_op rfl (op_box rfl (V.okc_or (by rfl)) rfl fun b => ?_)) | ((with_reducible refine k_eql ?_); refine rl_pure (pv_eql rfl rfl) rfl rfl rfl ?_) | ((with_reducible refine k_callv ?_); refine rl_op rfl (op_callF rfl rfl (h86) rfl ?_)) | (((with_reducible refine k_cond ?_); refine aw_cond rfl ?_ ?_) <;> ((fail_if_success (refine imp_known (by assumption) ?_)); (intro hb <;> (have hc := hb) <;> (try simp only [decide_eq_true_eq, decide_eq_false_iff_not, Int.not_lt, Int.not_le, ne_eq, Bool.not_eq_true, Bool.not_eq_false, Decidable.not_not] at hc) <;> (try (exfalso; omega)) <;> (try (exfalso; simp only [Bool.not_eq_eq_eq_not, Bool.not_true, Bool.not_false, decide_eq_true_eq, decide_eq_false_iff_not, ne_eq, Decidable.not_not, Int.not_lt, Int.not_le] at hc; omega)) <;> (try (first | contradiction | (cases hc; done))) <;> (try (first | exact absurd (hb.symm.trans (by assumption) : true = false) (by decide) | exact absurd (hb.symm.trans (by assumption) : false = true) (by decide)))))))
      all_goals first
      | (exfalso; omega)
      | skip
      (first | refine ret_r (ret1 rfl by_res (List.nil_sublist _) ⟨_, rfl, ?_⟩) | refine ret_n (ret1 rfl by_res (List.nil_sublist _) ⟨_, rfl, ?_⟩))
      exact ⟨rfl, rfl⟩
    · -- 4
      rw [if_neg (by omega), if_neg (by omega), if_neg (by omega), if_pos (by omega)] at hf hout
      rw [hout]
      simp only [Bool.and_eq_true, decide_eq_true_eq] at hf
      obtain ⟨⟨_, hfl⟩, hfr⟩ := hf
      refine Fun.of (TriR.of (tri_of Tryd.func78 rfl Tryd.ntmps78 rfl fun j => ?_))
      repeat' (first | (with_reducible first | refine aw_seq ?_ | refine rl_nil ?_ | refine aw_region ?_ | refine then_n ?_ | refine aw_block ?_ | refine then_exit ?_ | refine then_ret ?_ | refine in_n ?_ | refine in_ret ?_ | refine aw_exit ?_ | refine aw_ret ?_ | refine aw_skip ?_ | refine in_exit_eq rfl ?_ | refine awr_succ ?_) | ((with_reducible refine k_assign ?_); refine rl_pure (pv_assign rfl) rfl rfl rfl ?_) | ((with_reducible refine k_load ?_); refine rl_val (vv_load_box (by rfl) by_memb (by rfl) by_bd) rfl rfl rfl ?_) | ((with_reducible refine k_fieldAddr ?_); refine rl_pure (pv_fieldAddr rfl) rfl rfl rfl ?_) | ((with_reducible refine k_box ?_); refine rl_op rfl (op_box rfl (V.okc_or (by rfl)) rfl fun b => ?_)) | ((with_reducible refine k_eql ?_); refine rl_pure (pv_eql rfl rfl) rfl rfl rfl ?_) | (((with_reducible refine k_cond ?_); refine aw_cond rfl ?_ ?_) <;> ((fail_if_success (refine imp_known (by assumption) ?_)); (intro hb <;> (have hc := hb) <;> (try simp only [decide_eq_true_eq, decide_eq_false_iff_not, Int.not_lt, Int.not_le, ne_eq, Bool.not_eq_true, Bool.not_eq_false, Decidable.not_not] at hc) <;> (try (exfalso; omega)) <;> (try (exfalso; simp only [Bool.not_eq_eq_eq_not, Bool.not_true, Bool.not_false, decide_eq_true_eq, decide_eq_false_iff_not, ne_eq, Decidable.not_not, Int.not_lt, Int.not_le] at hc; omega)) <;> (try (first | contradiction | (cases hc; done))) <;> (try (first | exact absurd (hb.symm.trans (by assumption) : true = false) (by decide) | exact absurd (hb.symm.trans (by assumption) : false = true) (by decide)))))))
      all_goals first
      | (exfalso; omega)
      | skip
      refine aw_nil_own 5 5 1 rfl ?_
      revert b; intro bd
      refine aw_iter (α := Nat × Value) (fun q => [(2, ptr b), (3, ptr bd), (5, .own q.2), (6, int q.1)])
        (fun q => [.vec q.2 5 1 ((rowB (t.l.take q.1) (d.l.take q.1) 0).map br), .box bd 28 [int d.kind, int d.n, .ro (d.b.map br), bool d.set, .ro (d.l.map Dat.cells)], .box b 24 [int t.kind, str t.name, int t.lo, int t.hi, bool t.opt, .ro (t.l.map Typ.cells)]])
        (fun q => q.1 ≤ t.l.length) (fun q => t.l.length - q.1)
        (0, .slice none 0 0) (Nat.zero_le _) (by (repeat (first | exact sub_nil | refine sub_cons (by first | rfl | (simp; done)) ?_))) (by dsimp only; rw [List.take_zero, List.take_zero, rowB]; exact (.cons .here (.cons .here (.cons .here .nil)))) fun q hI => ?_
      obtain ⟨i, so⟩ := q
      dsimp only at hI ⊢
      rcases Nat.lt_or_ge i t.l.length with hlt | hge
      · obtain ⟨x, hx⟩ : ∃ x, t.l[i]? = some x := ⟨_, List.getElem?_eq_getElem hlt⟩
        obtain ⟨u, hu⟩ : ∃ u, d.l[i]? = some u := ⟨_, List.getElem?_eq_getElem (by omega)⟩
        have hr1 : (t.l.map Typ.cells)[i]? = some x.cells := by simp [hx]
        have hr2 : (d.l.map Dat.cells)[i]? = some u.cells := by simp [hu]
        have hft := rowB_take (k := 0) hx hu
        have hwt := wtD_take hu
        have hpl : (rowB (t.l.take i) (d.l.take i) 0).length ≤ 20 * wtD (d.l.take i) := rowB_len 0 fun k y v hy hv hs => by
          rw [List.getElem?_take] at hy hv
          split at hy
          · rename_i hki
            rw [if_pos hki] at hv
            exact (hkid k y k v hy hv (fitRow_get hfr hy hv hs)).1
          · cases hy
        rw [Nat.zero_add] at hft
        have hkd := fun hs => hkid i x i u hx hu (fitRow_get hfr hx hu hs)
        clear hkid
        rw [cells_eq] at hr1
        rw [dcells_eq] at hr2
        cases hs : u.set
        · have hpb : partB x u i = [] := by rw [partB, if_neg (by simp [hs])]
          rw [hs] at hr2
          repeat' (first | (with_reducible first | refine aw_seq ?_ | refine rl_nil ?_ | refine aw_region ?_ | refine then_n ?_ | refine aw_block ?_ | refine then_exit ?_ | refine then_ret ?_ | refine in_n ?_ | refine in_ret ?_ | refine aw_exit ?_ | refine aw_ret ?_ | refine aw_skip ?_ | refine in_exit_eq rfl ?_ | refine awr_succ ?_) | ((with_reducible refine k_move ?_); refine rl_pure (pv_move rfl) rfl rfl rfl ?_) | ((with_reducible refine k_assign ?_); refine rl_pure (pv_assign rfl) rfl rfl rfl ?_) | ((with_reducible refine k_load ?_); (first | refine rl_val (vv_load_ro (by rfl) (by rfl) by_bd) rfl rfl rfl ?_ | refine rl_val (vv_load_box (by rfl) by_memb (by rfl) by_bd) rfl rfl rfl ?_)) | ((with_reducible refine k_fieldAddr ?_); (first | refine rl_pure (pv_fieldAddr rfl) rfl rfl rfl ?_ | refine rl_pure (pv_fieldAddr_ro rfl) rfl rfl rfl ?_)) | ((with_reducible refine k_lss ?_); refine rl_pure (pv_lss rfl rfl) rfl rfl rfl ?_) | ((with_reducible refine k_add ?_); refine rl_pure (pv_add_in rfl rfl (by omega)) rfl rfl rfl ?_) | ((with_reducible refine k_not ?_); refine rl_pure (pv_not rfl) rfl rfl rfl ?_) | ((with_reducible refine k_len ?_); refine rl_pure (pv_len_ro' (by rfl) by_len) rfl rfl rfl ?_) | ((with_reducible refine k_indexAddr ?_); refine rl_pure (pv_indexAddr_ro (by rfl) rfl (by omega) (by first | rfl | assumption) (by first | rfl | exact tcells_len _ | exact dcells_len _)) rfl rfl rfl ?_) | ((with_reducible refine k_cond ?_); refine aw_cond_t rfl ?_) | (((with_reducible refine k_cond ?_); refine aw_cond rfl ?_ ?_) <;> ((fail_if_success (refine imp_known (by assumption) ?_)); (intro hb <;> (have hc := hb) <;> (try simp only [decide_eq_true_eq, decide_eq_false_iff_not, Int.not_lt, Int.not_le, ne_eq, Bool.not_eq_true, Bool.not_eq_false, Decidable.not_not] at hc) <;> (try (exfalso; omega)) <;> (try (exfalso; simp only [Bool.not_eq_eq_eq_not, Bool.not_true, Bool.not_false, decide_eq_true_eq, decide_eq_false_iff_not, ne_eq, Decidable.not_not, Int.not_lt, Int.not_le] at hc; omega)) <;> (try (first | contradiction | (cases hc; done))) <;> (try (first | exact absurd (hb.symm.trans (by assumption) : true = false) (by decide) | exact absurd (hb.symm.trans (by assumption) : false = true) (by decide)))))))
          exact next_of (R := []) (i + 1, so) hlt (by dsimp only; omega) (by (repeat (first | exact sub_nil | refine sub_cons (by first | rfl | (simp; done)) ?_))) (by dsimp only; rw [hft, hpb, List.append_nil]; exact (.cons .here (.cons .here (.cons .here .nil))))
        · obtain ⟨hbl, h60, h37⟩ := hkd hs
          clear hkd
          have hpb : partB x u i = tagd (128 + i) (if x.kind = 5 then basT x u else bodyT x u) := by rw [partB, if_pos hs]
          have hbt : (basT x u).length ≤ (bodyT x u).length + 5 := tagd_len _ _
          have h62 := len62 (bodyT x u).length (by omega)
          have h62b := len62 (basT x u).length (by omega)
          have hll := lenB_le (bodyT x u).length
          have hllb := lenB_le (basT x u).length
          rw [cells_eq] at h60 h37
          rw [dcells_eq] at h60 h37
          rw [hs] at hr2 h60 h37
          have hfin : ∀ z : List Int, (rowB (t.l.take i) (d.l.take i) 0).map br ++ [br (128 + (i : Int))] ++ (lenB z.length).map br ++ z.map br = (rowB (t.l.take i) (d.l.take i) 0 ++ tagd (128 + i) z).map br := fun z => by
            simp only [tagd, List.map_cons, List.map_append, List.map_nil, List.append_assoc, List.cons_append, List.nil_append]
          repeat' (first | (with_reducible first | refine aw_seq ?_ | refine rl_nil ?_ | refine aw_region ?_ | refine then_n ?_ | refine aw_block ?_ | refine then_exit ?_ | refine then_ret ?_ | refine in_n ?_ | refine in_ret ?_ | refine aw_exit ?_ | refine aw_ret ?_ | refine aw_skip ?_ | refine in_exit_eq rfl ?_ | refine awr_succ ?_) | ((with_reducible refine k_move ?_); refine rl_pure (pv_move rfl) rfl rfl rfl ?_) | ((with_reducible refine k_load ?_); (first | refine rl_val (vv_load_ro (by rfl) (by rfl) by_bd) rfl rfl rfl ?_ | refine rl_val (vv_load_box (by rfl) by_memb (by rfl) by_bd) rfl rfl rfl ?_)) | ((with_reducible refine k_fieldAddr ?_); (first | refine rl_pure (pv_fieldAddr rfl) rfl rfl rfl ?_ | refine rl_pure (pv_fieldAddr_ro rfl) rfl rfl rfl ?_)) | ((with_reducible refine k_eql ?_); refine rl_pure (pv_eql rfl rfl) rfl rfl rfl ?_) | ((with_reducible refine k_lss ?_); refine rl_pure (pv_lss rfl rfl) rfl rfl rfl ?_) | ((with_reducible refine k_add ?_); refine rl_pure (pv_add_in rfl rfl (by omega)) rfl rfl rfl ?_) | ((with_reducible refine k_not ?_); refine rl_pure (pv_not rfl) rfl rfl rfl ?_) | ((with_reducible refine k_len ?_); refine rl_pure (pv_len_ro' (by rfl) by_len) rfl rfl rfl ?_) | ((with_reducible refine k_indexAddr ?_); refine rl_pure (pv_indexAddr_ro (by rfl) rfl (by omega) (by first | rfl | assumption) (by first | rfl | exact tcells_len _ | exact dcells_len _)) rfl rfl rfl ?_) | ((with_reducible refine k_buildSlice ?_); refine rl_op rfl (op_buildSlice_ro rfl rfl rfl (by rfl) (by rfl) (by rfl) (by rfl) rfl by_rows ?_)) | ((with_reducible refine k_convert ?_); refine rl_pure (pv_convert_in rfl (by first | rfl | exact IntWalk.i64_in _ (by omega) | exact IntWalk.u8_in _ (by omega) | exact IntWalk.u32_in _ (by omega))) rfl rfl rfl ?_) | ((with_reducible refine k_cond ?_); refine aw_cond_f rfl ?_) | (with_reducible refine dl_nil by_app ?_) | ((with_reducible refine kd_move ?_); refine dl_pure (by assumption) (pv_move rfl) by_wants rfl rfl ?_) | ((with_reducible refine kd_assign ?_); refine dl_pure (by assumption) (pv_assign rfl) by_wants rfl rfl ?_) | ((with_reducible refine kd_fieldAddr ?_); refine dl_pure (by assumption) (pv_fieldAddr rfl) by_wants rfl rfl ?_) | ((with_reducible refine kd_indexAddr ?_); refine dl_pure (by assumption) (pv_indexAddr_ro (by rfl) rfl (by omega) (by first | rfl | assumption) (by first | rfl | exact tcells_len _ | exact dcells_len _)) by_wants rfl rfl ?_) | ((with_reducible refine kd_load ?_); (first | refine dl_take (by assumption) (hv_load_ro_whole (by assumption) (by rfl) (by rfl) (by first | rfl | exact tcells_len _ | exact dcells_len _)) by_wants rfl rfl ?_ | refine dl_take (by assumption) (hv_load_box (by assumption) (by rfl) by_mem0 (by rfl) by_bd) by_wants rfl rfl ?_)) | (refine aw_draw (id := 15) [(false, 0), (false, 1), (false, 2), (false, 3), (false, 4), (false, 5), (false, 6), (false, 7), (false, 8), (false, 9), (true, 10), (false, 11)] [] (by kernel_rfl) (by decide +kernel) (by decide) by_lit .nil by_nos fun jd hjd => ?_) | (refine aw_draw (id := 17) [(false, 0), (false, 1), (false, 2), (false, 3), (false, 4), (false, 5), (false, 6), (false, 7), (false, 8), (false, 9), (true, 10), (false, 11)] [] (by kernel_rfl) (by decide +kernel) (by decide) by_lit .nil by_nos fun jd hjd => ?_) | ((with_reducible refine kd_callv ?_); (first | (refine dl_op (by assumption) by_wants (op_callF rfl rfl (h60) rfl ?_); intro jd hjd) | (refine dl_op (by assumption) by_wants (op_callF rfl rfl (h37) rfl ?_); intro jd hjd))) | (((with_reducible refine k_cond ?_); refine aw_cond rfl ?_ ?_) <;> ((fail_if_success (refine imp_known (by assumption) ?_)); (intro hb <;> (have hc := hb) <;> (try simp only [decide_eq_true_eq, decide_eq_false_iff_not, Int.not_lt, Int.not_le, ne_eq, Bool.not_eq_true, Bool.not_eq_false, Decidable.not_not] at hc) <;> (try (exfalso; omega)) <;> (try (exfalso; simp only [Bool.not_eq_eq_eq_not, Bool.not_true, Bool.not_false, decide_eq_true_eq, decide_eq_false_iff_not, ne_eq, Decidable.not_not, Int.not_lt, Int.not_le] at hc; omega)) <;> (try (first | contradiction | (cases hc; done))) <;> (try (first | exact absurd (hb.symm.trans (by assumption) : true = false) (by decide) | exact absurd (hb.symm.trans (by assumption) : false = true) (by decide)))))))
          all_goals
            (first | refine rl_op rfl (op_append rfl .here rfl rfl rfl rfl (by first | (intro r hr; obtain ⟨_, _, rfl⟩ := List.mem_map.1 hr; rfl) | (simp; done) | (simp [V.cells]; done)) by_small rfl fun sv' => ?_) | (refine dl_op (by assumption) by_wants (op_append rfl .here rfl rfl rfl rfl (by first | (intro r hr; obtain ⟨_, _, rfl⟩ := List.mem_map.1 hr; rfl) | (simp; done) | (simp [V.cells]; done)) by_small rfl fun sv' => ?_); intro jd hjd))
            repeat' (first | ((with_reducible refine k_move ?_); refine rl_pure (pv_move rfl) rfl rfl rfl ?_) | ((with_reducible refine k_len ?_); refine rl_pure (pv_len_ro' (by rfl) by_len) rfl rfl rfl ?_) | ((with_reducible refine k_callv ?_); (first | refine rl_op rfl (op_callF rfl rfl (h62) rfl ?_) | refine rl_op rfl (op_callF rfl rfl (h62b) rfl ?_))))
            (first | refine rl_op rfl (op_append rfl .here rfl rfl rfl rfl (by first | (intro r hr; obtain ⟨_, _, rfl⟩ := List.mem_map.1 hr; rfl) | (simp; done) | (simp [V.cells]; done)) by_small rfl fun sv' => ?_) | (refine dl_op (by assumption) by_wants (op_append rfl .here rfl rfl rfl rfl (by first | (intro r hr; obtain ⟨_, _, rfl⟩ := List.mem_map.1 hr; rfl) | (simp; done) | (simp [V.cells]; done)) by_small rfl fun sv' => ?_); intro jd hjd))
            repeat' ((with_reducible refine k_move ?_); refine rl_pure (pv_move rfl) rfl rfl rfl ?_)
            (first | refine rl_op rfl (op_append rfl .here rfl rfl rfl rfl (by first | (intro r hr; obtain ⟨_, _, rfl⟩ := List.mem_map.1 hr; rfl) | (simp; done) | (simp [V.cells]; done)) by_small rfl fun sv' => ?_) | (refine dl_op (by assumption) by_wants (op_append rfl .here rfl rfl rfl rfl (by first | (intro r hr; obtain ⟨_, _, rfl⟩ := List.mem_map.1 hr; rfl) | (simp; done) | (simp [V.cells]; done)) by_small rfl fun sv' => ?_); intro jd hjd))
            repeat' (first | (with_reducible first | refine aw_seq ?_ | refine rl_nil ?_ | refine aw_region ?_ | refine then_n ?_ | refine aw_block ?_ | refine then_exit ?_ | refine then_ret ?_ | refine in_n ?_ | refine in_ret ?_ | refine aw_exit ?_ | refine aw_ret ?_ | refine aw_skip ?_ | refine in_exit_eq rfl ?_ | refine awr_succ ?_) | ((with_reducible refine k_move ?_); refine rl_pure (pv_move rfl) rfl rfl rfl ?_) | ((with_reducible refine k_assign ?_); refine rl_pure (pv_assign rfl) rfl rfl rfl ?_) | ((with_reducible refine k_add ?_); refine rl_pure (pv_add_in rfl rfl (by omega)) rfl rfl rfl ?_))
          · exact next_of (R := []) (i + 1, sv') hlt (by dsimp only; omega) (by (repeat (first | exact sub_nil | refine sub_cons (by first | rfl | (simp; done)) ?_))) (by dsimp only; rw [hft, hpb, if_pos hc, ← hfin]; exact (.cons .here (.cons .here (.cons .here .nil))))
          · exact next_of (R := []) (i + 1, sv') hlt (by dsimp only; omega) (by (repeat (first | exact sub_nil | refine sub_cons (by first | rfl | (simp; done)) ?_))) (by dsimp only; rw [hft, hpb, if_neg hc, ← hfin]; exact (.cons .here (.cons .here (.cons .here .nil))))
      · have hki : i = t.l.length := by omega
        subst hki
        rw [List.take_of_length_le (Nat.le_refl _), List.take_of_length_le (Nat.le_of_eq hfl)]
        repeat' (first | (with_reducible first | refine aw_seq ?_ | refine rl_nil ?_ | refine aw_region ?_ | refine then_n ?_ | refine aw_block ?_ | refine then_exit ?_ | refine then_ret ?_ | refine in_n ?_ | refine in_ret ?_ | refine aw_exit ?_ | refine aw_ret ?_ | refine aw_skip ?_ | refine in_exit_eq rfl ?_ | refine awr_succ ?_) | ((with_reducible refine k_move ?_); refine rl_pure (pv_move rfl) rfl rfl rfl ?_) | ((with_reducible refine k_assign ?_); refine rl_pure (pv_assign rfl) rfl rfl rfl ?_) | ((with_reducible refine k_load ?_); refine rl_val (vv_load_box (by rfl) by_memb (by rfl) by_bd) rfl rfl rfl ?_) | ((with_reducible refine k_fieldAddr ?_); refine rl_pure (pv_fieldAddr rfl) rfl rfl rfl ?_) | ((with_reducible refine k_lss ?_); refine rl_pure (pv_lss rfl rfl) rfl rfl rfl ?_) | ((with_reducible refine k_len ?_); refine rl_pure (pv_len_ro' (by rfl) by_len) rfl rfl rfl ?_) | (((with_reducible refine k_cond ?_); refine aw_cond rfl ?_ ?_) <;> ((fail_if_success (refine imp_known (by assumption) ?_)); (intro hb <;> (have hc := hb) <;> (try simp only [decide_eq_true_eq, decide_eq_false_iff_not, Int.not_lt, Int.not_le, ne_eq, Bool.not_eq_true, Bool.not_eq_false, Decidable.not_not] at hc) <;> (try (exfalso; omega)) <;> (try (exfalso; simp only [Bool.not_eq_eq_eq_not, Bool.not_true, Bool.not_false, decide_eq_true_eq, decide_eq_false_iff_not, ne_eq, Decidable.not_not, Int.not_lt, Int.not_le] at hc; omega)) <;> (try (first | contradiction | (cases hc; done))) <;> (try (first | exact absurd (hb.symm.trans (by assumption) : true = false) (by decide) | exact absurd (hb.symm.trans (by assumption) : false = true) (by decide)))))))
        refine ret_r (retok_freeze (d := 4) rfl .here (ret1 rfl by_res (List.nil_sublist _) ⟨_, rfl, ?_⟩))
        exact ⟨rfl, rfl⟩
    · -- 5
      rw [if_neg (by omega), if_neg (by omega), if_neg (by omega), if_neg (by omega), if_pos (by omega)] at hf hout
      rw [hout]
      simp only [Bool.and_eq_true, decide_eq_true_eq] at hf
      obtain ⟨hf, hf2⟩ := hf
      obtain ⟨k, hkn⟩ : ∃ k : Nat, d.n = k := ⟨d.n.toNat, by omega⟩
      rw [hkn, Int.toNat_natCast] at hf2 ⊢
      obtain ⟨x, hx⟩ : ∃ x, t.l[k]? = some x := ⟨_, List.getElem?_eq_getElem (by omega)⟩
      obtain ⟨u, hu⟩ : ∃ u, d.l[0]? = some u := ⟨_, List.getElem?_eq_getElem (by omega)⟩
      have hr1 : (t.l.map Typ.cells)[k]? = some x.cells := by simp [hx]
      have hr2 : (d.l.map Dat.cells)[0]? = some u.cells := by simp [hu]
      rw [fitAt_eq hx hu] at hf2
      rw [basAt_eq hx hu]
      have h37 := (hkid k x 0 u hx hu hf2).2.2
      clear hkid
      rw [cells_eq] at hr1 h37
      rw [dcells_eq] at hr2 h37
      refine Fun.of (TriR.of (tri_of Tryd.func78 rfl Tryd.ntmps78 rfl fun j => ?_))
      repeat' (first | (with_reducible first | refine aw_seq ?_ | refine rl_nil ?_ | refine aw_region ?_ | refine then_n ?_ | refine aw_block ?_ | refine then_exit ?_ | refine then_ret ?_ | refine in_n ?_ | refine in_ret ?_ | refine aw_exit ?_ | refine aw_ret ?_ | refine aw_skip ?_ | refine in_exit_eq rfl ?_ | refine awr_succ ?_) | ((with_reducible refine k_assign ?_); refine rl_pure (pv_assign rfl) rfl rfl rfl ?_) | ((with_reducible refine k_load ?_); refine rl_val (vv_load_box (by rfl) by_memb (by rfl) by_bd) rfl rfl rfl ?_) | ((with_reducible refine k_fieldAddr ?_); refine rl_pure (pv_fieldAddr rfl) rfl rfl rfl ?_) | ((with_reducible refine k_box ?_); refine rl_op rfl (op_box rfl (V.okc_or (by rfl)) rfl fun b => ?_)) | ((with_reducible refine k_eql ?_); refine rl_pure (pv_eql rfl rfl) rfl rfl rfl ?_) | (with_reducible refine dl_nil by_app ?_) | ((with_reducible refine kd_assign ?_); refine dl_pure (by assumption) (pv_assign rfl) by_wants rfl rfl ?_) | ((with_reducible refine kd_fieldAddr ?_); refine dl_pure (by assumption) (pv_fieldAddr rfl) by_wants rfl rfl ?_) | ((with_reducible refine kd_indexAddr ?_); refine dl_pure (by assumption) (pv_indexAddr_ro (by rfl) rfl (by omega) (by first | rfl | assumption) (by first | rfl | exact tcells_len _ | exact dcells_len _)) by_wants rfl rfl ?_) | ((with_reducible refine kd_load ?_); (first | refine dl_take (by assumption) (hv_load_ro_whole (by assumption) (by rfl) (by rfl) (by first | rfl | exact tcells_len _ | exact dcells_len _)) by_wants rfl rfl ?_ | refine dl_take (by assumption) (hv_load_box (by assumption) (by rfl) by_mem0 (by rfl) by_bd) by_wants rfl rfl ?_)) | (refine aw_draw (id := 20) [(false, 0), (false, 1), (false, 2), (false, 3), (false, 4), (false, 5), (false, 6), (false, 7), (false, 8), (false, 9), (true, 10), (false, 11)] [] (by kernel_rfl) (by decide +kernel) (by decide) by_lit .nil by_nos fun jd hjd => ?_) | ((with_reducible refine kd_callv ?_); (refine dl_op (by assumption) by_wants (op_callF rfl rfl (h37) rfl ?_); intro jd hjd)) | (((with_reducible refine k_cond ?_); refine aw_cond rfl ?_ ?_) <;> ((fail_if_success (refine imp_known (by assumption) ?_)); (intro hb <;> (have hc := hb) <;> (try simp only [decide_eq_true_eq, decide_eq_false_iff_not, Int.not_lt, Int.not_le, ne_eq, Bool.not_eq_true, Bool.not_eq_false, Decidable.not_not] at hc) <;> (try (exfalso; omega)) <;> (try (exfalso; simp only [Bool.not_eq_eq_eq_not, Bool.not_true, Bool.not_false, decide_eq_true_eq, decide_eq_false_iff_not, ne_eq, Decidable.not_not, Int.not_lt, Int.not_le] at hc; omega)) <;> (try (first | contradiction | (cases hc; done))) <;> (try (first | exact absurd (hb.symm.trans (by assumption) : true = false) (by decide) | exact absurd (hb.symm.trans (by assumption) : false = true) (by decide)))))))
      all_goals first
      | (exfalso; omega)
      | skip
      (first | refine ret_r (ret1 rfl by_res (List.nil_sublist _) ⟨_, rfl, ?_⟩) | refine ret_n (ret1 rfl by_res (List.nil_sublist _) ⟨_, rfl, ?_⟩))
      exact ⟨rfl, rfl⟩
    · -- 6
      rw [if_neg (by omega), if_neg (by omega), if_neg (by omega), if_neg (by omega), if_neg (by omega), if_pos (by omega)] at hf hout
      rw [hout]
      simp only [Bool.and_eq_true, decide_eq_true_eq] at hf
      obtain ⟨hf, hf2⟩ := hf
      obtain ⟨x, hx⟩ : ∃ x, t.l[0]? = some x := ⟨_, List.getElem?_eq_getElem (by omega)⟩
      have hr1 : (t.l.map Typ.cells)[0]? = some x.cells := by simp [hx]
      have e0 : t.l = x :: t.l.drop 1 := by simpa using drop_eq hx
      have hfa : (d.l.all fun u => fitT x u) = true := by rw [e0, fitHd] at hf2; exact hf2
      have hpa : basHd t.l d.l = (d.l.map fun u => basT x u).flatten := by rw [e0, basHd]; rfl
      rw [hpa]
      rw [cells_eq x] at hr1
      refine Fun.of (TriR.of (tri_of Tryd.func78 rfl Tryd.ntmps78 rfl fun j => ?_))
      repeat' (first | (with_reducible first | refine aw_seq ?_ | refine rl_nil ?_ | refine aw_region ?_ | refine then_n ?_ | refine aw_block ?_ | refine then_exit ?_ | refine then_ret ?_ | refine in_n ?_ | refine in_ret ?_ | refine aw_exit ?_ | refine aw_ret ?_ | refine aw_skip ?_ | refine in_exit_eq rfl ?_ | refine awr_succ ?_) | ((with_reducible refine k_assign ?_); refine rl_pure (pv_assign rfl) rfl rfl rfl ?_) | ((with_reducible refine k_load ?_); refine rl_val (vv_load_box (by rfl) by_memb (by rfl) by_bd) rfl rfl rfl ?_) | ((with_reducible refine k_fieldAddr ?_); refine rl_pure (pv_fieldAddr rfl) rfl rfl rfl ?_) | ((with_reducible refine k_box ?_); refine rl_op rfl (op_box rfl (V.okc_or (by rfl)) rfl fun b => ?_)) | ((with_reducible refine k_eql ?_); refine rl_pure (pv_eql rfl rfl) rfl rfl rfl ?_) | (((with_reducible refine k_cond ?_); refine aw_cond rfl ?_ ?_) <;> ((fail_if_success (refine imp_known (by assumption) ?_)); (intro hb <;> (have hc := hb) <;> (try simp only [decide_eq_true_eq, decide_eq_false_iff_not, Int.not_lt, Int.not_le, ne_eq, Bool.not_eq_true, Bool.not_eq_false, Decidable.not_not] at hc) <;> (try (exfalso; omega)) <;> (try (exfalso; simp only [Bool.not_eq_eq_eq_not, Bool.not_true, Bool.not_false, decide_eq_true_eq, decide_eq_false_iff_not, ne_eq, Decidable.not_not, Int.not_lt, Int.not_le] at hc; omega)) <;> (try (first | contradiction | (cases hc; done))) <;> (try (first | exact absurd (hb.symm.trans (by assumption) : true = false) (by decide) | exact absurd (hb.symm.trans (by assumption) : false = true) (by decide)))))))
      all_goals first
      | (exfalso; omega)
      | skip
      refine aw_nil_own 5 5 1 rfl ?_
      revert b; intro bd
      refine aw_iter (α := Nat × Value) (fun q => [(2, ptr b), (3, ptr bd), (5, .own q.2), (8, int q.1)])
        (fun q => [.vec q.2 5 1 ((((d.l.take q.1).map fun u => basT x u).flatten).map br), .box bd 28 [int d.kind, int d.n, .ro (d.b.map br), bool d.set, .ro (d.l.map Dat.cells)], .box b 24 [int t.kind, str t.name, int t.lo, int t.hi, bool t.opt, .ro (t.l.map Typ.cells)]])
        (fun q => q.1 ≤ d.l.length) (fun q => d.l.length - q.1)
        (0, .slice none 0 0) (Nat.zero_le _) (by (repeat (first | exact sub_nil | refine sub_cons (by first | rfl | (simp; done)) ?_))) (.cons .here (.cons .here (.cons .here .nil))) fun q hI => ?_
      obtain ⟨i, so⟩ := q
      dsimp only at hI ⊢
      rcases Nat.lt_or_ge i d.l.length with hlt | hge
      · obtain ⟨u, hu⟩ : ∃ u, d.l[i]? = some u := ⟨_, List.getElem?_eq_getElem hlt⟩
        have hr2 : (d.l.map Dat.cells)[i]? = some u.cells := by simp [hu]
        have hft := flat_take (f := fun u => basT x u) hu
        have hwt := wtD_take hu
        obtain ⟨hbl, _, h37⟩ := hkid 0 x i u hx hu (List.all_eq_true.1 hfa u (List.mem_of_getElem? hu))
        have hpl : ((d.l.take i).map fun u => basT x u).flatten.length ≤ 20 * wtD (d.l.take i) := basHd_len fun v hv => by
          obtain ⟨m, hm⟩ := List.mem_iff_getElem?.1 (List.mem_of_mem_take hv)
          exact (hkid 0 x m v hx hm (List.all_eq_true.1 hfa v (List.mem_of_mem_take hv))).1
        have hbt : (basT x u).length ≤ (bodyT x u).length + 5 := tagd_len _ _
        clear hkid
        rw [cells_eq] at h37
        rw [dcells_eq] at hr2 h37
        repeat' (first | (with_reducible first | refine aw_seq ?_ | refine rl_nil ?_ | refine aw_region ?_ | refine then_n ?_ | refine aw_block ?_ | refine then_exit ?_ | refine then_ret ?_ | refine in_n ?_ | refine in_ret ?_ | refine aw_exit ?_ | refine aw_ret ?_ | refine aw_skip ?_ | refine in_exit_eq rfl ?_ | refine awr_succ ?_) | ((with_reducible refine k_move ?_); refine rl_pure (pv_move rfl) rfl rfl rfl ?_) | ((with_reducible refine k_load ?_); refine rl_val (vv_load_box (by rfl) by_memb (by rfl) by_bd) rfl rfl rfl ?_) | ((with_reducible refine k_fieldAddr ?_); refine rl_pure (pv_fieldAddr rfl) rfl rfl rfl ?_) | ((with_reducible refine k_lss ?_); refine rl_pure (pv_lss rfl rfl) rfl rfl rfl ?_) | ((with_reducible refine k_len ?_); refine rl_pure (pv_len_ro' (by rfl) by_len) rfl rfl rfl ?_) | ((with_reducible refine kd_move ?_); refine dl_pure (by assumption) (pv_move rfl) by_wants rfl rfl ?_) | ((with_reducible refine kd_fieldAddr ?_); refine dl_pure (by assumption) (pv_fieldAddr rfl) by_wants rfl rfl ?_) | ((with_reducible refine kd_indexAddr ?_); refine dl_pure (by assumption) (pv_indexAddr_ro (by rfl) rfl (by omega) (by first | rfl | assumption) (by first | rfl | exact tcells_len _ | exact dcells_len _)) by_wants rfl rfl ?_) | ((with_reducible refine kd_load ?_); (first | refine dl_take (by assumption) (hv_load_ro_whole (by assumption) (by rfl) (by rfl) (by first | rfl | exact tcells_len _ | exact dcells_len _)) by_wants rfl rfl ?_ | refine dl_take (by assumption) (hv_load_box (by assumption) (by rfl) by_mem0 (by rfl) by_bd) by_wants rfl rfl ?_)) | (refine aw_draw (id := 25) [(false, 0), (false, 1), (false, 2), (false, 3), (false, 4), (false, 5), (false, 6), (false, 7), (false, 8), (false, 9), (true, 10), (true, 11), (false, 12)] _ (by kernel_rfl) (by decide +kernel) (by decide) by_lit (.cons .here .nil) by_nos fun jd hjd => ?_) | ((with_reducible refine kd_callv ?_); (refine dl_op (by assumption) by_wants (op_callF rfl rfl (h37) rfl ?_); intro jd hjd)) | (((with_reducible refine k_cond ?_); refine aw_cond rfl ?_ ?_) <;> ((fail_if_success (refine imp_known (by assumption) ?_)); (intro hb <;> (have hc := hb) <;> (try simp only [decide_eq_true_eq, decide_eq_false_iff_not, Int.not_lt, Int.not_le, ne_eq, Bool.not_eq_true, Bool.not_eq_false, Decidable.not_not] at hc) <;> (try (exfalso; omega)) <;> (try (exfalso; simp only [Bool.not_eq_eq_eq_not, Bool.not_true, Bool.not_false, decide_eq_true_eq, decide_eq_false_iff_not, ne_eq, Decidable.not_not, Int.not_lt, Int.not_le] at hc; omega)) <;> (try (first | contradiction | (cases hc; done))) <;> (try (first | exact absurd (hb.symm.trans (by assumption) : true = false) (by decide) | exact absurd (hb.symm.trans (by assumption) : false = true) (by decide)))))))
        (first | refine rl_op rfl (op_append rfl .here rfl rfl rfl rfl (by first | (intro r hr; obtain ⟨_, _, rfl⟩ := List.mem_map.1 hr; rfl) | (simp; done) | (simp [V.cells]; done)) by_small rfl fun sv' => ?_) | (refine dl_op (by assumption) by_wants (op_append rfl .here rfl rfl rfl rfl (by first | (intro r hr; obtain ⟨_, _, rfl⟩ := List.mem_map.1 hr; rfl) | (simp; done) | (simp [V.cells]; done)) by_small rfl fun sv' => ?_); intro jd hjd))
        repeat' (first | (with_reducible first | refine aw_seq ?_ | refine rl_nil ?_ | refine aw_region ?_ | refine then_n ?_ | refine aw_block ?_ | refine then_exit ?_ | refine then_ret ?_ | refine in_n ?_ | refine in_ret ?_ | refine aw_exit ?_ | refine aw_ret ?_ | refine aw_skip ?_ | refine in_exit_eq rfl ?_ | refine awr_succ ?_) | ((with_reducible refine k_move ?_); refine rl_pure (pv_move rfl) rfl rfl rfl ?_) | ((with_reducible refine k_assign ?_); refine rl_pure (pv_assign rfl) rfl rfl rfl ?_) | ((with_reducible refine k_add ?_); refine rl_pure (pv_add_in rfl rfl (by omega)) rfl rfl rfl ?_) | (with_reducible refine dl_nil by_app ?_) | ((with_reducible refine kd_assign ?_); refine dl_pure (by assumption) (pv_assign rfl) by_wants rfl rfl ?_))
        exact next_of (R := []) (i + 1, sv') hlt (by dsimp only; omega) (by (repeat (first | exact sub_nil | refine sub_cons (by first | rfl | (simp; done)) ?_))) (by dsimp only; rw [hft, List.map_append]; exact (.cons .here (.cons .here (.cons .here .nil))))
      · have hki : i = d.l.length := by omega
        subst hki
        rw [List.take_of_length_le (Nat.le_refl _)]
        repeat' (first | (with_reducible first | refine aw_seq ?_ | refine rl_nil ?_ | refine aw_region ?_ | refine then_n ?_ | refine aw_block ?_ | refine then_exit ?_ | refine then_ret ?_ | refine in_n ?_ | refine in_ret ?_ | refine aw_exit ?_ | refine aw_ret ?_ | refine aw_skip ?_ | refine in_exit_eq rfl ?_ | refine awr_succ ?_) | ((with_reducible refine k_move ?_); refine rl_pure (pv_move rfl) rfl rfl rfl ?_) | ((with_reducible refine k_assign ?_); refine rl_pure (pv_assign rfl) rfl rfl rfl ?_) | ((with_reducible refine k_load ?_); refine rl_val (vv_load_box (by rfl) by_memb (by rfl) by_bd) rfl rfl rfl ?_) | ((with_reducible refine k_fieldAddr ?_); refine rl_pure (pv_fieldAddr rfl) rfl rfl rfl ?_) | ((with_reducible refine k_lss ?_); refine rl_pure (pv_lss rfl rfl) rfl rfl rfl ?_) | ((with_reducible refine k_len ?_); refine rl_pure (pv_len_ro' (by rfl) by_len) rfl rfl rfl ?_) | (((with_reducible refine k_cond ?_); refine aw_cond rfl ?_ ?_) <;> ((fail_if_success (refine imp_known (by assumption) ?_)); (intro hb <;> (have hc := hb) <;> (try simp only [decide_eq_true_eq, decide_eq_false_iff_not, Int.not_lt, Int.not_le, ne_eq, Bool.not_eq_true, Bool.not_eq_false, Decidable.not_not] at hc) <;> (try (exfalso; omega)) <;> (try (exfalso; simp only [Bool.not_eq_eq_eq_not, Bool.not_true, Bool.not_false, decide_eq_true_eq, decide_eq_false_iff_not, ne_eq, Decidable.not_not, Int.not_lt, Int.not_le] at hc; omega)) <;> (try (first | contradiction | (cases hc; done))) <;> (try (first | exact absurd (hb.symm.trans (by assumption) : true = false) (by decide) | exact absurd (hb.symm.trans (by assumption) : false = true) (by decide)))))))
        refine ret_r (retok_freeze (d := 4) rfl .here (ret1 rfl by_res (List.nil_sublist _) ⟨_, rfl, ?_⟩))
        exact ⟨rfl, rfl⟩
theorem Basic15 (t : Typ) (d : Dat) (hw : t.wt ≤ 1048576) (hdw : d.wt ≤ 32768) : Fun Tryd.prog 27 [.agg t.cells, .agg d.cells] (.tup [.ro ((basB t d).map br), int (basE t d)]) := by
  have hv := valid13 t hw
  have hfit := fun hok => is29 _ t d (Nat.le_refl _) hw (by omega) hok
  have hbas := fun h : rdE t d = 0 => basic37 t d (vld_ok2 (rdE_0 h).1) (fit_n5 (vld_ok2 (rdE_0 h).1) (rdE_0 h).2) (by have := body_len _ t d (Nat.le_refl _) (vld_ok2 (rdE_0 h).1) (rdE_0 h).2; omega) (body60 _ t d (Nat.le_refl _) hw hdw (vld_ok2 (rdE_0 h).1) (rdE_0 h).2)
  have hbl := fun h : rdE t d = 0 => body_len _ t d (Nat.le_refl _) (vld_ok2 (rdE_0 h).1) (rdE_0 h).2
  rw [cells_eq] at hv hfit hbas ⊢
  rw [dcells_eq] at hfit hbas ⊢
  by_cases hv0 : vld t = 0
  · have hfit := hfit (vld_ok2 hv0)
    by_cases hf : fitT t d = true
    · rw [hf] at hfit
      have h0 : rdE t d = 0 := by rw [rdE, if_pos hv0, if_pos hf]
      have hbas := hbas h0
      have hE : basE t d = if (basT t d).length ≤ 4000 then 0 else 3 := if_pos h0
      have hB : basB t d = if (basT t d).length ≤ 4000 then basT t d else [] := by
        rw [basB, hE]
        by_cases h : (basT t d).length ≤ 4000
        · rw [if_pos h, if_pos h, if_pos rfl]
        · rw [if_neg h, if_neg h, if_neg (by decide)]
      rw [hE, hB]
      have hbl := hbl h0
      have hbt : (basT t d).length ≤ (bodyT t d).length + 5 := tagd_len _ _
      generalize basT t d = bt at hbas hbt
      refine Fun.of (TriR.of (tri_of Tryd.func27 rfl Tryd.ntmps27 rfl fun j => ?_))
      repeat' (first | (with_reducible first | refine aw_seq ?_ | refine rl_nil ?_ | refine aw_region ?_ | refine then_n ?_ | refine aw_block ?_ | refine then_exit ?_ | refine then_ret ?_ | refine in_n ?_ | refine in_ret ?_ | refine aw_exit ?_ | refine aw_ret ?_ | refine aw_skip ?_ | refine in_exit_eq rfl ?_ | refine awr_succ ?_) | ((with_reducible refine k_move ?_); refine rl_pure (pv_move rfl) rfl rfl rfl ?_) | ((with_reducible refine k_assign ?_); refine rl_pure (pv_assign rfl) rfl rfl rfl ?_) | ((with_reducible refine k_load ?_); refine rl_val (vv_load_box_whole (by rfl) by_memb (by rfl) (by first | rfl | exact tcells_len _ | exact dcells_len _)) rfl rfl rfl ?_) | ((with_reducible refine k_box ?_); refine rl_op rfl (op_box rfl (V.okc_or (by rfl)) rfl fun b => ?_)) | ((with_reducible refine k_neq ?_); refine rl_pure (pv_neq rfl rfl) rfl rfl rfl ?_) | ((with_reducible refine k_gtr ?_); refine rl_pure (pv_gtr rfl rfl) rfl rfl rfl ?_) | ((with_reducible refine k_not ?_); refine rl_pure (pv_not rfl) rfl rfl rfl ?_) | ((with_reducible refine k_len ?_); refine rl_pure (pv_len_ro' (by rfl) by_len) rfl rfl rfl ?_) | ((with_reducible refine k_cond ?_); refine aw_cond_f rfl ?_) | ((with_reducible refine k_callv ?_); (first | refine rl_op rfl (op_callF rfl rfl (hv) rfl ?_) | refine rl_op rfl (op_callF rfl rfl (hfit) rfl ?_) | refine rl_op rfl (op_callF rfl rfl (hbas) rfl ?_))) | (((with_reducible refine k_cond ?_); refine aw_cond rfl ?_ ?_) <;> ((fail_if_success (refine imp_known (by assumption) ?_)); (intro hb <;> (have hc := hb) <;> (try simp only [decide_eq_true_eq, decide_eq_false_iff_not, Int.not_lt, Int.not_le, ne_eq, Bool.not_eq_true, Bool.not_eq_false, Decidable.not_not] at hc) <;> (try (exfalso; omega)) <;> (try (exfalso; simp only [Bool.not_eq_eq_eq_not, Bool.not_true, Bool.not_false, decide_eq_true_eq, decide_eq_false_iff_not, ne_eq, Decidable.not_not, Int.not_lt, Int.not_le] at hc; omega)) <;> (try (first | contradiction | (cases hc; done))) <;> (try (first | exact absurd (hb.symm.trans (by assumption) : true = false) (by decide) | exact absurd (hb.symm.trans (by assumption) : false = true) (by decide)))))))
      all_goals first
      | (exfalso; omega)
      | skip
      · rw [if_neg (by omega), if_neg (by omega)]
        refine ret_r (retok_nil_ro 4 rfl (ret2 rfl by_res by_res (List.nil_sublist _) ⟨_, rfl, ?_⟩))
        exact ⟨rfl, rfl⟩
      · rw [if_pos (by omega), if_pos (by omega)]
        (first | refine ret_r (ret2 rfl by_res by_res (List.nil_sublist _) ⟨_, rfl, ?_⟩) | refine ret_n (ret2 rfl by_res by_res (List.nil_sublist _) ⟨_, rfl, ?_⟩))
        exact ⟨rfl, rfl⟩
    · have hE : basE t d = 6 := by
        have : rdE t d = 6 := by rw [rdE, if_pos hv0, if_neg hf]
        rw [basE, if_neg (by omega), this]
      have hB : basB t d = [] := if_neg (by rw [hE]; decide)
      clear hbas hbl
      rw [Bool.not_eq_true] at hf
      rw [hf] at hfit
      refine Fun.of (TriR.of (tri_of Tryd.func27 rfl Tryd.ntmps27 rfl fun j => ?_))
      repeat' (first | (with_reducible first | refine aw_seq ?_ | refine rl_nil ?_ | refine aw_region ?_ | refine then_n ?_ | refine aw_block ?_ | refine then_exit ?_ | refine then_ret ?_ | refine in_n ?_ | refine in_ret ?_ | refine aw_exit ?_ | refine aw_ret ?_ | refine aw_skip ?_ | refine in_exit_eq rfl ?_ | refine awr_succ ?_) | ((with_reducible refine k_move ?_); refine rl_pure (pv_move rfl) rfl rfl rfl ?_) | ((with_reducible refine k_assign ?_); refine rl_pure (pv_assign rfl) rfl rfl rfl ?_) | ((with_reducible refine k_load ?_); refine rl_val (vv_load_box_whole (by rfl) by_memb (by rfl) (by first | rfl | exact tcells_len _ | exact dcells_len _)) rfl rfl rfl ?_) | ((with_reducible refine k_box ?_); refine rl_op rfl (op_box rfl (V.okc_or (by rfl)) rfl fun b => ?_)) | ((with_reducible refine k_neq ?_); refine rl_pure (pv_neq rfl rfl) rfl rfl rfl ?_) | ((with_reducible refine k_not ?_); refine rl_pure (pv_not rfl) rfl rfl rfl ?_) | ((with_reducible refine k_cond ?_); refine aw_cond_t rfl ?_) | ((with_reducible refine k_callv ?_); (first | refine rl_op rfl (op_callF rfl rfl (hv) rfl ?_) | refine rl_op rfl (op_callF rfl rfl (hfit) rfl ?_))) | (((with_reducible refine k_cond ?_); refine aw_cond rfl ?_ ?_) <;> ((fail_if_success (refine imp_known (by assumption) ?_)); (intro hb <;> (have hc := hb) <;> (try simp only [decide_eq_true_eq, decide_eq_false_iff_not, Int.not_lt, Int.not_le, ne_eq, Bool.not_eq_true, Bool.not_eq_false, Decidable.not_not] at hc) <;> (try (exfalso; omega)) <;> (try (exfalso; simp only [Bool.not_eq_eq_eq_not, Bool.not_true, Bool.not_false, decide_eq_true_eq, decide_eq_false_iff_not, ne_eq, Decidable.not_not, Int.not_lt, Int.not_le] at hc; omega)) <;> (try (first | contradiction | (cases hc; done))) <;> (try (first | exact absurd (hb.symm.trans (by assumption) : true = false) (by decide) | exact absurd (hb.symm.trans (by assumption) : false = true) (by decide)))))))
      all_goals first
      | (exfalso; omega)
      | (refine ret_r (retok_nil_ro 4 rfl (ret2 rfl by_res by_res (List.nil_sublist _) ⟨_, rfl, ?_⟩))
         exact ⟨by rw [hE, hB]; rfl, rfl⟩)
  · have hr : rdE t d = vld t := if_neg hv0
    have hE : basE t d = vld t := by rw [basE, if_neg (by omega), hr]
    have hB : basB t d = [] := if_neg (by rw [hE]; exact hv0)
    clear hbas hbl hfit
    refine Fun.of (TriR.of (tri_of Tryd.func27 rfl Tryd.ntmps27 rfl fun j => ?_))
    repeat' (first | (with_reducible first | refine aw_seq ?_ | refine rl_nil ?_ | refine aw_region ?_ | refine then_n ?_ | refine aw_block ?_ | refine then_exit ?_ | refine then_ret ?_ | refine in_n ?_ | refine in_ret ?_ | refine aw_exit ?_ | refine aw_ret ?_ | refine aw_skip ?_ | refine in_exit_eq rfl ?_ | refine awr_succ ?_) | ((with_reducible refine k_move ?_); refine rl_pure (pv_move rfl) rfl rfl rfl ?_) | ((with_reducible refine k_assign ?_); refine rl_pure (pv_assign rfl) rfl rfl rfl ?_) | ((with_reducible refine k_load ?_); refine rl_val (vv_load_box_whole (by rfl) by_memb (by rfl) (by first | rfl | exact tcells_len _ | exact dcells_len _)) rfl rfl rfl ?_) | ((with_reducible refine k_box ?_); refine rl_op rfl (op_box rfl (V.okc_or (by rfl)) rfl fun b => ?_)) | ((with_reducible refine k_neq ?_); refine rl_pure (pv_neq rfl rfl) rfl rfl rfl ?_) | ((with_reducible refine k_callv ?_); refine rl_op rfl (op_callF rfl rfl (hv) rfl ?_)) | (((with_reducible refine k_cond ?_); refine aw_cond rfl ?_ ?_) <;> ((fail_if_success (refine imp_known (by assumption) ?_)); (intro hb <;> (have hc := hb) <;> (try simp only [decide_eq_true_eq, decide_eq_false_iff_not, Int.not_lt, Int.not_le, ne_eq, Bool.not_eq_true, Bool.not_eq_false, Decidable.not_not] at hc) <;> (try (exfalso; omega)) <;> (try (exfalso; simp only [Bool.not_eq_eq_eq_not, Bool.not_true, Bool.not_false, decide_eq_true_eq, decide_eq_false_iff_not, ne_eq, Decidable.not_not, Int.not_lt, Int.not_le] at hc; omega)) <;> (try (first | contradiction | (cases hc; done))) <;> (try (first | exact absurd (hb.symm.trans (by assumption) : true = false) (by decide) | exact absurd (hb.symm.trans (by assumption) : false = true) (by decide)))))))
    all_goals first
    | (exfalso; omega)
    | (refine ret_r (retok_nil_ro 4 rfl (ret2 rfl by_res by_res (List.nil_sublist _) ⟨_, rfl, ?_⟩))
       exact ⟨by rw [hE, hB]; rfl, rfl⟩)
end Go.Proofs.YtepmllodaoanmaaDoor

set_option linter.unusedVariables false
set_option linter.unusedSimpArgs false
namespace Go.Proofs.YtepmllodaoanmaaDoor
open Go Go.AX
set_option maxHeartbeats 8000000
set_option maxRecDepth 20000
attribute [local irreducible] AW RL OP PureV ValV HV DL DX Tri TriR Fun RetOk ResV
theorem heavyD27x : ∀ (n : Nat) (l : List Dat), wtD l ≤ n → n ≤ 1048576 → TriR Tryd.prog 21 [.ro (l.map Dat.cells)] [] fun v H' => (∃ h : Int, v = int h ∧ (0 ≤ h ∧ h ≤ wtD l) ∧ (h < 32768 → (wtD l : Int) ≤ h)) ∧ H' = [] := by
  intro n
  induction n with
  | zero =>
    intro l hl _
    have := wtD_len l
    obtain rfl : l = [] := List.length_eq_zero_iff.1 (by omega)
    refine TriR.of (tri_of Tryd.func21 rfl Tryd.ntmps21 rfl fun j => ?_)
    repeat' (first | (with_reducible first | refine aw_seq ?_ | refine rl_nil ?_ | refine aw_region ?_ | refine then_n ?_ | refine aw_block ?_ | refine then_exit ?_ | refine then_ret ?_ | refine in_n ?_ | refine in_ret ?_ | refine aw_exit ?_ | refine aw_ret ?_ | refine aw_skip ?_ | refine in_exit_eq rfl ?_ | refine awr_succ ?_) | ((with_reducible refine k_move ?_); refine rl_pure (pv_move rfl) rfl rfl rfl ?_) | ((with_reducible refine k_assign ?_); refine rl_pure (pv_assign rfl) rfl rfl rfl ?_) | ((with_reducible refine k_lss ?_); refine rl_pure (pv_lss rfl rfl) rfl rfl rfl ?_) | ((with_reducible refine k_len ?_); refine rl_pure (pv_len_ro' (by rfl) by_len) rfl rfl rfl ?_) | ((with_reducible refine k_pick ?_); refine rl_pure (pv_pick_f rfl by_bd rfl) rfl rfl rfl ?_) | ((with_reducible refine k_guard ?_); refine rl_off_t rfl rfl rfl by_bd rfl ?_) | ((with_reducible refine k_cond ?_); refine aw_cond_f rfl ?_) | refine aw_rounds 1 ?_)
    (first | refine ret_r (ret1 rfl by_res (List.nil_sublist _) ⟨_, rfl, ?_⟩) | refine ret_n (ret1 rfl by_res (List.nil_sublist _) ⟨_, rfl, ?_⟩))
    exact ⟨⟨0, rfl, ⟨Int.le_refl _, by simp⟩, fun _ => by simp [wtD]⟩, rfl⟩
  | succ n ih =>
    intro l hl hn
    have hll := wtD_len l
    refine TriR.of (tri_of Tryd.func21 rfl Tryd.ntmps21 rfl fun j => ?_)
    repeat' (first | (with_reducible first | refine aw_seq ?_ | refine rl_nil ?_ | refine aw_region ?_ | refine then_n ?_ | refine aw_block ?_ | refine then_exit ?_ | refine then_ret ?_ | refine in_n ?_ | refine in_ret ?_ | refine aw_exit ?_ | refine aw_ret ?_ | refine aw_skip ?_ | refine in_exit_eq rfl ?_ | refine awr_succ ?_) | ((with_reducible refine k_move ?_); refine rl_pure (pv_move rfl) rfl rfl rfl ?_) | ((with_reducible refine k_assign ?_); refine rl_pure (pv_assign rfl) rfl rfl rfl ?_) | ((with_reducible refine k_len ?_); refine rl_pure (pv_len_ro' (by rfl) by_len) rfl rfl rfl ?_))
    refine aw_iter (α := Nat × Int) (fun q => [(0, .ro (l.map Dat.cells)), (3, int q.2), (4, int q.1)]) (fun _ => []) (fun q => q.1 ≤ l.length ∧ 0 ≤ q.2 ∧ (q.2 ≤ wtD (l.take q.1) + ((l.length : Int) - q.1) ∧ (q.2 < 32768 → wtD (l.take q.1) + ((l.length : Int) - q.1) ≤ q.2))) (fun q => l.length - q.1)
      (0, (l.length : Int)) ⟨Nat.zero_le _, by dsimp only; omega, by simp [wtD], by simp [wtD]⟩ (by (repeat (first | exact sub_nil | refine sub_cons (by first | rfl | (simp; done)) ?_))) .nil fun q hI => ?_
    obtain ⟨i, h⟩ := q
    dsimp only at hI ⊢
    obtain ⟨hi, h0, h1, h1b⟩ := hI
    rcases Nat.lt_or_ge i l.length with hlt | hge
    · obtain ⟨t, ht⟩ : ∃ t, l[i]? = some t := ⟨_, List.getElem?_eq_getElem hlt⟩
      have hr : (l.map Dat.cells)[i]? = some t.cells := by simp [ht]
      have hw := wtD_take ht
      have hwe := dwt_eq t
      have hce := dcells_eq t
      rw [hce] at hr
      repeat' (first | (with_reducible first | refine aw_seq ?_ | refine rl_nil ?_ | refine aw_region ?_ | refine then_n ?_ | refine aw_block ?_ | refine then_exit ?_ | refine then_ret ?_ | refine in_n ?_ | refine in_ret ?_ | refine aw_exit ?_ | refine aw_ret ?_ | refine aw_skip ?_ | refine in_exit_eq rfl ?_ | refine awr_succ ?_) | ((with_reducible refine k_move ?_); refine rl_pure (pv_move rfl) rfl rfl rfl ?_) | ((with_reducible refine k_assign ?_); refine rl_pure (pv_assign rfl) rfl rfl rfl ?_) | ((with_reducible refine k_lss ?_); refine rl_pure (pv_lss rfl rfl) rfl rfl rfl ?_) | ((with_reducible refine k_len ?_); refine rl_pure (pv_len_ro' (by rfl) by_len) rfl rfl rfl ?_) | ((with_reducible refine k_pick ?_); refine rl_pure (pv_pick_t rfl by_bd rfl) rfl rfl rfl ?_) | ((with_reducible refine k_guard ?_); refine rl_on_yes rfl rfl rfl by_bd rfl ?_) | ((with_reducible refine kd_move ?_); refine dl_pure (by assumption) (pv_move rfl) by_wants rfl rfl ?_) | ((with_reducible refine kd_fieldAddr ?_); refine dl_pure (by assumption) (pv_fieldAddr_ro rfl) by_wants rfl rfl ?_) | ((with_reducible refine kd_len ?_); refine dl_pure (by assumption) (pv_len_ro' (by rfl) by_len) by_wants rfl rfl ?_) | ((with_reducible refine kd_indexAddr ?_); refine dl_pure (by assumption) (pv_indexAddr_ro (by rfl) rfl (by omega) (by first | rfl | assumption) (by first | rfl | exact tcells_len _ | exact dcells_len _)) by_wants rfl rfl ?_) | ((with_reducible refine kd_load ?_); refine dl_take (by assumption) (hv_load_ro (by assumption) (by rfl) (by rfl) by_bd) by_wants rfl rfl ?_) | (refine aw_draw (id := 5) [(false, 0), (false, 1), (false, 2), (false, 3), (false, 4), (false, 5), (false, 6), (false, 7), (false, 8), (false, 9), (false, 10), (false, 11), (true, 12), (false, 13), (false, 14), (false, 15)] [] (by kernel_rfl) (by decide +kernel) (by decide) by_lit .nil by_nos fun jd hjd => ?_) | (((with_reducible refine k_guard ?_); first | refine rl_if_t rfl rfl rfl rfl ?_ ?_ | refine rl_if_f rfl rfl rfl rfl ?_ ?_) <;> ((fail_if_success (refine imp_known (by assumption) ?_)); (intro hb <;> (have hc := hb) <;> (try simp only [decide_eq_true_eq, decide_eq_false_iff_not, Int.not_lt, Int.not_le, ne_eq, Bool.not_eq_true, Bool.not_eq_false, Decidable.not_not] at hc) <;> (try (exfalso; omega)) <;> (try (exfalso; simp only [Bool.not_eq_eq_eq_not, Bool.not_true, Bool.not_false, decide_eq_true_eq, decide_eq_false_iff_not, ne_eq, Decidable.not_not, Int.not_lt, Int.not_le] at hc; omega)) <;> (try (first | contradiction | (cases hc; done))) <;> (try (first | exact absurd (hb.symm.trans (by assumption) : true = false) (by decide) | exact absurd (hb.symm.trans (by assumption) : false = true) (by decide)))))) | (((with_reducible refine k_cond ?_); refine aw_cond rfl ?_ ?_) <;> ((fail_if_success (refine imp_known (by assumption) ?_)); (intro hb <;> (have hc := hb) <;> (try simp only [decide_eq_true_eq, decide_eq_false_iff_not, Int.not_lt, Int.not_le, ne_eq, Bool.not_eq_true, Bool.not_eq_false, Decidable.not_not] at hc) <;> (try (exfalso; omega)) <;> (try (exfalso; simp only [Bool.not_eq_eq_eq_not, Bool.not_true, Bool.not_false, decide_eq_true_eq, decide_eq_false_iff_not, ne_eq, Decidable.not_not, Int.not_lt, Int.not_le] at hc; omega)) <;> (try (first | contradiction | (cases hc; done))) <;> (try (first | exact absurd (hb.symm.trans (by assumption) : true = false) (by decide) | exact absurd (hb.symm.trans (by assumption) : false = true) (by decide)))))))
      · (first | refine rl_op rfl (op_callR rfl rfl .nil (ih t.l (by omega) (by omega)) rfl ?_) | refine dl_op (by assumption) by_wants (op_callR rfl rfl .nil (ih t.l (by omega) (by omega)) rfl ?_))
        rintro _ _ ⟨⟨g, rfl, ⟨hg0, hg1⟩, hg2⟩, rfl⟩ jd hjd
        repeat' (first | (with_reducible first | refine aw_seq ?_ | refine rl_nil ?_ | refine aw_region ?_ | refine then_n ?_ | refine aw_block ?_ | refine then_exit ?_ | refine then_ret ?_ | refine in_n ?_ | refine in_ret ?_ | refine aw_exit ?_ | refine aw_ret ?_ | refine aw_skip ?_ | refine in_exit_eq rfl ?_ | refine awr_succ ?_) | ((with_reducible refine k_move ?_); refine rl_pure (pv_move rfl) rfl rfl rfl ?_) | ((with_reducible refine k_assign ?_); refine rl_pure (pv_assign rfl) rfl rfl rfl ?_) | ((with_reducible refine k_add ?_); refine rl_pure (pv_add_in rfl rfl (by omega)) rfl rfl rfl ?_) | (with_reducible refine dl_nil by_app ?_) | ((with_reducible refine kd_assign ?_); refine dl_pure (by assumption) (pv_assign rfl) by_wants rfl rfl ?_) | ((with_reducible refine kd_add ?_); refine dl_pure (by assumption) (pv_add_in rfl rfl (by omega)) by_wants rfl rfl ?_))
        refine next_of (R := []) (i + 1, h + ((t.b.length : Int) + g)) ⟨hlt, by dsimp only; omega, by dsimp only; omega, by dsimp only; omega⟩ (by dsimp only; omega) (by (repeat (first | exact sub_nil | refine sub_cons (by first | rfl | (simp; done)) ?_))) .nil
      · (first | refine ret_r (ret1 rfl by_res (List.nil_sublist _) ⟨_, rfl, ?_⟩) | refine ret_n (ret1 rfl by_res (List.nil_sublist _) ⟨_, rfl, ?_⟩))
        refine ⟨⟨h, rfl, ⟨h0, ?_⟩, fun hh => by omega⟩, rfl⟩
        have := hw.2
        have h3 := wtD_split l i
        have h4 := wtD_len (l.drop i)
        rw [List.length_drop] at h4
        omega
    · have hk : i = l.length := by omega
      subst hk
      repeat' (first | (with_reducible first | refine aw_seq ?_ | refine rl_nil ?_ | refine aw_region ?_ | refine then_n ?_ | refine aw_block ?_ | refine then_exit ?_ | refine then_ret ?_ | refine in_n ?_ | refine in_ret ?_ | refine aw_exit ?_ | refine aw_ret ?_ | refine aw_skip ?_ | refine in_exit_eq rfl ?_ | refine awr_succ ?_) | ((with_reducible refine k_move ?_); refine rl_pure (pv_move rfl) rfl rfl rfl ?_) | ((with_reducible refine k_assign ?_); refine rl_pure (pv_assign rfl) rfl rfl rfl ?_) | ((with_reducible refine k_lss ?_); refine rl_pure (pv_lss rfl rfl) rfl rfl rfl ?_) | ((with_reducible refine k_len ?_); refine rl_pure (pv_len_ro' (by rfl) by_len) rfl rfl rfl ?_) | ((with_reducible refine k_pick ?_); refine rl_pure (pv_pick_f rfl by_bd rfl) rfl rfl rfl ?_) | ((with_reducible refine k_guard ?_); refine rl_off_t rfl rfl rfl by_bd rfl ?_) | ((with_reducible refine k_cond ?_); refine aw_cond_f rfl ?_) | (((with_reducible refine k_guard ?_); first | refine rl_if_t rfl rfl rfl rfl ?_ ?_ | refine rl_if_f rfl rfl rfl rfl ?_ ?_) <;> ((fail_if_success (refine imp_known (by assumption) ?_)); (intro hb <;> (have hc := hb) <;> (try simp only [decide_eq_true_eq, decide_eq_false_iff_not, Int.not_lt, Int.not_le, ne_eq, Bool.not_eq_true, Bool.not_eq_false, Decidable.not_not] at hc) <;> (try (exfalso; omega)) <;> (try (exfalso; simp only [Bool.not_eq_eq_eq_not, Bool.not_true, Bool.not_false, decide_eq_true_eq, decide_eq_false_iff_not, ne_eq, Decidable.not_not, Int.not_lt, Int.not_le] at hc; omega)) <;> (try (first | contradiction | (cases hc; done))) <;> (try (first | exact absurd (hb.symm.trans (by assumption) : true = false) (by decide) | exact absurd (hb.symm.trans (by assumption) : false = true) (by decide)))))))
      (first | refine ret_r (ret1 rfl by_res (List.nil_sublist _) ⟨_, rfl, ?_⟩) | refine ret_n (ret1 rfl by_res (List.nil_sublist _) ⟨_, rfl, ?_⟩))
      rw [List.take_of_length_le (Nat.le_refl _)] at h1 h1b
      exact ⟨⟨h, rfl, ⟨h0, by omega⟩, fun hh => by omega⟩, rfl⟩
theorem overD8x (t : Dat) (h : t.wt ≤ 1048576) : TriR Tryd.prog 7 [.agg t.cells] [] fun v H' => (∃ b : Bool, v = bool b ∧ (b = false → t.wt < 32768)) ∧ H' = [] := by
  have hwe : wtD [t] = t.wt := by simp [wtD]
  have hh := heavyD27x 1048576 [t] (by simpa [wtD] using h) (Nat.le_refl _)
  rw [List.map_cons, List.map_nil, dcells_eq] at hh
  rw [dcells_eq]
  refine TriR.of (tri_of Tryd.func7 rfl Tryd.ntmps7 rfl fun j => ?_)
  repeat' (first | (with_reducible first | refine aw_seq ?_ | refine rl_nil ?_ | refine aw_region ?_ | refine then_n ?_ | refine aw_block ?_ | refine then_exit ?_ | refine then_ret ?_ | refine in_n ?_ | refine in_ret ?_ | refine aw_exit ?_ | refine aw_ret ?_ | refine aw_skip ?_ | refine in_exit_eq rfl ?_ | refine awr_succ ?_) | ((with_reducible refine k_assign ?_); refine rl_pure (pv_assign rfl) rfl rfl rfl ?_) | ((with_reducible refine k_load ?_); refine rl_val (vv_load_box_whole (by rfl) by_memb (by rfl) (by first | rfl | exact tcells_len _ | exact dcells_len _)) rfl rfl rfl ?_) | ((with_reducible refine k_box ?_); refine rl_op rfl (op_box rfl (V.okc_or (by rfl)) rfl fun b => ?_)) | ((with_reducible refine k_buildSlice ?_); refine rl_op rfl (op_buildSlice_ro rfl rfl rfl (by rfl) (by rfl) (by rfl) (by rfl) rfl by_rows ?_)))
  (first | refine rl_op rfl (op_callR rfl rfl .nil hh rfl ?_) | refine dl_op (by assumption) by_wants (op_callR rfl rfl .nil hh rfl ?_))
  rintro _ _ ⟨⟨g, rfl, _, hg⟩, rfl⟩
  repeat' (first | (with_reducible first | refine aw_seq ?_ | refine rl_nil ?_ | refine aw_region ?_ | refine then_n ?_ | refine aw_block ?_ | refine then_exit ?_ | refine then_ret ?_ | refine in_n ?_ | refine in_ret ?_ | refine aw_exit ?_ | refine aw_ret ?_ | refine aw_skip ?_ | refine in_exit_eq rfl ?_ | refine awr_succ ?_) | ((with_reducible refine k_assign ?_); refine rl_pure (pv_assign rfl) rfl rfl rfl ?_) | ((with_reducible refine k_geq ?_); refine rl_pure (pv_geq rfl rfl) rfl rfl rfl ?_))
  (first | refine ret_r (ret1 rfl by_res (List.nil_sublist _) ⟨_, rfl, ?_⟩) | refine ret_n (ret1 rfl by_res (List.nil_sublist _) ⟨_, rfl, ?_⟩))
  exact ⟨⟨_, rfl, fun h => by have := of_decide_eq_false h; rw [hwe] at hg; omega⟩, rfl⟩
end Go.Proofs.YtepmllodaoanmaaDoor

set_option linter.unusedVariables false
set_option linter.unusedSimpArgs false
namespace Go.Proofs.YtepmllodaoanmaaDoor
open Go Go.AX
set_option maxHeartbeats 8000000
set_option maxRecDepth 20000
attribute [local irreducible] AW RL RLI OP PureV ValV HV DL Tri TriR Fun RetOk ResV
theorem vld_cnt {t : Typ} (h : vld t = 0) : t.cnt ≤ 100 ∧ okT t = true := by
  unfold vld at h
  split at h
  · cases h
  · split at h
    · rename_i h1 h2; exact ⟨by omega, h2.2⟩
    · cases h
def prtV (t : Typ) : V := if vld t = 0 then .tup [str (strOfNums (txtT t)), int 0] else .tup [str ⟨#[]⟩, int (vld t)]
theorem print9 (t : Typ) (hw : t.wt ≤ 1048576) : FunI 9 [.agg t.cells] (prtV t) := by
  have hv := valid12 t hw
  by_cases h : vld t = 0
  · have g := textOf23 _ t (Nat.le_refl _) (vld_cnt h).1 (vld_cnt h).2
    rw [show prtV t = .tup [str (strOfNums (txtT t)), int 0] from if_pos h]
    rw [h] at hv
    rw [cells_eq] at hv g ⊢
    refine TriR.of (tri_of Tryd.func9 rfl Tryd.ntmps9 rfl fun j => ?_)
    repeat' (first | (with_reducible first | refine aw_seq ?_ | refine rl_nil ?_ | refine aw_region ?_ | refine then_n ?_ | refine aw_block ?_ | refine then_exit ?_ | refine then_ret ?_ | refine in_n ?_ | refine in_ret ?_ | refine aw_exit ?_ | refine aw_ret ?_ | refine aw_skip ?_ | refine in_exit_eq rfl ?_ | refine awr_succ ?_) | ((with_reducible refine k_move ?_); refine rl_pure (pv_move rfl) rfl rfl rfl ?_) | ((with_reducible refine k_assign ?_); refine rl_pure (pv_assign rfl) rfl rfl rfl ?_) | ((with_reducible refine k_load ?_); refine rl_val (vv_load_box_whole (by rfl) by_memb (by rfl) (by first | rfl | exact tcells_len _ | exact dcells_len _)) rfl rfl rfl ?_) | ((with_reducible refine k_box ?_); refine rl_op rfl (op_box rfl (V.okc_or (by rfl)) rfl fun b => ?_)) | ((with_reducible refine k_neq ?_); refine rl_pure (pv_neq rfl rfl) rfl rfl rfl ?_) | ((with_reducible refine k_cond ?_); refine aw_cond_f rfl ?_) | ((with_reducible refine k_callv ?_); (first | refine rl_op rfl (op_callF rfl rfl (hv) rfl ?_) | refine rl_op rfl (op_callK rfl rfl g by_take rfl ?_))))
    (first | refine ret_r (retok_pick (.cons (.there .here) .nil) (ret2 rfl by_res by_res (List.Sublist.refl _) ⟨_, rfl, ?_⟩)) | refine ret_n (retok_pick (.cons (.there .here) .nil) (ret2 rfl by_res by_res (List.Sublist.refl _) ⟨_, rfl, ?_⟩)))
    exact ⟨rfl, rfl⟩
  · rw [show prtV t = .tup [str ⟨#[]⟩, int (vld t)] from if_neg h]
    generalize vld t = e at h hv ⊢
    rw [cells_eq] at hv ⊢
    refine TriR.of (tri_of Tryd.func9 rfl Tryd.ntmps9 rfl fun j => ?_)
    repeat' (first | (with_reducible first | refine aw_seq ?_ | refine rl_nil ?_ | refine aw_region ?_ | refine then_n ?_ | refine aw_block ?_ | refine then_exit ?_ | refine then_ret ?_ | refine in_n ?_ | refine in_ret ?_ | refine aw_exit ?_ | refine aw_ret ?_ | refine aw_skip ?_ | refine in_exit_eq rfl ?_ | refine awr_succ ?_) | ((with_reducible refine k_move ?_); refine rl_pure (pv_move rfl) rfl rfl rfl ?_) | ((with_reducible refine k_assign ?_); refine rl_pure (pv_assign rfl) rfl rfl rfl ?_) | ((with_reducible refine k_load ?_); refine rl_val (vv_load_box_whole (by rfl) by_memb (by rfl) (by first | rfl | exact tcells_len _ | exact dcells_len _)) rfl rfl rfl ?_) | ((with_reducible refine k_box ?_); refine rl_op rfl (op_box rfl (V.okc_or (by rfl)) rfl fun b => ?_)) | ((with_reducible refine k_neq ?_); refine rl_pure (pv_neq rfl rfl) rfl rfl rfl ?_) | ((with_reducible refine k_callv ?_); refine rl_op rfl (op_callF rfl rfl (hv) rfl ?_)) | (((with_reducible refine k_cond ?_); refine aw_cond rfl ?_ ?_) <;> ((fail_if_success (refine imp_known (by assumption) ?_)); (intro hb <;> (have hc := hb) <;> (try simp only [decide_eq_true_eq, decide_eq_false_iff_not, Int.not_lt, Int.not_le, ne_eq, Bool.not_eq_true, Bool.not_eq_false, Decidable.not_not] at hc) <;> (try (exfalso; omega)) <;> (try (exfalso; simp only [Bool.not_eq_eq_eq_not, Bool.not_true, Bool.not_false, decide_eq_true_eq, decide_eq_false_iff_not, ne_eq, Decidable.not_not, Int.not_lt, Int.not_le] at hc; omega)) <;> (try (first | contradiction | (cases hc; done))) <;> (try (first | exact absurd (hb.symm.trans (by assumption) : true = false) (by decide) | exact absurd (hb.symm.trans (by assumption) : false = true) (by decide)))))))
    all_goals first | (exfalso; omega) | ((first | refine ret_r (retok_pick (.cons (.there .here) .nil) (ret2 rfl by_res by_res (List.Sublist.refl _) ⟨_, rfl, ?_⟩)) | refine ret_n (retok_pick (.cons (.there .here) .nil) (ret2 rfl by_res by_res (List.Sublist.refl _) ⟨_, rfl, ?_⟩))); exact ⟨rfl, rfl⟩)
theorem print10 (t : Typ) (hw : t.wt ≤ 1048576) : FunI 10 [.agg t.cells] (prtV t) := by
  have hv := valid13 t hw
  by_cases h : vld t = 0
  · have g := print25 _ t (Nat.le_refl _) (vld_cnt h).1 (vld_cnt h).2
    rw [show prtV t = .tup [str (strOfNums (txtT t)), int 0] from if_pos h]
    rw [h] at hv
    rw [cells_eq] at hv g ⊢
    refine TriR.of (tri_of Tryd.func10 rfl Tryd.ntmps10 rfl fun j => ?_)
    repeat' (first | (with_reducible first | refine aw_seq ?_ | refine rl_nil ?_ | refine aw_region ?_ | refine then_n ?_ | refine aw_block ?_ | refine then_exit ?_ | refine then_ret ?_ | refine in_n ?_ | refine in_ret ?_ | refine aw_exit ?_ | refine aw_ret ?_ | refine aw_skip ?_ | refine in_exit_eq rfl ?_ | refine awr_succ ?_) | ((with_reducible refine k_move ?_); refine rl_pure (pv_move rfl) rfl rfl rfl ?_) | ((with_reducible refine k_assign ?_); refine rl_pure (pv_assign rfl) rfl rfl rfl ?_) | ((with_reducible refine k_load ?_); refine rl_val (vv_load_box_whole (by rfl) by_memb (by rfl) (by first | rfl | exact tcells_len _ | exact dcells_len _)) rfl rfl rfl ?_) | ((with_reducible refine k_box ?_); refine rl_op rfl (op_box rfl (V.okc_or (by rfl)) rfl fun b => ?_)) | ((with_reducible refine k_neq ?_); refine rl_pure (pv_neq rfl rfl) rfl rfl rfl ?_) | ((with_reducible refine k_cond ?_); refine aw_cond_f rfl ?_) | ((with_reducible refine k_callv ?_); (first | refine rl_op rfl (op_callF rfl rfl (hv) rfl ?_) | refine rl_op rfl (op_callK rfl rfl g by_take rfl ?_))))
    (first | refine ret_r (retok_pick (.cons (.there .here) .nil) (ret2 rfl by_res by_res (List.Sublist.refl _) ⟨_, rfl, ?_⟩)) | refine ret_n (retok_pick (.cons (.there .here) .nil) (ret2 rfl by_res by_res (List.Sublist.refl _) ⟨_, rfl, ?_⟩)))
    exact ⟨rfl, rfl⟩
  · rw [show prtV t = .tup [str ⟨#[]⟩, int (vld t)] from if_neg h]
    generalize vld t = e at h hv ⊢
    rw [cells_eq] at hv ⊢
    refine TriR.of (tri_of Tryd.func10 rfl Tryd.ntmps10 rfl fun j => ?_)
    repeat' (first | (with_reducible first | refine aw_seq ?_ | refine rl_nil ?_ | refine aw_region ?_ | refine then_n ?_ | refine aw_block ?_ | refine then_exit ?_ | refine then_ret ?_ | refine in_n ?_ | refine in_ret ?_ | refine aw_exit ?_ | refine aw_ret ?_ | refine aw_skip ?_ | refine in_exit_eq rfl ?_ | refine awr_succ ?_) | ((with_reducible refine k_move ?_); refine rl_pure (pv_move rfl) rfl rfl rfl ?_) | ((with_reducible refine k_assign ?_); refine rl_pure (pv_assign rfl) rfl rfl rfl ?_) | ((with_reducible refine k_load ?_); refine rl_val (vv_load_box_whole (by rfl) by_memb (by rfl) (by first | rfl | exact tcells_len _ | exact dcells_len _)) rfl rfl rfl ?_) | ((with_reducible refine k_box ?_); refine rl_op rfl (op_box rfl (V.okc_or (by rfl)) rfl fun b => ?_)) | ((with_reducible refine k_neq ?_); refine rl_pure (pv_neq rfl rfl) rfl rfl rfl ?_) | ((with_reducible refine k_callv ?_); refine rl_op rfl (op_callF rfl rfl (hv) rfl ?_)) | (((with_reducible refine k_cond ?_); refine aw_cond rfl ?_ ?_) <;> ((fail_if_success (refine imp_known (by assumption) ?_)); (intro hb <;> (have hc := hb) <;> (try simp only [decide_eq_true_eq, decide_eq_false_iff_not, Int.not_lt, Int.not_le, ne_eq, Bool.not_eq_true, Bool.not_eq_false, Decidable.not_not] at hc) <;> (try (exfalso; omega)) <;> (try (exfalso; simp only [Bool.not_eq_eq_eq_not, Bool.not_true, Bool.not_false, decide_eq_true_eq, decide_eq_false_iff_not, ne_eq, Decidable.not_not, Int.not_lt, Int.not_le] at hc; omega)) <;> (try (first | contradiction | (cases hc; done))) <;> (try (first | exact absurd (hb.symm.trans (by assumption) : true = false) (by decide) | exact absurd (hb.symm.trans (by assumption) : false = true) (by decide)))))))
    all_goals first | (exfalso; omega) | ((first | refine ret_r (retok_pick (.cons (.there .here) .nil) (ret2 rfl by_res by_res (List.Sublist.refl _) ⟨_, rfl, ?_⟩)) | refine ret_n (retok_pick (.cons (.there .here) .nil) (ret2 rfl by_res by_res (List.Sublist.refl _) ⟨_, rfl, ?_⟩))); exact ⟨rfl, rfl⟩)
def tldV (t : Typ) (d : Dat) : V := if basE t d = 0 then .tup [str (strOfNums (txtD t d)), int 0] else .tup [str ⟨#[]⟩, int (basE t d)]
theorem basE_ok {t : Typ} {d : Dat} (h : basE t d = 0) : okT t = true ∧ fitT t d = true := by
  have h0 : rdE t d = 0 := by
    unfold basE at h
    split at h
    · assumption
    · exact h
  exact ⟨vld_ok2 (rdE_0 h0).1, (rdE_0 h0).2⟩
theorem text11 (t : Typ) (d : Dat) (hw : t.wt ≤ 1048576) (hdw : d.wt ≤ 32768) (hdo : d.ok) : FunI 11 [.agg t.cells, .agg d.cells] (tldV t d) := by
  have hv := Basic14 t d hw (by omega)
  by_cases h : basE t d = 0
  · have g := told26 _ t d (Nat.le_refl _) hw hdw hdo (basE_ok h).1 (basE_ok h).2
    rw [show tldV t d = .tup [str (strOfNums (txtD t d)), int 0] from if_pos h]
    rw [h] at hv
    generalize basB t d = bb at hv
    rw [cells_eq t, dcells_eq d] at hv g ⊢
    refine TriR.of (tri_of Tryd.func11 rfl Tryd.ntmps11 rfl fun j => ?_)
    repeat' (first | (with_reducible first | refine aw_seq ?_ | refine rl_nil ?_ | refine aw_region ?_ | refine then_n ?_ | refine aw_block ?_ | refine then_exit ?_ | refine then_ret ?_ | refine in_n ?_ | refine in_ret ?_ | refine aw_exit ?_ | refine aw_ret ?_ | refine aw_skip ?_ | refine in_exit_eq rfl ?_ | refine awr_succ ?_) | ((with_reducible refine k_move ?_); refine rl_pure (pv_move rfl) rfl rfl rfl ?_) | ((with_reducible refine k_assign ?_); refine rl_pure (pv_assign rfl) rfl rfl rfl ?_) | ((with_reducible refine k_load ?_); refine rl_val (vv_load_box_whole (by rfl) by_memb (by rfl) (by first | rfl | exact tcells_len _ | exact dcells_len _)) rfl rfl rfl ?_) | ((with_reducible refine k_box ?_); refine rl_op rfl (op_box rfl (V.okc_or (by rfl)) rfl fun b => ?_)) | ((with_reducible refine k_neq ?_); refine rl_pure (pv_neq rfl rfl) rfl rfl rfl ?_) | ((with_reducible refine k_extract ?_); refine rl_pure (pv_extract rfl rfl) rfl rfl rfl ?_) | ((with_reducible refine k_cond ?_); refine aw_cond_f rfl ?_) | ((with_reducible refine k_callv ?_); (first | refine rl_op rfl (op_callF rfl rfl (hv) rfl ?_) | refine rl_op rfl (op_callK rfl rfl g by_take rfl ?_))))
    (first | refine ret_r (retok_pick (.cons (.there (.there .here)) .nil) (ret2 rfl by_res by_res (List.Sublist.refl _) ⟨_, rfl, ?_⟩)) | refine ret_n (retok_pick (.cons (.there (.there .here)) .nil) (ret2 rfl by_res by_res (List.Sublist.refl _) ⟨_, rfl, ?_⟩)))
    exact ⟨rfl, rfl⟩
  · rw [show tldV t d = .tup [str ⟨#[]⟩, int (basE t d)] from if_neg h]
    generalize basB t d = bb at hv
    generalize basE t d = e at h hv ⊢
    rw [cells_eq t, dcells_eq d] at hv ⊢
    refine TriR.of (tri_of Tryd.func11 rfl Tryd.ntmps11 rfl fun j => ?_)
    repeat' (first | (with_reducible first | refine aw_seq ?_ | refine rl_nil ?_ | refine aw_region ?_ | refine then_n ?_ | refine aw_block ?_ | refine then_exit ?_ | refine then_ret ?_ | refine in_n ?_ | refine in_ret ?_ | refine aw_exit ?_ | refine aw_ret ?_ | refine aw_skip ?_ | refine in_exit_eq rfl ?_ | refine awr_succ ?_) | ((with_reducible refine k_move ?_); refine rl_pure (pv_move rfl) rfl rfl rfl ?_) | ((with_reducible refine k_assign ?_); refine rl_pure (pv_assign rfl) rfl rfl rfl ?_) | ((with_reducible refine k_load ?_); refine rl_val (vv_load_box_whole (by rfl) by_memb (by rfl) (by first | rfl | exact tcells_len _ | exact dcells_len _)) rfl rfl rfl ?_) | ((with_reducible refine k_box ?_); refine rl_op rfl (op_box rfl (V.okc_or (by rfl)) rfl fun b => ?_)) | ((with_reducible refine k_neq ?_); refine rl_pure (pv_neq rfl rfl) rfl rfl rfl ?_) | ((with_reducible refine k_extract ?_); refine rl_pure (pv_extract rfl rfl) rfl rfl rfl ?_) | ((with_reducible refine k_callv ?_); refine rl_op rfl (op_callF rfl rfl (hv) rfl ?_)) | (((with_reducible refine k_cond ?_); refine aw_cond rfl ?_ ?_) <;> ((fail_if_success (refine imp_known (by assumption) ?_)); (intro hb <;> (have hc := hb) <;> (try simp only [decide_eq_true_eq, decide_eq_false_iff_not, Int.not_lt, Int.not_le, ne_eq, Bool.not_eq_true, Bool.not_eq_false, Decidable.not_not] at hc) <;> (try (exfalso; omega)) <;> (try (exfalso; simp only [Bool.not_eq_eq_eq_not, Bool.not_true, Bool.not_false, decide_eq_true_eq, decide_eq_false_iff_not, ne_eq, Decidable.not_not, Int.not_lt, Int.not_le] at hc; omega)) <;> (try (first | contradiction | (cases hc; done))) <;> (try (first | exact absurd (hb.symm.trans (by assumption) : true = false) (by decide) | exact absurd (hb.symm.trans (by assumption) : false = true) (by decide)))))))
    all_goals first | (exfalso; omega) | ((first | refine ret_r (retok_pick (.cons (.there (.there .here)) .nil) (ret2 rfl by_res by_res (List.Sublist.refl _) ⟨_, rfl, ?_⟩)) | refine ret_n (retok_pick (.cons (.there (.there .here)) .nil) (ret2 rfl by_res by_res (List.Sublist.refl _) ⟨_, rfl, ?_⟩))); exact ⟨rfl, rfl⟩)
theorem text12 (t : Typ) (d : Dat) (hw : t.wt ≤ 1048576) (hdw : d.wt ≤ 32768) (hdo : d.ok) : FunI 12 [.agg t.cells, .agg d.cells] (tldV t d) := by
  have hv := Basic15 t d hw hdw
  by_cases h : basE t d = 0
  · have g := text28 _ t d (Nat.le_refl _) hw hdw hdo (basE_ok h).1 (basE_ok h).2
    rw [show tldV t d = .tup [str (strOfNums (txtD t d)), int 0] from if_pos h]
    rw [h] at hv
    generalize basB t d = bb at hv
    rw [cells_eq t, dcells_eq d] at hv g ⊢
    refine TriR.of (tri_of Tryd.func12 rfl Tryd.ntmps12 rfl fun j => ?_)
    repeat' (first | (with_reducible first | refine aw_seq ?_ | refine rl_nil ?_ | refine aw_region ?_ | refine then_n ?_ | refine aw_block ?_ | refine then_exit ?_ | refine then_ret ?_ | refine in_n ?_ | refine in_ret ?_ | refine aw_exit ?_ | refine aw_ret ?_ | refine aw_skip ?_ | refine in_exit_eq rfl ?_ | refine awr_succ ?_) | ((with_reducible refine k_move ?_); refine rl_pure (pv_move rfl) rfl rfl rfl ?_) | ((with_reducible refine k_assign ?_); refine rl_pure (pv_assign rfl) rfl rfl rfl ?_) | ((with_reducible refine k_load ?_); refine rl_val (vv_load_box_whole (by rfl) by_memb (by rfl) (by first | rfl | exact tcells_len _ | exact dcells_len _)) rfl rfl rfl ?_) | ((with_reducible refine k_box ?_); refine rl_op rfl (op_box rfl (V.okc_or (by rfl)) rfl fun b => ?_)) | ((with_reducible refine k_neq ?_); refine rl_pure (pv_neq rfl rfl) rfl rfl rfl ?_) | ((with_reducible refine k_extract ?_); refine rl_pure (pv_extract rfl rfl) rfl rfl rfl ?_) | ((with_reducible refine k_cond ?_); refine aw_cond_f rfl ?_) | ((with_reducible refine k_callv ?_); (first | refine rl_op rfl (op_callF rfl rfl (hv) rfl ?_) | refine rl_op rfl (op_callK rfl rfl g by_take rfl ?_))))
    (first | refine ret_r (retok_pick (.cons (.there (.there .here)) .nil) (ret2 rfl by_res by_res (List.Sublist.refl _) ⟨_, rfl, ?_⟩)) | refine ret_n (retok_pick (.cons (.there (.there .here)) .nil) (ret2 rfl by_res by_res (List.Sublist.refl _) ⟨_, rfl, ?_⟩)))
    exact ⟨rfl, rfl⟩
  · rw [show tldV t d = .tup [str ⟨#[]⟩, int (basE t d)] from if_neg h]
    generalize basB t d = bb at hv
    generalize basE t d = e at h hv ⊢
    rw [cells_eq t, dcells_eq d] at hv ⊢
    refine TriR.of (tri_of Tryd.func12 rfl Tryd.ntmps12 rfl fun j => ?_)
    repeat' (first | (with_reducible first | refine aw_seq ?_ | refine rl_nil ?_ | refine aw_region ?_ | refine then_n ?_ | refine aw_block ?_ | refine then_exit ?_ | refine then_ret ?_ | refine in_n ?_ | refine in_ret ?_ | refine aw_exit ?_ | refine aw_ret ?_ | refine aw_skip ?_ | refine in_exit_eq rfl ?_ | refine awr_succ ?_) | ((with_reducible refine k_move ?_); refine rl_pure (pv_move rfl) rfl rfl rfl ?_) | ((with_reducible refine k_assign ?_); refine rl_pure (pv_assign rfl) rfl rfl rfl ?_) | ((with_reducible refine k_load ?_); refine rl_val (vv_load_box_whole (by rfl) by_memb (by rfl) (by first | rfl | exact tcells_len _ | exact dcells_len _)) rfl rfl rfl ?_) | ((with_reducible refine k_box ?_); refine rl_op rfl (op_box rfl (V.okc_or (by rfl)) rfl fun b => ?_)) | ((with_reducible refine k_neq ?_); refine rl_pure (pv_neq rfl rfl) rfl rfl rfl ?_) | ((with_reducible refine k_extract ?_); refine rl_pure (pv_extract rfl rfl) rfl rfl rfl ?_) | ((with_reducible refine k_callv ?_); refine rl_op rfl (op_callF rfl rfl (hv) rfl ?_)) | (((with_reducible refine k_cond ?_); refine aw_cond rfl ?_ ?_) <;> ((fail_if_success (refine imp_known (by assumption) ?_)); (intro hb <;> (have hc := hb) <;> (try simp only [decide_eq_true_eq, decide_eq_false_iff_not, Int.not_lt, Int.not_le, ne_eq, Bool.not_eq_true, Bool.not_eq_false, Decidable.not_not] at hc) <;> (try (exfalso; omega)) <;> (try (exfalso; simp only [Bool.not_eq_eq_eq_not, Bool.not_true, Bool.not_false, decide_eq_true_eq, decide_eq_false_iff_not, ne_eq, Decidable.not_not, Int.not_lt, Int.not_le] at hc; omega)) <;> (try (first | contradiction | (cases hc; done))) <;> (try (first | exact absurd (hb.symm.trans (by assumption) : true = false) (by decide) | exact absurd (hb.symm.trans (by assumption) : false = true) (by decide)))))))
    all_goals first | (exfalso; omega) | ((first | refine ret_r (retok_pick (.cons (.there (.there .here)) .nil) (ret2 rfl by_res by_res (List.Sublist.refl _) ⟨_, rfl, ?_⟩)) | refine ret_n (retok_pick (.cons (.there (.there .here)) .nil) (ret2 rfl by_res by_res (List.Sublist.refl _) ⟨_, rfl, ?_⟩))); exact ⟨rfl, rfl⟩)
theorem texts3 (t : Typ) (d : Dat) (hw : t.wt ≤ 1048576) (hdw : d.wt ≤ 1048576) (hdok : d.ok) : FunK Tryd.prog [kp] 3 [.agg t.cells, .agg d.cells] (bool true) := by
  show FunI 3 [.agg t.cells, .agg d.cells] (bool true)
  have h7 := over7 t hw
  have h8 := overD8x d hdw
  have h9 := known9
  have g1 := print9 t hw
  have g2 := print10 t hw
  have g3 := fun h => text11 t d hw h hdok
  have g4 := fun h => text12 t d hw h hdok
  obtain ⟨s1, e1, hV⟩ : ∃ s e, prtV t = .tup [str s, int e] := by unfold prtV; split <;> exact ⟨_, _, rfl⟩
  obtain ⟨s2, e2, hT⟩ : ∃ s e, tldV t d = .tup [str s, int e] := by unfold tldV; split <;> exact ⟨_, _, rfl⟩
  rw [hV] at g1 g2
  rw [hT] at g3 g4
  rw [cells_eq] at h7 g1 g2 g3 g4 ⊢
  rw [dcells_eq] at h8 g3 g4 ⊢
  refine TriR.of (tri_of Tryd.func3 rfl Tryd.ntmps3 rfl fun j => ?_)
  repeat' (first | (with_reducible first | refine aw_seq ?_ | refine rl_nil ?_ | refine aw_region ?_ | refine then_n ?_ | refine aw_block ?_ | refine then_exit ?_ | refine then_ret ?_ | refine in_n ?_ | refine in_ret ?_ | refine aw_exit ?_ | refine aw_ret ?_ | refine aw_skip ?_ | refine in_exit_eq rfl ?_ | refine awr_succ ?_) | ((with_reducible refine k_assign ?_); refine rl_pure (pv_assign rfl) rfl rfl rfl ?_) | ((with_reducible refine k_load ?_); refine rl_val (vv_load_box_whole (by rfl) by_memb (by rfl) (by first | rfl | exact tcells_len _ | exact dcells_len _)) rfl rfl rfl ?_) | ((with_reducible refine k_box ?_); refine rl_op rfl (op_box rfl (V.okc_or (by rfl)) rfl fun b => ?_)))
  (first | refine rl_op rfl (op_callR rfl rfl .nil h7 rfl ?_) | refine dl_op (by assumption) by_wants (op_callR rfl rfl .nil h7 rfl ?_))
  rintro _ _ ⟨⟨c1, rfl⟩, rfl⟩
  repeat' (first | (with_reducible first | refine aw_seq ?_ | refine rl_nil ?_ | refine aw_region ?_ | refine then_n ?_ | refine aw_block ?_ | refine then_exit ?_ | refine then_ret ?_ | refine in_n ?_ | refine in_ret ?_ | refine aw_exit ?_ | refine aw_ret ?_ | refine aw_skip ?_ | refine in_exit_eq rfl ?_ | refine awr_succ ?_) | ((with_reducible refine k_move ?_); refine rl_pure (pv_move rfl) rfl rfl rfl ?_) | ((with_reducible refine k_assign ?_); refine rl_pure (pv_assign rfl) rfl rfl rfl ?_) | ((with_reducible refine k_load ?_); refine rl_val (vv_load_box_whole (by rfl) by_memb (by rfl) (by first | rfl | exact tcells_len _ | exact dcells_len _)) rfl rfl rfl ?_) | ((with_reducible refine k_pick ?_); refine rl_pure (pv_pick_t rfl by_bd rfl) rfl rfl rfl ?_) | ((with_reducible refine k_guard ?_); (first | refine rl_on_yes rfl rfl rfl by_bd rfl ?_ | refine rl_off_f rfl rfl rfl by_bd rfl ?_)) | ((with_reducible refine k_cond ?_); refine aw_cond_t rfl ?_) | ((with_reducible refine k_callv ?_); refine rl_op rfl (op_callF rfl rfl (h9) rfl ?_)) | (((with_reducible refine k_guard ?_); first | refine rl_if_t rfl rfl rfl rfl ?_ ?_ | refine rl_if_f rfl rfl rfl rfl ?_ ?_) <;> ((fail_if_success (refine imp_known (by assumption) ?_)); (intro hb <;> (have hc := hb) <;> (try simp only [decide_eq_true_eq, decide_eq_false_iff_not, Int.not_lt, Int.not_le, ne_eq, Bool.not_eq_true, Bool.not_eq_false, Decidable.not_not] at hc) <;> (try (exfalso; omega)) <;> (try (exfalso; simp only [Bool.not_eq_eq_eq_not, Bool.not_true, Bool.not_false, decide_eq_true_eq, decide_eq_false_iff_not, ne_eq, Decidable.not_not, Int.not_lt, Int.not_le] at hc; omega)) <;> (try (first | contradiction | (cases hc; done))) <;> (try (first | exact absurd (hb.symm.trans (by assumption) : true = false) (by decide) | exact absurd (hb.symm.trans (by assumption) : false = true) (by decide)))))))
  · (first | refine rl_op rfl (op_callR rfl rfl .nil h8 rfl ?_) | refine dl_op (by assumption) by_wants (op_callR rfl rfl .nil h8 rfl ?_))
    rintro _ _ ⟨⟨c2, rfl, hc2⟩, rfl⟩
    cases c2
    · have g3 := g3 (by have := hc2 rfl; omega)
      have g4 := g4 (by have := hc2 rfl; omega)
      repeat' (first | (with_reducible first | refine aw_seq ?_ | refine rl_nil ?_ | refine aw_region ?_ | refine then_n ?_ | refine aw_block ?_ | refine then_exit ?_ | refine then_ret ?_ | refine in_n ?_ | refine in_ret ?_ | refine aw_exit ?_ | refine aw_ret ?_ | refine aw_skip ?_ | refine in_exit_eq rfl ?_ | refine awr_succ ?_) | ((with_reducible refine k_move ?_); refine rl_pure (pv_move rfl) rfl rfl rfl ?_) | ((with_reducible refine k_assign ?_); refine rl_pure (pv_assign rfl) rfl rfl rfl ?_) | ((with_reducible refine k_load ?_); refine rl_val (vv_load_box_whole (by rfl) by_memb (by rfl) (by first | rfl | exact tcells_len _ | exact dcells_len _)) rfl rfl rfl ?_) | ((with_reducible refine k_eql ?_); (first | refine rl_pure (pv_eql rfl rfl) rfl rfl rfl ?_ | refine rl_pure (pv_str_eql rfl rfl) rfl rfl rfl ?_)) | ((with_reducible refine k_extract ?_); refine rl_pure (pv_extract rfl rfl) rfl rfl rfl ?_) | ((with_reducible refine k_pick ?_); (first | refine rl_pure (pv_pick_t rfl by_bd rfl) rfl rfl rfl ?_ | refine rl_pure (pv_pick_f rfl by_bd rfl) rfl rfl rfl ?_)) | ((with_reducible refine k_guard ?_); refine rl_on_yes rfl rfl rfl by_bd rfl ?_) | ((with_reducible refine k_cond ?_); refine aw_cond_f rfl ?_) | ((with_reducible refine k_callv ?_); (first | refine rl_op rfl (op_callF rfl rfl (h9) rfl ?_) | refine rl_op rfl (op_callK rfl rfl g1 by_take rfl ?_) | refine rl_op rfl (op_callK rfl rfl g2 by_take rfl ?_) | refine rl_op rfl (op_callK rfl rfl g3 by_take rfl ?_) | refine rl_op rfl (op_callK rfl rfl g4 by_take rfl ?_))) | (((with_reducible refine k_guard ?_); first | refine rl_if_t rfl rfl rfl rfl ?_ ?_ | refine rl_if_f rfl rfl rfl rfl ?_ ?_) <;> ((fail_if_success (refine imp_known (by assumption) ?_)); (intro hb <;> (have hc := hb) <;> (try simp only [decide_eq_true_eq, decide_eq_false_iff_not, Int.not_lt, Int.not_le, ne_eq, Bool.not_eq_true, Bool.not_eq_false, Decidable.not_not] at hc) <;> (try (exfalso; omega)) <;> (try (exfalso; simp only [Bool.not_eq_eq_eq_not, Bool.not_true, Bool.not_false, decide_eq_true_eq, decide_eq_false_iff_not, ne_eq, Decidable.not_not, Int.not_lt, Int.not_le] at hc; omega)) <;> (try (first | contradiction | (cases hc; done))) <;> (try (first | exact absurd (hb.symm.trans (by assumption) : true = false) (by decide) | exact absurd (hb.symm.trans (by assumption) : false = true) (by decide)))))))
      all_goals first
      | (exfalso; omega)
      | (exfalso; simp at hc; done)
      | ((first | refine ret_r (retok_pick (.cons (.there (.there .here)) .nil) (ret1 rfl by_res (List.Sublist.refl _) ⟨_, rfl, ?_⟩)) | refine ret_n (retok_pick (.cons (.there (.there .here)) .nil) (ret1 rfl by_res (List.Sublist.refl _) ⟨_, rfl, ?_⟩))); exact ⟨rfl, rfl⟩)
      | (set_option pp.deepTerms false in set_option pp.deepTerms.threshold 3 in trace_state)
    · repeat' (first | (with_reducible first | refine aw_seq ?_ | refine rl_nil ?_ | refine aw_region ?_ | refine then_n ?_ | refine aw_block ?_ | refine then_exit ?_ | refine then_ret ?_ | refine in_n ?_ | refine in_ret ?_ | refine aw_exit ?_ | refine aw_ret ?_ | refine aw_skip ?_ | refine in_exit_eq rfl ?_ | refine awr_succ ?_) | ((with_reducible refine k_assign ?_); refine rl_pure (pv_assign rfl) rfl rfl rfl ?_) | ((with_reducible refine k_pick ?_); refine rl_pure (pv_pick_f rfl by_bd rfl) rfl rfl rfl ?_) | ((with_reducible refine k_cond ?_); refine aw_cond_t rfl ?_) | ((with_reducible refine k_callv ?_); refine rl_op rfl (op_callF rfl rfl (h9) rfl ?_)))
      all_goals first
      | ((first | refine ret_r (retok_pick (.cons (.there (.there .here)) .nil) (ret1 rfl by_res (List.Sublist.refl _) ⟨_, rfl, ?_⟩)) | refine ret_n (retok_pick (.cons (.there (.there .here)) .nil) (ret1 rfl by_res (List.Sublist.refl _) ⟨_, rfl, ?_⟩))); exact ⟨rfl, rfl⟩)
      | (set_option pp.deepTerms false in set_option pp.deepTerms.threshold 3 in trace_state)
  · (first | refine ret_r (retok_pick (.cons (.there (.there .here)) .nil) (ret1 rfl by_res (List.Sublist.refl _) ⟨_, rfl, ?_⟩)) | refine ret_n (retok_pick (.cons (.there (.there .here)) .nil) (ret1 rfl by_res (List.Sublist.refl _) ⟨_, rfl, ?_⟩)))
    exact ⟨rfl, rfl⟩
end Go.Proofs.YtepmllodaoanmaaDoor

set_option linter.unusedVariables false
set_option linter.unusedSimpArgs false
set_option maxRecDepth 20000
namespace Go.Proofs.YtepmllodaoanmaaDoor
open Go Go.AX Go.RowKit Go.ChangeShapes Go.ChangeAt Go.WideShapes
section
variable {H : Type} {enc : TypeId × Value → H} {w : World}
theorem te3 : Tryd.prog.cellsOf 3 = 1 := by kernel_rfl
theorem te4 : Tryd.prog.cellsOf 4 = 1 := by kernel_rfl
theorem te9 : Tryd.prog.cellsOf 9 = 1 := by kernel_rfl
theorem te22 : Tryd.prog.cellsOf 22 = 1 := by kernel_rfl
theorem te24 : Tryd.prog.cellsOf 24 = 6 := by kernel_rfl
theorem bulk_pos {H : Type} (d : DataW H) : 1 ≤ Rows.uptoBulk d := by
  cases d with
  | lit l => cases l <;> simp [Rows.uptoBulk]
  | _ => simp [Rows.uptoBulk]
theorem rows_typs : ∀ {rows : List (List V)} {ds : List (DataW H)}, ds.length = rows.length → (∀ (i : Nat) d r, ds[i]? = some d → rows[i]? = some r → ∃ t : Typ, r = t.cells ∧ t.wt ≤ Rows.uptoBulk d) → ∃ ts : List Typ, rows = ts.map Typ.cells ∧ wtL ts ≤ Rows.uptoBulkAll ds
  | [], [], _, _ => ⟨[], by simp, by simp [wtL]⟩
  | r :: rows, d :: ds, hl, h => by
    obtain ⟨t, rfl, ht⟩ := h 0 d r rfl rfl
    obtain ⟨ts, rfl, hts⟩ := rows_typs (rows := rows) (ds := ds) (by simpa using hl) fun i d r h1 h2 => h (i + 1) d r (by simpa using h1) (by simpa using h2)
    exact ⟨t :: ts, by simp, by simp only [wtL, Rows.uptoBulkAll]; omega⟩
theorem bulk_two {l : List (DataW H)} {a b : DataW H} (h1 : l[1]? = some a) (h5 : l[5]? = some b) : Rows.uptoBulk a + Rows.uptoBulk b ≤ Rows.uptoBulkAll l := by
  match l, h1, h5 with
  | x0 :: x1 :: x2 :: x3 :: x4 :: x5 :: r, h1, h5 =>
    simp at h1 h5
    subst h1 h5
    simp only [Rows.uptoBulkAll]
    omega
theorem rdTyp : ∀ (k : Nat) (d : DataW H), SizeOf.sizeOf d < k → ∀ (fuel : Nat) (cs : List Value) (ps : List MemPlace), DataW.trod enc Tryd.prog w 0 (fun _ => true) true fuel 24 cs = some (d, ps) → ∃ t : Typ, t.wt ≤ Rows.uptoBulk d ∧ Rdg w cs t.cells := by
  intro k
  induction k with
  | zero => intro d hd; omega
  | succ k ih =>
    intro d hk fuel cs ps h
    obtain ⟨hlen, n, xs, hd, hxl, hf⟩ := rd_struct Tryd.underlying24 h
    rw [te24] at hlen
    obtain ⟨d0, _, _, r0⟩ := hf 0 _ rfl
    obtain ⟨d1, _, m1, r1⟩ := hf 1 _ rfl
    obtain ⟨d2, _, _, r2⟩ := hf 2 _ rfl
    obtain ⟨d3, _, _, r3⟩ := hf 3 _ rfl
    obtain ⟨d4, _, _, r4⟩ := hf 4 _ rfl
    obtain ⟨d5, _, m5, r5⟩ := hf 5 _ rfl
    obtain ⟨kd, _, _, q0⟩ := rd_int Tryd.underlying3 r0
    obtain ⟨nm, x1, y1, q1⟩ := rd_string Tryd.underlying9 r1
    obtain ⟨lo, _, _, q2⟩ := rd_int Tryd.underlying3 r2
    obtain ⟨hi, _, _, q3⟩ := rd_int Tryd.underlying3 r3
    obtain ⟨op, _, q4⟩ := rd_bool Tryd.underlying4 r4
    have hs5 : SizeOf.sizeOf d5 < SizeOf.sizeOf d := by
      rw [hd]
      have := List.sizeOf_lt_of_mem (List.mem_of_getElem? m5)
      simp only [DataW.agg.sizeOf_spec]
      omega
    obtain ⟨rows, ds, spare, q5, hl, hre, _, _, hd5⟩ := rd_slice (Re := fun d r => ∃ t : Typ, r = t.cells ∧ t.wt ≤ Rows.uptoBulk d) Tryd.underlying22 (by rw [te24]; decide) r5 fun d' hd' fuel cs ps h' => by
      obtain ⟨t, ht, q⟩ := ih d' (by omega) _ _ _ h'
      exact ⟨_, ⟨t, rfl, ht⟩, q⟩
    obtain ⟨ts, rfl, hts⟩ := rows_typs hl hre
    have hb5 := bulk_two m1 m5
    have hb : 1 + nm.size + wtL ts ≤ Rows.uptoBulk d := by
      have h1 : Rows.uptoBulk d1 = nm.size + 1 := by
        rw [y1]
        simp only [Rows.uptoBulk]
        rfl
      rw [hd]
      simp only [Rows.uptoBulk]
      rcases hd5 with ⟨rfl, hz⟩ | rfl
      · have : ts = [] := by simpa using hz
        subst this
        simp only [wtL]
        omega
      · simp only [Rows.uptoBulk] at hb5
        omega
    obtain ⟨c0, c1, c2, c3, c4, c5, rfl⟩ : ∃ c0 c1 c2 c3 c4 c5, cs = [c0, c1, c2, c3, c4, c5] := by
      match cs, hlen with
      | [a, b, c, d, e, f], _ => exact ⟨a, b, c, d, e, f, rfl⟩
    · simp only [List.getElem_toArray, List.getElem_cons_zero, List.getElem_cons_succ, te3, te4, te9, te22, List.drop_zero, List.drop_succ_cons, List.take_succ_cons, List.take_zero] at q0 q1 q2 q3 q4 q5
      refine ⟨.mk kd nm lo hi op ts, by rw [Typ.wt]; exact hb, ?_⟩
      rw [cells_eq]
      exact rdg_cons q0 (rdg_cons q1 (rdg_cons q2 (rdg_cons q3 (rdg_cons q4 q5))))
end
end Go.Proofs.YtepmllodaoanmaaDoor

set_option linter.unusedVariables false
set_option linter.unusedSimpArgs false
set_option maxRecDepth 20000
namespace Go.Proofs.YtepmllodaoanmaaDoor
open Go Go.AX Go.RowKit Go.ChangeShapes Go.ChangeAt Go.WideShapes
section
variable {H : Type} {enc : TypeId × Value → H} {w : World}
theorem te5 : Tryd.prog.cellsOf 5 = 1 := by kernel_rfl
theorem te25 : Tryd.prog.cellsOf 25 = 1 := by kernel_rfl
theorem te26 : Tryd.prog.cellsOf 26 = 1 := by kernel_rfl
theorem te28 : Tryd.prog.cellsOf 28 = 5 := by kernel_rfl
theorem bulkAll_len {H : Type} : ∀ l : List (DataW H), l.length ≤ Rows.uptoBulkAll l
  | [] => Nat.zero_le _
  | d :: l => by
    have := bulk_pos d
    have := bulkAll_len l
    simp only [Rows.uptoBulkAll, List.length_cons]
    omega
theorem bulk_mem {H : Type} {l : List (DataW H)} {i : Nat} {d : DataW H} (h : l[i]? = some d) : Rows.uptoBulk d ≤ Rows.uptoBulkAll l := by
  induction l generalizing i with
  | nil => simp at h
  | cons x r ih =>
    simp only [Rows.uptoBulkAll]
    cases i with
    | zero => simp at h; subst h; omega
    | succ i => have := ih (i := i) (by simpa using h); omega
theorem rows_bytes : ∀ {rows : List (List V)} {ds : List (DataW H)}, ds.length = rows.length → (∀ (i : Nat) d r, ds[i]? = some d → rows[i]? = some r → ∃ b : Int, r = br b ∧ 0 ≤ b ∧ b ≤ 255) → ∃ L : List Int, rows = L.map br ∧ Byt L
  | [], [], _, _ => ⟨[], by simp, fun x hx => by cases hx⟩
  | r :: rows, d :: ds, hl, h => by
    obtain ⟨b, rfl, hb⟩ := h 0 d r rfl rfl
    obtain ⟨L, rfl, hL⟩ := rows_bytes (rows := rows) (ds := ds) (by simpa using hl) fun i d r h1 h2 => h (i + 1) d r (by simpa using h1) (by simpa using h2)
    refine ⟨b :: L, by simp, fun x hx => ?_⟩
    rcases List.mem_cons.1 hx with rfl | hx
    · exact hb
    · exact hL x hx
theorem rdByt {fuel : Nat} {cs : List Value} {d : DataW H} {ps : List MemPlace} (h : DataW.trod enc Tryd.prog w 0 (fun _ => true) true fuel 25 cs = some (d, ps)) : ∃ L : List Int, Byt L ∧ L.length + 1 ≤ Rows.uptoBulk d ∧ Rdg w cs [.ro (L.map br)] := by
  obtain ⟨rows, ds, spare, hr, hl, hre, _, _, hd⟩ := rd_slice (Re := fun _ r => ∃ b : Int, r = br b ∧ 0 ≤ b ∧ b ≤ 255) Tryd.underlying25 (by rw [te5]; decide) h fun d' _ fuel cs ps h' => by
    obtain ⟨b, hw, _, q⟩ := rd_int Tryd.underlying5 h'
    refine ⟨_, ⟨b, rfl, ?_⟩, q⟩
    have e1 : IntKind.u8.min = 0 := by decide
    have e2 : IntKind.u8.max = 255 := by decide
    simp [Lit.wf, e1, e2] at hw
    omega
  obtain ⟨L, rfl, hb⟩ := rows_bytes hl hre
  refine ⟨L, hb, ?_, hr⟩
  rcases hd with ⟨rfl, hz⟩ | rfl
  · have : L = [] := by simpa using hz
    subst this
    simp [Rows.uptoBulk]
  · have := bulkAll_len ds
    simp only [Rows.uptoBulk]
    rw [hl, List.length_map] at this
    omega
theorem rows_dats : ∀ {rows : List (List V)} {ds : List (DataW H)}, ds.length = rows.length → (∀ (i : Nat) d r, ds[i]? = some d → rows[i]? = some r → ∃ t : Dat, r = t.cells ∧ t.wt ≤ Rows.uptoBulk d ∧ (Rows.uptoBulk d ≤ 1048576 → t.ok)) →
    ∃ ts : List Dat, rows = ts.map Dat.cells ∧ wtD ts ≤ Rows.uptoBulkAll ds ∧ (Rows.uptoBulkAll ds ≤ 1048576 → okD ts)
  | [], [], _, _ => ⟨[], by simp, by simp [wtD], fun _ => trivial⟩
  | r :: rows, d :: ds, hl, h => by
    obtain ⟨t, rfl, ht, hok⟩ := h 0 d r rfl rfl
    obtain ⟨ts, rfl, hts, hoks⟩ := rows_dats (rows := rows) (ds := ds) (by simpa using hl) fun i d r h1 h2 => h (i + 1) d r (by simpa using h1) (by simpa using h2)
    exact ⟨t :: ts, by simp, by simp only [wtD, Rows.uptoBulkAll]; omega, fun hb => by
      simp only [Rows.uptoBulkAll] at hb
      rw [okD]
      exact ⟨hok (by omega), hoks (by omega)⟩⟩
theorem bulk_two5 {l : List (DataW H)} {a b : DataW H} (h1 : l[2]? = some a) (h5 : l[4]? = some b) : Rows.uptoBulk a + Rows.uptoBulk b ≤ Rows.uptoBulkAll l := by
  match l, h1, h5 with
  | x0 :: x1 :: x2 :: x3 :: x4 :: r, h1, h5 =>
    simp at h1 h5
    subst h1 h5
    simp only [Rows.uptoBulkAll]
    omega
theorem rdDat : ∀ (k : Nat) (d : DataW H), SizeOf.sizeOf d < k → ∀ (fuel : Nat) (cs : List Value) (ps : List MemPlace), DataW.trod enc Tryd.prog w 0 (fun _ => true) true fuel 28 cs = some (d, ps) → ∃ t : Dat, (t.wt ≤ Rows.uptoBulk d ∧ (Rows.uptoBulk d ≤ 1048576 → t.ok)) ∧ Rdg w cs t.cells := by
  intro k
  induction k with
  | zero => intro d hd; omega
  | succ k ih =>
    intro d hk fuel cs ps h
    obtain ⟨hlen, n, xs, hd, hxl, hf⟩ := rd_struct Tryd.underlying28 h
    rw [te28] at hlen
    obtain ⟨d0, _, _, r0⟩ := hf 0 _ rfl
    obtain ⟨d1, _, _, r1⟩ := hf 1 _ rfl
    obtain ⟨d2, _, m2, r2⟩ := hf 2 _ rfl
    obtain ⟨d3, _, _, r3⟩ := hf 3 _ rfl
    obtain ⟨d4, _, m4, r4⟩ := hf 4 _ rfl
    obtain ⟨kd, _, _, q0⟩ := rd_int Tryd.underlying3 r0
    obtain ⟨nn, _, _, q1⟩ := rd_int Tryd.underlying3 r1
    obtain ⟨L, hL, hLb, q2⟩ := rdByt r2
    obtain ⟨st, _, q3⟩ := rd_bool Tryd.underlying4 r3
    have hs4 : SizeOf.sizeOf d4 < SizeOf.sizeOf d := by
      rw [hd]
      have := List.sizeOf_lt_of_mem (List.mem_of_getElem? m4)
      simp only [DataW.agg.sizeOf_spec]
      omega
    obtain ⟨rows, ds, spare, q4, hl, hre, _, _, hd5⟩ := rd_slice (Re := fun d r => ∃ t : Dat, r = t.cells ∧ t.wt ≤ Rows.uptoBulk d ∧ (Rows.uptoBulk d ≤ 1048576 → t.ok)) Tryd.underlying26 (by rw [te28]; decide) r4 fun d' hd' fuel cs ps h' => by
      obtain ⟨t, ht, q⟩ := ih d' (by omega) _ _ _ h'
      exact ⟨_, ⟨t, rfl, ht⟩, q⟩
    obtain ⟨ts, rfl, hts, hok⟩ := rows_dats hl hre
    have hb5 := bulk_two5 m2 m4
    have hd4 : wtD ts + 1 ≤ Rows.uptoBulk d4 ∧ (Rows.uptoBulk d4 ≤ 1048576 → okD ts) := by
      rcases hd5 with ⟨rfl, hz⟩ | rfl
      · have : ts = [] := by simpa using hz
        subst this
        exact ⟨by simp [wtD, Rows.uptoBulk], fun _ => trivial⟩
      · simp only [Rows.uptoBulk]
        exact ⟨by omega, fun h => hok (by omega)⟩
    obtain ⟨q, hbd, hb5⟩ : ∃ q, Rows.uptoBulk d = q + 1 ∧ Rows.uptoBulk d2 + Rows.uptoBulk d4 ≤ q := ⟨_, by rw [hd]; simp only [Rows.uptoBulk], hb5⟩
    obtain ⟨c0, c1, c2, c3, c4, rfl⟩ : ∃ c0 c1 c2 c3 c4, cs = [c0, c1, c2, c3, c4] := by
      match cs, hlen with
      | [a, b, c, d, e], _ => exact ⟨a, b, c, d, e, rfl⟩
    · simp only [List.getElem_toArray, List.getElem_cons_zero, List.getElem_cons_succ, te3, te4, te25, te26, List.drop_zero, List.drop_succ_cons, List.take_succ_cons, List.take_zero] at q0 q1 q2 q3 q4
      refine ⟨.mk kd nn L st ts, ⟨by rw [Dat.wt]; omega, fun hb => ?_⟩, ?_⟩
      · have hwl := wtD_len ts
        rw [Dat.ok]
        exact ⟨⟨hL, by omega, by omega⟩, hd4.2 (by omega)⟩
      · rw [dcells_eq]
        exact rdg_cons q0 (rdg_cons q1 (rdg_cons q2 (rdg_cons q3 q4)))
end
end Go.Proofs.YtepmllodaoanmaaDoor

set_option linter.unusedVariables false
set_option linter.unusedSimpArgs false
namespace Go.Proofs.YtepmllodaoanmaaDoor
open Go Go.AX
set_option maxRecDepth 20000
/-! ### What is read is none of the tables -/
mutual
theorem typ_awayL : ∀ t : Typ, awayL .u64 t.cells = true
  | .mk k nm lo hi o l => by
    rw [Typ.cells]
    simp only [awayL, awayV, Bool.true_and, Bool.and_true]
    exact trows_away l
theorem trows_away : ∀ l : List Typ, awayR .u64 (trows l) = true
  | [] => by rw [trows]; rfl
  | t :: ts => by
    rw [trows, awayR, typ_awayL t, trows_away ts]
    cases t
    rw [Typ.cells]
    rfl
end
theorem typ_away (t : Typ) : awayV .u64 (.agg t.cells) = true := by rw [awayV]; exact typ_awayL t
theorem bytes_away : ∀ l : List Int, awayR .u64 (l.map br) = true
  | [] => rfl
  | b :: l => by
    rw [List.map_cons, awayR, bytes_away l]
    rfl
mutual
theorem dat_awayL : ∀ d : Dat, awayL .u64 d.cells = true
  | .mk k n b s l => by
    rw [Dat.cells]
    simp only [awayL, awayV, Bool.true_and, Bool.and_true, bytes_away]
    exact drows_away l
theorem drows_away : ∀ l : List Dat, awayR .u64 (drows l) = true
  | [] => by rw [drows]; rfl
  | d :: ds => by
    rw [drows, awayR, dat_awayL d, drows_away ds]
    cases d
    rw [Dat.cells]
    rfl
end
theorem dat_away (d : Dat) : awayV .u64 (.agg d.cells) = true := by rw [awayV]; exact dat_awayL d
theorem own_kp {b : Nat} (h : own ([kp].map kbox) b) : b = 0 := by
  unfold own blks at h
  simp only [List.map_cons, List.map_nil, List.filterMap_cons, List.filterMap_nil] at h
  obtain ⟨c, hc, hb⟩ := List.mem_filterMap.1 (show b ∈ List.filterMap Ch.blk [kbox kp] from h)
  obtain rfl := List.mem_singleton.1 hc
  exact (Option.some.inj (show some (0 : Nat) = some b from hb)).symm
theorem tabs_u64 {w : World} (h : ∀ k ∈ [kp], w.heap[k.1]? = some (.cells k.2.2.toArray k.2.1 (0, 0))) : ∀ b, own ([kp].map kbox) b → ∃ (cs : Array Value) (T : TypeId), w.heap[b]? = some (.cells cs T (0, 0)) ∧ ∀ y ∈ cs.toList, ∃ n, y = .int .u64 n := fun b hb => by
  obtain rfl := own_kp hb
  refine ⟨_, _, h kp (List.mem_cons_self ..), fun y hy => ?_⟩
  rw [List.toList_toArray] at hy
  obtain ⟨z, _, rfl⟩ := List.mem_map.1 hy
  exact ⟨_, rfl⟩
end Go.Proofs.YtepmllodaoanmaaDoor

set_option linter.unusedVariables false
set_option linter.unusedSimpArgs false
set_option maxRecDepth 100000
namespace Go.Proofs.YtepmllodaoanmaaDoor
open Go Go.AX Go.RowKit Go.ChangeShapes Go.ChangeAt Go.WideShapes
theorem tab0_is : (Rows.laid_internal_strconv_uint64pow10 : DataW Unit) = Lib.tabData .u64 Lib.pow10Tab := by kernel_rfl
theorem ks_block {W : World} (hL : laidMet Tryd.prog Rows.certTextsUptoRow.laid W) (hsh : W.ShapedOpen Tryd.prog) : ∀ k ∈ [kp], W.heap[k.1]? = some (.cells k.2.2.toArray k.2.1 (0, 0)) ∧ ∀ y ∈ k.2.2, y.oneCell' = true := by
  intro k hk
  obtain rfl := List.mem_singleton.1 hk
  · refine ⟨?_, by decide +kernel⟩
    exact tab_block (P := Tryd.prog) (W := W) (l := Rows.certTextsUptoRow.laid) (name := "internal/strconv.uint64pow10") (k := .u64) (zs := Lib.pow10Tab) (g := 0) (t := 153) (e := 140) (n := 20) (zero := Array.replicate 20 (.int .u64 0)) hL
      (by rw [← tab0_is]; repeat (first | exact .head _ | apply List.Mem.tail)) hsh (by kernel_rfl) (by kernel_rfl) (by kernel_rfl) (by kernel_rfl) Tryd.underlying153 Tryd.underlying140 (by kernel_rfl) (by kernel_rfl)
theorem certTextsContract (H : Type) (enc : TypeId × Value → H) (W : World) (base : Nat) (args : Array Value) (ds gs : List (DataW H)) (before : List MemPlace)
    (hval : ∀ (j : Nat) t v, Tryd.f3.params[j]? = some t → args[j]? = some v → Value.okWide Tryd.prog W .any base t v)
    (hW : DataW.Whole enc Tryd.prog Tryd.f3.params.toList Rows.certTextsSpec.vars false W args.toList ds gs before) (hk : Rows.uptoSmall H (ds ++ gs) = true)
    (hL : laidMet Tryd.prog Rows.certTextsUptoRow.laid W) (hsh : W.ShapedOpen Tryd.prog) :
    Calls Tryd.prog 3 args W fun e W' => ∃ v, e = .returned v ∧ Rows.certTextsSpec.post enc Tryd.prog Tryd.f3 false true false false W args v W' := by
  refine law_contractK (ks := [kp]) (by kernel_rfl) (by kernel_rfl) rfl rfl Tryd.underlying4 (ks_block hL hsh) (by decide) hW fun p hA hg => ?_
  subst hg
  rw [Tryd.params3] at hA hval
  obtain ⟨v0, vs0, d0, ds0, p0, q0, hargs, rfl, rfl, h0, r0⟩ := trodAll_cons hA
  obtain ⟨v1, vs1, d1, ds1, p1, q1, rfl, rfl, rfl, h1, r1⟩ := trodAll_cons r0
  obtain ⟨rfl, rfl, rfl⟩ := trodAll_nil r1
  obtain rfl : args = #[v0, v1] := by cases args; simp_all
  refine ⟨rfl, ?_⟩
  have how := tabs_u64 (w := W) fun k hk => (ks_block hL hsh k hk).1
  obtain ⟨fu0, hf0⟩ := h0
  obtain ⟨t0, hw0, k0⟩ := rdTyp _ _ (Nat.lt_succ_self _) _ _ _ hf0
  have c0 := conc_apart how _ _ (typ_away t0) (arg_struct Tryd.underlying24 (hval 0 24 v0 rfl rfl) k0)
  obtain ⟨fu1, hf1⟩ := h1
  obtain ⟨t1, ⟨hw1, ho1⟩, k1⟩ := rdDat _ _ (Nat.lt_succ_self _) _ _ _ hf1
  have c1 := conc_apart how _ _ (dat_away t1) (arg_struct Tryd.underlying28 (hval 1 28 v1 rfl rfl) k1)
  have hkb : Rows.uptoBulk d0 + Rows.uptoBulk d1 ≤ 1048576 := by have := of_decide_eq_true hk; simp only [List.append_nil, List.cons_append, List.nil_append, Rows.uptoBulkAll] at this; omega
  refine ⟨_, ?_, texts3 t0 t1 (by omega) (by omega) (ho1 (by omega))⟩
  exact ⟨_, _, rfl, c0, ⟨_, _, rfl, c1, rfl⟩⟩
theorem certTexts_laid_met (os : Os) (args : Array Value) : laidMet Tryd.prog Rows.certTextsUptoRow.laid ((World.laidAll Tryd.prog os Rows.certTextsUptoRow.laid).forCall (fun _ _ => 0) ⟨#[], args, []⟩).memory :=
  laidMet_laidAll _ (by kernel_rfl) (by kernel_rfl)
theorem certTexts_witness (os : Os) {H : Type} (enc : TypeId × Value → H) :
    (Rows.OpenSpec.upto Rows.certTextsSpec).preRow enc Tryd.prog Tryd.f3 Rows.certTextsUptoRow.domain false Rows.certTextsUptoRow.laid ((World.laidAll Tryd.prog os Rows.certTextsUptoRow.laid).forCall (fun _ _ => 0) ⟨#[], #[.agg #[.int .i64 0, .string ⟨#[]⟩, .int .i64 0, .int .i64 0, .bool false, .slice none 0 0], .agg #[.int .i64 0, .int .i64 0, .slice none 0 0, .bool false, .slice none 0 0]], []⟩).memory #[.agg #[.int .i64 0, .string ⟨#[]⟩, .int .i64 0, .int .i64 0, .bool false, .slice none 0 0], .agg #[.int .i64 0, .int .i64 0, .slice none 0 0, .bool false, .slice none 0 0]] := by
  have hw : (DataW.whole enc Tryd.prog ((World.laidAll Tryd.prog os Rows.certTextsUptoRow.laid).forCall (fun _ _ => 0) ⟨#[], #[.agg #[.int .i64 0, .string ⟨#[]⟩, .int .i64 0, .int .i64 0, .bool false, .slice none 0 0], .agg #[.int .i64 0, .int .i64 0, .slice none 0 0, .bool false, .slice none 0 0]], []⟩).memory Tryd.f3.params.toList (Rows.OpenSpec.upto Rows.certTextsSpec).vars false #[Value.agg #[.int .i64 0, .string ⟨#[]⟩, .int .i64 0, .int .i64 0, .bool false, .slice none 0 0], Value.agg #[.int .i64 0, .int .i64 0, .slice none 0 0, .bool false, .slice none 0 0]].toList 8).map (fun x => (x.1, x.2.1)) = some ([.agg [.lit (.int .i64 0), .lit (.string []), .lit (.int .i64 0), .lit (.int .i64 0), .lit (.bool false), .nil], .agg [.lit (.int .i64 0), .lit (.int .i64 0), .nil, .lit (.bool false), .nil]], []) := by kernel_rfl
  obtain ⟨⟨x1, x2, x3⟩, hx, hx1⟩ := Option.map_eq_some_iff.1 hw
  simp only [Prod.mk.injEq] at hx1
  obtain ⟨rfl, rfl⟩ := hx1
  exact OpenSpec.preRow_of_cond 8 hx (by kernel_rfl) (fun k hk => by cases hk; kernel_rfl) (by kernel_rfl) (certTexts_laid_met os _)
set_option maxHeartbeats 2000000 in
theorem certTextsLifted (os : Os) (started : os.Started) (H : Type) (enc : TypeId × Value → H) (F : Stop.Interp) :
    ReturnsInHanded {} Tryd.checked os 3 .any ((Rows.OpenSpec.upto Rows.certTextsSpec).preRow enc Tryd.prog Tryd.f3 Rows.certTextsUptoRow.domain false Rows.certTextsUptoRow.laid) (((Rows.OpenSpec.upto Rows.certTextsSpec).at F).post enc Tryd.prog Tryd.f3 false true false false) := by
  refine returnsInHanded_of_row (C := Tryd.checked) (s := (Rows.OpenSpec.upto Rows.certTextsSpec)) (by kernel_rfl) started (by kernel_rfl) Tryd.func3
    (witness_row_atRef (enc := enc) (C := Tryd.checked) false (World.laidAll Tryd.prog os Rows.certTextsUptoRow.laid) #[.agg #[.int .i64 0, .string ⟨#[]⟩, .int .i64 0, .int .i64 0, .bool false, .slice none 0 0], .agg #[.int .i64 0, .int .i64 0, .slice none 0 0, .bool false, .slice none 0 0]] (World.laidAll_os _ _ _) (by kernel_rfl) (by kernel_rfl) (by kernel_rfl) (certTexts_witness os enc)) ?_
  intro W base args ds gs before hval hW _ hk _ hL hsh _
  have hL2 : laidMet Tryd.prog Rows.certTextsUptoRow.laid W := by first | exact hL | (rw [MakeChecks.laidMetH_plain _ _ _ (by kernel_rfl)] at hL; exact hL)
  exact certTextsContract H enc W base args ds gs before hval hW (hk _ rfl) hL2 hsh
theorem certTextsUpto : Rows.CertTextsUptoSaid :=
  OpenClaim.holds_of_cond 3 Tryd.f3 rfl rfl rfl rfl rfl rfl rfl ⟨rfl, rfl, rfl, rfl, rfl⟩ rfl rfl rfl rfl rfl (by kernel_rfl) Tryd.func3 (by kernel_rfl)
    (of_decide_eq_true (by kernel_rfl)) (by unfold Func.isWrapper; first | (rw [if_pos (by decide +kernel)]; kernel_rfl) | (rw [if_neg (by decide +kernel)]; exact ⟨rfl, rfl⟩))
    (fun os started H enc _ F0 => by rw [OpenClaim.pre_eq_preRow]; exact certTextsLifted os started H enc F0)
theorem certTextsUptoCardHolds : Rows.CertTextsUptoCardSaid :=
  Claim7.holds_tied_plain_at .later [] [.data, .data, .data] true (true, "20355f481ac16757542302cc11799681d9a6975a32cb23469848ca393c6759c7") false certTextsUpto (fun _ h => by cases h) (by kernel_rfl) (fun _ h => by cases h) certTextsUpto_row_tie rfl ⟨rfl, rfl⟩ (by kernel_rfl) rfl
    (fun f fn hf hfn => by
      obtain rfl : f = 3 := Option.some.inj ((show Tryd.prog.funcNamed "wireglass/wireglasslaw22.CertTexts" = some 3 by kernel_rfl).symm.trans hf) |>.symm
      obtain rfl : fn = Tryd.f3 := (Option.some.inj (Tryd.func3.symm.trans hfn)).symm
      exact ⟨by kernel_rfl, fun j t ht => by
        rw [Tryd.params3] at ht
        have hm : t ∈ [24, 28] := by simpa using Array.mem_of_getElem? ht
        have hall : ([24, 28].all fun u => !Tryd.prog.wantsStandIn u) = true := by kernel_rfl
        exact (show Tryd.prog.wantsStandIn t = false by simpa using List.all_eq_true.1 hall t hm)⟩)
    (by kernel_rfl)
end Go.Proofs.YtepmllodaoanmaaDoor


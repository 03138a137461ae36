import Derived.Test.YtepmllodaoanmaaK49
import Derived.Test.YtepmllodaoanmaaK42
set_option linter.unusedVariables false
set_option linter.unusedSimpArgs false
namespace Go.Proofs.Ytepmllodaoanmaa
open Go Go.AX
set_option maxHeartbeats 8000000
set_option maxRecDepth 20000
attribute [local irreducible] AW RL OP PureV ValV HV DL DX Tri TriR Fun RetOk ResV
theorem pad_set2 {m k : Nat} {g g2 : Nat → Int} {v : Int} (hE : k / 8 < m ∧ v = byt g2 (k / 8) ∧ ∀ i, i ≠ k / 8 → byt g2 i = byt g i) : ((padN m g).map br).set ((k : Int) / 8).toNat (setAll (br (byt g (k / 8))) 0 (byte v).cells) = (padN m g2).map br := by
  obtain ⟨h1, h2, h3⟩ := hE
  show ((padN m g).map br).set ((k : Int) / 8).toNat (br v) = _
  rw [show ((k : Int) / 8).toNat = k / 8 by omega, ← List.map_set]
  congr 1
  apply List.ext_getElem?
  intro i
  rcases Nat.lt_or_ge i m with hi | hi
  · by_cases e : i = k / 8
    · subst e
      rw [padN_get _ hi, List.getElem?_set_self (by rw [padN_len]; exact hi), h2]
    · rw [List.getElem?_set_ne (Ne.symm e), padN_get _ hi, padN_get _ hi, h3 i e]
  · rw [List.getElem?_eq_none (by rw [List.length_set, padN_len]; exact hi), List.getElem?_eq_none (by rw [padN_len]; exact hi)]
theorem upd_take {bs : List Int} {i : Nat} {x : Int} (h : bs[i]? = some x) : updN (gOf (bs.take i)) i x = gOf (bs.take (i + 1)) := by
  funext k
  unfold updN gOf
  simp only [List.getD_eq_getElem?_getD, List.getElem?_take]
  split
  · rename_i e
    subst e
    rw [if_pos (by omega), h]
    rfl
  · rename_i e
    rcases Nat.lt_or_ge k i with g | g
    · rw [if_pos g, if_pos (by omega)]
    · rw [if_neg (by omega), if_neg (by omega)]
theorem Packed17 (t : Typ) (d : Dat) (hw : t.wt ≤ 1048576) (hdw : d.wt ≤ 1048576) (hdok : d.ok) : Fun Try.prog 17 [.agg t.cells, .agg d.cells] (.tup [.ro ((pkB t d).map br), int (pkE t d)]) := by
  have hv := valid13 t hw
  have hfit := fun hok => is29 _ t d (Nat.le_refl _) hw hdw hok
  have hvc := values40 _ d (Nat.le_refl _) hdw
  have hvw := vc_wt d
  have hpk := fun h : rdE t d = 0 => triR_nil (E := 5) (k := 1) (packed41 _ t d (Nat.le_refl _) hw hdw (vld_ok2 (rdE_0 h).1) hdok (rdE_0 h).2 [] (.slice none 0 0) (by simp only [List.length_nil]; omega))
  rw [cells_eq] at hv hfit hpk ⊢
  rw [dcells_eq] at hfit hvc hpk ⊢
  by_cases hv0 : vld t = 0
  · have hfit := hfit (vld_ok2 hv0)
    by_cases hf : fitT t d = true
    · rw [hf] at hfit
      have h0 : rdE t d = 0 := by rw [rdE, if_pos hv0, if_pos hf]
      have hpk := hpk h0
      by_cases h1 : d.vc ≤ 4000
      · refine Fun.of (TriR.of (tri_of Try.func17 rfl Try.ntmps17 rfl fun j => ?_))
        repeat' (first | (with_reducible first | refine aw_seq ?_ | refine rl_nil ?_ | refine aw_region ?_ | refine then_n ?_ | refine aw_block ?_ | refine then_exit ?_ | refine then_ret ?_ | refine in_n ?_ | refine in_ret ?_ | refine aw_exit ?_ | refine aw_ret ?_ | refine aw_skip ?_ | refine in_exit_eq rfl ?_ | refine awr_succ ?_) | ((with_reducible refine k_move ?_); refine rl_pure (pv_move rfl) rfl rfl rfl ?_) | ((with_reducible refine k_assign ?_); refine rl_pure (pv_assign rfl) rfl rfl rfl ?_) | ((with_reducible refine k_load ?_); refine rl_val (vv_load_box_whole (by rfl) by_memb (by rfl) (by first | rfl | exact tcells_len _ | exact dcells_len _)) rfl rfl rfl ?_) | ((with_reducible refine k_box ?_); refine rl_op rfl (op_box rfl (V.okc_or (by rfl)) rfl fun b => ?_)) | ((with_reducible refine k_neq ?_); refine rl_pure (pv_neq rfl rfl) rfl rfl rfl ?_) | ((with_reducible refine k_gtr ?_); refine rl_pure (pv_gtr rfl rfl) rfl rfl rfl ?_) | ((with_reducible refine k_not ?_); refine rl_pure (pv_not rfl) rfl rfl rfl ?_) | ((with_reducible refine k_cond ?_); refine aw_cond_f rfl ?_) | ((with_reducible refine k_callv ?_); (first | refine rl_op rfl (op_callF rfl rfl (hv) rfl ?_) | refine rl_op rfl (op_callF rfl rfl (hfit) rfl ?_) | refine rl_op rfl (op_callF rfl rfl (hvc) rfl ?_))) | (((with_reducible refine k_cond ?_); refine aw_cond rfl ?_ ?_) <;> ((fail_if_success (refine imp_known (by assumption) ?_)); (intro hb <;> (have hc := hb) <;> (try simp only [decide_eq_true_eq, decide_eq_false_iff_not, Int.not_lt, Int.not_le, ne_eq, Bool.not_eq_true, Bool.not_eq_false, Decidable.not_not] at hc) <;> (try (exfalso; omega)) <;> (try (exfalso; simp only [Bool.not_eq_eq_eq_not, Bool.not_true, Bool.not_false, decide_eq_true_eq, decide_eq_false_iff_not, ne_eq, Decidable.not_not, Int.not_lt, Int.not_le] at hc; omega)) <;> (try (first | contradiction | (cases hc; done))) <;> (try (first | exact absurd (hb.symm.trans (by assumption) : true = false) (by decide) | exact absurd (hb.symm.trans (by assumption) : false = true) (by decide)))))))
        all_goals first
        | (exfalso; omega)
        | skip
        (first | refine rl_op rfl (op_callR rfl rfl .nil hpk rfl ?_) | refine dl_op (by assumption) by_wants (op_callR rfl rfl .nil hpk rfl ?_))
        rintro _ _ ⟨svb, rfl, rfl⟩
        rw [List.nil_append]
        have hB := pkT_b t d
        have hplen := pk_len _ t d (Nat.le_refl _) (vld_ok2 hv0) hf
        have hpe : pkE t d = if pkLen t d ≤ 4000 then 0 else 3 := by
          rw [pkE, if_pos h0]
          by_cases hq : pkLen t d ≤ 4000
          · rw [if_pos ⟨h1, hq⟩, if_pos hq]
          · rw [if_neg (fun h => hq h.2), if_neg hq]
        have hpb : pkB t d = if pkLen t d ≤ 4000 then padN (pkLen t d) (gOf (pkT t d)) else [] := by
          rw [pkB, hpe]
          by_cases hq : pkLen t d ≤ 4000
          · rw [if_pos hq, if_pos hq, if_pos rfl]
          · rw [if_neg hq, if_neg hq, if_neg (by decide)]
        rw [hpe, hpb]
        have hpl : pkLen t d = ((pkT t d).length + 7) / 8 := rfl
        rw [hpl]
        generalize pkT t d = bs at hB hplen ⊢
        clear hpk hfit hv hvc hpe hpb hpl
        repeat' (first | (with_reducible first | refine aw_seq ?_ | refine rl_nil ?_ | refine aw_region ?_ | refine then_n ?_ | refine aw_block ?_ | refine then_exit ?_ | refine then_ret ?_ | refine in_n ?_ | refine in_ret ?_ | refine aw_exit ?_ | refine aw_ret ?_ | refine aw_skip ?_ | refine in_exit_eq rfl ?_ | refine awr_succ ?_) | ((with_reducible refine k_assign ?_); refine rl_pure (pv_assign rfl) rfl rfl rfl ?_))
        refine aw_nil_own 8 5 1 rfl ?_
        refine aw_iter (α := Nat × Value) (fun q => [(7, .own svb), (8, .own q.2), (9, int q.1)])
          (fun q => [.vec q.2 5 1 ((padN ((q.1 + 7) / 8) (gOf (bs.take q.1))).map br), .vec svb 5 1 (bs.map br)])
          (fun q => q.1 ≤ bs.length) (fun q => bs.length - q.1)
          (0, .slice none 0 0) (Nat.zero_le _) (by (repeat (first | exact sub_nil | refine sub_cons (by first | rfl | (simp; done)) ?_))) (.cons .here (.cons .here .nil)) fun q hI => ?_
        obtain ⟨i, so⟩ := q
        dsimp only at hI ⊢
        rcases Nat.lt_or_ge i bs.length with hlt | hge
        · obtain ⟨x, hx⟩ : ∃ x, bs[i]? = some x := ⟨_, List.getElem?_eq_getElem hlt⟩
          have hx01 := hB x (List.mem_of_getElem? hx)
          have hrx : (bs.map br)[i]? = some (br x) := by simp [hx]
          have hBt : B01 (bs.take i) := fun y hy => hB y (List.mem_of_mem_take hy)
          have hgb := gOf_bit hBt
          have hgl : (bs.take i).length = i := by rw [List.length_take]; omega
          have hg0 : ∀ k, i ≤ k → gOf (bs.take i) k = 0 := fun k hk => gOf_out (by omega)
          have hup := upd_take hx
          have hnx : (i + 1 + 7) / 8 = i / 8 + 1 := by omega
          have hE : i / 8 < i / 8 + 1 ∧ ior .u8 (byt (gOf (bs.take i)) (i / 8)) (ishl .u8 x (7 - (i : Int) % 8)) = byt (gOf (bs.take (i + 1))) (i / 8) ∧ ∀ k, k ≠ i / 8 → byt (gOf (bs.take (i + 1))) k = byt (gOf (bs.take i)) k := by
            rw [← hup]
            exact ⟨by omega, byt_put hgb i hx01 (hg0 i (Nat.le_refl _)), fun k hk => byt_upd_ne (Ne.symm hk)⟩
          have hps := pad_succ (i / 8) (gOf (bs.take i))
          have hp1 := padN_len (i / 8) (gOf (bs.take i))
          have hp2 := padN_len (i / 8 + 1) (gOf (bs.take i))
          generalize gOf (bs.take i) = g at hgb hg0 hE hps hp1 hp2 ⊢
          generalize hg2 : gOf (bs.take (i + 1)) = g2 at hE
          by_cases hm : i % 8 = 0
          · rw [show (i + 7) / 8 = i / 8 by omega]
            rw [byt_zero fun k hk => hg0 k (by omega)] at hps
            have hap : (padN (i / 8) g).map br ++ [[byte 0]] = (padN (i / 8 + 1) g).map br := by rw [hps, List.map_append]; rfl
            repeat' (first | (with_reducible first | refine aw_seq ?_ | refine rl_nil ?_ | refine aw_region ?_ | refine then_n ?_ | refine aw_block ?_ | refine then_exit ?_ | refine then_ret ?_ | refine in_n ?_ | refine in_ret ?_ | refine aw_exit ?_ | refine aw_ret ?_ | refine aw_skip ?_ | refine in_exit_eq rfl ?_ | refine awr_succ ?_) | ((with_reducible refine k_move ?_); refine rl_pure (pv_move rfl) rfl rfl rfl ?_) | ((with_reducible refine k_eql ?_); refine rl_pure (pv_eql rfl rfl) rfl rfl rfl ?_) | ((with_reducible refine k_lss ?_); refine rl_pure (pv_lss rfl rfl) rfl rfl rfl ?_) | ((with_reducible refine k_rem ?_); refine rl_pure (pv_rem_in rfl rfl (by omega)) rfl rfl rfl ?_) | ((with_reducible refine k_len ?_); refine rl_pure (pv_len_own' (by rfl) by_memb by_len) rfl rfl rfl ?_) | ((with_reducible refine k_buildSlice ?_); refine rl_op rfl (op_buildSlice_ro rfl rfl rfl (by rfl) (by rfl) (by rfl) (by rfl) rfl by_rows ?_)) | (((with_reducible refine k_cond ?_); refine aw_cond rfl ?_ ?_) <;> ((fail_if_success (refine imp_known (by assumption) ?_)); (intro hb <;> (have hc := hb) <;> (try simp only [decide_eq_true_eq, decide_eq_false_iff_not, Int.not_lt, Int.not_le, ne_eq, Bool.not_eq_true, Bool.not_eq_false, Decidable.not_not] at hc) <;> (try (exfalso; omega)) <;> (try (exfalso; simp only [Bool.not_eq_eq_eq_not, Bool.not_true, Bool.not_false, decide_eq_true_eq, decide_eq_false_iff_not, ne_eq, Decidable.not_not, Int.not_lt, Int.not_le] at hc; omega)) <;> (try (first | contradiction | (cases hc; done))) <;> (try (first | exact absurd (hb.symm.trans (by assumption) : true = false) (by decide) | exact absurd (hb.symm.trans (by assumption) : false = true) (by decide)))))))
            (first | refine rl_op rfl (op_append rfl .here rfl rfl rfl rfl (by first | (intro r hr; obtain ⟨_, _, rfl⟩ := List.mem_map.1 hr; rfl) | (simp; done) | (simp [V.cells]; done)) by_small rfl fun sv' => ?_) | (refine dl_op (by assumption) by_wants (op_append rfl .here rfl rfl rfl rfl (by first | (intro r hr; obtain ⟨_, _, rfl⟩ := List.mem_map.1 hr; rfl) | (simp; done) | (simp [V.cells]; done)) by_small rfl fun sv' => ?_); intro jd hjd))
            rw [hap]
            repeat' (first | (with_reducible first | refine aw_seq ?_ | refine rl_nil ?_ | refine aw_region ?_ | refine then_n ?_ | refine aw_block ?_ | refine then_exit ?_ | refine then_ret ?_ | refine in_n ?_ | refine in_ret ?_ | refine aw_exit ?_ | refine aw_ret ?_ | refine aw_skip ?_ | refine in_exit_eq rfl ?_ | refine awr_succ ?_) | ((with_reducible refine k_move ?_); refine rl_pure (pv_move rfl) rfl rfl rfl ?_) | ((with_reducible refine k_assign ?_); refine rl_pure (pv_assign rfl) rfl rfl rfl ?_) | ((with_reducible refine k_add ?_); refine rl_pure (pv_add_in rfl rfl (by omega)) rfl rfl rfl ?_) | (with_reducible refine dl_nil by_app ?_) | ((with_reducible refine kd_move ?_); refine dl_pure (by assumption) (pv_move rfl) by_wants rfl rfl ?_) | ((with_reducible refine kd_store ?_); (refine dl_op (by assumption) by_wants (op_store_vp (by rfl) (by rfl) (V.okc_or (by rfl)) by_upd (by first | rfl | assumption | exact (pad_row _ (by omega))) (by rfl) (by first | exact Nat.le_of_ble_eq_true rfl | assumption) ?_); intro jd hjd)) | ((with_reducible refine kd_sub ?_); refine dl_pure (by assumption) (pv_sub_in rfl rfl (by omega)) by_wants rfl rfl ?_) | ((with_reducible refine kd_quo ?_); refine dl_pure (by assumption) (pv_quo_in rfl rfl (by omega)) by_wants rfl rfl ?_) | ((with_reducible refine kd_rem ?_); refine dl_pure (by assumption) (pv_rem_in rfl rfl (by omega)) by_wants rfl rfl ?_) | ((with_reducible refine kd_indexAddr ?_); refine dl_pure (by assumption) (pv_indexAddr_own (by rfl) by_memj rfl (by first | omega | (simp only [List.length_cons, List.length_nil, List.length_append, List.length_map, List.length_replicate, List.length_set]; omega))) by_wants rfl rfl ?_) | ((with_reducible refine kd_or ?_); refine dl_pure (by assumption) (pv_or rfl rfl) by_wants rfl rfl ?_) | ((with_reducible refine kd_shl ?_); refine dl_pure (by assumption) (pv_shl rfl rfl (by omega)) by_wants rfl rfl ?_) | ((with_reducible refine kd_load ?_); (first | refine dl_take (by assumption) (hv_load_vp (by assumption) (by rfl) by_mem0 (by first | rfl | assumption | exact (pad_row _ (by omega))) (by rfl) by_bd) by_wants rfl rfl ?_ | (refine dl_op (by assumption) by_wants (op_val (vv_load_vp (by rfl) by_memj (by first | rfl | assumption | exact (pad_row _ (by omega))) (by rfl) by_bd) rfl rfl ?_); intro jd hjd))) | (refine aw_draw (id := 15) [(false, 0), (false, 1), (false, 2), (false, 3), (false, 5), (false, 6), (false, 7), (false, 8), (false, 9), (false, 10), (false, 11), (false, 12), (true, 4), (false, 13), (false, 14), (true, 15)] _ (by kernel_rfl) (by decide +kernel) (by decide) by_lit (.cons .here .nil) by_nos fun jd hjd => ?_))
            exact next_of (R := []) (i + 1, sv') hlt (by dsimp only; omega) (by (repeat (first | exact sub_nil | refine sub_cons (by first | rfl | (simp; done)) ?_))) (by dsimp only; rw [hnx, hg2, ← pad_set2 hE]; exact (.cons .here (.cons .here .nil)))
          · rw [show (i + 7) / 8 = i / 8 + 1 by omega]
            repeat' (first | (with_reducible first | refine aw_seq ?_ | refine rl_nil ?_ | refine aw_region ?_ | refine then_n ?_ | refine aw_block ?_ | refine then_exit ?_ | refine then_ret ?_ | refine in_n ?_ | refine in_ret ?_ | refine aw_exit ?_ | refine aw_ret ?_ | refine aw_skip ?_ | refine in_exit_eq rfl ?_ | refine awr_succ ?_) | ((with_reducible refine k_move ?_); refine rl_pure (pv_move rfl) rfl rfl rfl ?_) | ((with_reducible refine k_assign ?_); refine rl_pure (pv_assign rfl) rfl rfl rfl ?_) | ((with_reducible refine k_eql ?_); refine rl_pure (pv_eql rfl rfl) rfl rfl rfl ?_) | ((with_reducible refine k_lss ?_); refine rl_pure (pv_lss rfl rfl) rfl rfl rfl ?_) | ((with_reducible refine k_add ?_); refine rl_pure (pv_add_in rfl rfl (by omega)) rfl rfl rfl ?_) | ((with_reducible refine k_rem ?_); refine rl_pure (pv_rem_in rfl rfl (by omega)) rfl rfl rfl ?_) | ((with_reducible refine k_len ?_); refine rl_pure (pv_len_own' (by rfl) by_memb by_len) rfl rfl rfl ?_) | (with_reducible refine dl_nil by_app ?_) | ((with_reducible refine kd_move ?_); refine dl_pure (by assumption) (pv_move rfl) by_wants rfl rfl ?_) | ((with_reducible refine kd_store ?_); (refine dl_op (by assumption) by_wants (op_store_vp (by rfl) (by rfl) (V.okc_or (by rfl)) by_upd (by first | rfl | assumption | exact (pad_row _ (by omega))) (by rfl) (by first | exact Nat.le_of_ble_eq_true rfl | assumption) ?_); intro jd hjd)) | ((with_reducible refine kd_sub ?_); refine dl_pure (by assumption) (pv_sub_in rfl rfl (by omega)) by_wants rfl rfl ?_) | ((with_reducible refine kd_quo ?_); refine dl_pure (by assumption) (pv_quo_in rfl rfl (by omega)) by_wants rfl rfl ?_) | ((with_reducible refine kd_rem ?_); refine dl_pure (by assumption) (pv_rem_in rfl rfl (by omega)) by_wants rfl rfl ?_) | ((with_reducible refine kd_indexAddr ?_); refine dl_pure (by assumption) (pv_indexAddr_own (by rfl) by_memj rfl (by first | omega | (simp only [List.length_cons, List.length_nil, List.length_append, List.length_map, List.length_replicate, List.length_set]; omega))) by_wants rfl rfl ?_) | ((with_reducible refine kd_or ?_); refine dl_pure (by assumption) (pv_or rfl rfl) by_wants rfl rfl ?_) | ((with_reducible refine kd_shl ?_); refine dl_pure (by assumption) (pv_shl rfl rfl (by omega)) by_wants rfl rfl ?_) | ((with_reducible refine kd_load ?_); (first | refine dl_take (by assumption) (hv_load_vp (by assumption) (by rfl) by_mem0 (by first | rfl | assumption | exact (pad_row _ (by omega))) (by rfl) by_bd) by_wants rfl rfl ?_ | (refine dl_op (by assumption) by_wants (op_val (vv_load_vp (by rfl) by_memj (by first | rfl | assumption | exact (pad_row _ (by omega))) (by rfl) by_bd) rfl rfl ?_); intro jd hjd))) | (refine aw_draw (id := 15) [(false, 0), (false, 1), (false, 2), (false, 3), (false, 5), (false, 6), (false, 7), (false, 8), (false, 9), (false, 10), (false, 11), (false, 12), (true, 4), (false, 13), (false, 14), (true, 15)] _ (by kernel_rfl) (by decide +kernel) (by decide) by_lit (.cons .here .nil) by_nos fun jd hjd => ?_) | (((with_reducible refine k_cond ?_); refine aw_cond rfl ?_ ?_) <;> ((fail_if_success (refine imp_known (by assumption) ?_)); (intro hb <;> (have hc := hb) <;> (try simp only [decide_eq_true_eq, decide_eq_false_iff_not, Int.not_lt, Int.not_le, ne_eq, Bool.not_eq_true, Bool.not_eq_false, Decidable.not_not] at hc) <;> (try (exfalso; omega)) <;> (try (exfalso; simp only [Bool.not_eq_eq_eq_not, Bool.not_true, Bool.not_false, decide_eq_true_eq, decide_eq_false_iff_not, ne_eq, Decidable.not_not, Int.not_lt, Int.not_le] at hc; omega)) <;> (try (first | contradiction | (cases hc; done))) <;> (try (first | exact absurd (hb.symm.trans (by assumption) : true = false) (by decide) | exact absurd (hb.symm.trans (by assumption) : false = true) (by decide)))))))
            exact next_of (R := []) (i + 1, so) hlt (by dsimp only; omega) (by (repeat (first | exact sub_nil | refine sub_cons (by first | rfl | (simp; done)) ?_))) (by dsimp only; rw [hnx, hg2, ← pad_set2 hE]; exact (.cons .here (.cons .here .nil)))
        · have hki : i = bs.length := by omega
          subst hki
          rw [List.take_of_length_le (Nat.le_refl _)]
          have hp1 := padN_len ((bs.length + 7) / 8) (gOf bs)
          repeat' (first | (with_reducible first | refine aw_seq ?_ | refine rl_nil ?_ | refine aw_region ?_ | refine then_n ?_ | refine aw_block ?_ | refine then_exit ?_ | refine then_ret ?_ | refine in_n ?_ | refine in_ret ?_ | refine aw_exit ?_ | refine aw_ret ?_ | refine aw_skip ?_ | refine in_exit_eq rfl ?_ | refine awr_succ ?_) | ((with_reducible refine k_move ?_); refine rl_pure (pv_move rfl) rfl rfl rfl ?_) | ((with_reducible refine k_assign ?_); refine rl_pure (pv_assign rfl) rfl rfl rfl ?_) | ((with_reducible refine k_lss ?_); refine rl_pure (pv_lss rfl rfl) rfl rfl rfl ?_) | ((with_reducible refine k_gtr ?_); refine rl_pure (pv_gtr rfl rfl) rfl rfl rfl ?_) | ((with_reducible refine k_len ?_); refine rl_pure (pv_len_own' (by rfl) by_memb by_len) rfl rfl rfl ?_) | (((with_reducible refine k_cond ?_); refine aw_cond rfl ?_ ?_) <;> ((fail_if_success (refine imp_known (by assumption) ?_)); (intro hb <;> (have hc := hb) <;> (try simp only [decide_eq_true_eq, decide_eq_false_iff_not, Int.not_lt, Int.not_le, ne_eq, Bool.not_eq_true, Bool.not_eq_false, Decidable.not_not] at hc) <;> (try (exfalso; omega)) <;> (try (exfalso; simp only [Bool.not_eq_eq_eq_not, Bool.not_true, Bool.not_false, decide_eq_true_eq, decide_eq_false_iff_not, ne_eq, Decidable.not_not, Int.not_lt, Int.not_le] at hc; omega)) <;> (try (first | contradiction | (cases hc; done))) <;> (try (first | exact absurd (hb.symm.trans (by assumption) : true = false) (by decide) | exact absurd (hb.symm.trans (by assumption) : false = true) (by decide)))))))
          · rw [if_neg (by omega), if_neg (by omega)]
            refine ret_r (retok_nil_ro 4 rfl (ret2 rfl by_res by_res (List.nil_sublist _) ⟨_, rfl, ?_⟩))
            exact ⟨rfl, rfl⟩
          · rw [if_pos (by omega), if_pos (by omega)]
            refine ret_r (retok_freeze (d := 4) rfl .here (ret2 rfl by_res by_res (List.nil_sublist _) ⟨_, rfl, ?_⟩))
            exact ⟨rfl, rfl⟩
      · have hE : pkE t d = 3 := by rw [pkE, if_pos h0, if_neg (fun h => h1 h.1)]
        have hB : pkB t d = [] := if_neg (by rw [hE]; decide)
        clear hpk
        refine Fun.of (TriR.of (tri_of Try.func17 rfl Try.ntmps17 rfl fun j => ?_))
        repeat' (first | (with_reducible first | refine aw_seq ?_ | refine rl_nil ?_ | refine aw_region ?_ | refine then_n ?_ | refine aw_block ?_ | refine then_exit ?_ | refine then_ret ?_ | refine in_n ?_ | refine in_ret ?_ | refine aw_exit ?_ | refine aw_ret ?_ | refine aw_skip ?_ | refine in_exit_eq rfl ?_ | refine awr_succ ?_) | ((with_reducible refine k_move ?_); refine rl_pure (pv_move rfl) rfl rfl rfl ?_) | ((with_reducible refine k_assign ?_); refine rl_pure (pv_assign rfl) rfl rfl rfl ?_) | ((with_reducible refine k_load ?_); refine rl_val (vv_load_box_whole (by rfl) by_memb (by rfl) (by first | rfl | exact tcells_len _ | exact dcells_len _)) rfl rfl rfl ?_) | ((with_reducible refine k_box ?_); refine rl_op rfl (op_box rfl (V.okc_or (by rfl)) rfl fun b => ?_)) | ((with_reducible refine k_neq ?_); refine rl_pure (pv_neq rfl rfl) rfl rfl rfl ?_) | ((with_reducible refine k_gtr ?_); refine rl_pure (pv_gtr rfl rfl) rfl rfl rfl ?_) | ((with_reducible refine k_not ?_); refine rl_pure (pv_not rfl) rfl rfl rfl ?_) | ((with_reducible refine k_cond ?_); refine aw_cond_f rfl ?_) | ((with_reducible refine k_callv ?_); (first | refine rl_op rfl (op_callF rfl rfl (hv) rfl ?_) | refine rl_op rfl (op_callF rfl rfl (hfit) rfl ?_) | refine rl_op rfl (op_callF rfl rfl (hvc) rfl ?_))) | (((with_reducible refine k_cond ?_); refine aw_cond rfl ?_ ?_) <;> ((fail_if_success (refine imp_known (by assumption) ?_)); (intro hb <;> (have hc := hb) <;> (try simp only [decide_eq_true_eq, decide_eq_false_iff_not, Int.not_lt, Int.not_le, ne_eq, Bool.not_eq_true, Bool.not_eq_false, Decidable.not_not] at hc) <;> (try (exfalso; omega)) <;> (try (exfalso; simp only [Bool.not_eq_eq_eq_not, Bool.not_true, Bool.not_false, decide_eq_true_eq, decide_eq_false_iff_not, ne_eq, Decidable.not_not, Int.not_lt, Int.not_le] at hc; omega)) <;> (try (first | contradiction | (cases hc; done))) <;> (try (first | exact absurd (hb.symm.trans (by assumption) : true = false) (by decide) | exact absurd (hb.symm.trans (by assumption) : false = true) (by decide)))))))
        all_goals first
        | (exfalso; omega)
        | (refine ret_r (retok_nil_ro 4 rfl (ret2 rfl by_res by_res (List.nil_sublist _) ⟨_, rfl, ?_⟩))
           exact ⟨by rw [hE, hB]; rfl, rfl⟩)
    · have hE : pkE t d = 6 := by
        have : rdE t d = 6 := by rw [rdE, if_pos hv0, if_neg hf]
        rw [pkE, if_neg (by omega), this]
      have hB : pkB t d = [] := if_neg (by rw [hE]; decide)
      clear hpk hvc
      rw [Bool.not_eq_true] at hf
      rw [hf] at hfit
      refine Fun.of (TriR.of (tri_of Try.func17 rfl Try.ntmps17 rfl fun j => ?_))
      repeat' (first | (with_reducible first | refine aw_seq ?_ | refine rl_nil ?_ | refine aw_region ?_ | refine then_n ?_ | refine aw_block ?_ | refine then_exit ?_ | refine then_ret ?_ | refine in_n ?_ | refine in_ret ?_ | refine aw_exit ?_ | refine aw_ret ?_ | refine aw_skip ?_ | refine in_exit_eq rfl ?_ | refine awr_succ ?_) | ((with_reducible refine k_move ?_); refine rl_pure (pv_move rfl) rfl rfl rfl ?_) | ((with_reducible refine k_assign ?_); refine rl_pure (pv_assign rfl) rfl rfl rfl ?_) | ((with_reducible refine k_load ?_); refine rl_val (vv_load_box_whole (by rfl) by_memb (by rfl) (by first | rfl | exact tcells_len _ | exact dcells_len _)) rfl rfl rfl ?_) | ((with_reducible refine k_box ?_); refine rl_op rfl (op_box rfl (V.okc_or (by rfl)) rfl fun b => ?_)) | ((with_reducible refine k_neq ?_); refine rl_pure (pv_neq rfl rfl) rfl rfl rfl ?_) | ((with_reducible refine k_not ?_); refine rl_pure (pv_not rfl) rfl rfl rfl ?_) | ((with_reducible refine k_cond ?_); refine aw_cond_t rfl ?_) | ((with_reducible refine k_callv ?_); (first | refine rl_op rfl (op_callF rfl rfl (hv) rfl ?_) | refine rl_op rfl (op_callF rfl rfl (hfit) rfl ?_))) | (((with_reducible refine k_cond ?_); refine aw_cond rfl ?_ ?_) <;> ((fail_if_success (refine imp_known (by assumption) ?_)); (intro hb <;> (have hc := hb) <;> (try simp only [decide_eq_true_eq, decide_eq_false_iff_not, Int.not_lt, Int.not_le, ne_eq, Bool.not_eq_true, Bool.not_eq_false, Decidable.not_not] at hc) <;> (try (exfalso; omega)) <;> (try (exfalso; simp only [Bool.not_eq_eq_eq_not, Bool.not_true, Bool.not_false, decide_eq_true_eq, decide_eq_false_iff_not, ne_eq, Decidable.not_not, Int.not_lt, Int.not_le] at hc; omega)) <;> (try (first | contradiction | (cases hc; done))) <;> (try (first | exact absurd (hb.symm.trans (by assumption) : true = false) (by decide) | exact absurd (hb.symm.trans (by assumption) : false = true) (by decide)))))))
      all_goals first
      | (exfalso; omega)
      | (refine ret_r (retok_nil_ro 4 rfl (ret2 rfl by_res by_res (List.nil_sublist _) ⟨_, rfl, ?_⟩))
         exact ⟨by rw [hE, hB]; rfl, rfl⟩)
  · have hr : rdE t d = vld t := if_neg hv0
    have hE : pkE t d = vld t := by rw [pkE, if_neg (by omega), hr]
    have hB : pkB t d = [] := if_neg (by rw [hE]; exact hv0)
    clear hpk hvc hfit
    refine Fun.of (TriR.of (tri_of Try.func17 rfl Try.ntmps17 rfl fun j => ?_))
    repeat' (first | (with_reducible first | refine aw_seq ?_ | refine rl_nil ?_ | refine aw_region ?_ | refine then_n ?_ | refine aw_block ?_ | refine then_exit ?_ | refine then_ret ?_ | refine in_n ?_ | refine in_ret ?_ | refine aw_exit ?_ | refine aw_ret ?_ | refine aw_skip ?_ | refine in_exit_eq rfl ?_ | refine awr_succ ?_) | ((with_reducible refine k_move ?_); refine rl_pure (pv_move rfl) rfl rfl rfl ?_) | ((with_reducible refine k_assign ?_); refine rl_pure (pv_assign rfl) rfl rfl rfl ?_) | ((with_reducible refine k_load ?_); refine rl_val (vv_load_box_whole (by rfl) by_memb (by rfl) (by first | rfl | exact tcells_len _ | exact dcells_len _)) rfl rfl rfl ?_) | ((with_reducible refine k_box ?_); refine rl_op rfl (op_box rfl (V.okc_or (by rfl)) rfl fun b => ?_)) | ((with_reducible refine k_neq ?_); refine rl_pure (pv_neq rfl rfl) rfl rfl rfl ?_) | ((with_reducible refine k_callv ?_); refine rl_op rfl (op_callF rfl rfl (hv) rfl ?_)) | (((with_reducible refine k_cond ?_); refine aw_cond rfl ?_ ?_) <;> ((fail_if_success (refine imp_known (by assumption) ?_)); (intro hb <;> (have hc := hb) <;> (try simp only [decide_eq_true_eq, decide_eq_false_iff_not, Int.not_lt, Int.not_le, ne_eq, Bool.not_eq_true, Bool.not_eq_false, Decidable.not_not] at hc) <;> (try (exfalso; omega)) <;> (try (exfalso; simp only [Bool.not_eq_eq_eq_not, Bool.not_true, Bool.not_false, decide_eq_true_eq, decide_eq_false_iff_not, ne_eq, Decidable.not_not, Int.not_lt, Int.not_le] at hc; omega)) <;> (try (first | contradiction | (cases hc; done))) <;> (try (first | exact absurd (hb.symm.trans (by assumption) : true = false) (by decide) | exact absurd (hb.symm.trans (by assumption) : false = true) (by decide)))))))
    all_goals first
    | (exfalso; omega)
    | (refine ret_r (retok_nil_ro 4 rfl (ret2 rfl by_res by_res (List.nil_sublist _) ⟨_, rfl, ?_⟩))
       exact ⟨by rw [hE, hB]; rfl, rfl⟩)
end Go.Proofs.Ytepmllodaoanmaa

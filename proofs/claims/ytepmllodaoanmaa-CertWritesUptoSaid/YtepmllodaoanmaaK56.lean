import Derived.Test.YtepmllodaoanmaaK55
set_option linter.unusedVariables false
set_option linter.unusedSimpArgs false
namespace Go.Proofs.Ytepmllodaoanmaa
open Go Go.AX
set_option maxHeartbeats 8000000
set_option maxRecDepth 20000
attribute [local irreducible] AW RL OP PureV ValV HV DL DX Tri TriR Fun RetOk ResV
theorem rowB_mono : ∀ (l : List Typ) (ds : List Dat) (i k : Nat), (rowB (l.take i) (ds.take i) k).length ≤ (rowB l ds k).length
  | [], _, i, k => by rw [List.take_nil, rowB]; exact Nat.zero_le _
  | t :: l, [], i, k => by rw [List.take_nil]; cases i <;> simp [rowB]
  | t :: l, d :: ds, 0, k => by rw [List.take_zero, rowB]; exact Nat.zero_le _
  | t :: l, d :: ds, i + 1, k => by
    rw [List.take_succ_cons, List.take_succ_cons, rowB, rowB, List.length_append, List.length_append]
    have := rowB_mono l ds i (k + 1)
    omega
theorem row82 (t : Typ) (d : Dat) (hl : d.l.length = t.l.length) (hlen : t.l.length ≤ 20) (hk : ∀ (i : Nat) x u, t.l[i]? = some x → d.l[i]? = some u → u.set = true → u.kind = x.kind ∧ okT x = true ∧ WB (fK x.kind) x u (bodyT x u) 100000 ∧ WB 36 x u (basT x u) 4010) : WB 82 t d (rowB t.l d.l 0) 100000 := by
  intro p full
  have h59 := bodies59 p
  rw [cells_eq t, dcells_eq]
  refine TriR.of (tri_of Try.func82 rfl Try.ntmps82 rfl fun j => ?_)
  repeat' (first | (with_reducible first | refine aw_seq ?_ | refine rl_nil ?_ | refine aw_region ?_ | refine then_n ?_ | refine aw_block ?_ | refine then_exit ?_ | refine then_ret ?_ | refine in_n ?_ | refine in_ret ?_ | refine aw_exit ?_ | refine aw_ret ?_ | refine aw_skip ?_ | refine in_exit_eq rfl ?_ | refine awr_succ ?_) | ((with_reducible refine k_move ?_); refine rl_pure (pv_move rfl) rfl rfl rfl ?_) | ((with_reducible refine k_assign ?_); refine rl_pure (pv_assign rfl) rfl rfl rfl ?_) | ((with_reducible refine k_load ?_); refine rl_val (vv_load_box (by rfl) by_memb (by rfl) by_bd) rfl rfl rfl ?_) | ((with_reducible refine k_fieldAddr ?_); refine rl_pure (pv_fieldAddr rfl) rfl rfl rfl ?_) | ((with_reducible refine k_box ?_); refine rl_op rfl (op_box rfl (V.okc_or (by rfl)) rfl fun b => ?_)) | ((with_reducible refine k_len ?_); refine rl_pure (pv_len_ro' (by rfl) by_len) rfl rfl rfl ?_))
  refine aw_nil_own 7 5 1 rfl ?_
  revert b; intro bd
  obtain ⟨tot, htot⟩ : ∃ tot, rowB t.l d.l 0 = tot := ⟨_, rfl⟩
  rw [htot]
  refine aw_iter (α := Nat × Value × List Int × Bool) (fun q => [(0, ptr p), (4, ptr b), (7, .own q.2.1), (12, .ro (d.l.map Dat.cells)), (13, int d.l.length), (14, int q.1)])
    (fun q => [.vec q.2.1 5 1 (q.2.2.1.map br), .box p 58 [bool q.2.2.2], .box b 24 [int t.kind, str t.name, int t.lo, int t.hi, bool t.opt, .ro (t.l.map Typ.cells)]])
    (fun q => q.1 ≤ d.l.length ∧ q.2.2.1.length ≤ 4010 * q.1 ∧ ((q.2.2.2 = full ∧ q.2.2.1 = rowB (t.l.take q.1) (d.l.take q.1) 0) ∨ (q.2.2.2 = true ∧ 4000 < tot.length))) (fun q => d.l.length - q.1)
    (0, .slice none 0 0, [], full) ⟨Nat.zero_le _, by simp, .inl ⟨rfl, by simp [rowB]⟩⟩ (by (repeat (first | exact sub_nil | refine sub_cons (by first | rfl | (simp; done)) ?_))) (.cons .here (.cons (.there (.there .here)) (.cons (.there .here) .nil))) fun q hI => ?_
  obtain ⟨i, so, out, f⟩ := q
  dsimp only at hI ⊢
  obtain ⟨hi, hol, hI⟩ := hI
  rcases Nat.lt_or_ge i d.l.length with hlt | hge
  · obtain ⟨x, hx⟩ : ∃ x, t.l[i]? = some x := ⟨_, List.getElem?_eq_getElem (by omega)⟩
    obtain ⟨u, hu⟩ : ∃ u, d.l[i]? = some u := ⟨_, List.getElem?_eq_getElem hlt⟩
    have hr1 : (t.l.map Typ.cells)[i]? = some x.cells := by simp [hx]
    have hr2 : (d.l.map Dat.cells)[i]? = some u.cells := by simp [hu]
    have hft := rowB_take (k := 0) hx hu
    have hle := rowB_mono t.l d.l (i + 1) 0
    rw [htot, hft, List.length_append, Nat.zero_add] at hle
    rw [Nat.zero_add] at hft
    have hkid := hk i x u hx hu
    clear hk
    unfold WB at hkid
    rw [cells_eq x] at hr1 hkid
    rw [dcells_eq u] at hr2 hkid
    cases hs : u.set
    · rw [hs] at hr2
      have hpb : partB x u i = [] := by rw [partB, if_neg (by simp [hs])]
      clear hkid
      repeat' (first | (with_reducible first | refine aw_seq ?_ | refine rl_nil ?_ | refine aw_region ?_ | refine then_n ?_ | refine aw_block ?_ | refine then_exit ?_ | refine then_ret ?_ | refine in_n ?_ | refine in_ret ?_ | refine aw_exit ?_ | refine aw_ret ?_ | refine aw_skip ?_ | refine in_exit_eq rfl ?_ | refine awr_succ ?_) | ((with_reducible refine k_move ?_); refine rl_pure (pv_move rfl) rfl rfl rfl ?_) | ((with_reducible refine k_assign ?_); refine rl_pure (pv_assign rfl) rfl rfl rfl ?_) | ((with_reducible refine k_load ?_); (first | refine rl_val (vv_load_ro_whole (by rfl) (by rfl) (by first | rfl | exact tcells_len _ | exact dcells_len _)) rfl rfl rfl ?_ | refine rl_val (vv_load_box (by rfl) by_memb (by rfl) by_bd) rfl rfl rfl ?_)) | ((with_reducible refine k_fieldAddr ?_); refine rl_pure (pv_fieldAddr rfl) rfl rfl rfl ?_) | ((with_reducible refine k_store ?_); refine rl_op rfl (op_store_box_whole (by rfl) (by rfl) (V.okc_or (by rfl)) by_upd (by first | rfl | exact tcells_len _ | exact dcells_len _) (by first | rfl | exact tcells_len _ | exact dcells_len _) ?_)) | ((with_reducible refine k_alloc ?_); refine rl_op rfl (op_alloc (by decide) rfl fun b => ?_)) | ((with_reducible refine k_lss ?_); refine rl_pure (pv_lss rfl rfl) rfl rfl rfl ?_) | ((with_reducible refine k_add ?_); refine rl_pure (pv_add_in rfl rfl (by omega)) rfl rfl rfl ?_) | ((with_reducible refine k_not ?_); refine rl_pure (pv_not rfl) rfl rfl rfl ?_) | ((with_reducible refine k_indexAddr ?_); refine rl_pure (pv_indexAddr_ro (by rfl) rfl (by omega) (by first | rfl | assumption) (by first | rfl | exact tcells_len _ | exact dcells_len _)) rfl rfl rfl ?_) | ((with_reducible refine k_cond ?_); refine aw_cond_t rfl ?_) | (((with_reducible refine k_cond ?_); refine aw_cond rfl ?_ ?_) <;> ((fail_if_success (refine imp_known (by assumption) ?_)); (intro hb <;> (have hc := hb) <;> (try simp only [decide_eq_true_eq, decide_eq_false_iff_not, Int.not_lt, Int.not_le, ne_eq, Bool.not_eq_true, Bool.not_eq_false, Decidable.not_not] at hc) <;> (try (exfalso; omega)) <;> (try (exfalso; simp only [Bool.not_eq_eq_eq_not, Bool.not_true, Bool.not_false, decide_eq_true_eq, decide_eq_false_iff_not, ne_eq, Decidable.not_not, Int.not_lt, Int.not_le] at hc; omega)) <;> (try (first | contradiction | (cases hc; done))) <;> (try (first | exact absurd (hb.symm.trans (by assumption) : true = false) (by decide) | exact absurd (hb.symm.trans (by assumption) : false = true) (by decide)))))))
      exact next_of (R := [_]) (i + 1, so, out, f) ⟨hlt, by dsimp only; omega, by dsimp only; rw [hft, hpb, List.append_nil]; exact hI⟩ (by dsimp only; omega) (by (repeat (first | exact sub_nil | refine sub_cons (by first | rfl | (simp; done)) ?_))) (.cons (.there .here) (.cons (.there .here) (.cons (.there .here) .nil)))
    · obtain ⟨hku, hokx, hb1, hb2⟩ := hkid hs
      have hkx := kindR hokx
      have hak := atK p hkx
      haveI := entK hkx
      have hb1 := hb1 p f
      have hb2 := hb2 p
      rw [hs] at hr2 hb1 hb2
      rw [hku] at hr2 hb1 hb2
      have hpb : partB x u i = tagd (128 + i) (if x.kind = 5 then basT x u else bodyT x u) := by rw [partB, if_pos hs]
      have e4 : IntKind.u8.wrap (128 + (i : Int)) = 128 + i := IntWalk.u8_in _ (by omega)
      have hbb : (bodyT x u).length < (basT x u).length := tagd_ge _ _
      repeat' (first | (with_reducible first | refine aw_seq ?_ | refine rl_nil ?_ | refine aw_region ?_ | refine then_n ?_ | refine aw_block ?_ | refine then_exit ?_ | refine then_ret ?_ | refine in_n ?_ | refine in_ret ?_ | refine aw_exit ?_ | refine aw_ret ?_ | refine aw_skip ?_ | refine in_exit_eq rfl ?_ | refine awr_succ ?_) | ((with_reducible refine k_move ?_); refine rl_pure (pv_move rfl) rfl rfl rfl ?_) | ((with_reducible refine k_assign ?_); refine rl_pure (pv_assign rfl) rfl rfl rfl ?_) | ((with_reducible refine k_load ?_); (first | refine rl_val (vv_load_ro_whole (by rfl) (by rfl) (by first | rfl | exact tcells_len _ | exact dcells_len _)) rfl rfl rfl ?_ | refine rl_val (vv_load_box (by rfl) by_memb (by rfl) by_bd) rfl rfl rfl ?_)) | ((with_reducible refine k_fieldAddr ?_); refine rl_pure (pv_fieldAddr rfl) rfl rfl rfl ?_) | ((with_reducible refine k_store ?_); refine rl_op rfl (op_store_box_whole (by rfl) (by rfl) (V.okc_or (by rfl)) by_upd (by first | rfl | exact tcells_len _ | exact dcells_len _) (by first | rfl | exact tcells_len _ | exact dcells_len _) ?_)) | ((with_reducible refine k_alloc ?_); refine rl_op rfl (op_alloc (by decide) rfl fun b => ?_)) | ((with_reducible refine k_lss ?_); refine rl_pure (pv_lss rfl rfl) rfl rfl rfl ?_) | ((with_reducible refine k_not ?_); refine rl_pure (pv_not rfl) rfl rfl rfl ?_) | ((with_reducible refine k_indexAddr ?_); refine rl_pure (pv_indexAddr_ro (by rfl) rfl (by omega) (by first | rfl | assumption) (by first | rfl | exact tcells_len _ | exact dcells_len _)) rfl rfl rfl ?_) | ((with_reducible refine k_cond ?_); refine aw_cond_f rfl ?_) | ((with_reducible refine kd_move ?_); refine dl_pure (by assumption) (pv_move rfl) by_wants rfl rfl ?_) | ((with_reducible refine kd_fieldAddr ?_); refine dl_pure (by assumption) (pv_fieldAddr rfl) by_wants rfl rfl ?_) | ((with_reducible refine kd_index ?_); refine dl_pure (by assumption) (pv_index_agg (by rfl) rfl by_bound rfl by_bd) by_wants rfl rfl ?_) | ((with_reducible refine kd_indexAddr ?_); refine dl_pure (by assumption) (pv_indexAddr_ro (by rfl) rfl (by omega) (by first | rfl | assumption) (by first | rfl | exact tcells_len _ | exact dcells_len _)) by_wants rfl rfl ?_) | ((with_reducible refine kd_load ?_); (first | refine dl_take (by assumption) (hv_load_ro_whole (by assumption) (by rfl) (by rfl) (by first | rfl | exact tcells_len _ | exact dcells_len _)) by_wants rfl rfl ?_ | refine dl_take (by assumption) (hv_load_box (by assumption) (by rfl) by_mem0 (by rfl) by_bd) by_wants rfl rfl ?_ | refine dl_take (by assumption) (hv_load_box_whole (by assumption) (by rfl) by_mem0 (by rfl) (by first | rfl | exact tcells_len _ | exact dcells_len _)) by_wants rfl rfl ?_)) | (refine aw_draw (id := 6) [(false, 0), (false, 2), (false, 3), (false, 5), (false, 6), (false, 7), (false, 8), (false, 9), (false, 10), (true, 1), (false, 4), (true, 11), (false, 12)] _ (by kernel_rfl) (by decide +kernel) (by decide) by_lit (.cons (.there (.there .here)) .nil) by_nos fun jd hjd => ?_) | ((with_reducible refine kd_callv ?_); (refine dl_op (by assumption) by_wants (op_callF rfl rfl (h59) rfl ?_); intro jd hjd)) | (((with_reducible refine k_cond ?_); refine aw_cond rfl ?_ ?_) <;> ((fail_if_success (refine imp_known (by assumption) ?_)); (intro hb <;> (have hc := hb) <;> (try simp only [decide_eq_true_eq, decide_eq_false_iff_not, Int.not_lt, Int.not_le, ne_eq, Bool.not_eq_true, Bool.not_eq_false, Decidable.not_not] at hc) <;> (try (exfalso; omega)) <;> (try (exfalso; simp only [Bool.not_eq_eq_eq_not, Bool.not_true, Bool.not_false, decide_eq_true_eq, decide_eq_false_iff_not, ne_eq, Decidable.not_not, Int.not_lt, Int.not_le] at hc; omega)) <;> (try (first | contradiction | (cases hc; done))) <;> (try (first | exact absurd (hb.symm.trans (by assumption) : true = false) (by decide) | exact absurd (hb.symm.trans (by assumption) : false = true) (by decide)))))))
      (first | refine rl_op rfl (op_callR rfl rfl (.cons .here .nil) hb1 rfl ?_) | refine dl_op (by assumption) by_wants (op_callR rfl rfl (.cons .here .nil) hb1 rfl ?_))
      rintro _ _ ⟨o1, f1, rfl, rfl, hl1, h1⟩ jd hjd
      repeat' (first | (with_reducible first | refine aw_seq ?_ | refine rl_nil ?_ | refine aw_region ?_ | refine then_n ?_ | refine aw_block ?_ | refine then_exit ?_ | refine then_ret ?_ | refine in_n ?_ | refine in_ret ?_ | refine aw_exit ?_ | refine aw_ret ?_ | refine aw_skip ?_ | refine in_exit_eq rfl ?_ | refine awr_succ ?_) | ((with_reducible refine k_move ?_); refine rl_pure (pv_move rfl) rfl rfl rfl ?_) | ((with_reducible refine k_load ?_); refine rl_val (vv_load_box (by rfl) by_memb (by rfl) by_bd) rfl rfl rfl ?_) | ((with_reducible refine k_fieldAddr ?_); refine rl_pure (pv_fieldAddr rfl) rfl rfl rfl ?_) | ((with_reducible refine k_eql ?_); refine rl_pure (pv_eql rfl rfl) rfl rfl rfl ?_) | ((with_reducible refine k_convert ?_); refine rl_pure (pv_convert_in rfl (by first | rfl | exact IntWalk.i64_in _ (by omega) | exact IntWalk.u8_in _ (by omega) | exact IntWalk.u32_in _ (by omega))) rfl rfl rfl ?_) | (with_reducible refine dl_nil by_app ?_) | ((with_reducible refine kd_move ?_); refine dl_pure (by assumption) (pv_move rfl) by_wants rfl rfl ?_) | ((with_reducible refine kd_assign ?_); refine dl_pure (by assumption) (pv_assign rfl) by_wants rfl rfl ?_) | ((with_reducible refine kd_fieldAddr ?_); refine dl_pure (by assumption) (pv_fieldAddr rfl) by_wants rfl rfl ?_) | ((with_reducible refine kd_indexAddr ?_); refine dl_pure (by assumption) (pv_indexAddr_ro (by rfl) rfl (by omega) (by first | rfl | assumption) (by first | rfl | exact tcells_len _ | exact dcells_len _)) by_wants rfl rfl ?_) | ((with_reducible refine kd_load ?_); (first | refine dl_take (by assumption) (hv_load_ro_whole (by assumption) (by rfl) (by rfl) (by first | rfl | exact tcells_len _ | exact dcells_len _)) by_wants rfl rfl ?_ | refine dl_take (by assumption) (hv_load_box (by assumption) (by rfl) by_mem0 (by rfl) by_bd) by_wants rfl rfl ?_ | refine dl_take (by assumption) (hv_load_box_whole (by assumption) (by rfl) by_mem0 (by rfl) (by first | rfl | exact tcells_len _ | exact dcells_len _)) by_wants rfl rfl ?_)) | (refine aw_draw (id := 8) [(false, 0), (false, 1), (false, 2), (false, 3), (false, 4), (false, 5), (false, 6), (true, 7), (false, 8)] _ (by kernel_rfl) (by decide +kernel) (by decide) by_lit (.cons .here .nil) by_nos fun jd hjd => ?_) | ((with_reducible refine k_add ?_); refine rl_pure (pv_add rfl rfl) rfl rfl rfl ?_) | (((with_reducible refine k_cond ?_); refine aw_cond rfl ?_ ?_) <;> ((fail_if_success (refine imp_known (by assumption) ?_)); (intro hb <;> (have hc := hb) <;> (try simp only [decide_eq_true_eq, decide_eq_false_iff_not, Int.not_lt, Int.not_le, ne_eq, Bool.not_eq_true, Bool.not_eq_false, Decidable.not_not] at hc) <;> (try (exfalso; omega)) <;> (try (exfalso; simp only [Bool.not_eq_eq_eq_not, Bool.not_true, Bool.not_false, decide_eq_true_eq, decide_eq_false_iff_not, ne_eq, Decidable.not_not, Int.not_lt, Int.not_le] at hc; omega)) <;> (try (first | contradiction | (cases hc; done))) <;> (try (first | exact absurd (hb.symm.trans (by assumption) : true = false) (by decide) | exact absurd (hb.symm.trans (by assumption) : false = true) (by decide)))))))
      · (first | refine rl_op rfl (op_callR rfl rfl (.cons .here .nil) (hb2 f1) rfl ?_) | refine dl_op (by assumption) by_wants (op_callR rfl rfl (.cons .here .nil) (hb2 f1) rfl ?_))
        rintro _ _ ⟨o2, f2, rfl, rfl, hl2, h2⟩ jd hjd
        repeat' (first | (with_reducible first | refine aw_seq ?_ | refine rl_nil ?_ | refine aw_region ?_ | refine then_n ?_ | refine aw_block ?_ | refine then_exit ?_ | refine then_ret ?_ | refine in_n ?_ | refine in_ret ?_ | refine aw_exit ?_ | refine aw_ret ?_ | refine aw_skip ?_ | refine in_exit_eq rfl ?_ | refine awr_succ ?_) | ((with_reducible refine k_move ?_); refine rl_pure (pv_move rfl) rfl rfl rfl ?_) | ((with_reducible refine k_convert ?_); refine rl_pure (pv_convert_in rfl (by first | rfl | exact IntWalk.i64_in _ (by omega) | exact IntWalk.u8_in _ (by omega) | exact IntWalk.u32_in _ (by omega))) rfl rfl rfl ?_) | (with_reducible refine dl_nil by_app ?_) | ((with_reducible refine kd_assign ?_); refine dl_pure (by assumption) (pv_assign rfl) by_wants rfl rfl ?_) | ((with_reducible refine k_add ?_); refine rl_pure (pv_add rfl rfl) rfl rfl rfl ?_))
        (first | refine rl_op rfl (op_callR rfl rfl (.cons .here .nil) (tagged58F p _ o2 f2 (by omega)) rfl ?_) | refine dl_op (by assumption) by_wants (op_callR rfl rfl (.cons .here .nil) (tagged58F p _ o2 f2 (by omega)) rfl ?_))
        rintro _ _ ⟨o3, f3, rfl, rfl, hl3, h3⟩
        repeat' (fail)
        (first | refine rl_op rfl (op_append rfl (.there (.there .here)) rfl rfl rfl rfl (by first | (intro r hr; obtain ⟨_, _, rfl⟩ := List.mem_map.1 hr; rfl) | (simp; done) | (simp [V.cells]; done)) by_small rfl fun sv' => ?_) | (refine dl_op (by assumption) by_wants (op_append rfl (.there (.there .here)) rfl rfl rfl rfl (by first | (intro r hr; obtain ⟨_, _, rfl⟩ := List.mem_map.1 hr; rfl) | (simp; done) | (simp [V.cells]; done)) by_small rfl fun sv' => ?_); intro jd hjd))
        repeat' (first | (with_reducible first | refine aw_seq ?_ | refine rl_nil ?_ | refine aw_region ?_ | refine then_n ?_ | refine aw_block ?_ | refine then_exit ?_ | refine then_ret ?_ | refine in_n ?_ | refine in_ret ?_ | refine aw_exit ?_ | refine aw_ret ?_ | refine aw_skip ?_ | refine in_exit_eq rfl ?_ | refine awr_succ ?_) | ((with_reducible refine k_move ?_); refine rl_pure (pv_move rfl) rfl rfl rfl ?_) | ((with_reducible refine k_assign ?_); refine rl_pure (pv_assign rfl) rfl rfl rfl ?_) | ((with_reducible refine k_add ?_); refine rl_pure (pv_add_in rfl rfl (by omega)) rfl rfl rfl ?_))
        have hkey : (f3 = full ∧ out ++ o3 = rowB (t.l.take (i + 1)) (d.l.take (i + 1)) 0) ∨ (f3 = true ∧ 4000 < tot.length) := by
          rw [hft, hpb, if_pos hc]
          rw [hpb, if_pos hc] at hle
          have hge := tagd_ge (128 + i) (basT x u)
          rcases h1 with ⟨rfl, rfl⟩ | ⟨rfl, h1⟩
          · rcases h2 with ⟨rfl, rfl⟩ | ⟨rfl, h2⟩
            · rcases h3 with ⟨rfl, rfl⟩ | ⟨rfl, h3⟩
              · rcases hI with ⟨rfl, rfl⟩ | ⟨rfl, h4⟩
                · exact .inl ⟨rfl, by rw [e4]⟩
                · exact .inr ⟨rfl, h4⟩
              · exact .inr ⟨rfl, by omega⟩
            · exact .inr ⟨by rcases h3 with ⟨h, _⟩ | ⟨h, _⟩ <;> exact h, by omega⟩
          · refine .inr ⟨?_, by omega⟩
            rcases h2 with ⟨rfl, _⟩ | ⟨rfl, _⟩ <;> rcases h3 with ⟨h, _⟩ | ⟨h, _⟩ <;> exact h
        exact next_of (R := [_]) (i + 1, sv', out ++ o3, f3) ⟨hlt, by dsimp only; rw [List.length_append]; omega, hkey⟩ (by dsimp only; omega) (by (repeat (first | exact sub_nil | refine sub_cons (by first | rfl | (simp; done)) ?_))) (by dsimp only; rw [List.map_append]; exact (.cons .here (.cons .here (.cons (.there .here) .nil))))
      · (first | refine rl_op rfl (op_callR rfl rfl (.cons .here .nil) (tagged58F p _ o1 f1 (by omega)) rfl ?_) | refine dl_op (by assumption) by_wants (op_callR rfl rfl (.cons .here .nil) (tagged58F p _ o1 f1 (by omega)) rfl ?_))
        rintro _ _ ⟨o3, f3, rfl, rfl, hl3, h3⟩
        repeat' (fail)
        (first | refine rl_op rfl (op_append rfl (.there (.there .here)) rfl rfl rfl rfl (by first | (intro r hr; obtain ⟨_, _, rfl⟩ := List.mem_map.1 hr; rfl) | (simp; done) | (simp [V.cells]; done)) by_small rfl fun sv' => ?_) | (refine dl_op (by assumption) by_wants (op_append rfl (.there (.there .here)) rfl rfl rfl rfl (by first | (intro r hr; obtain ⟨_, _, rfl⟩ := List.mem_map.1 hr; rfl) | (simp; done) | (simp [V.cells]; done)) by_small rfl fun sv' => ?_); intro jd hjd))
        repeat' (first | (with_reducible first | refine aw_seq ?_ | refine rl_nil ?_ | refine aw_region ?_ | refine then_n ?_ | refine aw_block ?_ | refine then_exit ?_ | refine then_ret ?_ | refine in_n ?_ | refine in_ret ?_ | refine aw_exit ?_ | refine aw_ret ?_ | refine aw_skip ?_ | refine in_exit_eq rfl ?_ | refine awr_succ ?_) | ((with_reducible refine k_move ?_); refine rl_pure (pv_move rfl) rfl rfl rfl ?_) | ((with_reducible refine k_assign ?_); refine rl_pure (pv_assign rfl) rfl rfl rfl ?_) | ((with_reducible refine k_add ?_); refine rl_pure (pv_add_in rfl rfl (by omega)) rfl rfl rfl ?_))
        have hkey : (f3 = full ∧ out ++ o3 = rowB (t.l.take (i + 1)) (d.l.take (i + 1)) 0) ∨ (f3 = true ∧ 4000 < tot.length) := by
          rw [hft, hpb, if_neg hc]
          rw [hpb, if_neg hc] at hle
          have hge := tagd_ge (128 + i) (bodyT x u)
          rcases h1 with ⟨rfl, rfl⟩ | ⟨rfl, h1⟩
          · rcases h3 with ⟨rfl, rfl⟩ | ⟨rfl, h3⟩
            · rcases hI with ⟨rfl, rfl⟩ | ⟨rfl, h4⟩
              · exact .inl ⟨rfl, by rw [e4]⟩
              · exact .inr ⟨rfl, h4⟩
            · exact .inr ⟨rfl, by omega⟩
          · refine .inr ⟨?_, by omega⟩
            rcases h3 with ⟨h, _⟩ | ⟨h, _⟩ <;> exact h
        exact next_of (R := [_]) (i + 1, sv', out ++ o3, f3) ⟨hlt, by dsimp only; rw [List.length_append]; omega, hkey⟩ (by dsimp only; omega) (by (repeat (first | exact sub_nil | refine sub_cons (by first | rfl | (simp; done)) ?_))) (by dsimp only; rw [List.map_append]; exact (.cons .here (.cons .here (.cons (.there .here) .nil))))
  · have hki : i = d.l.length := by omega
    subst hki
    rw [List.take_of_length_le (Nat.le_refl _), List.take_of_length_le (Nat.le_of_eq hl.symm), htot] at hI
    repeat' (first | (with_reducible first | refine aw_seq ?_ | refine rl_nil ?_ | refine aw_region ?_ | refine then_n ?_ | refine aw_block ?_ | refine then_exit ?_ | refine then_ret ?_ | refine in_n ?_ | refine in_ret ?_ | refine aw_exit ?_ | refine aw_ret ?_ | refine aw_skip ?_ | refine in_exit_eq rfl ?_ | refine awr_succ ?_) | ((with_reducible refine k_move ?_); refine rl_pure (pv_move rfl) rfl rfl rfl ?_) | ((with_reducible refine k_assign ?_); refine rl_pure (pv_assign rfl) rfl rfl rfl ?_) | ((with_reducible refine k_lss ?_); refine rl_pure (pv_lss rfl rfl) rfl rfl rfl ?_) | (((with_reducible refine k_cond ?_); refine aw_cond rfl ?_ ?_) <;> ((fail_if_success (refine imp_known (by assumption) ?_)); (intro hb <;> (have hc := hb) <;> (try simp only [decide_eq_true_eq, decide_eq_false_iff_not, Int.not_lt, Int.not_le, ne_eq, Bool.not_eq_true, Bool.not_eq_false, Decidable.not_not] at hc) <;> (try (exfalso; omega)) <;> (try (exfalso; simp only [Bool.not_eq_eq_eq_not, Bool.not_true, Bool.not_false, decide_eq_true_eq, decide_eq_false_iff_not, ne_eq, Decidable.not_not, Int.not_lt, Int.not_le] at hc; omega)) <;> (try (first | contradiction | (cases hc; done))) <;> (try (first | exact absurd (hb.symm.trans (by assumption) : true = false) (by decide) | exact absurd (hb.symm.trans (by assumption) : false = true) (by decide)))))))
    refine ret_r (retok_freeze (d := 6) rfl .here (retok_pick (.cons .here .nil) (ret1 rfl by_res (List.Sublist.refl _) ⟨_, rfl, ?_⟩)))
    exact ⟨out, f, rfl, rfl, by omega, hI⟩
end Go.Proofs.Ytepmllodaoanmaa

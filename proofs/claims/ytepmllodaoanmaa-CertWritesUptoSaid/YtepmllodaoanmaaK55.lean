import Derived.Test.YtepmllodaoanmaaK54
set_option linter.unusedVariables false
set_option linter.unusedSimpArgs false
namespace Go.AX
open Go Go.AX
/-- A function of its arguments alone leaves what is owned besides. -/
theorem Fun.frame {P : Program} {f : FuncId} {vs : List V} {v : V} {H : List Ch} (h : Fun P f vs v) : TriR P f vs H fun u H' => u = v ∧ H' = H := fun F w xs hp hv => by
  refine Calls.mono (h (H ++ F) w xs hp hv) fun e w' ⟨ae, H', k1, k2, k3, k4, u, k5, k6, k7⟩ => ?_
  subst k7
  have hno : ∀ b, ¬ own ([] : List Ch) b := fun b => by simp [own, blks]
  have hk : Keeps (own (H ++ F)) w (own (H ++ F)) w' := ⟨k4.size, fun b hb _ => k4.block b hb (hno b), fun _ _ h => h⟩
  have hnd := hp.nd
  rw [blks_append] at hnd
  refine ⟨ae, H, k1, (List.nodup_append.1 hnd).1, fun c hc => ?_, ⟨k4.os, k4.tape, k4.output, k4.size, fun b hb _ => k4.block b hb (hno b), fun b hb => .inl hb⟩, u, k5, k6, rfl⟩
  have hs := hp.sat c (List.mem_append_left _ hc)
  exact Ch.sat_keep hk hs fun b hb => k4.block b (Ch.blk_lt hs hb) (hno b)
end Go.AX
namespace Go.Proofs.Ytepmllodaoanmaa
open Go Go.AX
set_option maxHeartbeats 8000000
set_option maxRecDepth 20000
attribute [local irreducible] AW RL OP PureV ValV HV DL DX Tri TriR Fun RetOk ResV
theorem wb_fun {f : FuncId} {x : Typ} {u : Dat} {want : List Int} {lim : Nat} (hl : want.length ≤ lim) (h : ∀ p full, TriR Try.prog f [ptr p, .agg x.cells, .agg u.cells] [.box p 58 [bool full]] fun v H' => v = .ro (want.map br) ∧ H' = [.box p 58 [bool full]]) : WB f x u want lim := fun p full =>
  TriR.of (Tri.mono (TriR.tri (h p full)) fun ae H' ⟨v, h1, h2, h3⟩ => ⟨v, h1, want, full, h2, h3, hl, .inl ⟨rfl, rfl⟩⟩)
theorem truth79 (t : Typ) (d : Dat) (h : d.n = 0 ∨ d.n = 1) : WB 79 t d [255 * d.n % 256] 100000 := wb_fun (by simp) fun p full => by
  rw [cells_eq, dcells_eq]
  refine TriR.of (tri_of Try.func79 rfl Try.ntmps79 rfl fun j => ?_)
  repeat' (first | (with_reducible first | refine aw_seq ?_ | refine rl_nil ?_ | refine aw_region ?_ | refine then_n ?_ | refine aw_block ?_ | refine then_exit ?_ | refine then_ret ?_ | refine in_n ?_ | refine in_ret ?_ | refine aw_exit ?_ | refine aw_ret ?_ | refine aw_skip ?_ | refine in_exit_eq rfl ?_ | refine awr_succ ?_) | ((with_reducible refine k_assign ?_); refine rl_pure (pv_assign rfl) rfl rfl rfl ?_) | ((with_reducible refine k_load ?_); refine rl_val (vv_load_box (by rfl) by_memb (by rfl) by_bd) rfl rfl rfl ?_) | ((with_reducible refine k_fieldAddr ?_); refine rl_pure (pv_fieldAddr rfl) rfl rfl rfl ?_) | ((with_reducible refine k_box ?_); refine rl_op rfl (op_box rfl (V.okc_or (by rfl)) rfl fun b => ?_)) | ((with_reducible refine k_neg ?_); refine rl_pure (pv_neg_in rfl (by omega)) rfl rfl rfl ?_) | ((with_reducible refine k_buildSlice ?_); refine rl_op rfl (op_buildSlice_ro rfl rfl rfl (by rfl) (by rfl) (by rfl) (by rfl) rfl by_rows ?_)) | ((with_reducible refine k_convert ?_); refine rl_pure (pv_convert_u8 rfl) rfl rfl rfl ?_))
  (first | refine ret_r (retok_pick (.cons (.there (.there .here)) .nil) (ret1 rfl by_res (List.Sublist.refl _) ⟨_, rfl, ?_⟩)) | refine ret_n (retok_pick (.cons (.there (.there .here)) .nil) (ret1 rfl by_res (List.Sublist.refl _) ⟨_, rfl, ?_⟩)))
  refine ⟨?_, rfl⟩
  rw [show 255 * d.n % 256 = -d.n % 256 by omega]
  rfl
theorem octets81 (t : Typ) (d : Dat) (h : d.b.length ≤ 255) : WB 81 t d d.b 100000 := wb_fun (by omega) fun p full => by
  rw [cells_eq, dcells_eq]
  refine TriR.of (tri_of Try.func81 rfl Try.ntmps81 rfl fun j => ?_)
  repeat' (first | (with_reducible first | refine aw_seq ?_ | refine rl_nil ?_ | refine aw_region ?_ | refine then_n ?_ | refine aw_block ?_ | refine then_exit ?_ | refine then_ret ?_ | refine in_n ?_ | refine in_ret ?_ | refine aw_exit ?_ | refine aw_ret ?_ | refine aw_skip ?_ | refine in_exit_eq rfl ?_ | refine awr_succ ?_) | ((with_reducible refine k_assign ?_); refine rl_pure (pv_assign rfl) rfl rfl rfl ?_) | ((with_reducible refine k_load ?_); refine rl_val (vv_load_box (by rfl) by_memb (by rfl) by_bd) rfl rfl rfl ?_) | ((with_reducible refine k_fieldAddr ?_); refine rl_pure (pv_fieldAddr rfl) rfl rfl rfl ?_) | ((with_reducible refine k_box ?_); refine rl_op rfl (op_box rfl (V.okc_or (by rfl)) rfl fun b => ?_)))
  (first | refine ret_r (retok_pick (.cons (.there (.there .here)) .nil) (ret1 rfl by_res (List.Sublist.refl _) ⟨_, rfl, ?_⟩)) | refine ret_n (retok_pick (.cons (.there (.there .here)) .nil) (ret1 rfl by_res (List.Sublist.refl _) ⟨_, rfl, ?_⟩)))
  exact ⟨rfl, rfl⟩
theorem nothing85 (t : Typ) (d : Dat) : WB 85 t d [] 100000 := wb_fun (by simp) fun p full => by
  rw [cells_eq, dcells_eq]
  refine TriR.of (tri_of Try.func85 rfl Try.ntmps85 rfl fun j => ?_)
  repeat' (first | (with_reducible first | refine aw_seq ?_ | refine rl_nil ?_ | refine aw_region ?_ | refine then_n ?_ | refine aw_block ?_ | refine then_exit ?_ | refine then_ret ?_ | refine in_n ?_ | refine in_ret ?_ | refine aw_exit ?_ | refine aw_ret ?_ | refine aw_skip ?_ | refine in_exit_eq rfl ?_ | refine awr_succ ?_) | ((with_reducible refine k_assign ?_); refine rl_pure (pv_assign rfl) rfl rfl rfl ?_) | ((with_reducible refine k_box ?_); refine rl_op rfl (op_box rfl (V.okc_or (by rfl)) rfl fun b => ?_)))
  refine ret_r (retok_nil_ro 6 rfl (retok_pick (.cons (.there (.there .here)) .nil) (ret1 rfl by_res (List.Sublist.refl _) ⟨_, rfl, ?_⟩)))
  exact ⟨rfl, rfl⟩
theorem number80F (t : Typ) (d : Dat) (h : -1099511627776 ≤ d.n ∧ d.n ≤ 1099511627776) : WB 80 t d (numL d.n) 100000 := wb_fun (by have := numL_len d.n; omega) fun p full => (number80 t d p h).frame
theorem choice83 (t : Typ) (d : Dat) (x : Typ) (u : Dat) (k : Nat) (hkn : d.n = k) (hx : t.l[k]? = some x) (hu : d.l[0]? = some u) (hlen : t.l.length ≤ 1048576) (hv : WB 36 x u (basT x u) 4010) : WB 83 t d (basT x u) 100000 := by
  intro p full
  unfold WB at hv
  have hv1 := hv p full
  clear hv
  have hr1 : (t.l.map Typ.cells)[k]? = some x.cells := by simp [hx]
  have hr2 : (d.l.map Dat.cells)[0]? = some u.cells := by simp [hu]
  have hkl : k < t.l.length := (List.getElem?_eq_some_iff.1 hx).1
  have hul : 0 < d.l.length := (List.getElem?_eq_some_iff.1 hu).1
  rw [cells_eq x] at hr1 hv1
  rw [dcells_eq u] at hr2 hv1
  rw [cells_eq, dcells_eq, hkn]
  refine TriR.of (tri_of Try.func83 rfl Try.ntmps83 rfl fun j => ?_)
  repeat' (first | (with_reducible first | refine aw_seq ?_ | refine rl_nil ?_ | refine aw_region ?_ | refine then_n ?_ | refine aw_block ?_ | refine then_exit ?_ | refine then_ret ?_ | refine in_n ?_ | refine in_ret ?_ | refine aw_exit ?_ | refine aw_ret ?_ | refine aw_skip ?_ | refine in_exit_eq rfl ?_ | refine awr_succ ?_) | ((with_reducible refine k_assign ?_); refine rl_pure (pv_assign rfl) rfl rfl rfl ?_) | ((with_reducible refine k_box ?_); refine rl_op rfl (op_box rfl (V.okc_or (by rfl)) rfl fun b => ?_)) | ((with_reducible refine kd_move ?_); refine dl_pure (by assumption) (pv_move rfl) by_wants rfl rfl ?_) | ((with_reducible refine kd_fieldAddr ?_); refine dl_pure (by assumption) (pv_fieldAddr rfl) by_wants rfl rfl ?_) | ((with_reducible refine kd_indexAddr ?_); refine dl_pure (by assumption) (pv_indexAddr_ro (by rfl) rfl (by omega) (by first | rfl | assumption) (by first | rfl | exact tcells_len _ | exact dcells_len _)) by_wants rfl rfl ?_) | ((with_reducible refine kd_load ?_); (first | refine dl_take (by assumption) (hv_load_ro_whole (by assumption) (by rfl) (by rfl) (by first | rfl | exact tcells_len _ | exact dcells_len _)) by_wants rfl rfl ?_ | refine dl_take (by assumption) (hv_load_box (by assumption) (by rfl) by_mem0 (by rfl) by_bd) by_wants rfl rfl ?_)) | (refine aw_draw (id := 1) [(false, 0), (false, 1), (false, 2), (false, 3), (false, 4), (false, 5), (false, 6), (false, 7), (false, 8), (false, 9), (false, 10), (true, 11), (false, 12)] _ (by kernel_rfl) (by decide +kernel) (by decide) by_lit (.cons (.there (.there .here)) .nil) by_nos fun jd hjd => ?_))
  (first | refine rl_op rfl (op_callR rfl rfl (.cons .here .nil) hv1 rfl ?_) | refine dl_op (by assumption) by_wants (op_callR rfl rfl (.cons .here .nil) hv1 rfl ?_))
  rintro _ _ ⟨out, full1, rfl, rfl, hl1, h1⟩ jd hjd
  repeat' (first | (with_reducible first | refine aw_seq ?_ | refine rl_nil ?_ | refine aw_region ?_ | refine then_n ?_ | refine aw_block ?_ | refine then_exit ?_ | refine then_ret ?_ | refine in_n ?_ | refine in_ret ?_ | refine aw_exit ?_ | refine aw_ret ?_ | refine aw_skip ?_ | refine in_exit_eq rfl ?_ | refine awr_succ ?_) | (with_reducible refine dl_nil by_app ?_) | ((with_reducible refine kd_assign ?_); refine dl_pure (by assumption) (pv_assign rfl) by_wants rfl rfl ?_))
  (first | refine ret_r (retok_pick (.cons .here .nil) (ret1 rfl by_res (List.Sublist.refl _) ⟨_, rfl, ?_⟩)) | refine ret_n (retok_pick (.cons .here .nil) (ret1 rfl by_res (List.Sublist.refl _) ⟨_, rfl, ?_⟩)))
  exact ⟨out, full1, rfl, rfl, by omega, h1⟩
theorem list84 (t : Typ) (d : Dat) (x : Typ) (hx : t.l[0]? = some x) (hdl : d.l.length ≤ 1048576) (hv : ∀ u ∈ d.l, WB 36 x u (basT x u) 4010) : WB 84 t d ((d.l.map fun u => basT x u).flatten) 100000 := by
  intro p full
  have hr1 : (t.l.map Typ.cells)[0]? = some x.cells := by simp [hx]
  have hxl : 0 < t.l.length := (List.getElem?_eq_some_iff.1 hx).1
  rw [cells_eq x] at hr1
  rw [cells_eq t, dcells_eq]
  refine TriR.of (tri_of Try.func84 rfl Try.ntmps84 rfl fun j => ?_)
  repeat' (first | (with_reducible first | refine aw_seq ?_ | refine rl_nil ?_ | refine aw_region ?_ | refine then_n ?_ | refine aw_block ?_ | refine then_exit ?_ | refine then_ret ?_ | refine in_n ?_ | refine in_ret ?_ | refine aw_exit ?_ | refine aw_ret ?_ | refine aw_skip ?_ | refine in_exit_eq rfl ?_ | refine awr_succ ?_) | ((with_reducible refine k_move ?_); refine rl_pure (pv_move rfl) rfl rfl rfl ?_) | ((with_reducible refine k_assign ?_); refine rl_pure (pv_assign rfl) rfl rfl rfl ?_) | ((with_reducible refine k_load ?_); refine rl_val (vv_load_box (by rfl) by_memb (by rfl) by_bd) rfl rfl rfl ?_) | ((with_reducible refine k_fieldAddr ?_); refine rl_pure (pv_fieldAddr rfl) rfl rfl rfl ?_) | ((with_reducible refine k_box ?_); refine rl_op rfl (op_box rfl (V.okc_or (by rfl)) rfl fun b => ?_)) | ((with_reducible refine k_len ?_); refine rl_pure (pv_len_ro' (by rfl) by_len) rfl rfl rfl ?_))
  refine aw_nil_own 7 5 1 rfl ?_
  revert b; intro bd
  obtain ⟨tot, htot⟩ : ∃ tot, (d.l.map fun u => basT x u).flatten = tot := ⟨_, rfl⟩
  rw [htot]
  refine aw_iter (α := Nat × Value × List Int × Bool) (fun q => [(0, ptr p), (4, ptr b), (7, .own q.2.1), (11, .ro (d.l.map Dat.cells)), (12, int d.l.length), (13, int q.1)])
    (fun q => [.vec q.2.1 5 1 (q.2.2.1.map br), .box p 58 [bool q.2.2.2], .box b 24 [int t.kind, str t.name, int t.lo, int t.hi, bool t.opt, .ro (t.l.map Typ.cells)]])
    (fun q => q.1 ≤ d.l.length ∧ q.2.2.1.length ≤ 4000 ∧ ((q.2.2.2 = full ∧ q.2.2.1 = ((d.l.take q.1).map fun u => basT x u).flatten) ∨ (q.2.2.2 = true ∧ 4000 < tot.length))) (fun q => d.l.length - q.1)
    (0, .slice none 0 0, [], full) ⟨Nat.zero_le _, by simp, .inl ⟨rfl, by simp⟩⟩ (by (repeat (first | exact sub_nil | refine sub_cons (by first | rfl | (simp; done)) ?_))) (.cons .here (.cons (.there (.there .here)) (.cons (.there .here) .nil))) fun q hI => ?_
  obtain ⟨i, so, out, f⟩ := q
  dsimp only at hI ⊢
  obtain ⟨hi, hol, hI⟩ := hI
  rcases Nat.lt_or_ge i d.l.length with hlt | hge
  · obtain ⟨u, hu⟩ : ∃ u, d.l[i]? = some u := ⟨_, List.getElem?_eq_getElem hlt⟩
    have hr2 : (d.l.map Dat.cells)[i]? = some u.cells := by simp [hu]
    have hft := flat_take (f := fun u => basT x u) hu
    have hle : ((d.l.take (i + 1)).map fun u => basT x u).flatten.length ≤ tot.length := by
      rw [← htot]
      conv => rhs; rw [← List.take_append_drop (i + 1) d.l, List.map_append, List.flatten_append, List.length_append]
      omega
    have hv1 := hv u (List.mem_of_getElem? hu)
    clear hv
    unfold WB at hv1
    have hv1 := hv1 p f
    rw [hft] at hle
    rw [List.length_append] at hle
    rw [cells_eq x] at hv1
    rw [dcells_eq u] at hr2 hv1
    repeat' (first | (with_reducible first | refine aw_seq ?_ | refine rl_nil ?_ | refine aw_region ?_ | refine then_n ?_ | refine aw_block ?_ | refine then_exit ?_ | refine then_ret ?_ | refine in_n ?_ | refine in_ret ?_ | refine aw_exit ?_ | refine aw_ret ?_ | refine aw_skip ?_ | refine in_exit_eq rfl ?_ | refine awr_succ ?_) | ((with_reducible refine k_load ?_); refine rl_val (vv_load_ro_whole (by rfl) (by rfl) (by first | rfl | exact tcells_len _ | exact dcells_len _)) rfl rfl rfl ?_) | ((with_reducible refine k_store ?_); refine rl_op rfl (op_store_box_whole (by rfl) (by rfl) (V.okc_or (by rfl)) by_upd (by first | rfl | exact tcells_len _ | exact dcells_len _) (by first | rfl | exact tcells_len _ | exact dcells_len _) ?_)) | ((with_reducible refine k_alloc ?_); refine rl_op rfl (op_alloc (by decide) rfl fun b => ?_)) | ((with_reducible refine k_lss ?_); refine rl_pure (pv_lss rfl rfl) rfl rfl rfl ?_) | ((with_reducible refine k_indexAddr ?_); refine rl_pure (pv_indexAddr_ro (by rfl) rfl (by omega) (by first | rfl | assumption) (by first | rfl | exact tcells_len _ | exact dcells_len _)) rfl rfl rfl ?_) | ((with_reducible refine kd_move ?_); refine dl_pure (by assumption) (pv_move rfl) by_wants rfl rfl ?_) | ((with_reducible refine kd_fieldAddr ?_); refine dl_pure (by assumption) (pv_fieldAddr rfl) by_wants rfl rfl ?_) | ((with_reducible refine kd_indexAddr ?_); refine dl_pure (by assumption) (pv_indexAddr_ro (by rfl) rfl (by omega) (by first | rfl | assumption) (by first | rfl | exact tcells_len _ | exact dcells_len _)) by_wants rfl rfl ?_) | ((with_reducible refine kd_load ?_); (first | refine dl_take (by assumption) (hv_load_ro_whole (by assumption) (by rfl) (by rfl) (by first | rfl | exact tcells_len _ | exact dcells_len _)) by_wants rfl rfl ?_ | refine dl_take (by assumption) (hv_load_box (by assumption) (by rfl) by_mem0 (by rfl) by_bd) by_wants rfl rfl ?_ | refine dl_take (by assumption) (hv_load_box_whole (by assumption) (by rfl) by_mem0 (by rfl) (by first | rfl | exact tcells_len _ | exact dcells_len _)) by_wants rfl rfl ?_)) | (refine aw_draw (id := 5) [(false, 0), (false, 1), (false, 2), (false, 3), (false, 4), (false, 5), (false, 6), (true, 7), (true, 8), (false, 9)] _ (by kernel_rfl) (by decide +kernel) (by decide) by_lit (.cons (.there .here) (.cons (.there .here) .nil)) by_nos fun jd hjd => ?_) | (((with_reducible refine k_cond ?_); refine aw_cond rfl ?_ ?_) <;> ((fail_if_success (refine imp_known (by assumption) ?_)); (intro hb <;> (have hc := hb) <;> (try simp only [decide_eq_true_eq, decide_eq_false_iff_not, Int.not_lt, Int.not_le, ne_eq, Bool.not_eq_true, Bool.not_eq_false, Decidable.not_not] at hc) <;> (try (exfalso; omega)) <;> (try (exfalso; simp only [Bool.not_eq_eq_eq_not, Bool.not_true, Bool.not_false, decide_eq_true_eq, decide_eq_false_iff_not, ne_eq, Decidable.not_not, Int.not_lt, Int.not_le] at hc; omega)) <;> (try (first | contradiction | (cases hc; done))) <;> (try (first | exact absurd (hb.symm.trans (by assumption) : true = false) (by decide) | exact absurd (hb.symm.trans (by assumption) : false = true) (by decide)))))))
    (first | refine rl_op rfl (op_callR rfl rfl (.cons (.there .here) .nil) hv1 rfl ?_) | refine dl_op (by assumption) by_wants (op_callR rfl rfl (.cons (.there .here) .nil) hv1 rfl ?_))
    rintro _ _ ⟨o1, f1, rfl, rfl, hl1, h1⟩ jd hjd
    repeat' (fail)
    (first | refine rl_op rfl (op_append rfl (.there .here) rfl rfl rfl rfl (by first | (intro r hr; obtain ⟨_, _, rfl⟩ := List.mem_map.1 hr; rfl) | (simp; done) | (simp [V.cells]; done)) by_small rfl fun sv' => ?_) | (refine dl_op (by assumption) by_wants (op_append rfl (.there .here) rfl rfl rfl rfl (by first | (intro r hr; obtain ⟨_, _, rfl⟩ := List.mem_map.1 hr; rfl) | (simp; done) | (simp [V.cells]; done)) by_small rfl fun sv' => ?_); intro jd hjd))
    have hkey : (f1 = full ∧ out ++ o1 = ((d.l.take (i + 1)).map fun u => basT x u).flatten) ∨ (f1 = true ∧ 4000 < tot.length) := by
      rcases h1 with ⟨rfl, rfl⟩ | ⟨rfl, h2⟩
      · rcases hI with ⟨rfl, rfl⟩ | ⟨rfl, h3⟩
        · exact .inl ⟨rfl, hft.symm⟩
        · exact .inr ⟨rfl, h3⟩
      · exact .inr ⟨rfl, by omega⟩
    have hap : out.map br ++ o1.map br = (out ++ o1).map br := by rw [List.map_append]
    rw [hap] at hjd ⊢
    have hal : (out ++ o1).length = out.length + o1.length := List.length_append
    have hkl : f1 = full ∧ out ++ o1 = ((d.l.take (i + 1)).map fun u => basT x u).flatten → (out ++ o1).length ≤ tot.length := fun h => by
      rw [h.2, hft, List.length_append]
      exact hle
    generalize out ++ o1 = o2 at hkey hal hkl hjd ⊢
    repeat' (first | (first | (with_reducible first | refine aw_seq ?_ | refine rl_nil ?_ | refine aw_region ?_ | refine then_n ?_ | refine aw_block ?_ | refine then_exit ?_ | refine then_ret ?_ | refine in_n ?_ | refine in_ret ?_ | refine aw_exit ?_ | refine aw_ret ?_ | refine aw_skip ?_ | refine in_exit_eq rfl ?_ | refine awr_succ ?_) | (refine in_exit_ne (by decide) ?_)) | ((with_reducible refine k_move ?_); refine rl_pure (pv_move rfl) rfl rfl rfl ?_) | ((with_reducible refine k_assign ?_); refine rl_pure (pv_assign rfl) rfl rfl rfl ?_) | ((with_reducible refine k_fieldAddr ?_); refine rl_pure (pv_fieldAddr rfl) rfl rfl rfl ?_) | ((with_reducible refine k_store ?_); refine rl_op rfl (op_store_box_whole (by rfl) (by rfl) (V.okc_or (by rfl)) by_upd (by first | rfl | exact tcells_len _ | exact dcells_len _) (by first | rfl | exact tcells_len _ | exact dcells_len _) ?_)) | ((with_reducible refine k_gtr ?_); refine rl_pure (pv_gtr rfl rfl) rfl rfl rfl ?_) | ((with_reducible refine k_add ?_); refine rl_pure (pv_add_in rfl rfl (by omega)) rfl rfl rfl ?_) | ((with_reducible refine k_len ?_); refine rl_pure (pv_len_own' (by rfl) by_memb by_len) rfl rfl rfl ?_) | ((with_reducible refine k_nilCheck ?_); refine rl_pure (pv_nilCheck rfl) rfl rfl rfl ?_) | (with_reducible refine dl_nil by_app ?_) | ((with_reducible refine kd_assign ?_); refine dl_pure (by assumption) (pv_assign rfl) by_wants rfl rfl ?_) | (((with_reducible refine k_cond ?_); refine aw_cond rfl ?_ ?_) <;> ((fail_if_success (refine imp_known (by assumption) ?_)); (intro hb <;> (have hc := hb) <;> (try simp only [decide_eq_true_eq, decide_eq_false_iff_not, Int.not_lt, Int.not_le, ne_eq, Bool.not_eq_true, Bool.not_eq_false, Decidable.not_not] at hc) <;> (try (exfalso; omega)) <;> (try (exfalso; simp only [Bool.not_eq_eq_eq_not, Bool.not_true, Bool.not_false, decide_eq_true_eq, decide_eq_false_iff_not, ne_eq, Decidable.not_not, Int.not_lt, Int.not_le] at hc; omega)) <;> (try (first | contradiction | (cases hc; done))) <;> (try (first | exact absurd (hb.symm.trans (by assumption) : true = false) (by decide) | exact absurd (hb.symm.trans (by assumption) : false = true) (by decide)))))))
    · refine ret_r (retok_freeze (d := 6) rfl .here (retok_pick (.cons .here .nil) (ret1 rfl by_res (List.Sublist.refl _) ⟨_, rfl, ?_⟩)))
      refine ⟨o2, true, rfl, rfl, by omega, .inr ⟨rfl, ?_⟩⟩
      rcases hkey with h | h
      · have := hkl h; omega
      · exact h.2
    · exact next_of (R := [_]) (i + 1, sv', o2, f1) ⟨hlt, by dsimp only; omega, hkey⟩ (by dsimp only; omega) (by (repeat (first | exact sub_nil | refine sub_cons (by first | rfl | (simp; done)) ?_))) (.cons .here (.cons .here (.cons (.there .here) .nil)))
  · have hki : i = d.l.length := by omega
    subst hki
    rw [List.take_of_length_le (Nat.le_refl _), htot] at hI
    repeat' (first | (with_reducible first | refine aw_seq ?_ | refine rl_nil ?_ | refine aw_region ?_ | refine then_n ?_ | refine aw_block ?_ | refine then_exit ?_ | refine then_ret ?_ | refine in_n ?_ | refine in_ret ?_ | refine aw_exit ?_ | refine aw_ret ?_ | refine aw_skip ?_ | refine in_exit_eq rfl ?_ | refine awr_succ ?_) | ((with_reducible refine k_move ?_); refine rl_pure (pv_move rfl) rfl rfl rfl ?_) | ((with_reducible refine k_assign ?_); refine rl_pure (pv_assign rfl) rfl rfl rfl ?_) | ((with_reducible refine k_lss ?_); refine rl_pure (pv_lss rfl rfl) rfl rfl rfl ?_) | (((with_reducible refine k_cond ?_); refine aw_cond rfl ?_ ?_) <;> ((fail_if_success (refine imp_known (by assumption) ?_)); (intro hb <;> (have hc := hb) <;> (try simp only [decide_eq_true_eq, decide_eq_false_iff_not, Int.not_lt, Int.not_le, ne_eq, Bool.not_eq_true, Bool.not_eq_false, Decidable.not_not] at hc) <;> (try (exfalso; omega)) <;> (try (exfalso; simp only [Bool.not_eq_eq_eq_not, Bool.not_true, Bool.not_false, decide_eq_true_eq, decide_eq_false_iff_not, ne_eq, Decidable.not_not, Int.not_lt, Int.not_le] at hc; omega)) <;> (try (first | contradiction | (cases hc; done))) <;> (try (first | exact absurd (hb.symm.trans (by assumption) : true = false) (by decide) | exact absurd (hb.symm.trans (by assumption) : false = true) (by decide)))))))
    refine ret_r (retok_freeze (d := 6) rfl .here (retok_pick (.cons .here .nil) (ret1 rfl by_res (List.Sublist.refl _) ⟨_, rfl, ?_⟩)))
    exact ⟨out, f, rfl, rfl, by omega, hI⟩
end Go.Proofs.Ytepmllodaoanmaa

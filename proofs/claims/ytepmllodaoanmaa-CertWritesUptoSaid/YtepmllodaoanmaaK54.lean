import Derived.Test.YtepmllodaoanmaaK53
set_option linter.unusedVariables false
set_option linter.unusedSimpArgs false
namespace Go.Proofs.Ytepmllodaoanmaa
open Go Go.AX
set_option maxHeartbeats 8000000
set_option maxRecDepth 20000
attribute [local irreducible] AW RL OP PureV ValV HV DL DX Tri TriR Fun RetOk ResV
def fK (k : Int) : Nat := if k = 0 then 79 else if k = 1 then 80 else if k = 2 then 81 else if k = 3 then 80 else if k = 4 then 82 else if k = 5 then 83 else if k = 6 then 84 else 85
def tag0 (k : Int) : Int := if k = 0 then 1 else if k = 1 then 2 else if k = 2 then 4 else if k = 3 then 10 else if k = 4 then 48 else if k = 5 then 160 else if k = 6 then 49 else 5
theorem entK {k : Int} (h : 0 ≤ k ∧ k ≤ 7) : Ent Try.prog (fK k) := by
  obtain rfl | rfl | rfl | rfl | rfl | rfl | rfl | rfl : k = 0 ∨ k = 1 ∨ k = 2 ∨ k = 3 ∨ k = 4 ∨ k = 5 ∨ k = 6 ∨ k = 7 := by omega
  · exact inferInstanceAs (Ent Try.prog 79)
  · exact inferInstanceAs (Ent Try.prog 80)
  · exact inferInstanceAs (Ent Try.prog 81)
  · exact inferInstanceAs (Ent Try.prog 80)
  · exact inferInstanceAs (Ent Try.prog 82)
  · exact inferInstanceAs (Ent Try.prog 83)
  · exact inferInstanceAs (Ent Try.prog 84)
  · exact inferInstanceAs (Ent Try.prog 85)
theorem atK {k : Int} (p : Nat) (h : 0 ≤ k ∧ k ≤ 7) : ([.mf 79 [ptr p], .mf 80 [ptr p], .mf 81 [ptr p], .mf 80 [ptr p], .mf 82 [ptr p], .mf 83 [ptr p], .mf 84 [ptr p], .mf 85 [ptr p]] : List V)[k.toNat]? = some (.mf (fK k) [ptr p]) := by
  obtain rfl | rfl | rfl | rfl | rfl | rfl | rfl | rfl : k = 0 ∨ k = 1 ∨ k = 2 ∨ k = 3 ∨ k = 4 ∨ k = 5 ∨ k = 6 ∨ k = 7 := by omega
  all_goals rfl
theorem atT {k : Int} (h : 0 ≤ k ∧ k ≤ 7) : ([byte 1, byte 2, byte 4, byte 10, byte 48, byte 160, byte 49, byte 5] : List V)[k.toNat]? = some (byte (tag0 k)) := by
  obtain rfl | rfl | rfl | rfl | rfl | rfl | rfl | rfl : k = 0 ∨ k = 1 ∨ k = 2 ∨ k = 3 ∨ k = 4 ∨ k = 5 ∨ k = 6 ∨ k = 7 := by omega
  all_goals rfl
theorem kindR {t : Typ} (h : okT t = true) : 0 ≤ t.kind ∧ t.kind ≤ 7 := by
  have := okT_cls h
  omega
/-- What a function of the writer does: what is wanted, or it is full and too much is wanted. -/
def WB (f : FuncId) (x : Typ) (u : Dat) (want : List Int) (lim : Nat) : Prop := ∀ (p : Nat) (full : Bool),
  TriR Try.prog f [ptr p, .agg x.cells, .agg u.cells] [.box p 58 [bool full]] fun v H' => ∃ (out : List Int) (full' : Bool), v = .ro (out.map br) ∧ H' = [.box p 58 [bool full']] ∧ out.length ≤ lim ∧ ((full' = full ∧ out = want) ∨ (full' = true ∧ 4000 < want.length))
theorem tagged58F (p : Nat) (tag : Int) (b : List Int) (full : Bool) (hlb : b.length ≤ 1048576) :
    TriR Try.prog 58 [ptr p, byte tag, .ro (b.map br)] [.box p 58 [bool full]] fun v H' => ∃ (out : List Int) (full' : Bool), v = .ro (out.map br) ∧ H' = [.box p 58 [bool full']] ∧ out.length ≤ 4010 ∧ ((full' = full ∧ out = tagd tag b) ∨ (full' = true ∧ 4000 < b.length)) :=
  TriR.of (Tri.mono (TriR.tri (tagged58 p tag b full hlb)) fun ae H' ⟨v, h1, out, h2, h3, h4⟩ => ⟨v, h1, by
    rcases h4 with ⟨_, k2, k3⟩ | ⟨k1, k2⟩
    · exact ⟨out, full, h2, k3, h3, .inl ⟨rfl, k2⟩⟩
    · exact ⟨out, true, h2, k2, h3, .inr ⟨rfl, k1⟩⟩⟩)
theorem value36 (t : Typ) (d : Dat) (hok : okT t = true) (hn : t.kind = 5 → 0 ≤ d.n ∧ d.n ≤ 20) (hBd : WB (fK t.kind) t d (bodyT t d) 100000) : WB 36 t d (basT t d) 4010 := by
  intro p full
  have hk := kindR hok
  have h57 := tags57
  have h59 := bodies59 p
  have hat := atT hk
  have hak := atK p hk
  haveI := entK hk
  unfold WB at hBd
  have hB1 := hBd p full
  clear hBd
  have htg : t.kind = 5 → tag0 t.kind = 160 := fun e => by rw [e]; rfl
  have htg5 : t.kind = 5 → tagOf t d = 160 + d.n := fun e => by unfold tagOf; rw [e]; rfl
  have htn : t.kind ≠ 5 → tagOf t d = tag0 t.kind := fun e => by
    unfold tagOf tag0
    repeat' split
    all_goals first | rfl | omega
  unfold basT
  generalize bodyT t d = want at hB1
  generalize tagOf t d = tg at htg5 htn
  rw [cells_eq, dcells_eq] at hB1 ⊢
  refine TriR.of (tri_of Try.func36 rfl Try.ntmps36 rfl fun j => ?_)
  repeat' (first | (with_reducible first | refine aw_seq ?_ | refine rl_nil ?_ | refine aw_region ?_ | refine then_n ?_ | refine aw_block ?_ | refine then_exit ?_ | refine then_ret ?_ | refine in_n ?_ | refine in_ret ?_ | refine aw_exit ?_ | refine aw_ret ?_ | refine aw_skip ?_ | refine in_exit_eq rfl ?_ | refine awr_succ ?_) | ((with_reducible refine k_move ?_); refine rl_pure (pv_move rfl) rfl rfl rfl ?_) | ((with_reducible refine k_assign ?_); refine rl_pure (pv_assign rfl) rfl rfl rfl ?_) | ((with_reducible refine k_load ?_); refine rl_val (vv_load_box (by rfl) by_memb (by rfl) by_bd) rfl rfl rfl ?_) | ((with_reducible refine k_fieldAddr ?_); refine rl_pure (pv_fieldAddr rfl) rfl rfl rfl ?_) | ((with_reducible refine k_box ?_); refine rl_op rfl (op_box rfl (V.okc_or (by rfl)) rfl fun b => ?_)) | ((with_reducible refine k_eql ?_); refine rl_pure (pv_eql rfl rfl) rfl rfl rfl ?_) | ((with_reducible refine k_convert ?_); refine rl_pure (pv_convert_in rfl (by first | rfl | exact IntWalk.i64_in _ (by omega) | exact IntWalk.u8_in _ (by omega) | exact IntWalk.u32_in _ (by omega))) rfl rfl rfl ?_) | (with_reducible refine dl_nil by_app ?_) | ((with_reducible refine kd_move ?_); refine dl_pure (by assumption) (pv_move rfl) by_wants rfl rfl ?_) | ((with_reducible refine kd_assign ?_); refine dl_pure (by assumption) (pv_assign rfl) by_wants rfl rfl ?_) | ((with_reducible refine kd_fieldAddr ?_); refine dl_pure (by assumption) (pv_fieldAddr rfl) by_wants rfl rfl ?_) | ((with_reducible refine kd_index ?_); refine dl_pure (by assumption) (pv_index_agg (by rfl) rfl by_bound rfl by_bd) by_wants rfl rfl ?_) | ((with_reducible refine kd_load ?_); (first | refine dl_take (by assumption) (hv_load_box (by assumption) (by rfl) by_mem0 (by rfl) by_bd) by_wants rfl rfl ?_ | refine dl_take (by assumption) (hv_load_box_whole (by assumption) (by rfl) by_mem0 (by rfl) (by first | rfl | exact tcells_len _ | exact dcells_len _)) by_wants rfl rfl ?_)) | (refine aw_draw (id := 1) [(false, 1), (false, 2), (true, 0), (false, 3), (false, 4)] [] (by kernel_rfl) (by decide +kernel) (by decide) by_lit .nil by_nos fun jd hjd => ?_) | (refine aw_draw (id := 4) [(false, 0), (false, 1), (false, 2), (false, 4), (false, 5), (false, 7), (false, 8), (true, 3), (false, 6), (true, 9), (true, 10), (false, 11)] _ (by kernel_rfl) (by decide +kernel) (by decide) by_lit (.cons (.there (.there .here)) .nil) by_nos fun jd hjd => ?_) | ((with_reducible refine k_add ?_); refine rl_pure (pv_add rfl rfl) rfl rfl rfl ?_) | ((with_reducible refine kd_callv ?_); (first | (refine dl_op (by assumption) by_wants (op_callF rfl rfl (h57) rfl ?_); intro jd hjd) | (refine dl_op (by assumption) by_wants (op_callF rfl rfl (h59) rfl ?_); intro jd hjd))) | (((with_reducible refine k_cond ?_); refine aw_cond rfl ?_ ?_) <;> ((fail_if_success (refine imp_known (by assumption) ?_)); (intro hb <;> (have hc := hb) <;> (try simp only [decide_eq_true_eq, decide_eq_false_iff_not, Int.not_lt, Int.not_le, ne_eq, Bool.not_eq_true, Bool.not_eq_false, Decidable.not_not] at hc) <;> (try (exfalso; omega)) <;> (try (exfalso; simp only [Bool.not_eq_eq_eq_not, Bool.not_true, Bool.not_false, decide_eq_true_eq, decide_eq_false_iff_not, ne_eq, Decidable.not_not, Int.not_lt, Int.not_le] at hc; omega)) <;> (try (first | contradiction | (cases hc; done))) <;> (try (first | exact absurd (hb.symm.trans (by assumption) : true = false) (by decide) | exact absurd (hb.symm.trans (by assumption) : false = true) (by decide)))))))
  all_goals
    (first | refine rl_op rfl (op_callR rfl rfl (.cons .here .nil) hB1 rfl ?_) | refine dl_op (by assumption) by_wants (op_callR rfl rfl (.cons .here .nil) hB1 rfl ?_))
    rintro _ _ ⟨out, full1, rfl, rfl, hlen, hout⟩ jd hjd
    repeat' (fail)
    (first | refine rl_op rfl (op_callR rfl rfl (.cons .here .nil) (tagged58F p _ out full1 (by omega)) rfl ?_) | refine dl_op (by assumption) by_wants (op_callR rfl rfl (.cons .here .nil) (tagged58F p _ out full1 (by omega)) rfl ?_))
    rintro _ _ ⟨out2, full2, rfl, rfl, hl2, h2⟩ jd hjd
    repeat' (first | (with_reducible first | refine aw_seq ?_ | refine rl_nil ?_ | refine aw_region ?_ | refine then_n ?_ | refine aw_block ?_ | refine then_exit ?_ | refine then_ret ?_ | refine in_n ?_ | refine in_ret ?_ | refine aw_exit ?_ | refine aw_ret ?_ | refine aw_skip ?_ | refine in_exit_eq rfl ?_ | refine awr_succ ?_) | (with_reducible refine dl_nil by_app ?_) | ((with_reducible refine kd_assign ?_); refine dl_pure (by assumption) (pv_assign rfl) by_wants rfl rfl ?_))
    (first | refine ret_r (retok_pick (.cons .here .nil) (ret1 rfl by_res (List.Sublist.refl _) ⟨_, rfl, ?_⟩)) | refine ret_n (retok_pick (.cons .here .nil) (ret1 rfl by_res (List.Sublist.refl _) ⟨_, rfl, ?_⟩)))
    refine ⟨out2, full2, rfl, rfl, hl2, ?_⟩
    have hge := tagd_ge tg want
    rcases hout with ⟨rfl, rfl⟩ | ⟨rfl, hw⟩
    · rcases h2 with ⟨rfl, rfl⟩ | ⟨rfl, hw⟩
      · refine .inl ⟨rfl, ?_⟩
        first
        | (have e1 := htg5 hc
           have e2 := htg hc
           have e3 := hn hc
           have e4 : IntKind.u8.wrap (tag0 t.kind + d.n) = tg := by rw [e2, IntWalk.u8_in _ (by omega)]; omega
           rw [e4])
        | rw [htn hc]
        | (set_option pp.deepTerms false in set_option pp.deepTerms.threshold 3 in trace_state)
      · exact .inr ⟨rfl, by omega⟩
    · refine .inr ⟨?_, by omega⟩
      rcases h2 with ⟨rfl, _⟩ | ⟨rfl, _⟩ <;> rfl
end Go.Proofs.Ytepmllodaoanmaa

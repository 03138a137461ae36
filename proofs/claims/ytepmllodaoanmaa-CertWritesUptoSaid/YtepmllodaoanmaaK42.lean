import Derived.Test.YtepmllodaoanmaaK41
set_option linter.unusedVariables false
set_option linter.unusedSimpArgs false
namespace Go.AX
open Go Go.AX
variable {P : Program} {N : Nat} {j : J P N} {Q : Exit → Sl → List Ch → Prop} {s : Sl} {H G R : List Ch}
theorem retok_nil_ro {fn : Func} {K : V → List Ch → Prop} (d : Nat) (hv : s.get d = some (.raw (.slice none 0 0))) (h : RetOk j fn ((d, .ro []) :: s) H K) : RetOk j fn s H K :=
  fun a w st => let ⟨x, v, s2, H2, k1, k2, k3, k4⟩ := h a w (st_slot st hv fun x hx => le_nil_ro w _ x hx); ⟨x, v, s2, H2, k1, k2, k3, k4⟩
theorem rl_box_le2 {ops : Array Oper} {l : List Oper} {b B : Nat} {v v' : V} {cells : List V} {H2 : List Ch} (i : Nat) (hu : Upd (.box b B cells) (.box b B (cells.set i v')) H H2) (hi : cells[i]? = some v) (hle : V.Le v v') (h : RL j ops l Q s H2) : RL j ops l Q s H :=
  rl_weak (fun a w st => st_box_le hi hle hu st) h
end Go.AX
namespace Go.Proofs.Ytepmllodaoanmaa
open Go Go.AX
set_option maxHeartbeats 8000000
set_option maxRecDepth 20000
attribute [local irreducible] AW RL OP PureV ValV HV DL DX Tri TriR Fun RetOk ResV
theorem vld_ok2 {t : Typ} (h : vld t = 0) : okT t = true := by
  unfold vld at h
  split at h
  · omega
  · split at h
    · rename_i e; exact e.2
    · omega
/-- The first error of a value that is written. -/
def rdE (t : Typ) (d : Dat) : Int := if vld t = 0 then (if fitT t d = true then 0 else 6) else vld t
theorem ready35 (t : Typ) (d : Dat) (hw : t.wt ≤ 1048576) (hdw : d.wt ≤ 1048576) : Fun Try.prog 35 [.agg t.cells, .agg d.cells] (int (rdE t d)) := by
  have hv := valid12 t hw
  have hfit := fun hok => fits28 _ t d (Nat.le_refl _) hw hdw hok
  rw [cells_eq] at hv hfit ⊢
  rw [dcells_eq] at hfit ⊢
  by_cases h0 : vld t = 0
  · have hfit := hfit (vld_ok2 h0)
    have hE : rdE t d = if fitT t d = true then 0 else 6 := if_pos h0
    generalize fitT t d = z at hfit hE
    refine Fun.of (TriR.of (tri_of Try.func35 rfl Try.ntmps35 rfl fun j => ?_))
    repeat' (first | (with_reducible first | refine aw_seq ?_ | refine rl_nil ?_ | refine aw_region ?_ | refine then_n ?_ | refine aw_block ?_ | refine then_exit ?_ | refine then_ret ?_ | refine in_n ?_ | refine in_ret ?_ | refine aw_exit ?_ | refine aw_ret ?_ | refine aw_skip ?_ | refine in_exit_eq rfl ?_ | refine awr_succ ?_) | ((with_reducible refine k_move ?_); refine rl_pure (pv_move rfl) rfl rfl rfl ?_) | ((with_reducible refine k_assign ?_); refine rl_pure (pv_assign rfl) rfl rfl rfl ?_) | ((with_reducible refine k_load ?_); refine rl_val (vv_load_box_whole (by rfl) by_memb (by rfl) (by first | rfl | exact tcells_len _ | exact dcells_len _)) rfl rfl rfl ?_) | ((with_reducible refine k_box ?_); refine rl_op rfl (op_box rfl (V.okc_or (by rfl)) rfl fun b => ?_)) | ((with_reducible refine k_neq ?_); refine rl_pure (pv_neq rfl rfl) rfl rfl rfl ?_) | ((with_reducible refine k_not ?_); refine rl_pure (pv_not rfl) rfl rfl rfl ?_) | ((with_reducible refine k_callv ?_); (first | refine rl_op rfl (op_callF rfl rfl (hv) rfl ?_) | refine rl_op rfl (op_callF rfl rfl (hfit) rfl ?_))) | (((with_reducible refine k_cond ?_); refine aw_cond rfl ?_ ?_) <;> ((fail_if_success (refine imp_known (by assumption) ?_)); (intro hb <;> (have hc := hb) <;> (try simp only [decide_eq_true_eq, decide_eq_false_iff_not, Int.not_lt, Int.not_le, ne_eq, Bool.not_eq_true, Bool.not_eq_false, Decidable.not_not] at hc) <;> (try (exfalso; omega)) <;> (try (exfalso; simp only [Bool.not_eq_eq_eq_not, Bool.not_true, Bool.not_false, decide_eq_true_eq, decide_eq_false_iff_not, ne_eq, Decidable.not_not, Int.not_lt, Int.not_le] at hc; omega)) <;> (try (first | contradiction | (cases hc; done))) <;> (try (first | exact absurd (hb.symm.trans (by assumption) : true = false) (by decide) | exact absurd (hb.symm.trans (by assumption) : false = true) (by decide)))))))
    all_goals first
    | (exfalso; omega)
    | ((first | refine ret_r (ret1 rfl by_res (List.nil_sublist _) ⟨_, rfl, ?_⟩) | refine ret_n (ret1 rfl by_res (List.nil_sublist _) ⟨_, rfl, ?_⟩))
       refine ⟨?_, rfl⟩
       rw [hE]
       first
       | rw [if_pos (by simpa using hc)]
       | rw [if_neg (by simpa using hc)])
  · have hE : rdE t d = vld t := if_neg h0
    clear hfit
    refine Fun.of (TriR.of (tri_of Try.func35 rfl Try.ntmps35 rfl fun j => ?_))
    repeat' (first | (with_reducible first | refine aw_seq ?_ | refine rl_nil ?_ | refine aw_region ?_ | refine then_n ?_ | refine aw_block ?_ | refine then_exit ?_ | refine then_ret ?_ | refine in_n ?_ | refine in_ret ?_ | refine aw_exit ?_ | refine aw_ret ?_ | refine aw_skip ?_ | refine in_exit_eq rfl ?_ | refine awr_succ ?_) | ((with_reducible refine k_move ?_); refine rl_pure (pv_move rfl) rfl rfl rfl ?_) | ((with_reducible refine k_assign ?_); refine rl_pure (pv_assign rfl) rfl rfl rfl ?_) | ((with_reducible refine k_load ?_); refine rl_val (vv_load_box_whole (by rfl) by_memb (by rfl) (by first | rfl | exact tcells_len _ | exact dcells_len _)) rfl rfl rfl ?_) | ((with_reducible refine k_box ?_); refine rl_op rfl (op_box rfl (V.okc_or (by rfl)) rfl fun b => ?_)) | ((with_reducible refine k_neq ?_); refine rl_pure (pv_neq rfl rfl) rfl rfl rfl ?_) | ((with_reducible refine k_callv ?_); refine rl_op rfl (op_callF rfl rfl (hv) rfl ?_)) | (((with_reducible refine k_cond ?_); refine aw_cond rfl ?_ ?_) <;> ((fail_if_success (refine imp_known (by assumption) ?_)); (intro hb <;> (have hc := hb) <;> (try simp only [decide_eq_true_eq, decide_eq_false_iff_not, Int.not_lt, Int.not_le, ne_eq, Bool.not_eq_true, Bool.not_eq_false, Decidable.not_not] at hc) <;> (try (exfalso; omega)) <;> (try (exfalso; simp only [Bool.not_eq_eq_eq_not, Bool.not_true, Bool.not_false, decide_eq_true_eq, decide_eq_false_iff_not, ne_eq, Decidable.not_not, Int.not_lt, Int.not_le] at hc; omega)) <;> (try (first | contradiction | (cases hc; done))) <;> (try (first | exact absurd (hb.symm.trans (by assumption) : true = false) (by decide) | exact absurd (hb.symm.trans (by assumption) : false = true) (by decide)))))))
    all_goals first
    | (exfalso; omega)
    | ((first | refine ret_r (ret1 rfl by_res (List.nil_sublist _) ⟨_, rfl, ?_⟩) | refine ret_n (ret1 rfl by_res (List.nil_sublist _) ⟨_, rfl, ?_⟩))
       exact ⟨by rw [hE], rfl⟩)
def pkLen (t : Typ) (d : Dat) : Nat := ((pkT t d).length + 7) / 8
def pkE (t : Typ) (d : Dat) : Int := if rdE t d = 0 then (if d.vc ≤ 4000 ∧ pkLen t d ≤ 4000 then 0 else 3) else rdE t d
def pkB (t : Typ) (d : Dat) : List Int := if pkE t d = 0 then padN (pkLen t d) (gOf (pkT t d)) else []
theorem rdE_0 {t : Typ} {d : Dat} (h : rdE t d = 0) : vld t = 0 ∧ fitT t d = true := by
  unfold rdE at h
  split at h
  · rename_i h1
    refine ⟨h1, ?_⟩
    by_cases h2 : fitT t d = true
    · exact h2
    · rw [if_neg h2] at h; cases h
  · rename_i h1; exact absurd h h1
theorem Packed16 (t : Typ) (d : Dat) (hw : t.wt ≤ 1048576) (hdw : d.wt ≤ 1048576) (hdok : d.ok) : Fun Try.prog 16 [.agg t.cells, .agg d.cells] (.tup [.ro ((pkB t d).map br), int (pkE t d)]) := by
  have hr := ready35 t d hw hdw
  have hvc := values38 _ d (Nat.le_refl _) hdw
  have hvw := vc_wt d
  have hval := fun h : rdE t d = 0 => value39 _ t d (Nat.le_refl _) hw hdw (vld_ok2 (rdE_0 h).1) hdok (rdE_0 h).2
  unfold VS at hval
  rw [cells_eq] at hr hval ⊢
  rw [dcells_eq] at hr hvc hval ⊢
  by_cases h0 : rdE t d = 0
  · have hval := fun p => hval h0 p [] (.slice none 0 0) 0 false [] b01_nil (.inl ⟨rfl, by decide, rfl, by simp [padN]⟩)
    by_cases h1 : d.vc ≤ 4000
    · refine Fun.of (TriR.of (tri_of Try.func16 rfl Try.ntmps16 rfl fun j => ?_))
      repeat' (first | (with_reducible first | refine aw_seq ?_ | refine rl_nil ?_ | refine aw_region ?_ | refine then_n ?_ | refine aw_block ?_ | refine then_exit ?_ | refine then_ret ?_ | refine in_n ?_ | refine in_ret ?_ | refine aw_exit ?_ | refine aw_ret ?_ | refine aw_skip ?_ | refine in_exit_eq rfl ?_ | refine awr_succ ?_) | ((with_reducible refine k_move ?_); refine rl_pure (pv_move rfl) rfl rfl rfl ?_) | ((with_reducible refine k_assign ?_); refine rl_pure (pv_assign rfl) rfl rfl rfl ?_) | ((with_reducible refine k_load ?_); refine rl_val (vv_load_box_whole (by rfl) by_memb (by rfl) (by first | rfl | exact tcells_len _ | exact dcells_len _)) rfl rfl rfl ?_) | ((with_reducible refine k_box ?_); refine rl_op rfl (op_box rfl (V.okc_or (by rfl)) rfl fun b => ?_)) | ((with_reducible refine k_neq ?_); refine rl_pure (pv_neq rfl rfl) rfl rfl rfl ?_) | ((with_reducible refine k_gtr ?_); refine rl_pure (pv_gtr rfl rfl) rfl rfl rfl ?_) | ((with_reducible refine k_build ?_); refine rl_pure (pv_build rfl by_fill) rfl rfl rfl ?_) | ((with_reducible refine k_callv ?_); (first | refine rl_op rfl (op_callF rfl rfl (hr) rfl ?_) | refine rl_op rfl (op_callF rfl rfl (hvc) rfl ?_))) | (((with_reducible refine k_cond ?_); refine aw_cond rfl ?_ ?_) <;> ((fail_if_success (refine imp_known (by assumption) ?_)); (intro hb <;> (have hc := hb) <;> (try simp only [decide_eq_true_eq, decide_eq_false_iff_not, Int.not_lt, Int.not_le, ne_eq, Bool.not_eq_true, Bool.not_eq_false, Decidable.not_not] at hc) <;> (try (exfalso; omega)) <;> (try (exfalso; simp only [Bool.not_eq_eq_eq_not, Bool.not_true, Bool.not_false, decide_eq_true_eq, decide_eq_false_iff_not, ne_eq, Decidable.not_not, Int.not_lt, Int.not_le] at hc; omega)) <;> (try (first | contradiction | (cases hc; done))) <;> (try (first | exact absurd (hb.symm.trans (by assumption) : true = false) (by decide) | exact absurd (hb.symm.trans (by assumption) : false = true) (by decide)))))))
      all_goals first
      | (exfalso; omega)
      | skip
      refine rl_box_le2 0 .here rfl le_nil_own ?_
      refine rl_vec_nil 5 1 ?_
      (first | refine rl_op rfl (op_callR rfl rfl (.cons (.there .here) (.cons .here .nil)) (hval _) rfl ?_) | refine dl_op (by assumption) by_wants (op_callR rfl rfl (.cons (.there .here) (.cons .here .nil)) (hval _) rfl ?_))
      rintro _ _ ⟨rfl, sv2, at2, full2, rows2, rfl, hQ2⟩
      rw [List.nil_append] at hQ2
      rcases hQ2 with ⟨rfl, h2, rfl, rfl⟩ | ⟨rfl, h2, _, _⟩
      · have hE : pkE t d = 0 := by rw [pkE, if_pos h0, if_pos ⟨h1, h2⟩]
        have hB : pkB t d = padN (((pkT t d).length + 7) / 8) (gOf (pkT t d)) := if_pos hE
        repeat' (first | (with_reducible first | refine aw_seq ?_ | refine rl_nil ?_ | refine aw_region ?_ | refine then_n ?_ | refine aw_block ?_ | refine then_exit ?_ | refine then_ret ?_ | refine in_n ?_ | refine in_ret ?_ | refine aw_exit ?_ | refine aw_ret ?_ | refine aw_skip ?_ | refine in_exit_eq rfl ?_ | refine awr_succ ?_) | ((with_reducible refine k_move ?_); refine rl_pure (pv_move rfl) rfl rfl rfl ?_) | ((with_reducible refine k_assign ?_); refine rl_pure (pv_assign rfl) rfl rfl rfl ?_) | ((with_reducible refine k_load ?_); refine rl_val (vv_load_box (by rfl) by_memb (by rfl) by_bd) rfl rfl rfl ?_) | ((with_reducible refine k_fieldAddr ?_); refine rl_pure (pv_fieldAddr rfl) rfl rfl rfl ?_) | ((with_reducible refine k_nilCheck ?_); refine rl_pure (pv_nilCheck rfl) rfl rfl rfl ?_) | ((with_reducible refine k_cond ?_); refine aw_cond_f rfl ?_))
        refine ret_r (retok_freeze (d := 4) rfl (.there .here) (ret2 rfl by_res by_res (List.nil_sublist _) ⟨_, rfl, ?_⟩))
        exact ⟨by rw [hE, hB], rfl⟩
      · have hE : pkE t d = 3 := by rw [pkE, if_pos h0, if_neg (fun h => by have := h.2; unfold pkLen at this; omega)]
        have hB : pkB t d = [] := if_neg (by rw [hE]; decide)
        repeat' (first | (with_reducible first | refine aw_seq ?_ | refine rl_nil ?_ | refine aw_region ?_ | refine then_n ?_ | refine aw_block ?_ | refine then_exit ?_ | refine then_ret ?_ | refine in_n ?_ | refine in_ret ?_ | refine aw_exit ?_ | refine aw_ret ?_ | refine aw_skip ?_ | refine in_exit_eq rfl ?_ | refine awr_succ ?_) | ((with_reducible refine k_move ?_); refine rl_pure (pv_move rfl) rfl rfl rfl ?_) | ((with_reducible refine k_assign ?_); refine rl_pure (pv_assign rfl) rfl rfl rfl ?_) | ((with_reducible refine k_load ?_); refine rl_val (vv_load_box (by rfl) by_memb (by rfl) by_bd) rfl rfl rfl ?_) | ((with_reducible refine k_fieldAddr ?_); refine rl_pure (pv_fieldAddr rfl) rfl rfl rfl ?_) | ((with_reducible refine k_nilCheck ?_); refine rl_pure (pv_nilCheck rfl) rfl rfl rfl ?_) | ((with_reducible refine k_cond ?_); refine aw_cond_t rfl ?_))
        refine ret_r (retok_nil_ro 4 rfl (ret2 rfl by_res by_res (List.nil_sublist _) ⟨_, rfl, ?_⟩))
        exact ⟨by rw [hE, hB]; rfl, rfl⟩
    · have hE : pkE t d = 3 := by rw [pkE, if_pos h0, if_neg (fun h => h1 h.1)]
      have hB : pkB t d = [] := if_neg (by rw [hE]; decide)
      clear hval
      refine Fun.of (TriR.of (tri_of Try.func16 rfl Try.ntmps16 rfl fun j => ?_))
      repeat' (first | (with_reducible first | refine aw_seq ?_ | refine rl_nil ?_ | refine aw_region ?_ | refine then_n ?_ | refine aw_block ?_ | refine then_exit ?_ | refine then_ret ?_ | refine in_n ?_ | refine in_ret ?_ | refine aw_exit ?_ | refine aw_ret ?_ | refine aw_skip ?_ | refine in_exit_eq rfl ?_ | refine awr_succ ?_) | ((with_reducible refine k_move ?_); refine rl_pure (pv_move rfl) rfl rfl rfl ?_) | ((with_reducible refine k_assign ?_); refine rl_pure (pv_assign rfl) rfl rfl rfl ?_) | ((with_reducible refine k_load ?_); refine rl_val (vv_load_box_whole (by rfl) by_memb (by rfl) (by first | rfl | exact tcells_len _ | exact dcells_len _)) rfl rfl rfl ?_) | ((with_reducible refine k_box ?_); refine rl_op rfl (op_box rfl (V.okc_or (by rfl)) rfl fun b => ?_)) | ((with_reducible refine k_neq ?_); refine rl_pure (pv_neq rfl rfl) rfl rfl rfl ?_) | ((with_reducible refine k_gtr ?_); refine rl_pure (pv_gtr rfl rfl) rfl rfl rfl ?_) | ((with_reducible refine k_callv ?_); (first | refine rl_op rfl (op_callF rfl rfl (hr) rfl ?_) | refine rl_op rfl (op_callF rfl rfl (hvc) rfl ?_))) | (((with_reducible refine k_cond ?_); refine aw_cond rfl ?_ ?_) <;> ((fail_if_success (refine imp_known (by assumption) ?_)); (intro hb <;> (have hc := hb) <;> (try simp only [decide_eq_true_eq, decide_eq_false_iff_not, Int.not_lt, Int.not_le, ne_eq, Bool.not_eq_true, Bool.not_eq_false, Decidable.not_not] at hc) <;> (try (exfalso; omega)) <;> (try (exfalso; simp only [Bool.not_eq_eq_eq_not, Bool.not_true, Bool.not_false, decide_eq_true_eq, decide_eq_false_iff_not, ne_eq, Decidable.not_not, Int.not_lt, Int.not_le] at hc; omega)) <;> (try (first | contradiction | (cases hc; done))) <;> (try (first | exact absurd (hb.symm.trans (by assumption) : true = false) (by decide) | exact absurd (hb.symm.trans (by assumption) : false = true) (by decide)))))))
      all_goals first
      | (exfalso; omega)
      | (refine ret_r (retok_nil_ro 4 rfl (ret2 rfl by_res by_res (List.nil_sublist _) ⟨_, rfl, ?_⟩))
         exact ⟨by rw [hE, hB]; rfl, rfl⟩)
  · have hE : pkE t d = rdE t d := if_neg h0
    have hB : pkB t d = [] := if_neg (by rw [hE]; exact h0)
    clear hval hvc
    refine Fun.of (TriR.of (tri_of Try.func16 rfl Try.ntmps16 rfl fun j => ?_))
    repeat' (first | (with_reducible first | refine aw_seq ?_ | refine rl_nil ?_ | refine aw_region ?_ | refine then_n ?_ | refine aw_block ?_ | refine then_exit ?_ | refine then_ret ?_ | refine in_n ?_ | refine in_ret ?_ | refine aw_exit ?_ | refine aw_ret ?_ | refine aw_skip ?_ | refine in_exit_eq rfl ?_ | refine awr_succ ?_) | ((with_reducible refine k_move ?_); refine rl_pure (pv_move rfl) rfl rfl rfl ?_) | ((with_reducible refine k_assign ?_); refine rl_pure (pv_assign rfl) rfl rfl rfl ?_) | ((with_reducible refine k_load ?_); refine rl_val (vv_load_box_whole (by rfl) by_memb (by rfl) (by first | rfl | exact tcells_len _ | exact dcells_len _)) rfl rfl rfl ?_) | ((with_reducible refine k_box ?_); refine rl_op rfl (op_box rfl (V.okc_or (by rfl)) rfl fun b => ?_)) | ((with_reducible refine k_neq ?_); refine rl_pure (pv_neq rfl rfl) rfl rfl rfl ?_) | ((with_reducible refine k_callv ?_); refine rl_op rfl (op_callF rfl rfl (hr) rfl ?_)) | (((with_reducible refine k_cond ?_); refine aw_cond rfl ?_ ?_) <;> ((fail_if_success (refine imp_known (by assumption) ?_)); (intro hb <;> (have hc := hb) <;> (try simp only [decide_eq_true_eq, decide_eq_false_iff_not, Int.not_lt, Int.not_le, ne_eq, Bool.not_eq_true, Bool.not_eq_false, Decidable.not_not] at hc) <;> (try (exfalso; omega)) <;> (try (exfalso; simp only [Bool.not_eq_eq_eq_not, Bool.not_true, Bool.not_false, decide_eq_true_eq, decide_eq_false_iff_not, ne_eq, Decidable.not_not, Int.not_lt, Int.not_le] at hc; omega)) <;> (try (first | contradiction | (cases hc; done))) <;> (try (first | exact absurd (hb.symm.trans (by assumption) : true = false) (by decide) | exact absurd (hb.symm.trans (by assumption) : false = true) (by decide)))))))
    all_goals first
    | (exfalso; omega)
    | (refine ret_r (retok_nil_ro 4 rfl (ret2 rfl by_res by_res (List.nil_sublist _) ⟨_, rfl, ?_⟩))
       exact ⟨by rw [hE, hB]; rfl, rfl⟩)
end Go.Proofs.Ytepmllodaoanmaa

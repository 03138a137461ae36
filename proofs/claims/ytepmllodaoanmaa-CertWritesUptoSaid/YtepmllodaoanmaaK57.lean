import Derived.Test.YtepmllodaoanmaaK56
set_option linter.unusedVariables false
set_option linter.unusedSimpArgs false
namespace Go.Proofs.Ytepmllodaoanmaa
open Go Go.AX
set_option maxHeartbeats 8000000
set_option maxRecDepth 20000
attribute [local irreducible] AW RL OP PureV ValV HV DL DX Tri TriR Fun RetOk ResV
theorem bodyK : ∀ (n : Nat) (t : Typ) (d : Dat), t.wt ≤ n → n ≤ 1048576 → d.wt ≤ 1048576 → okT t = true → fitT t d = true → WB (fK t.kind) t d (bodyT t d) 100000 := by
  intro n
  induction n with
  | zero => intro t d h; have := wt_eq t; omega
  | succ n ih =>
    intro t d hw hn hdw hok hf
    have hwe := wt_eq t
    have hll := wtL_len t.l
    have hdwe := dwt_eq d
    have hdl := wtD_len d.l
    have hkid : ∀ (i : Nat) x (k : Nat) u, t.l[i]? = some x → d.l[k]? = some u → fitT x u = true → (u.kind = x.kind ∧ okT x = true) ∧ WB (fK x.kind) x u (bodyT x u) 100000 ∧ WB 36 x u (basT x u) 4010 := fun i x k u hx hu hfu => by
      have hokx := okT_kid hok x (List.mem_of_getElem? hx)
      have hB := ih x u (by have := wtL_take hx; omega) (by omega) (by have := wtD_take hu; omega) hokx hfu
      have hf2 := hfu
      rw [fitT_eq, Bool.and_eq_true] at hf2
      obtain ⟨g0, g1⟩ := hf2
      have g0 := of_decide_eq_true g0
      refine ⟨⟨g0.1, hokx⟩, hB, value36 x u hokx (fun e => ?_) hB⟩
      have hcx := okT_cls hokx
      rw [if_neg (by omega), if_neg (by omega), if_neg (by omega), if_neg (by omega), if_pos e] at g1
      simp only [Bool.and_eq_true, decide_eq_true_eq] at g1
      omega
    clear ih
    rw [fitT_eq, Bool.and_eq_true] at hf
    obtain ⟨hf0, hf⟩ := hf
    have hf0 := of_decide_eq_true hf0
    rw [bodyT_eq]
    rcases okT_cls hok with hk | hk | hk | hk | hk | hk | hk | hk
    · rw [if_pos (by omega)] at hf ⊢
      rw [show fK t.kind = 79 by rw [hk.1]; rfl]
      have := of_decide_eq_true hf
      exact truth79 t d this.1
    · rw [if_neg (by omega), if_neg (by omega), if_neg (by omega), if_neg (by omega), if_neg (by omega), if_neg (by omega)]
      rw [show fK t.kind = 85 by rw [hk.1]; rfl]
      exact nothing85 t d
    · rw [if_neg (by omega), if_pos (by omega)] at hf ⊢
      rw [show fK t.kind = 80 by rw [hk.1]; rfl]
      have := of_decide_eq_true hf
      exact number80F t d (by omega)
    · rw [if_neg (by omega), if_neg (by omega), if_pos (by omega)] at hf ⊢
      rw [show fK t.kind = 81 by rw [hk.1]; rfl]
      have := of_decide_eq_true hf
      exact octets81 t d (by omega)
    · rw [if_neg (by omega), if_pos (by omega)] at hf ⊢
      rw [show fK t.kind = 80 by rw [hk.1]; rfl]
      have := of_decide_eq_true hf
      exact number80F t d (by omega)
    · rw [if_neg (by omega), if_neg (by omega), if_neg (by omega), if_pos (by omega)] at hf ⊢
      simp only [Bool.and_eq_true, decide_eq_true_eq] at hf
      rw [show fK t.kind = 82 by rw [hk.1]; rfl]
      exact row82 t d hf.1.2 (by omega) fun i x u hx hu hs => by
        obtain ⟨⟨h1, h2⟩, h3, h4⟩ := hkid i x i u hx hu (fitRow_get hf.2 hx hu hs)
        exact ⟨h1, h2, h3, h4⟩
    · rw [if_neg (by omega), if_neg (by omega), if_neg (by omega), if_neg (by omega), if_pos (by omega)] at hf ⊢
      simp only [Bool.and_eq_true, decide_eq_true_eq] at hf
      obtain ⟨hf, hf2⟩ := hf
      obtain ⟨k, hkn⟩ : ∃ k : Nat, d.n = k := ⟨d.n.toNat, by omega⟩
      rw [hkn, Int.toNat_natCast] at hf2 ⊢
      obtain ⟨x, hx⟩ : ∃ x, t.l[k]? = some x := ⟨_, List.getElem?_eq_getElem (by omega)⟩
      obtain ⟨u, hu⟩ : ∃ u, d.l[0]? = some u := ⟨_, List.getElem?_eq_getElem (by omega)⟩
      rw [fitAt_eq hx hu] at hf2
      rw [basAt_eq hx hu, show fK t.kind = 83 by rw [hk.1]; rfl]
      exact choice83 t d x u k hkn hx hu (by omega) (hkid k x 0 u hx hu hf2).2.2
    · rw [if_neg (by omega), if_neg (by omega), if_neg (by omega), if_neg (by omega), if_neg (by omega), if_pos (by omega)] at hf ⊢
      simp only [Bool.and_eq_true, decide_eq_true_eq] at hf
      obtain ⟨hf, hf2⟩ := hf
      obtain ⟨x, hx⟩ : ∃ x, t.l[0]? = some x := ⟨_, List.getElem?_eq_getElem (by omega)⟩
      have e0 : t.l = x :: t.l.drop 1 := by simpa using drop_eq hx
      have hfa : (d.l.all fun u => fitT x u) = true := by rw [e0, fitHd] at hf2; exact hf2
      have hpa : basHd t.l d.l = (d.l.map fun u => basT x u).flatten := by rw [e0, basHd]; rfl
      rw [hpa, show fK t.kind = 84 by rw [hk.1]; rfl]
      exact list84 t d x hx (by omega) fun u hu => by
        obtain ⟨i, hi⟩ := List.mem_iff_getElem?.1 hu
        exact (hkid 0 x i u hx hi (List.all_eq_true.1 hfa u hu)).2.2
/-- The whole value. -/
theorem valueW (t : Typ) (d : Dat) (hw : t.wt ≤ 1048576) (hdw : d.wt ≤ 1048576) (hok : okT t = true) (hf : fitT t d = true) : WB 36 t d (basT t d) 4010 := by
  have hB := bodyK _ t d (Nat.le_refl _) hw hdw hok hf
  refine value36 t d hok (fun e => ?_) hB
  have hf2 := hf
  rw [fitT_eq, Bool.and_eq_true] at hf2
  obtain ⟨g0, g1⟩ := hf2
  have hcx := okT_cls hok
  rw [if_neg (by omega), if_neg (by omega), if_neg (by omega), if_neg (by omega), if_pos e] at g1
  simp only [Bool.and_eq_true, decide_eq_true_eq] at g1
  omega
def basE (t : Typ) (d : Dat) : Int := if rdE t d = 0 then (if (basT t d).length ≤ 4000 then 0 else 3) else rdE t d
def basB (t : Typ) (d : Dat) : List Int := if basE t d = 0 then basT t d else []
theorem Basic14 (t : Typ) (d : Dat) (hw : t.wt ≤ 1048576) (hdw : d.wt ≤ 1048576) : Fun Try.prog 14 [.agg t.cells, .agg d.cells] (.tup [.ro ((basB t d).map br), int (basE t d)]) := by
  have hr := ready35 t d hw hdw
  have hval := fun h : rdE t d = 0 => valueW t d hw hdw (vld_ok2 (rdE_0 h).1) (rdE_0 h).2
  unfold WB at hval
  rw [cells_eq] at hr hval ⊢
  rw [dcells_eq] at hr hval ⊢
  by_cases h0 : rdE t d = 0
  · have hval := fun p => hval h0 p false
    have hE : basE t d = if (basT t d).length ≤ 4000 then 0 else 3 := if_pos h0
    have hB : basB t d = if (basT t d).length ≤ 4000 then basT t d else [] := by
      rw [basB, hE]
      by_cases h : (basT t d).length ≤ 4000
      · rw [if_pos h, if_pos h, if_pos rfl]
      · rw [if_neg h, if_neg h, if_neg (by decide)]
    rw [hE, hB]
    generalize basT t d = bt at hval
    refine Fun.of (TriR.of (tri_of Try.func14 rfl Try.ntmps14 rfl fun j => ?_))
    repeat' (first | (with_reducible first | refine aw_seq ?_ | refine rl_nil ?_ | refine aw_region ?_ | refine then_n ?_ | refine aw_block ?_ | refine then_exit ?_ | refine then_ret ?_ | refine in_n ?_ | refine in_ret ?_ | refine aw_exit ?_ | refine aw_ret ?_ | refine aw_skip ?_ | refine in_exit_eq rfl ?_ | refine awr_succ ?_) | ((with_reducible refine k_move ?_); refine rl_pure (pv_move rfl) rfl rfl rfl ?_) | ((with_reducible refine k_assign ?_); refine rl_pure (pv_assign rfl) rfl rfl rfl ?_) | ((with_reducible refine k_load ?_); refine rl_val (vv_load_box_whole (by rfl) by_memb (by rfl) (by first | rfl | exact tcells_len _ | exact dcells_len _)) rfl rfl rfl ?_) | ((with_reducible refine k_box ?_); refine rl_op rfl (op_box rfl (V.okc_or (by rfl)) rfl fun b => ?_)) | ((with_reducible refine k_neq ?_); refine rl_pure (pv_neq rfl rfl) rfl rfl rfl ?_) | ((with_reducible refine k_build ?_); refine rl_pure (pv_build rfl by_fill) rfl rfl rfl ?_) | ((with_reducible refine k_callv ?_); refine rl_op rfl (op_callF rfl rfl (hr) rfl ?_)) | (((with_reducible refine k_cond ?_); refine aw_cond rfl ?_ ?_) <;> ((fail_if_success (refine imp_known (by assumption) ?_)); (intro hb <;> (have hc := hb) <;> (try simp only [decide_eq_true_eq, decide_eq_false_iff_not, Int.not_lt, Int.not_le, ne_eq, Bool.not_eq_true, Bool.not_eq_false, Decidable.not_not] at hc) <;> (try (exfalso; omega)) <;> (try (exfalso; simp only [Bool.not_eq_eq_eq_not, Bool.not_true, Bool.not_false, decide_eq_true_eq, decide_eq_false_iff_not, ne_eq, Decidable.not_not, Int.not_lt, Int.not_le] at hc; omega)) <;> (try (first | contradiction | (cases hc; done))) <;> (try (first | exact absurd (hb.symm.trans (by assumption) : true = false) (by decide) | exact absurd (hb.symm.trans (by assumption) : false = true) (by decide)))))))
    all_goals first
    | (exfalso; omega)
    | skip
    (first | refine rl_op rfl (op_callR rfl rfl (.cons .here .nil) (hval _) rfl ?_) | refine dl_op (by assumption) by_wants (op_callR rfl rfl (.cons .here .nil) (hval _) rfl ?_))
    rintro _ _ ⟨out, f1, rfl, rfl, hl1, h1⟩
    repeat' (first | (with_reducible first | refine aw_seq ?_ | refine rl_nil ?_ | refine aw_region ?_ | refine then_n ?_ | refine aw_block ?_ | refine then_exit ?_ | refine then_ret ?_ | refine in_n ?_ | refine in_ret ?_ | refine aw_exit ?_ | refine aw_ret ?_ | refine aw_skip ?_ | refine in_exit_eq rfl ?_ | refine awr_succ ?_) | ((with_reducible refine k_move ?_); refine rl_pure (pv_move rfl) rfl rfl rfl ?_) | ((with_reducible refine k_assign ?_); refine rl_pure (pv_assign rfl) rfl rfl rfl ?_) | ((with_reducible refine k_load ?_); refine rl_val (vv_load_box (by rfl) by_memb (by rfl) by_bd) rfl rfl rfl ?_) | ((with_reducible refine k_fieldAddr ?_); refine rl_pure (pv_fieldAddr rfl) rfl rfl rfl ?_) | ((with_reducible refine k_gtr ?_); refine rl_pure (pv_gtr rfl rfl) rfl rfl rfl ?_) | ((with_reducible refine k_len ?_); refine rl_pure (pv_len_ro' (by rfl) by_len) rfl rfl rfl ?_) | ((with_reducible refine k_nilCheck ?_); refine rl_pure (pv_nilCheck rfl) rfl rfl rfl ?_) | ((with_reducible refine k_pick ?_); (first | refine rl_pure (pv_pick_t rfl by_bd rfl) rfl rfl rfl ?_ | refine rl_pure (pv_pick_f rfl by_bd rfl) rfl rfl rfl ?_)) | ((with_reducible refine k_guard ?_); (first | refine rl_on_yes rfl rfl rfl by_bd rfl ?_ | refine rl_off_f rfl rfl rfl by_bd rfl ?_)) | ((with_reducible refine k_cond ?_); refine aw_cond_t rfl ?_) | (((with_reducible refine k_guard ?_); first | refine rl_if_t rfl rfl rfl rfl ?_ ?_ | refine rl_if_f rfl rfl rfl rfl ?_ ?_) <;> ((fail_if_success (refine imp_known (by assumption) ?_)); (intro hb <;> (have hc := hb) <;> (try simp only [decide_eq_true_eq, decide_eq_false_iff_not, Int.not_lt, Int.not_le, ne_eq, Bool.not_eq_true, Bool.not_eq_false, Decidable.not_not] at hc) <;> (try (exfalso; omega)) <;> (try (exfalso; simp only [Bool.not_eq_eq_eq_not, Bool.not_true, Bool.not_false, decide_eq_true_eq, decide_eq_false_iff_not, ne_eq, Decidable.not_not, Int.not_lt, Int.not_le] at hc; omega)) <;> (try (first | contradiction | (cases hc; done))) <;> (try (first | exact absurd (hb.symm.trans (by assumption) : true = false) (by decide) | exact absurd (hb.symm.trans (by assumption) : false = true) (by decide)))))) | (((with_reducible refine k_cond ?_); refine aw_cond rfl ?_ ?_) <;> ((fail_if_success (refine imp_known (by assumption) ?_)); (intro hb <;> (have hc := hb) <;> (try simp only [decide_eq_true_eq, decide_eq_false_iff_not, Int.not_lt, Int.not_le, ne_eq, Bool.not_eq_true, Bool.not_eq_false, Decidable.not_not] at hc) <;> (try (exfalso; omega)) <;> (try (exfalso; simp only [Bool.not_eq_eq_eq_not, Bool.not_true, Bool.not_false, decide_eq_true_eq, decide_eq_false_iff_not, ne_eq, Decidable.not_not, Int.not_lt, Int.not_le] at hc; omega)) <;> (try (first | contradiction | (cases hc; done))) <;> (try (first | exact absurd (hb.symm.trans (by assumption) : true = false) (by decide) | exact absurd (hb.symm.trans (by assumption) : false = true) (by decide)))))))
    · have hf1 : f1 = false := by assumption
      obtain ⟨_, rfl⟩ : f1 = false ∧ out = bt := by
        rcases h1 with h | ⟨h, _⟩
        · exact h
        · rw [hf1] at h; cases h
      rw [if_neg (by omega), if_neg (by omega)]
      refine ret_r (retok_nil_ro 4 rfl (ret2 rfl by_res by_res (List.nil_sublist _) ⟨_, rfl, ?_⟩))
      exact ⟨rfl, rfl⟩
    · have hf1 : f1 = false := by assumption
      obtain ⟨_, rfl⟩ : f1 = false ∧ out = bt := by
        rcases h1 with h | ⟨h, _⟩
        · exact h
        · rw [hf1] at h; cases h
      rw [if_pos (by omega), if_pos (by omega)]
      (first | refine ret_r (ret2 rfl by_res by_res (List.nil_sublist _) ⟨_, rfl, ?_⟩) | refine ret_n (ret2 rfl by_res by_res (List.nil_sublist _) ⟨_, rfl, ?_⟩))
      exact ⟨rfl, rfl⟩
    · have hf1 : f1 = true := by assumption
      have hbt : 4000 < bt.length := by
        rcases h1 with ⟨h, _⟩ | ⟨_, h⟩
        · rw [hf1] at h; cases h
        · exact h
      rw [if_neg (by omega), if_neg (by omega)]
      refine ret_r (retok_nil_ro 4 rfl (ret2 rfl by_res by_res (List.nil_sublist _) ⟨_, rfl, ?_⟩))
      exact ⟨rfl, rfl⟩
  · have hE : basE t d = rdE t d := if_neg h0
    have hB : basB t d = [] := if_neg (by rw [hE]; exact h0)
    clear hval
    refine Fun.of (TriR.of (tri_of Try.func14 rfl Try.ntmps14 rfl fun j => ?_))
    repeat' (first | (with_reducible first | refine aw_seq ?_ | refine rl_nil ?_ | refine aw_region ?_ | refine then_n ?_ | refine aw_block ?_ | refine then_exit ?_ | refine then_ret ?_ | refine in_n ?_ | refine in_ret ?_ | refine aw_exit ?_ | refine aw_ret ?_ | refine aw_skip ?_ | refine in_exit_eq rfl ?_ | refine awr_succ ?_) | ((with_reducible refine k_move ?_); refine rl_pure (pv_move rfl) rfl rfl rfl ?_) | ((with_reducible refine k_assign ?_); refine rl_pure (pv_assign rfl) rfl rfl rfl ?_) | ((with_reducible refine k_load ?_); refine rl_val (vv_load_box_whole (by rfl) by_memb (by rfl) (by first | rfl | exact tcells_len _ | exact dcells_len _)) rfl rfl rfl ?_) | ((with_reducible refine k_box ?_); refine rl_op rfl (op_box rfl (V.okc_or (by rfl)) rfl fun b => ?_)) | ((with_reducible refine k_neq ?_); refine rl_pure (pv_neq rfl rfl) rfl rfl rfl ?_) | ((with_reducible refine k_callv ?_); refine rl_op rfl (op_callF rfl rfl (hr) rfl ?_)) | (((with_reducible refine k_cond ?_); refine aw_cond rfl ?_ ?_) <;> ((fail_if_success (refine imp_known (by assumption) ?_)); (intro hb <;> (have hc := hb) <;> (try simp only [decide_eq_true_eq, decide_eq_false_iff_not, Int.not_lt, Int.not_le, ne_eq, Bool.not_eq_true, Bool.not_eq_false, Decidable.not_not] at hc) <;> (try (exfalso; omega)) <;> (try (exfalso; simp only [Bool.not_eq_eq_eq_not, Bool.not_true, Bool.not_false, decide_eq_true_eq, decide_eq_false_iff_not, ne_eq, Decidable.not_not, Int.not_lt, Int.not_le] at hc; omega)) <;> (try (first | contradiction | (cases hc; done))) <;> (try (first | exact absurd (hb.symm.trans (by assumption) : true = false) (by decide) | exact absurd (hb.symm.trans (by assumption) : false = true) (by decide)))))))
    all_goals first
    | (exfalso; omega)
    | (refine ret_r (retok_nil_ro 4 rfl (ret2 rfl by_res by_res (List.nil_sublist _) ⟨_, rfl, ?_⟩))
       exact ⟨by rw [hE, hB]; rfl, rfl⟩)
end Go.Proofs.Ytepmllodaoanmaa

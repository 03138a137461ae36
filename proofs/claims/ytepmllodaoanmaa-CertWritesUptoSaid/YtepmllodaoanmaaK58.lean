import Derived.Test.YtepmllodaoanmaaK57
set_option linter.unusedVariables false
set_option linter.unusedSimpArgs false
namespace Go.Proofs.Ytepmllodaoanmaa
open Go Go.AX
set_option maxHeartbeats 8000000
set_option maxRecDepth 20000
attribute [local irreducible] AW RL OP PureV ValV HV DL DX Tri TriR Fun RetOk ResV
theorem tag61 (t : Typ) (d : Dat) (hk : 0 ≤ t.kind ∧ t.kind ≤ 7) (hn : t.kind = 5 → 0 ≤ d.n ∧ d.n ≤ 20) : Fun Try.prog 61 [.agg t.cells, int d.n] (int (tagOf t d)) := by
  have ht : tagOf t d = if t.kind = 0 then 1 else if t.kind = 1 then 2 else if t.kind = 2 then 4 else if t.kind = 3 then 10 else if t.kind = 4 then 48 else if t.kind = 5 then 160 + d.n else if t.kind = 6 then 49 else 5 := rfl
  rw [cells_eq]
  generalize tagOf t d = tg at ht
  refine Fun.of (TriR.of (tri_of Try.func61 rfl Try.ntmps61 rfl fun j => ?_))
  repeat' (first | (with_reducible first | refine aw_seq ?_ | refine rl_nil ?_ | refine aw_region ?_ | refine then_n ?_ | refine aw_block ?_ | refine then_exit ?_ | refine then_ret ?_ | refine in_n ?_ | refine in_ret ?_ | refine aw_exit ?_ | refine aw_ret ?_ | refine aw_skip ?_ | refine in_exit_eq rfl ?_ | refine awr_succ ?_) | ((with_reducible refine k_move ?_); refine rl_pure (pv_move rfl) rfl rfl rfl ?_) | ((with_reducible refine k_assign ?_); refine rl_pure (pv_assign rfl) rfl rfl rfl ?_) | ((with_reducible refine k_load ?_); refine rl_val (vv_load_box (by rfl) by_memb (by rfl) by_bd) rfl rfl rfl ?_) | ((with_reducible refine k_fieldAddr ?_); refine rl_pure (pv_fieldAddr rfl) rfl rfl rfl ?_) | ((with_reducible refine k_box ?_); refine rl_op rfl (op_box rfl (V.okc_or (by rfl)) rfl fun b => ?_)) | ((with_reducible refine k_eql ?_); refine rl_pure (pv_eql rfl rfl) rfl rfl rfl ?_) | ((with_reducible refine k_add ?_); refine rl_pure (pv_add_in rfl rfl (by omega)) rfl rfl rfl ?_) | (((with_reducible refine k_cond ?_); refine aw_cond rfl ?_ ?_) <;> ((fail_if_success (refine imp_known (by assumption) ?_)); (intro hb <;> (have hc := hb) <;> (try simp only [decide_eq_true_eq, decide_eq_false_iff_not, Int.not_lt, Int.not_le, ne_eq, Bool.not_eq_true, Bool.not_eq_false, Decidable.not_not] at hc) <;> (try (exfalso; omega)) <;> (try (exfalso; simp only [Bool.not_eq_eq_eq_not, Bool.not_true, Bool.not_false, decide_eq_true_eq, decide_eq_false_iff_not, ne_eq, Decidable.not_not, Int.not_lt, Int.not_le] at hc; omega)) <;> (try (first | contradiction | (cases hc; done))) <;> (try (first | exact absurd (hb.symm.trans (by assumption) : true = false) (by decide) | exact absurd (hb.symm.trans (by assumption) : false = true) (by decide)))))))
  all_goals
    (first | refine ret_r (ret1 rfl by_res (List.nil_sublist _) ⟨_, rfl, ?_⟩) | refine ret_n (ret1 rfl by_res (List.nil_sublist _) ⟨_, rfl, ?_⟩))
    refine ⟨?_, rfl⟩
    rw [ht]
    repeat first | rw [if_pos (by omega)] | rw [if_neg (by omega)]
theorem tagOf_b {t : Typ} {d : Dat} (hn : t.kind = 5 → 0 ≤ d.n ∧ d.n ≤ 20) : 0 ≤ tagOf t d ∧ tagOf t d ≤ 180 := by
  unfold tagOf
  repeat' split
  all_goals first
  | omega
  | (have := hn (by assumption); omega)
theorem fit_n5 {t : Typ} {d : Dat} (hok : okT t = true) (hf : fitT t d = true) (e : t.kind = 5) : 0 ≤ d.n ∧ d.n ≤ 20 := by
  rw [fitT_eq, Bool.and_eq_true] at hf
  obtain ⟨g0, g1⟩ := hf
  have hcx := okT_cls hok
  rw [if_neg (by omega), if_neg (by omega), if_neg (by omega), if_neg (by omega), if_pos e] at g1
  simp only [Bool.and_eq_true, decide_eq_true_eq] at g1
  omega
theorem basic37 (t : Typ) (d : Dat) (hok : okT t = true) (hn : t.kind = 5 → 0 ≤ d.n ∧ d.n ≤ 20) (hlen : (bodyT t d).length ≤ 1000000) (hB : Fun Try.prog 60 [.agg t.cells, .agg d.cells] (.ro ((bodyT t d).map br))) : Fun Try.prog 37 [.agg t.cells, .agg d.cells] (.ro ((basT t d).map br)) := by
  have h61 := tag61 t d (kindR hok) hn
  have htb := tagOf_b hn
  have h62 := len62 (bodyT t d).length (by omega)
  unfold basT
  have hll := lenB_le (bodyT t d).length
  generalize bodyT t d = bt at hB h62 hlen hll ⊢
  generalize tagOf t d = tg at h61 htb ⊢
  rw [cells_eq] at hB h61 ⊢
  rw [dcells_eq] at hB ⊢
  refine Fun.of (TriR.of (tri_of Try.func37 rfl Try.ntmps37 rfl fun j => ?_))
  repeat' (first | (with_reducible first | refine aw_seq ?_ | refine rl_nil ?_ | refine aw_region ?_ | refine then_n ?_ | refine aw_block ?_ | refine then_exit ?_ | refine then_ret ?_ | refine in_n ?_ | refine in_ret ?_ | refine aw_exit ?_ | refine aw_ret ?_ | refine aw_skip ?_ | refine in_exit_eq rfl ?_ | refine awr_succ ?_) | ((with_reducible refine k_assign ?_); refine rl_pure (pv_assign rfl) rfl rfl rfl ?_) | ((with_reducible refine k_load ?_); (first | refine rl_val (vv_load_box (by rfl) by_memb (by rfl) by_bd) rfl rfl rfl ?_ | refine rl_val (vv_load_box_whole (by rfl) by_memb (by rfl) (by first | rfl | exact tcells_len _ | exact dcells_len _)) rfl rfl rfl ?_)) | ((with_reducible refine k_fieldAddr ?_); refine rl_pure (pv_fieldAddr rfl) rfl rfl rfl ?_) | ((with_reducible refine k_box ?_); refine rl_op rfl (op_box rfl (V.okc_or (by rfl)) rfl fun b => ?_)) | ((with_reducible refine k_convert ?_); refine rl_pure (pv_convert_in rfl (by first | rfl | exact IntWalk.i64_in _ (by omega) | exact IntWalk.u8_in _ (by omega) | exact IntWalk.u32_in _ (by omega))) rfl rfl rfl ?_) | ((with_reducible refine k_callv ?_); (first | refine rl_op rfl (op_callF rfl rfl (hB) rfl ?_) | refine rl_op rfl (op_callF rfl rfl (h61) rfl ?_))))
  (first | refine rl_op rfl (op_buildSlice rfl rfl rfl (by rfl) (by rfl) (by rfl) (by rfl) rfl fun sv => ?_) | (refine dl_op (by assumption) by_wants (op_buildSlice rfl rfl rfl (by rfl) (by rfl) (by rfl) (by rfl) rfl fun sv => ?_); intro jd hjd))
  repeat' (first | ((with_reducible refine k_move ?_); refine rl_pure (pv_move rfl) rfl rfl rfl ?_) | ((with_reducible refine k_len ?_); refine rl_pure (pv_len_ro' (by rfl) by_len) rfl rfl rfl ?_) | ((with_reducible refine k_callv ?_); refine rl_op rfl (op_callF rfl rfl (h62) rfl ?_)))
  (first | refine rl_op rfl (op_append rfl .here rfl rfl rfl rfl (by first | (intro r hr; obtain ⟨_, _, rfl⟩ := List.mem_map.1 hr; rfl) | (simp; done) | (simp [V.cells]; done)) by_small rfl fun sv' => ?_) | (refine dl_op (by assumption) by_wants (op_append rfl .here rfl rfl rfl rfl (by first | (intro r hr; obtain ⟨_, _, rfl⟩ := List.mem_map.1 hr; rfl) | (simp; done) | (simp [V.cells]; done)) by_small rfl fun sv' => ?_); intro jd hjd))
  repeat' (first | (with_reducible first | refine aw_seq ?_ | refine rl_nil ?_ | refine aw_region ?_ | refine then_n ?_ | refine aw_block ?_ | refine then_exit ?_ | refine then_ret ?_ | refine in_n ?_ | refine in_ret ?_ | refine aw_exit ?_ | refine aw_ret ?_ | refine aw_skip ?_ | refine in_exit_eq rfl ?_ | refine awr_succ ?_) | ((with_reducible refine k_move ?_); refine rl_pure (pv_move rfl) rfl rfl rfl ?_) | ((with_reducible refine k_assign ?_); refine rl_pure (pv_assign rfl) rfl rfl rfl ?_))
  (first | refine rl_op rfl (op_append rfl .here rfl rfl rfl rfl (by first | (intro r hr; obtain ⟨_, _, rfl⟩ := List.mem_map.1 hr; rfl) | (simp; done) | (simp [V.cells]; done)) by_small rfl fun sv' => ?_) | (refine dl_op (by assumption) by_wants (op_append rfl .here rfl rfl rfl rfl (by first | (intro r hr; obtain ⟨_, _, rfl⟩ := List.mem_map.1 hr; rfl) | (simp; done) | (simp [V.cells]; done)) by_small rfl fun sv' => ?_); intro jd hjd))
  repeat' (first | (with_reducible first | refine aw_seq ?_ | refine rl_nil ?_ | refine aw_region ?_ | refine then_n ?_ | refine aw_block ?_ | refine then_exit ?_ | refine then_ret ?_ | refine in_n ?_ | refine in_ret ?_ | refine aw_exit ?_ | refine aw_ret ?_ | refine aw_skip ?_ | refine in_exit_eq rfl ?_ | refine awr_succ ?_) | ((with_reducible refine k_assign ?_); refine rl_pure (pv_assign rfl) rfl rfl rfl ?_))
  refine ret_r (retok_freeze (d := 4) rfl .here (ret1 rfl by_res (List.nil_sublist _) ⟨_, rfl, ?_⟩))
  refine ⟨?_, rfl⟩
  simp only [tagd, List.map_cons, List.map_append, List.map_nil, List.cons_append, List.nil_append, List.append_assoc]
  rfl
theorem rowB_len {l : List Typ} {ds : List Dat} (k : Nat) (hk : ∀ (i : Nat) x u, l[i]? = some x → ds[i]? = some u → u.set = true → (bodyT x u).length + 10 ≤ 20 * u.wt) : (rowB l ds k).length ≤ 20 * wtD ds := by
  induction l generalizing ds k with
  | nil => rw [rowB]; simp
  | cons t l ih =>
    cases ds with
    | nil => rw [rowB]; simp
    | cons d ds =>
      rw [rowB, List.length_append, wtD]
      have h1 := ih (ds := ds) (k + 1) fun i x u h1 h2 h3 => hk (i + 1) x u (by simpa using h1) (by simpa using h2) h3
      split
      · rename_i hs
        have h2 := hk 0 t d rfl rfl hs
        split
        · have h3 := tagd_len (tagOf t d) (bodyT t d)
          have h4 := tagd_len (128 + k) (tagd (tagOf t d) (bodyT t d))
          omega
        · have h4 := tagd_len (128 + k) (bodyT t d)
          omega
      · simp only [List.length_nil]
        omega
theorem basHd_len {x : Typ} {ds : List Dat} (hk : ∀ u ∈ ds, (bodyT x u).length + 10 ≤ 20 * u.wt) : ((ds.map fun u => basT x u).flatten).length ≤ 20 * wtD ds := by
  induction ds with
  | nil => simp
  | cons d ds ih =>
    rw [List.map_cons, List.flatten_cons, List.length_append, wtD]
    have h1 := ih fun u hu => hk u (List.mem_cons_of_mem _ hu)
    have h2 := hk d (List.mem_cons_self ..)
    have h3 : (basT x d).length ≤ (bodyT x d).length + 5 := tagd_len _ _
    omega
theorem body_len : ∀ (n : Nat) (t : Typ) (d : Dat), t.wt ≤ n → okT t = true → fitT t d = true → (bodyT t d).length + 10 ≤ 20 * d.wt := by
  intro n
  induction n with
  | zero => intro t d h; have := wt_eq t; omega
  | succ n ih =>
    intro t d hw hok hf
    have hwe := wt_eq t
    have hdwe := dwt_eq d
    have hkid : ∀ x ∈ t.l, ∀ u, fitT x u = true → (bodyT x u).length + 10 ≤ 20 * u.wt := fun x hx u hu => by
      obtain ⟨i, hi⟩ := List.mem_iff_getElem?.1 hx
      exact ih x u (by have := wtL_take hi; omega) (okT_kid hok x hx) hu
    clear ih
    rw [fitT_eq, Bool.and_eq_true] at hf
    obtain ⟨hf0, hf⟩ := hf
    rw [bodyT_eq]
    have hnl := numL_len d.n
    rcases okT_cls hok with hk | hk | hk | hk | hk | hk | hk | hk
    · rw [if_pos (by omega)]; simp; omega
    · rw [if_neg (by omega), if_neg (by omega), if_neg (by omega), if_neg (by omega), if_neg (by omega), if_neg (by omega)]; simp; omega
    · rw [if_neg (by omega), if_pos (by omega)]; omega
    · rw [if_neg (by omega), if_neg (by omega), if_pos (by omega)]; omega
    · rw [if_neg (by omega), if_pos (by omega)]; omega
    · rw [if_neg (by omega), if_neg (by omega), if_neg (by omega), if_pos (by omega)] at hf ⊢
      simp only [Bool.and_eq_true, decide_eq_true_eq] at hf
      have := rowB_len (l := t.l) (ds := d.l) 0 fun i x u hx hu hs => hkid x (List.mem_of_getElem? hx) u (fitRow_get hf.2 hx hu hs)
      omega
    · rw [if_neg (by omega), if_neg (by omega), if_neg (by omega), if_neg (by omega), if_pos (by omega)] at hf ⊢
      simp only [Bool.and_eq_true, decide_eq_true_eq] at hf
      obtain ⟨hf, hf2⟩ := hf
      obtain ⟨x, hx⟩ : ∃ x, t.l[d.n.toNat]? = some x := ⟨_, List.getElem?_eq_getElem (by omega)⟩
      obtain ⟨u, hu⟩ : ∃ u, d.l[0]? = some u := ⟨_, List.getElem?_eq_getElem (by omega)⟩
      rw [fitAt_eq hx hu] at hf2
      rw [basAt_eq hx hu]
      have h1 := hkid x (List.mem_of_getElem? hx) u hf2
      have h2 := wtD_take hu
      have h3 : (basT x u).length ≤ (bodyT x u).length + 5 := tagd_len _ _
      omega
    · rw [if_neg (by omega), if_neg (by omega), if_neg (by omega), if_neg (by omega), if_neg (by omega), if_pos (by omega)] at hf ⊢
      simp only [Bool.and_eq_true, decide_eq_true_eq] at hf
      obtain ⟨hf, hf2⟩ := hf
      obtain ⟨x, hx⟩ : ∃ x, t.l[0]? = some x := ⟨_, List.getElem?_eq_getElem (by omega)⟩
      have e0 : t.l = x :: t.l.drop 1 := by simpa using drop_eq hx
      have hfa : (d.l.all fun u => fitT x u) = true := by rw [e0, fitHd] at hf2; exact hf2
      have hpa : basHd t.l d.l = (d.l.map fun u => basT x u).flatten := by rw [e0, basHd]; rfl
      rw [hpa]
      have := basHd_len (ds := d.l) fun u hu => hkid x (List.mem_of_getElem? hx) u (List.all_eq_true.1 hfa u hu)
      omega
end Go.Proofs.Ytepmllodaoanmaa

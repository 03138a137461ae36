import Derived.Test.YtepmllodaoanmaaK23
set_option linter.unusedVariables false
set_option linter.unusedSimpArgs false
namespace Go.Proofs.Ytepmllodaoanmaa
open Go Go.AX
set_option maxHeartbeats 8000000
set_option maxRecDepth 20000
attribute [local irreducible] AW RL OP PureV ValV HV DL Tri TriR Fun RetOk ResV
theorem Dat.eta (d : Dat) : d = .mk d.kind d.n d.b d.set d.l := by cases d; rfl
mutual
def Dat.sz : Dat → Nat
  | .mk _ _ _ _ l => 1 + szL l
def szL : List Dat → Nat
  | [] => 0
  | t :: ts => t.sz + szL ts
end
theorem dsz_eq (d : Dat) : d.sz = 1 + szL d.l := by cases d; rw [Dat.sz]; rfl
theorem szL_mem : ∀ {l : List Dat} {x : Dat}, x ∈ l → x.sz ≤ szL l
  | [], x, h => by simp at h
  | y :: l, x, h => by
    rw [szL]
    rcases List.mem_cons.1 h with rfl | h
    · omega
    · have := szL_mem h; omega
/-- What is in a slice of bytes. -/
def Byt (b : List Int) : Prop := ∀ x ∈ b, 0 ≤ x ∧ x ≤ 255
mutual
/-- Bytes are bytes, and lists have a length. -/
def Dat.ok : Dat → Prop
  | .mk _ _ b _ l => (Byt b ∧ b.length ≤ 1048576 ∧ l.length ≤ 1048576) ∧ okD l
def okD : List Dat → Prop
  | [] => True
  | t :: ts => t.ok ∧ okD ts
end
theorem dok_eq (d : Dat) : d.ok ↔ (Byt d.b ∧ d.b.length ≤ 1048576 ∧ d.l.length ≤ 1048576) ∧ okD d.l := by cases d; rw [Dat.ok]; rfl
theorem okD_mem : ∀ {l : List Dat}, okD l ↔ ∀ x ∈ l, x.ok
  | [] => by simp [okD]
  | y :: l => by rw [okD, okD_mem (l := l)]; simp
noncomputable def sameD (a b : Dat) : Bool := @decide (a = b) (Classical.propDecidable _)
theorem sameD_t {a b : Dat} : sameD a b = true ↔ a = b := by unfold sameD; exact @decide_eq_true_iff _ (Classical.propDecidable _)
theorem sameD_f {a b : Dat} : sameD a b = false ↔ a ≠ b := by
  rw [← Bool.not_eq_true, sameD_t]
theorem same21 : ∀ (n : Nat) (x y : Dat), x.sz ≤ n → x.ok → y.ok → Fun Try.prog 21 [.agg x.cells, .agg y.cells] (bool (sameD x y)) := by
  intro n
  induction n with
  | zero => intro x y h; have := dsz_eq x; omega
  | succ n ih =>
    intro x y hn hx hy
    have hsz := dsz_eq x
    obtain ⟨⟨hx1, hx2, hx3⟩, hx4⟩ := (dok_eq x).1 hx
    obtain ⟨⟨hy1, hy2, hy3⟩, hy4⟩ := (dok_eq y).1 hy
    have hkid : ∀ (i : Nat) u v, x.l[i]? = some u → y.l[i]? = some v → Fun Try.prog 21 [.agg u.cells, .agg v.cells] (bool (sameD u v)) := fun i u v hu hv =>
      ih u v (by have := szL_mem (List.mem_of_getElem? hu); omega) (okD_mem.1 hx4 u (List.mem_of_getElem? hu)) (okD_mem.1 hy4 v (List.mem_of_getElem? hv))
    have hstr : strOfNums x.b = strOfNums y.b ↔ x.b = y.b := strOfNums_inj hx1 hy1
    rw [dcells_eq, dcells_eq]
    refine Fun.of (TriR.of (tri_of Try.func21 rfl Try.ntmps21 rfl fun j => ?_))
    repeat' (first | (with_reducible first | refine aw_seq ?_ | refine rl_nil ?_ | refine aw_region ?_ | refine then_n ?_ | refine aw_block ?_ | refine then_exit ?_ | refine then_ret ?_ | refine in_n ?_ | refine in_ret ?_ | refine aw_exit ?_ | refine aw_ret ?_ | refine aw_skip ?_ | refine in_exit_eq rfl ?_ | refine awr_succ ?_) | ((with_reducible refine k_move ?_); refine rl_pure (pv_move rfl) rfl rfl rfl ?_) | ((with_reducible refine k_assign ?_); refine rl_pure (pv_assign rfl) rfl rfl rfl ?_) | ((with_reducible refine k_load ?_); refine rl_val (vv_load_box (by rfl) by_memb (by rfl) by_bd) rfl rfl rfl ?_) | ((with_reducible refine k_fieldAddr ?_); refine rl_pure (pv_fieldAddr rfl) rfl rfl rfl ?_) | ((with_reducible refine k_box ?_); refine rl_op rfl (op_box rfl (V.okc_or (by rfl)) rfl fun b => ?_)) | ((with_reducible refine k_neq ?_); (first | refine rl_pure (pv_neq rfl rfl) rfl rfl rfl ?_ | refine rl_pure (pv_str_neq rfl rfl) rfl rfl rfl ?_ | refine rl_pure (pv_bool_neq rfl rfl) rfl rfl rfl ?_)) | ((with_reducible refine k_len ?_); refine rl_pure (pv_len_ro' (by rfl) by_len) rfl rfl rfl ?_) | ((with_reducible refine k_pick ?_); (first | refine rl_pure (pv_pick_t rfl by_bd rfl) rfl rfl rfl ?_ | refine rl_pure (pv_pick_f rfl by_bd rfl) rfl rfl rfl ?_)) | ((with_reducible refine k_convert ?_); refine rl_val (vv_convert_bytes (by rfl)) rfl rfl rfl ?_) | ((with_reducible refine k_guard ?_); (first | refine rl_on_yes rfl rfl rfl by_bd rfl ?_ | refine rl_off_f rfl rfl rfl by_bd rfl ?_)) | ((with_reducible refine k_cond ?_); refine aw_cond_t rfl ?_) | (((with_reducible refine k_guard ?_); first | refine rl_if_t rfl rfl rfl rfl ?_ ?_ | refine rl_if_f rfl rfl rfl rfl ?_ ?_) <;> ((fail_if_success (refine imp_known (by assumption) ?_)); (intro hb <;> (have hc := hb) <;> (try simp only [decide_eq_true_eq, decide_eq_false_iff_not, Int.not_lt, Int.not_le, ne_eq, Bool.not_eq_true, Bool.not_eq_false, Decidable.not_not] at hc) <;> (try (exfalso; omega)) <;> (try (exfalso; simp only [Bool.not_eq_eq_eq_not, Bool.not_true, Bool.not_false, decide_eq_true_eq, decide_eq_false_iff_not, ne_eq, Decidable.not_not, Int.not_lt, Int.not_le] at hc; omega)) <;> (try (first | contradiction | (cases hc; done))) <;> (try (first | exact absurd (hb.symm.trans (by assumption) : true = false) (by decide) | exact absurd (hb.symm.trans (by assumption) : false = true) (by decide)))))) | (((with_reducible refine k_cond ?_); refine aw_cond rfl ?_ ?_) <;> ((fail_if_success (refine imp_known (by assumption) ?_)); (intro hb <;> (have hc := hb) <;> (try simp only [decide_eq_true_eq, decide_eq_false_iff_not, Int.not_lt, Int.not_le, ne_eq, Bool.not_eq_true, Bool.not_eq_false, Decidable.not_not] at hc) <;> (try (exfalso; omega)) <;> (try (exfalso; simp only [Bool.not_eq_eq_eq_not, Bool.not_true, Bool.not_false, decide_eq_true_eq, decide_eq_false_iff_not, ne_eq, Decidable.not_not, Int.not_lt, Int.not_le] at hc; omega)) <;> (try (first | contradiction | (cases hc; done))) <;> (try (first | exact absurd (hb.symm.trans (by assumption) : true = false) (by decide) | exact absurd (hb.symm.trans (by assumption) : false = true) (by decide)))))))
    all_goals first
    | ((first | refine ret_r (ret1 rfl by_res (List.nil_sublist _) ⟨_, rfl, ?_⟩) | refine ret_n (ret1 rfl by_res (List.nil_sublist _) ⟨_, rfl, ?_⟩))
       refine ⟨congrArg bool (sameD_f.2 fun e => ?_).symm, rfl⟩
       subst e
       clear hkid ih
       simp_all
       done)
    | skip
    revert b; intro by'
    have hxy : x.l = y.l → x = y := fun e => by
      rw [Dat.eta x, Dat.eta y, e]
      clear hkid ih
      simp_all
    have hle : x.l.length = y.l.length := by
      clear hkid ih
      omega
    refine aw_iter (α := Nat) (fun i => [(2, .raw (.pointer (some ⟨b, 0, none⟩))), (3, .raw (.pointer (some ⟨by', 0, none⟩))), (5, int i)])
      (fun i => [.box by' 28 [int y.kind, int y.n, .ro (y.b.map br), bool y.set, .ro (y.l.map Dat.cells)], .box b 28 [int x.kind, int x.n, .ro (x.b.map br), bool x.set, .ro (x.l.map Dat.cells)]])
      (fun i => i ≤ x.l.length ∧ ∀ m, m < i → x.l[m]? = y.l[m]?) (fun i => x.l.length - i)
      0 ⟨Nat.zero_le _, fun m h => absurd h (by omega)⟩ (by (repeat (first | exact sub_nil | refine sub_cons (by first | rfl | (simp; done)) ?_))) (.cons .here (.cons .here .nil)) fun i hI => ?_
    obtain ⟨hi, hE⟩ := hI
    rcases Nat.lt_or_ge i x.l.length with hlt | hge
    · obtain ⟨u, hu⟩ : ∃ u, x.l[i]? = some u := ⟨_, List.getElem?_eq_getElem hlt⟩
      obtain ⟨v, hv⟩ : ∃ v, y.l[i]? = some v := ⟨_, List.getElem?_eq_getElem (by omega)⟩
      have hr1 : (x.l.map Dat.cells)[i]? = some u.cells := by simp [hu]
      have hr2 : (y.l.map Dat.cells)[i]? = some v.cells := by simp [hv]
      have hk := hkid i u v hu hv
      rw [dcells_eq u] at hr1 hk
      rw [dcells_eq v] at hr2 hk
      repeat' (first | (with_reducible first | refine aw_seq ?_ | refine rl_nil ?_ | refine aw_region ?_ | refine then_n ?_ | refine aw_block ?_ | refine then_exit ?_ | refine then_ret ?_ | refine in_n ?_ | refine in_ret ?_ | refine aw_exit ?_ | refine aw_ret ?_ | refine aw_skip ?_ | refine in_exit_eq rfl ?_ | refine awr_succ ?_) | ((with_reducible refine k_move ?_); refine rl_pure (pv_move rfl) rfl rfl rfl ?_) | ((with_reducible refine k_assign ?_); refine rl_pure (pv_assign rfl) rfl rfl rfl ?_) | ((with_reducible refine k_load ?_); refine rl_val (vv_load_box (by rfl) by_memb (by rfl) by_bd) rfl rfl rfl ?_) | ((with_reducible refine k_fieldAddr ?_); refine rl_pure (pv_fieldAddr rfl) rfl rfl rfl ?_) | ((with_reducible refine k_lss ?_); refine rl_pure (pv_lss rfl rfl) rfl rfl rfl ?_) | ((with_reducible refine k_add ?_); refine rl_pure (pv_add_in rfl rfl (by omega)) rfl rfl rfl ?_) | ((with_reducible refine k_len ?_); refine rl_pure (pv_len_ro' (by rfl) by_len) rfl rfl rfl ?_) | (with_reducible refine dl_nil by_app ?_) | ((with_reducible refine kd_move ?_); refine dl_pure (by assumption) (pv_move rfl) by_wants rfl rfl ?_) | ((with_reducible refine kd_fieldAddr ?_); refine dl_pure (by assumption) (pv_fieldAddr rfl) by_wants rfl rfl ?_) | ((with_reducible refine kd_not ?_); refine dl_pure (by assumption) (pv_not rfl) by_wants rfl rfl ?_) | ((with_reducible refine kd_indexAddr ?_); refine dl_pure (by assumption) (pv_indexAddr_ro (by rfl) rfl (by omega) (by first | rfl | assumption) (by first | rfl | exact tcells_len _ | exact dcells_len _)) by_wants rfl rfl ?_) | ((with_reducible refine kd_load ?_); (first | refine dl_take (by assumption) (hv_load_ro_whole (by assumption) (by rfl) (by rfl) (by first | rfl | exact tcells_len _ | exact dcells_len _)) by_wants rfl rfl ?_ | refine dl_take (by assumption) (hv_load_box (by assumption) (by rfl) by_mem0 (by rfl) by_bd) by_wants rfl rfl ?_)) | (refine aw_draw (id := 6) [(false, 0), (false, 1), (false, 2), (false, 3), (false, 4), (false, 5), (false, 6), (false, 7), (false, 8), (false, 9), (true, 10), (false, 11)] [] (by kernel_rfl) (by decide +kernel) (by decide) by_lit .nil by_nos fun jd hjd => ?_) | ((with_reducible refine kd_callv ?_); (refine dl_op (by assumption) by_wants (op_callF rfl rfl (hk) rfl ?_); intro jd hjd)) | (((with_reducible refine k_cond ?_); refine aw_cond rfl ?_ ?_) <;> ((fail_if_success (refine imp_known (by assumption) ?_)); (intro hb <;> (have hc := hb) <;> (try simp only [decide_eq_true_eq, decide_eq_false_iff_not, Int.not_lt, Int.not_le, ne_eq, Bool.not_eq_true, Bool.not_eq_false, Decidable.not_not] at hc) <;> (try (exfalso; omega)) <;> (try (exfalso; simp only [Bool.not_eq_eq_eq_not, Bool.not_true, Bool.not_false, decide_eq_true_eq, decide_eq_false_iff_not, ne_eq, Decidable.not_not, Int.not_lt, Int.not_le] at hc; omega)) <;> (try (first | contradiction | (cases hc; done))) <;> (try (first | exact absurd (hb.symm.trans (by assumption) : true = false) (by decide) | exact absurd (hb.symm.trans (by assumption) : false = true) (by decide)))))))
      · have hne : u ≠ v := sameD_f.1 (by clear hkid ih hk; simp_all)
        (first | refine ret_r (ret1 rfl by_res (List.nil_sublist _) ⟨_, rfl, ?_⟩) | refine ret_n (ret1 rfl by_res (List.nil_sublist _) ⟨_, rfl, ?_⟩))
        refine ⟨congrArg bool (sameD_f.2 fun e => hne ?_).symm, rfl⟩
        rw [e, hv] at hu
        exact (Option.some.inj hu).symm
      · have heq : u = v := sameD_t.1 (by clear hkid ih hk; simp_all)
        exact next_of (R := []) (i + 1) ⟨hlt, fun m hm => by
          rcases Nat.lt_or_ge m i with g | g
          · exact hE m g
          · obtain rfl : m = i := by omega
            rw [hu, hv, heq]⟩ (by omega) (by (repeat (first | exact sub_nil | refine sub_cons (by first | rfl | (simp; done)) ?_))) (.cons .here (.cons .here .nil))
    · have hki : i = x.l.length := by omega
      subst hki
      repeat' (first | (with_reducible first | refine aw_seq ?_ | refine rl_nil ?_ | refine aw_region ?_ | refine then_n ?_ | refine aw_block ?_ | refine then_exit ?_ | refine then_ret ?_ | refine in_n ?_ | refine in_ret ?_ | refine aw_exit ?_ | refine aw_ret ?_ | refine aw_skip ?_ | refine in_exit_eq rfl ?_ | refine awr_succ ?_) | ((with_reducible refine k_move ?_); refine rl_pure (pv_move rfl) rfl rfl rfl ?_) | ((with_reducible refine k_assign ?_); refine rl_pure (pv_assign rfl) rfl rfl rfl ?_) | ((with_reducible refine k_load ?_); refine rl_val (vv_load_box (by rfl) by_memb (by rfl) by_bd) rfl rfl rfl ?_) | ((with_reducible refine k_fieldAddr ?_); refine rl_pure (pv_fieldAddr rfl) rfl rfl rfl ?_) | ((with_reducible refine k_lss ?_); refine rl_pure (pv_lss rfl rfl) rfl rfl rfl ?_) | ((with_reducible refine k_len ?_); refine rl_pure (pv_len_ro' (by rfl) by_len) rfl rfl rfl ?_) | (((with_reducible refine k_cond ?_); refine aw_cond rfl ?_ ?_) <;> ((fail_if_success (refine imp_known (by assumption) ?_)); (intro hb <;> (have hc := hb) <;> (try simp only [decide_eq_true_eq, decide_eq_false_iff_not, Int.not_lt, Int.not_le, ne_eq, Bool.not_eq_true, Bool.not_eq_false, Decidable.not_not] at hc) <;> (try (exfalso; omega)) <;> (try (exfalso; simp only [Bool.not_eq_eq_eq_not, Bool.not_true, Bool.not_false, decide_eq_true_eq, decide_eq_false_iff_not, ne_eq, Decidable.not_not, Int.not_lt, Int.not_le] at hc; omega)) <;> (try (first | contradiction | (cases hc; done))) <;> (try (first | exact absurd (hb.symm.trans (by assumption) : true = false) (by decide) | exact absurd (hb.symm.trans (by assumption) : false = true) (by decide)))))))
      (first | refine ret_r (ret1 rfl by_res (List.nil_sublist _) ⟨_, rfl, ?_⟩) | refine ret_n (ret1 rfl by_res (List.nil_sublist _) ⟨_, rfl, ?_⟩))
      refine ⟨congrArg bool (sameD_t.2 (hxy (List.ext_getElem? fun m => ?_))).symm, rfl⟩
      rcases Nat.lt_or_ge m x.l.length with g | g
      · exact hE m g
      · rw [List.getElem?_eq_none g, List.getElem?_eq_none (by omega)]
end Go.Proofs.Ytepmllodaoanmaa

import Derived.Test.YtepmllodaoanmaaK2
set_option linter.unusedVariables false
set_option linter.unusedSimpArgs false
namespace Go.Proofs.Ytepmllodaoanmaa
open Go Go.AX
set_option maxHeartbeats 4000000
set_option maxRecDepth 20000
attribute [local irreducible] AW RL OP PureV ValV HV DL Tri TriR Fun RetOk ResV
/-- A type of the notation. -/
inductive Typ where
  | mk (kind : Int) (name : ByteArray) (lo hi : Int) (opt : Bool) (l : List Typ)
def Typ.kind : Typ → Int | .mk k _ _ _ _ _ => k
def Typ.name : Typ → ByteArray | .mk _ n _ _ _ _ => n
def Typ.lo : Typ → Int | .mk _ _ a _ _ _ => a
def Typ.hi : Typ → Int | .mk _ _ _ b _ _ => b
def Typ.opt : Typ → Bool | .mk _ _ _ _ o _ => o
def Typ.l : Typ → List Typ | .mk _ _ _ _ _ l => l
mutual
def Typ.cells : Typ → List V
  | .mk k nm lo hi o l => [int k, str nm, int lo, int hi, bool o, .ro (trows l)]
def trows : List Typ → List (List V)
  | [] => []
  | t :: ts => t.cells :: trows ts
end
theorem trows_eq : ∀ l, trows l = l.map Typ.cells
  | [] => by rw [trows]; rfl
  | t :: ts => by rw [trows, trows_eq ts]; rfl
theorem cells_eq (t : Typ) : t.cells = [int t.kind, str t.name, int t.lo, int t.hi, bool t.opt, .ro (t.l.map Typ.cells)] := by
  cases t
  rw [Typ.cells, trows_eq]
  rfl
theorem tcells_len (t : Typ) : t.cells.length = 6 := by rw [cells_eq]; rfl
mutual
/-- How much there is in a type. -/
def Typ.wt : Typ → Nat
  | .mk _ nm _ _ _ l => 1 + nm.size + wtL l
def wtL : List Typ → Nat
  | [] => 0
  | t :: ts => t.wt + wtL ts
end
theorem wt_eq (t : Typ) : t.wt = 1 + t.name.size + wtL t.l := by cases t; rw [Typ.wt]; rfl
theorem wtL_len : ∀ l : List Typ, l.length ≤ wtL l
  | [] => by simp
  | t :: ts => by
    have := wtL_len ts
    have := wt_eq t
    rw [wtL, List.length_cons]
    omega
theorem wtL_take : ∀ {l : List Typ} {i : Nat} {t : Typ}, l[i]? = some t → wtL (l.take (i + 1)) = wtL (l.take i) + t.wt ∧ wtL (l.take (i + 1)) ≤ wtL l
  | [], i, t, h => by simp at h
  | u :: ts, 0, t, h => by
    simp at h
    subst h
    simp only [List.take_succ_cons, List.take_zero, wtL]
    omega
  | u :: ts, i + 1, t, h => by
    have := wtL_take (l := ts) (i := i) (by simpa using h)
    simp only [List.take_succ_cons, wtL]
    omega
theorem heavy26 : ∀ (n : Nat) (l : List Typ), wtL l ≤ n → n ≤ 1048576 → TriR Try.prog 26 [.ro (l.map Typ.cells)] [] fun v H' => (∃ h : Int, v = int h ∧ 0 ≤ h ∧ h ≤ wtL l) ∧ H' = [] := by
  intro n
  induction n with
  | zero =>
    intro l hl _
    have := wtL_len l
    obtain rfl : l = [] := List.length_eq_zero_iff.1 (by omega)
    refine TriR.of (tri_of Try.func26 rfl Try.ntmps26 rfl fun j => ?_)
    repeat' (first | (with_reducible first | refine aw_seq ?_ | refine rl_nil ?_ | refine aw_region ?_ | refine then_n ?_ | refine aw_block ?_ | refine then_exit ?_ | refine then_ret ?_ | refine in_n ?_ | refine in_ret ?_ | refine aw_exit ?_ | refine aw_ret ?_ | refine aw_skip ?_ | refine in_exit_eq rfl ?_ | refine awr_succ ?_) | ((with_reducible refine k_move ?_); refine rl_pure (pv_move rfl) rfl rfl rfl ?_) | ((with_reducible refine k_assign ?_); refine rl_pure (pv_assign rfl) rfl rfl rfl ?_) | ((with_reducible refine k_lss ?_); refine rl_pure (pv_lss rfl rfl) rfl rfl rfl ?_) | ((with_reducible refine k_len ?_); refine rl_pure (pv_len_ro' (by rfl) by_len) rfl rfl rfl ?_) | ((with_reducible refine k_pick ?_); refine rl_pure (pv_pick_f rfl by_bd rfl) rfl rfl rfl ?_) | ((with_reducible refine k_guard ?_); refine rl_off_t rfl rfl rfl by_bd rfl ?_) | ((with_reducible refine k_cond ?_); refine aw_cond_f rfl ?_) | refine aw_rounds 1 ?_)
    (first | refine ret_r (ret1 rfl by_res (List.nil_sublist _) ⟨_, rfl, ?_⟩) | refine ret_n (ret1 rfl by_res (List.nil_sublist _) ⟨_, rfl, ?_⟩))
    exact ⟨⟨0, rfl, Int.le_refl _, by simp⟩, rfl⟩
  | succ n ih =>
    intro l hl hn
    have hll := wtL_len l
    refine TriR.of (tri_of Try.func26 rfl Try.ntmps26 rfl fun j => ?_)
    repeat' (first | (with_reducible first | refine aw_seq ?_ | refine rl_nil ?_ | refine aw_region ?_ | refine then_n ?_ | refine aw_block ?_ | refine then_exit ?_ | refine then_ret ?_ | refine in_n ?_ | refine in_ret ?_ | refine aw_exit ?_ | refine aw_ret ?_ | refine aw_skip ?_ | refine in_exit_eq rfl ?_ | refine awr_succ ?_) | ((with_reducible refine k_move ?_); refine rl_pure (pv_move rfl) rfl rfl rfl ?_) | ((with_reducible refine k_assign ?_); refine rl_pure (pv_assign rfl) rfl rfl rfl ?_) | ((with_reducible refine k_len ?_); refine rl_pure (pv_len_ro' (by rfl) by_len) rfl rfl rfl ?_))
    refine aw_iter (α := Nat × Int) (fun q => [(0, .ro (l.map Typ.cells)), (3, int q.2), (4, int q.1)]) (fun _ => []) (fun q => q.1 ≤ l.length ∧ 0 ≤ q.2 ∧ q.2 ≤ wtL (l.take q.1) + ((l.length : Int) - q.1)) (fun q => l.length - q.1)
      (0, (l.length : Int)) ⟨Nat.zero_le _, by dsimp only; omega, by simp [wtL]⟩ (by (repeat (first | exact sub_nil | refine sub_cons (by first | rfl | (simp; done)) ?_))) .nil fun q hI => ?_
    obtain ⟨i, h⟩ := q
    dsimp only at hI ⊢
    obtain ⟨hi, h0, h1⟩ := hI
    rcases Nat.lt_or_ge i l.length with hlt | hge
    · obtain ⟨t, ht⟩ : ∃ t, l[i]? = some t := ⟨_, List.getElem?_eq_getElem hlt⟩
      have hr : (l.map Typ.cells)[i]? = some t.cells := by simp [ht]
      have hw := wtL_take ht
      have hwe := wt_eq t
      have hce := cells_eq t
      rw [hce] at hr
      repeat' (first | (with_reducible first | refine aw_seq ?_ | refine rl_nil ?_ | refine aw_region ?_ | refine then_n ?_ | refine aw_block ?_ | refine then_exit ?_ | refine then_ret ?_ | refine in_n ?_ | refine in_ret ?_ | refine aw_exit ?_ | refine aw_ret ?_ | refine aw_skip ?_ | refine in_exit_eq rfl ?_ | refine awr_succ ?_) | ((with_reducible refine k_move ?_); refine rl_pure (pv_move rfl) rfl rfl rfl ?_) | ((with_reducible refine k_assign ?_); refine rl_pure (pv_assign rfl) rfl rfl rfl ?_) | ((with_reducible refine k_lss ?_); refine rl_pure (pv_lss rfl rfl) rfl rfl rfl ?_) | ((with_reducible refine k_len ?_); refine rl_pure (pv_len_ro' (by rfl) by_len) rfl rfl rfl ?_) | ((with_reducible refine k_pick ?_); refine rl_pure (pv_pick_t rfl by_bd rfl) rfl rfl rfl ?_) | ((with_reducible refine k_guard ?_); refine rl_on_yes rfl rfl rfl by_bd rfl ?_) | ((with_reducible refine kd_move ?_); refine dl_pure (by assumption) (pv_move rfl) by_wants rfl rfl ?_) | ((with_reducible refine kd_fieldAddr ?_); refine dl_pure (by assumption) (pv_fieldAddr_ro rfl) by_wants rfl rfl ?_) | ((with_reducible refine kd_len ?_); refine dl_pure (by assumption) (pv_len_str rfl) by_wants rfl rfl ?_) | ((with_reducible refine kd_indexAddr ?_); refine dl_pure (by assumption) (pv_indexAddr_ro (by rfl) rfl (by omega) (by first | rfl | assumption) (by first | rfl | exact tcells_len _)) by_wants rfl rfl ?_) | ((with_reducible refine kd_load ?_); refine dl_take (by assumption) (hv_load_ro (by assumption) (by rfl) (by rfl) by_bd) by_wants rfl rfl ?_) | (refine aw_draw (id := 5) [(false, 0), (false, 1), (false, 2), (false, 3), (false, 4), (false, 5), (false, 6), (false, 7), (false, 8), (false, 9), (false, 10), (false, 11), (true, 12), (false, 13), (false, 14), (false, 15)] [] (by kernel_rfl) (by decide +kernel) (by decide) by_lit .nil by_nos fun jd hjd => ?_) | (((with_reducible refine k_guard ?_); first | refine rl_if_t rfl rfl rfl rfl ?_ ?_ | refine rl_if_f rfl rfl rfl rfl ?_ ?_) <;> ((fail_if_success (refine imp_known (by assumption) ?_)); (intro hb <;> (have hc := hb) <;> (try simp only [decide_eq_true_eq, decide_eq_false_iff_not, Int.not_lt, Int.not_le, ne_eq, Bool.not_eq_true, Bool.not_eq_false, Decidable.not_not] at hc) <;> (try (exfalso; omega)) <;> (try (exfalso; simp only [Bool.not_eq_eq_eq_not, Bool.not_true, Bool.not_false, decide_eq_true_eq, decide_eq_false_iff_not, ne_eq, Decidable.not_not, Int.not_lt, Int.not_le] at hc; omega)) <;> (try (first | contradiction | (cases hc; done))) <;> (try (first | exact absurd (hb.symm.trans (by assumption) : true = false) (by decide) | exact absurd (hb.symm.trans (by assumption) : false = true) (by decide)))))) | (((with_reducible refine k_cond ?_); refine aw_cond rfl ?_ ?_) <;> ((fail_if_success (refine imp_known (by assumption) ?_)); (intro hb <;> (have hc := hb) <;> (try simp only [decide_eq_true_eq, decide_eq_false_iff_not, Int.not_lt, Int.not_le, ne_eq, Bool.not_eq_true, Bool.not_eq_false, Decidable.not_not] at hc) <;> (try (exfalso; omega)) <;> (try (exfalso; simp only [Bool.not_eq_eq_eq_not, Bool.not_true, Bool.not_false, decide_eq_true_eq, decide_eq_false_iff_not, ne_eq, Decidable.not_not, Int.not_lt, Int.not_le] at hc; omega)) <;> (try (first | contradiction | (cases hc; done))) <;> (try (first | exact absurd (hb.symm.trans (by assumption) : true = false) (by decide) | exact absurd (hb.symm.trans (by assumption) : false = true) (by decide)))))))
      · (first | refine rl_op rfl (op_callR rfl rfl .nil (ih t.l (by omega) (by omega)) rfl ?_) | refine dl_op (by assumption) by_wants (op_callR rfl rfl .nil (ih t.l (by omega) (by omega)) rfl ?_))
        rintro _ _ ⟨⟨g, rfl, hg0, hg1⟩, rfl⟩ jd hjd
        repeat' (first | (with_reducible first | refine aw_seq ?_ | refine rl_nil ?_ | refine aw_region ?_ | refine then_n ?_ | refine aw_block ?_ | refine then_exit ?_ | refine then_ret ?_ | refine in_n ?_ | refine in_ret ?_ | refine aw_exit ?_ | refine aw_ret ?_ | refine aw_skip ?_ | refine in_exit_eq rfl ?_ | refine awr_succ ?_) | ((with_reducible refine k_move ?_); refine rl_pure (pv_move rfl) rfl rfl rfl ?_) | ((with_reducible refine k_assign ?_); refine rl_pure (pv_assign rfl) rfl rfl rfl ?_) | ((with_reducible refine k_add ?_); refine rl_pure (pv_add_in rfl rfl (by omega)) rfl rfl rfl ?_) | (with_reducible refine dl_nil by_app ?_) | ((with_reducible refine kd_assign ?_); refine dl_pure (by assumption) (pv_assign rfl) by_wants rfl rfl ?_) | ((with_reducible refine kd_add ?_); refine dl_pure (by assumption) (pv_add_in rfl rfl (by omega)) by_wants rfl rfl ?_))
        refine next_of (R := []) (i + 1, h + ((t.name.size : Int) + g)) ⟨hlt, by dsimp only; omega, by dsimp only; omega⟩ (by dsimp only; omega) (by (repeat (first | exact sub_nil | refine sub_cons (by first | rfl | (simp; done)) ?_))) .nil
      · (first | refine ret_r (ret1 rfl by_res (List.nil_sublist _) ⟨_, rfl, ?_⟩) | refine ret_n (ret1 rfl by_res (List.nil_sublist _) ⟨_, rfl, ?_⟩))
        refine ⟨⟨h, rfl, h0, ?_⟩, rfl⟩
        have := hw.2
        have : wtL (l.take i) + (l.length - i) ≤ wtL l := by
          have e := List.take_append_drop i l
          have h3 : wtL l = wtL (l.take i) + wtL (l.drop i) := by
            conv => lhs; rw [← e]
            generalize l.take i = a
            generalize l.drop i = b
            induction a with
            | nil => simp [wtL]
            | cons x a ih => simp only [List.cons_append, wtL, ih]; omega
          have h4 := wtL_len (l.drop i)
          rw [List.length_drop] at h4
          omega
        omega
    · have hk : i = l.length := by omega
      subst hk
      repeat' (first | (with_reducible first | refine aw_seq ?_ | refine rl_nil ?_ | refine aw_region ?_ | refine then_n ?_ | refine aw_block ?_ | refine then_exit ?_ | refine then_ret ?_ | refine in_n ?_ | refine in_ret ?_ | refine aw_exit ?_ | refine aw_ret ?_ | refine aw_skip ?_ | refine in_exit_eq rfl ?_ | refine awr_succ ?_) | ((with_reducible refine k_move ?_); refine rl_pure (pv_move rfl) rfl rfl rfl ?_) | ((with_reducible refine k_assign ?_); refine rl_pure (pv_assign rfl) rfl rfl rfl ?_) | ((with_reducible refine k_lss ?_); refine rl_pure (pv_lss rfl rfl) rfl rfl rfl ?_) | ((with_reducible refine k_len ?_); refine rl_pure (pv_len_ro' (by rfl) by_len) rfl rfl rfl ?_) | ((with_reducible refine k_pick ?_); refine rl_pure (pv_pick_f rfl by_bd rfl) rfl rfl rfl ?_) | ((with_reducible refine k_guard ?_); refine rl_off_t rfl rfl rfl by_bd rfl ?_) | ((with_reducible refine k_cond ?_); refine aw_cond_f rfl ?_) | (((with_reducible refine k_guard ?_); first | refine rl_if_t rfl rfl rfl rfl ?_ ?_ | refine rl_if_f rfl rfl rfl rfl ?_ ?_) <;> ((fail_if_success (refine imp_known (by assumption) ?_)); (intro hb <;> (have hc := hb) <;> (try simp only [decide_eq_true_eq, decide_eq_false_iff_not, Int.not_lt, Int.not_le, ne_eq, Bool.not_eq_true, Bool.not_eq_false, Decidable.not_not] at hc) <;> (try (exfalso; omega)) <;> (try (exfalso; simp only [Bool.not_eq_eq_eq_not, Bool.not_true, Bool.not_false, decide_eq_true_eq, decide_eq_false_iff_not, ne_eq, Decidable.not_not, Int.not_lt, Int.not_le] at hc; omega)) <;> (try (first | contradiction | (cases hc; done))) <;> (try (first | exact absurd (hb.symm.trans (by assumption) : true = false) (by decide) | exact absurd (hb.symm.trans (by assumption) : false = true) (by decide)))))))
      (first | refine ret_r (ret1 rfl by_res (List.nil_sublist _) ⟨_, rfl, ?_⟩) | refine ret_n (ret1 rfl by_res (List.nil_sublist _) ⟨_, rfl, ?_⟩))
      rw [List.take_of_length_le (Nat.le_refl _)] at h1
      exact ⟨⟨h, rfl, h0, by omega⟩, rfl⟩
theorem over7 (t : Typ) (h : t.wt ≤ 1048576) : TriR Try.prog 7 [.agg t.cells] [] fun v H' => (∃ b, v = bool b) ∧ H' = [] := by
  have hh := heavy26 1048576 [t] (by simpa [wtL] using h) (Nat.le_refl _)
  rw [List.map_cons, List.map_nil, cells_eq] at hh
  rw [cells_eq]
  refine TriR.of (tri_of Try.func7 rfl Try.ntmps7 rfl fun j => ?_)
  repeat' (first | (with_reducible first | refine aw_seq ?_ | refine rl_nil ?_ | refine aw_region ?_ | refine then_n ?_ | refine aw_block ?_ | refine then_exit ?_ | refine then_ret ?_ | refine in_n ?_ | refine in_ret ?_ | refine aw_exit ?_ | refine aw_ret ?_ | refine aw_skip ?_ | refine in_exit_eq rfl ?_ | refine awr_succ ?_) | ((with_reducible refine k_assign ?_); refine rl_pure (pv_assign rfl) rfl rfl rfl ?_) | ((with_reducible refine k_load ?_); refine rl_val (vv_load_box_whole (by rfl) by_memb (by rfl) (by first | rfl | exact tcells_len _)) rfl rfl rfl ?_) | ((with_reducible refine k_box ?_); refine rl_op rfl (op_box rfl (V.okc_or (by rfl)) rfl fun b => ?_)) | ((with_reducible refine k_buildSlice ?_); refine rl_op rfl (op_buildSlice_ro rfl rfl rfl (by rfl) (by rfl) (by rfl) (by rfl) rfl by_rows ?_)))
  (first | refine rl_op rfl (op_callR rfl rfl .nil hh rfl ?_) | refine dl_op (by assumption) by_wants (op_callR rfl rfl .nil hh rfl ?_))
  rintro _ _ ⟨⟨g, rfl, _, _⟩, rfl⟩
  repeat' (first | (with_reducible first | refine aw_seq ?_ | refine rl_nil ?_ | refine aw_region ?_ | refine then_n ?_ | refine aw_block ?_ | refine then_exit ?_ | refine then_ret ?_ | refine in_n ?_ | refine in_ret ?_ | refine aw_exit ?_ | refine aw_ret ?_ | refine aw_skip ?_ | refine in_exit_eq rfl ?_ | refine awr_succ ?_) | ((with_reducible refine k_assign ?_); refine rl_pure (pv_assign rfl) rfl rfl rfl ?_) | ((with_reducible refine k_geq ?_); refine rl_pure (pv_geq rfl rfl) rfl rfl rfl ?_))
  (first | refine ret_r (ret1 rfl by_res (List.nil_sublist _) ⟨_, rfl, ?_⟩) | refine ret_n (ret1 rfl by_res (List.nil_sublist _) ⟨_, rfl, ?_⟩))
  exact ⟨⟨_, rfl⟩, rfl⟩
mutual
def Typ.cnt : Typ → Nat
  | .mk _ _ _ _ _ l => 1 + cntL l
def cntL : List Typ → Nat
  | [] => 0
  | t :: ts => t.cnt + cntL ts
end
mutual
def Typ.dep : Typ → Nat
  | .mk _ _ _ _ _ l => depL l + 1
def depL : List Typ → Nat
  | [] => 0
  | t :: ts => max t.dep (depL ts)
end
theorem cnt_eq (t : Typ) : t.cnt = 1 + cntL t.l := by cases t; rw [Typ.cnt]; rfl
theorem dep_eq (t : Typ) : t.dep = depL t.l + 1 := by cases t; rw [Typ.dep]; rfl
mutual
theorem cnt_wt : ∀ t : Typ, t.cnt ≤ t.wt ∧ t.dep ≤ t.wt
  | .mk k nm lo hi o l => by
    have := cntL_wt l
    rw [Typ.cnt, Typ.dep, Typ.wt]
    omega
theorem cntL_wt : ∀ l : List Typ, cntL l ≤ wtL l ∧ depL l ≤ wtL l
  | [] => by simp [cntL, depL, wtL]
  | t :: ts => by
    have := cnt_wt t
    have := cntL_wt ts
    rw [cntL, depL, wtL]
    omega
end
theorem cntL_take : ∀ {l : List Typ} {i : Nat} {t : Typ}, l[i]? = some t → cntL (l.take (i + 1)) = cntL (l.take i) + t.cnt ∧ cntL (l.take (i + 1)) ≤ cntL l ∧ depL (l.take (i + 1)) = max (depL (l.take i)) t.dep ∧ depL (l.take (i + 1)) ≤ depL l
  | [], i, t, h => by simp at h
  | u :: ts, 0, t, h => by
    simp at h
    subst h
    simp only [List.take_succ_cons, List.take_zero, cntL, depL]
    omega
  | u :: ts, i + 1, t, h => by
    have := cntL_take (l := ts) (i := i) (by simpa using h)
    simp only [List.take_succ_cons, cntL, depL]
    omega
theorem count30 : ∀ (n : Nat) (t : Typ), t.wt ≤ n → n ≤ 1048576 → Fun Try.prog 30 [.agg t.cells] (.tup [int t.cnt, int t.dep]) := by
  intro n
  induction n with
  | zero => intro t h; have := wt_eq t; omega
  | succ n ih =>
    intro t hl hn
    have hwe := wt_eq t
    have hce := cnt_eq t
    have hde := dep_eq t
    have hcw := cntL_wt t.l
    have hll := wtL_len t.l
    rw [cells_eq]
    generalize t.l = l at *
    refine Fun.of (TriR.of (tri_of Try.func30 rfl Try.ntmps30 rfl fun j => ?_))
    repeat' (first | (with_reducible first | refine aw_seq ?_ | refine rl_nil ?_ | refine aw_region ?_ | refine then_n ?_ | refine aw_block ?_ | refine then_exit ?_ | refine then_ret ?_ | refine in_n ?_ | refine in_ret ?_ | refine aw_exit ?_ | refine aw_ret ?_ | refine aw_skip ?_ | refine in_exit_eq rfl ?_ | refine awr_succ ?_) | ((with_reducible refine k_move ?_); refine rl_pure (pv_move rfl) rfl rfl rfl ?_) | ((with_reducible refine k_assign ?_); refine rl_pure (pv_assign rfl) rfl rfl rfl ?_) | ((with_reducible refine k_load ?_); refine rl_val (vv_load_box (by rfl) by_memb (by rfl) by_bd) rfl rfl rfl ?_) | ((with_reducible refine k_fieldAddr ?_); refine rl_pure (pv_fieldAddr rfl) rfl rfl rfl ?_) | ((with_reducible refine k_box ?_); refine rl_op rfl (op_box rfl (V.okc_or (by rfl)) rfl fun b => ?_)) | ((with_reducible refine k_len ?_); refine rl_pure (pv_len_ro' (by rfl) by_len) rfl rfl rfl ?_))
    refine aw_iter (α := Nat) (fun i => [(4, int (1 + (cntL (l.take i) : Int))), (5, int (depL (l.take i))), (11, .ro (l.map Typ.cells)), (12, int l.length), (13, int i)]) (fun _ => []) (fun i => i ≤ l.length) (fun i => l.length - i)
      0 (Nat.zero_le _) (by (repeat (first | exact sub_nil | refine sub_cons (by first | rfl | (simp; done)) ?_))) .nil fun i hI => ?_
    rcases Nat.lt_or_ge i l.length with hlt | hge
    · obtain ⟨x, hx⟩ : ∃ x, l[i]? = some x := ⟨_, List.getElem?_eq_getElem hlt⟩
      have hr : (l.map Typ.cells)[i]? = some x.cells := by simp [hx]
      have hw := wtL_take hx
      have hc := cntL_take hx
      have hih := ih x (by omega) (by omega)
      have hxc := cnt_wt x
      repeat' (first | (with_reducible first | refine aw_seq ?_ | refine rl_nil ?_ | refine aw_region ?_ | refine then_n ?_ | refine aw_block ?_ | refine then_exit ?_ | refine then_ret ?_ | refine in_n ?_ | refine in_ret ?_ | refine aw_exit ?_ | refine aw_ret ?_ | refine aw_skip ?_ | refine in_exit_eq rfl ?_ | refine awr_succ ?_) | ((with_reducible refine k_move ?_); refine rl_pure (pv_move rfl) rfl rfl rfl ?_) | ((with_reducible refine k_assign ?_); refine rl_pure (pv_assign rfl) rfl rfl rfl ?_) | ((with_reducible refine k_load ?_); (first | refine rl_val (vv_load_ro_whole (by rfl) (by rfl) (by first | rfl | exact tcells_len _)) rfl rfl rfl ?_ | refine rl_val (vv_load_box_whole (by rfl) by_memb (by rfl) (by first | rfl | exact tcells_len _)) rfl rfl rfl ?_)) | ((with_reducible refine k_store ?_); refine rl_op rfl (op_store_box_whole (by rfl) (by rfl) (V.okc_or (by rfl)) by_upd (by first | rfl | exact tcells_len _) (by first | rfl | exact tcells_len _) ?_)) | ((with_reducible refine k_alloc ?_); refine rl_op rfl (op_alloc (by decide) rfl fun b => ?_)) | ((with_reducible refine k_lss ?_); refine rl_pure (pv_lss rfl rfl) rfl rfl rfl ?_) | ((with_reducible refine k_add ?_); refine rl_pure (pv_add_in rfl rfl (by omega)) rfl rfl rfl ?_) | ((with_reducible refine k_extract ?_); refine rl_pure (pv_extract rfl rfl) rfl rfl rfl ?_) | ((with_reducible refine k_max ?_); refine rl_pure (pv_max2 rfl rfl) rfl rfl rfl ?_) | ((with_reducible refine k_indexAddr ?_); refine rl_pure (pv_indexAddr_ro (by rfl) rfl (by omega) (by first | rfl | assumption) (by first | rfl | exact tcells_len _)) rfl rfl rfl ?_) | ((with_reducible refine k_callv ?_); refine rl_op rfl (op_callF rfl rfl (hih) rfl ?_)) | (((with_reducible refine k_cond ?_); refine aw_cond rfl ?_ ?_) <;> ((fail_if_success (refine imp_known (by assumption) ?_)); (intro hb <;> (have hc := hb) <;> (try simp only [decide_eq_true_eq, decide_eq_false_iff_not, Int.not_lt, Int.not_le, ne_eq, Bool.not_eq_true, Bool.not_eq_false, Decidable.not_not] at hc) <;> (try (exfalso; omega)) <;> (try (exfalso; simp only [Bool.not_eq_eq_eq_not, Bool.not_true, Bool.not_false, decide_eq_true_eq, decide_eq_false_iff_not, ne_eq, Decidable.not_not, Int.not_lt, Int.not_le] at hc; omega)) <;> (try (first | contradiction | (cases hc; done))) <;> (try (first | exact absurd (hb.symm.trans (by assumption) : true = false) (by decide) | exact absurd (hb.symm.trans (by assumption) : false = true) (by decide)))))))
      exact next_of (R := [_]) (i + 1) hlt (by omega) (by
        rw [show (1 : Int) + (cntL (l.take (i + 1)) : Int) = 1 + (cntL (l.take i) : Int) + (x.cnt : Int) by omega, show ((depL (l.take (i + 1)) : Nat) : Int) = max (depL (l.take i) : Int) (x.dep : Int) by omega]
        (repeat (first | exact sub_nil | refine sub_cons (by first | rfl | (simp; done)) ?_))) .nil
    · have hk : i = l.length := by omega
      subst hk
      rw [List.take_of_length_le (Nat.le_refl _)]
      repeat' (first | (with_reducible first | refine aw_seq ?_ | refine rl_nil ?_ | refine aw_region ?_ | refine then_n ?_ | refine aw_block ?_ | refine then_exit ?_ | refine then_ret ?_ | refine in_n ?_ | refine in_ret ?_ | refine aw_exit ?_ | refine aw_ret ?_ | refine aw_skip ?_ | refine in_exit_eq rfl ?_ | refine awr_succ ?_) | ((with_reducible refine k_move ?_); refine rl_pure (pv_move rfl) rfl rfl rfl ?_) | ((with_reducible refine k_assign ?_); refine rl_pure (pv_assign rfl) rfl rfl rfl ?_) | ((with_reducible refine k_lss ?_); refine rl_pure (pv_lss rfl rfl) rfl rfl rfl ?_) | ((with_reducible refine k_add ?_); refine rl_pure (pv_add_in rfl rfl (by omega)) rfl rfl rfl ?_) | (((with_reducible refine k_cond ?_); refine aw_cond rfl ?_ ?_) <;> ((fail_if_success (refine imp_known (by assumption) ?_)); (intro hb <;> (have hc := hb) <;> (try simp only [decide_eq_true_eq, decide_eq_false_iff_not, Int.not_lt, Int.not_le, ne_eq, Bool.not_eq_true, Bool.not_eq_false, Decidable.not_not] at hc) <;> (try (exfalso; omega)) <;> (try (exfalso; simp only [Bool.not_eq_eq_eq_not, Bool.not_true, Bool.not_false, decide_eq_true_eq, decide_eq_false_iff_not, ne_eq, Decidable.not_not, Int.not_lt, Int.not_le] at hc; omega)) <;> (try (first | contradiction | (cases hc; done))) <;> (try (first | exact absurd (hb.symm.trans (by assumption) : true = false) (by decide) | exact absurd (hb.symm.trans (by assumption) : false = true) (by decide)))))))
      (first | refine ret_r (ret2 rfl by_res by_res (List.nil_sublist _) ⟨_, rfl, ?_⟩) | refine ret_n (ret2 rfl by_res by_res (List.nil_sublist _) ⟨_, rfl, ?_⟩))
      refine ⟨?_, rfl⟩
      rw [hce, hde]
      rfl
theorem count32 : ∀ (n : Nat) (t : Typ), t.wt ≤ n → n ≤ 1048576 → Fun Try.prog 32 [.agg t.cells] (int t.cnt) := by
  intro n
  induction n with
  | zero => intro t h; have := wt_eq t; omega
  | succ n ih =>
    intro t hl hn
    have hwe := wt_eq t
    have hce := cnt_eq t
    have hcw := cntL_wt t.l
    have hll := wtL_len t.l
    rw [cells_eq]
    generalize t.l = l at *
    refine Fun.of (TriR.of (tri_of Try.func32 rfl Try.ntmps32 rfl fun j => ?_))
    repeat' (first | (with_reducible first | refine aw_seq ?_ | refine rl_nil ?_ | refine aw_region ?_ | refine then_n ?_ | refine aw_block ?_ | refine then_exit ?_ | refine then_ret ?_ | refine in_n ?_ | refine in_ret ?_ | refine aw_exit ?_ | refine aw_ret ?_ | refine aw_skip ?_ | refine in_exit_eq rfl ?_ | refine awr_succ ?_) | ((with_reducible refine k_assign ?_); refine rl_pure (pv_assign rfl) rfl rfl rfl ?_) | ((with_reducible refine k_box ?_); refine rl_op rfl (op_box rfl (V.okc_or (by rfl)) rfl fun b => ?_)))
    refine aw_iter (α := Nat) (fun i => [(1, .raw (.pointer (some ⟨b, 0, none⟩))), (3, int (1 + (cntL (l.take i) : Int))), (4, int i)]) (fun _ => [.box b 24 [int t.kind, str t.name, int t.lo, int t.hi, bool t.opt, .ro (l.map Typ.cells)]]) (fun i => i ≤ l.length) (fun i => l.length - i)
      0 (Nat.zero_le _) (by (repeat (first | exact sub_nil | refine sub_cons (by first | rfl | (simp; done)) ?_))) (.cons .here .nil) fun i hI => ?_
    rcases Nat.lt_or_ge i l.length with hlt | hge
    · obtain ⟨x, hx⟩ : ∃ x, l[i]? = some x := ⟨_, List.getElem?_eq_getElem hlt⟩
      have hr : (l.map Typ.cells)[i]? = some x.cells := by simp [hx]
      have hw := wtL_take hx
      have hc := cntL_take hx
      have hih := ih x (by omega) (by omega)
      have hxc := cnt_wt x
      repeat' (first | (with_reducible first | refine aw_seq ?_ | refine rl_nil ?_ | refine aw_region ?_ | refine then_n ?_ | refine aw_block ?_ | refine then_exit ?_ | refine then_ret ?_ | refine in_n ?_ | refine in_ret ?_ | refine aw_exit ?_ | refine aw_ret ?_ | refine aw_skip ?_ | refine in_exit_eq rfl ?_ | refine awr_succ ?_) | ((with_reducible refine k_move ?_); refine rl_pure (pv_move rfl) rfl rfl rfl ?_) | ((with_reducible refine k_assign ?_); refine rl_pure (pv_assign rfl) rfl rfl rfl ?_) | ((with_reducible refine k_load ?_); (first | refine rl_val (vv_load_ro_whole (by rfl) (by rfl) (by first | rfl | exact tcells_len _)) rfl rfl rfl ?_ | refine rl_val (vv_load_box (by rfl) by_memb (by rfl) by_bd) rfl rfl rfl ?_)) | ((with_reducible refine k_fieldAddr ?_); refine rl_pure (pv_fieldAddr rfl) rfl rfl rfl ?_) | ((with_reducible refine k_lss ?_); refine rl_pure (pv_lss rfl rfl) rfl rfl rfl ?_) | ((with_reducible refine k_add ?_); refine rl_pure (pv_add_in rfl rfl (by omega)) rfl rfl rfl ?_) | ((with_reducible refine k_len ?_); refine rl_pure (pv_len_ro' (by rfl) by_len) rfl rfl rfl ?_) | ((with_reducible refine k_indexAddr ?_); refine rl_pure (pv_indexAddr_ro (by rfl) rfl (by omega) (by first | rfl | assumption) (by first | rfl | exact tcells_len _)) rfl rfl rfl ?_) | ((with_reducible refine k_callv ?_); refine rl_op rfl (op_callF rfl rfl (hih) rfl ?_)) | (((with_reducible refine k_cond ?_); refine aw_cond rfl ?_ ?_) <;> ((fail_if_success (refine imp_known (by assumption) ?_)); (intro hb <;> (have hc := hb) <;> (try simp only [decide_eq_true_eq, decide_eq_false_iff_not, Int.not_lt, Int.not_le, ne_eq, Bool.not_eq_true, Bool.not_eq_false, Decidable.not_not] at hc) <;> (try (exfalso; omega)) <;> (try (exfalso; simp only [Bool.not_eq_eq_eq_not, Bool.not_true, Bool.not_false, decide_eq_true_eq, decide_eq_false_iff_not, ne_eq, Decidable.not_not, Int.not_lt, Int.not_le] at hc; omega)) <;> (try (first | contradiction | (cases hc; done))) <;> (try (first | exact absurd (hb.symm.trans (by assumption) : true = false) (by decide) | exact absurd (hb.symm.trans (by assumption) : false = true) (by decide)))))))
      refine next_of (R := []) (i + 1) hlt (by omega) ?_ (.cons .here .nil)
      rw [show (1 : Int) + (cntL (l.take (i + 1)) : Int) = 1 + (cntL (l.take i) : Int) + (x.cnt : Int) by omega]
      (repeat (first | exact sub_nil | refine sub_cons (by first | rfl | (simp; done)) ?_))
    · have hk : i = l.length := by omega
      subst hk
      rw [List.take_of_length_le (Nat.le_refl _)]
      repeat' (first | (with_reducible first | refine aw_seq ?_ | refine rl_nil ?_ | refine aw_region ?_ | refine then_n ?_ | refine aw_block ?_ | refine then_exit ?_ | refine then_ret ?_ | refine in_n ?_ | refine in_ret ?_ | refine aw_exit ?_ | refine aw_ret ?_ | refine aw_skip ?_ | refine in_exit_eq rfl ?_ | refine awr_succ ?_) | ((with_reducible refine k_move ?_); refine rl_pure (pv_move rfl) rfl rfl rfl ?_) | ((with_reducible refine k_assign ?_); refine rl_pure (pv_assign rfl) rfl rfl rfl ?_) | ((with_reducible refine k_load ?_); refine rl_val (vv_load_box (by rfl) by_memb (by rfl) by_bd) rfl rfl rfl ?_) | ((with_reducible refine k_fieldAddr ?_); refine rl_pure (pv_fieldAddr rfl) rfl rfl rfl ?_) | ((with_reducible refine k_lss ?_); refine rl_pure (pv_lss rfl rfl) rfl rfl rfl ?_) | ((with_reducible refine k_len ?_); refine rl_pure (pv_len_ro' (by rfl) by_len) rfl rfl rfl ?_) | (((with_reducible refine k_cond ?_); refine aw_cond rfl ?_ ?_) <;> ((fail_if_success (refine imp_known (by assumption) ?_)); (intro hb <;> (have hc := hb) <;> (try simp only [decide_eq_true_eq, decide_eq_false_iff_not, Int.not_lt, Int.not_le, ne_eq, Bool.not_eq_true, Bool.not_eq_false, Decidable.not_not] at hc) <;> (try (exfalso; omega)) <;> (try (exfalso; simp only [Bool.not_eq_eq_eq_not, Bool.not_true, Bool.not_false, decide_eq_true_eq, decide_eq_false_iff_not, ne_eq, Decidable.not_not, Int.not_lt, Int.not_le] at hc; omega)) <;> (try (first | contradiction | (cases hc; done))) <;> (try (first | exact absurd (hb.symm.trans (by assumption) : true = false) (by decide) | exact absurd (hb.symm.trans (by assumption) : false = true) (by decide)))))))
      (first | refine ret_r (ret1 rfl by_res (List.nil_sublist _) ⟨_, rfl, ?_⟩) | refine ret_n (ret1 rfl by_res (List.nil_sublist _) ⟨_, rfl, ?_⟩))
      refine ⟨?_, rfl⟩
      rw [hce]
      rfl
theorem deep33 : ∀ (n : Nat) (t : Typ), t.wt ≤ n → n ≤ 1048576 → Fun Try.prog 33 [.agg t.cells] (int t.dep) := by
  intro n
  induction n with
  | zero => intro t h; have := wt_eq t; omega
  | succ n ih =>
    intro t hl hn
    have hwe := wt_eq t
    have hde := dep_eq t
    have hcw := cntL_wt t.l
    have hll := wtL_len t.l
    rw [cells_eq]
    generalize t.l = l at *
    refine Fun.of (TriR.of (tri_of Try.func33 rfl Try.ntmps33 rfl fun j => ?_))
    repeat' (first | (with_reducible first | refine aw_seq ?_ | refine rl_nil ?_ | refine aw_region ?_ | refine then_n ?_ | refine aw_block ?_ | refine then_exit ?_ | refine then_ret ?_ | refine in_n ?_ | refine in_ret ?_ | refine aw_exit ?_ | refine aw_ret ?_ | refine aw_skip ?_ | refine in_exit_eq rfl ?_ | refine awr_succ ?_) | ((with_reducible refine k_assign ?_); refine rl_pure (pv_assign rfl) rfl rfl rfl ?_) | ((with_reducible refine k_box ?_); refine rl_op rfl (op_box rfl (V.okc_or (by rfl)) rfl fun b => ?_)))
    refine aw_iter (α := Nat) (fun i => [(1, .raw (.pointer (some ⟨b, 0, none⟩))), (3, int (depL (l.take i))), (4, int i)]) (fun _ => [.box b 24 [int t.kind, str t.name, int t.lo, int t.hi, bool t.opt, .ro (l.map Typ.cells)]]) (fun i => i ≤ l.length) (fun i => l.length - i)
      0 (Nat.zero_le _) (by (repeat (first | exact sub_nil | refine sub_cons (by first | rfl | (simp; done)) ?_))) (.cons .here .nil) fun i hI => ?_
    rcases Nat.lt_or_ge i l.length with hlt | hge
    · obtain ⟨x, hx⟩ : ∃ x, l[i]? = some x := ⟨_, List.getElem?_eq_getElem hlt⟩
      have hr : (l.map Typ.cells)[i]? = some x.cells := by simp [hx]
      have hw := wtL_take hx
      have hc := cntL_take hx
      have hih := ih x (by omega) (by omega)
      have hxc := cnt_wt x
      repeat' (first | (with_reducible first | refine aw_seq ?_ | refine rl_nil ?_ | refine aw_region ?_ | refine then_n ?_ | refine aw_block ?_ | refine then_exit ?_ | refine then_ret ?_ | refine in_n ?_ | refine in_ret ?_ | refine aw_exit ?_ | refine aw_ret ?_ | refine aw_skip ?_ | refine in_exit_eq rfl ?_ | refine awr_succ ?_) | ((with_reducible refine k_move ?_); refine rl_pure (pv_move rfl) rfl rfl rfl ?_) | ((with_reducible refine k_assign ?_); refine rl_pure (pv_assign rfl) rfl rfl rfl ?_) | ((with_reducible refine k_load ?_); (first | refine rl_val (vv_load_ro_whole (by rfl) (by rfl) (by first | rfl | exact tcells_len _)) rfl rfl rfl ?_ | refine rl_val (vv_load_box (by rfl) by_memb (by rfl) by_bd) rfl rfl rfl ?_)) | ((with_reducible refine k_fieldAddr ?_); refine rl_pure (pv_fieldAddr rfl) rfl rfl rfl ?_) | ((with_reducible refine k_lss ?_); refine rl_pure (pv_lss rfl rfl) rfl rfl rfl ?_) | ((with_reducible refine k_add ?_); refine rl_pure (pv_add_in rfl rfl (by omega)) rfl rfl rfl ?_) | ((with_reducible refine k_len ?_); refine rl_pure (pv_len_ro' (by rfl) by_len) rfl rfl rfl ?_) | ((with_reducible refine k_max ?_); refine rl_pure (pv_max2 rfl rfl) rfl rfl rfl ?_) | ((with_reducible refine k_indexAddr ?_); refine rl_pure (pv_indexAddr_ro (by rfl) rfl (by omega) (by first | rfl | assumption) (by first | rfl | exact tcells_len _)) rfl rfl rfl ?_) | ((with_reducible refine k_callv ?_); refine rl_op rfl (op_callF rfl rfl (hih) rfl ?_)) | (((with_reducible refine k_cond ?_); refine aw_cond rfl ?_ ?_) <;> ((fail_if_success (refine imp_known (by assumption) ?_)); (intro hb <;> (have hc := hb) <;> (try simp only [decide_eq_true_eq, decide_eq_false_iff_not, Int.not_lt, Int.not_le, ne_eq, Bool.not_eq_true, Bool.not_eq_false, Decidable.not_not] at hc) <;> (try (exfalso; omega)) <;> (try (exfalso; simp only [Bool.not_eq_eq_eq_not, Bool.not_true, Bool.not_false, decide_eq_true_eq, decide_eq_false_iff_not, ne_eq, Decidable.not_not, Int.not_lt, Int.not_le] at hc; omega)) <;> (try (first | contradiction | (cases hc; done))) <;> (try (first | exact absurd (hb.symm.trans (by assumption) : true = false) (by decide) | exact absurd (hb.symm.trans (by assumption) : false = true) (by decide)))))))
      refine next_of (R := []) (i + 1) hlt (by omega) ?_ (.cons .here .nil)
      rw [show ((depL (l.take (i + 1)) : Nat) : Int) = max (depL (l.take i) : Int) (x.dep : Int) by omega]
      (repeat (first | exact sub_nil | refine sub_cons (by first | rfl | (simp; done)) ?_))
    · have hk : i = l.length := by omega
      subst hk
      rw [List.take_of_length_le (Nat.le_refl _)]
      repeat' (first | (with_reducible first | refine aw_seq ?_ | refine rl_nil ?_ | refine aw_region ?_ | refine then_n ?_ | refine aw_block ?_ | refine then_exit ?_ | refine then_ret ?_ | refine in_n ?_ | refine in_ret ?_ | refine aw_exit ?_ | refine aw_ret ?_ | refine aw_skip ?_ | refine in_exit_eq rfl ?_ | refine awr_succ ?_) | ((with_reducible refine k_move ?_); refine rl_pure (pv_move rfl) rfl rfl rfl ?_) | ((with_reducible refine k_assign ?_); refine rl_pure (pv_assign rfl) rfl rfl rfl ?_) | ((with_reducible refine k_load ?_); refine rl_val (vv_load_box (by rfl) by_memb (by rfl) by_bd) rfl rfl rfl ?_) | ((with_reducible refine k_fieldAddr ?_); refine rl_pure (pv_fieldAddr rfl) rfl rfl rfl ?_) | ((with_reducible refine k_lss ?_); refine rl_pure (pv_lss rfl rfl) rfl rfl rfl ?_) | ((with_reducible refine k_add ?_); refine rl_pure (pv_add_in rfl rfl (by omega)) rfl rfl rfl ?_) | ((with_reducible refine k_len ?_); refine rl_pure (pv_len_ro' (by rfl) by_len) rfl rfl rfl ?_) | (((with_reducible refine k_cond ?_); refine aw_cond rfl ?_ ?_) <;> ((fail_if_success (refine imp_known (by assumption) ?_)); (intro hb <;> (have hc := hb) <;> (try simp only [decide_eq_true_eq, decide_eq_false_iff_not, Int.not_lt, Int.not_le, ne_eq, Bool.not_eq_true, Bool.not_eq_false, Decidable.not_not] at hc) <;> (try (exfalso; omega)) <;> (try (exfalso; simp only [Bool.not_eq_eq_eq_not, Bool.not_true, Bool.not_false, decide_eq_true_eq, decide_eq_false_iff_not, ne_eq, Decidable.not_not, Int.not_lt, Int.not_le] at hc; omega)) <;> (try (first | contradiction | (cases hc; done))) <;> (try (first | exact absurd (hb.symm.trans (by assumption) : true = false) (by decide) | exact absurd (hb.symm.trans (by assumption) : false = true) (by decide)))))))
      (first | refine ret_r (ret1 rfl by_res (List.nil_sublist _) ⟨_, rfl, ?_⟩) | refine ret_n (ret1 rfl by_res (List.nil_sublist _) ⟨_, rfl, ?_⟩))
      refine ⟨?_, rfl⟩
      rw [hde]
      rfl
end Go.Proofs.Ytepmllodaoanmaa

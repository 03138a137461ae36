import Derived.Test.YtepmllodaoanmaaK12
set_option linter.unusedVariables false
set_option linter.unusedSimpArgs false
namespace Go.Proofs.Ytepmllodaoanmaa
open Go Go.AX
set_option maxHeartbeats 8000000
set_option maxRecDepth 20000
attribute [local irreducible] AW RL OP PureV ValV HV DL Tri TriR Fun RetOk ResV
/-! ### Types that are right -/
def seenIn (p : ByteArray) : List ByteArray → Bool
  | [] => false
  | q :: l => decide (p = q) || seenIn p l
mutual
def okT : Typ → Bool
  | .mk k nm lo hi o l =>
    if k = 0 ∨ k = 7 then decide (lo = 0 ∧ hi = 0 ∧ l.length = 0)
    else if k = 1 then decide (-1099511627776 ≤ lo ∧ lo ≤ hi ∧ hi ≤ 1099511627776 ∧ l.length = 0)
    else if k = 2 then decide (0 ≤ lo ∧ lo ≤ hi ∧ hi ≤ 255 ∧ l.length = 0)
    else if k = 3 then decide (lo = 0 ∧ 0 ≤ hi ∧ hi ≤ 255 ∧ l.length = 0)
    else if k = 4 then decide (lo = 0 ∧ hi = 0 ∧ l.length ≤ 20) && okL true l []
    else if k = 5 then decide (lo = 0 ∧ hi = 0 ∧ 0 < l.length ∧ l.length ≤ 20) && okL false l []
    else if k = 6 then decide (0 ≤ lo ∧ lo ≤ hi ∧ hi ≤ 60 ∧ l.length = 1) && okW l
    else false
def okL (row : Bool) : List Typ → List ByteArray → Bool
  | [], _ => true
  | t :: ts, seen => (decide (NmOk t.name) && (!seenIn t.name seen && (!t.opt || row))) && (okT t && okL row ts (t.name :: seen))
def okW : List Typ → Bool
  | t :: _ => decide (t.name.size = 0 ∧ t.opt = false) && okT t
  | [] => false
end
theorem okT_eq (t : Typ) : okT t = (if t.kind = 0 ∨ t.kind = 7 then decide (t.lo = 0 ∧ t.hi = 0 ∧ t.l.length = 0)
    else if t.kind = 1 then decide (-1099511627776 ≤ t.lo ∧ t.lo ≤ t.hi ∧ t.hi ≤ 1099511627776 ∧ t.l.length = 0)
    else if t.kind = 2 then decide (0 ≤ t.lo ∧ t.lo ≤ t.hi ∧ t.hi ≤ 255 ∧ t.l.length = 0)
    else if t.kind = 3 then decide (t.lo = 0 ∧ 0 ≤ t.hi ∧ t.hi ≤ 255 ∧ t.l.length = 0)
    else if t.kind = 4 then decide (t.lo = 0 ∧ t.hi = 0 ∧ t.l.length ≤ 20) && okL true t.l []
    else if t.kind = 5 then decide (t.lo = 0 ∧ t.hi = 0 ∧ 0 < t.l.length ∧ t.l.length ≤ 20) && okL false t.l []
    else if t.kind = 6 then decide (0 ≤ t.lo ∧ t.lo ≤ t.hi ∧ t.hi ≤ 60 ∧ t.l.length = 1) && okW t.l
    else false) := by
  cases t
  rw [okT]
  rfl
theorem okL_drop {row : Bool} {l : List Typ} {i : Nat} {t : Typ} (h : l[i]? = some t) (sn : List ByteArray) :
    okL row (l.drop i) sn = ((decide (NmOk t.name) && (!seenIn t.name sn && (!t.opt || row))) && (okT t && okL row (l.drop (i + 1)) (t.name :: sn))) := by
  have hd : l.drop i = t :: l.drop (i + 1) := by
    obtain ⟨_, rfl⟩ := List.getElem?_eq_some_iff.1 h
    exact List.drop_eq_getElem_cons _
  rw [hd, okL]
theorem range76 (t : Typ) (a b : Int) : Fun Try.prog 76 [.agg t.cells, int a, int b] (bool (decide (a ≤ t.lo ∧ t.lo ≤ t.hi ∧ t.hi ≤ b))) := by
  rw [cells_eq]
  refine Fun.of (TriR.of (tri_of Try.func76 rfl Try.ntmps76 rfl fun j => ?_))
  repeat' (first | (with_reducible first | refine aw_seq ?_ | refine rl_nil ?_ | refine aw_region ?_ | refine then_n ?_ | refine aw_block ?_ | refine then_exit ?_ | refine then_ret ?_ | refine in_n ?_ | refine in_ret ?_ | refine aw_exit ?_ | refine aw_ret ?_ | refine aw_skip ?_ | refine in_exit_eq rfl ?_ | refine awr_succ ?_) | ((with_reducible refine k_move ?_); refine rl_pure (pv_move rfl) rfl rfl rfl ?_) | ((with_reducible refine k_assign ?_); refine rl_pure (pv_assign rfl) rfl rfl rfl ?_) | ((with_reducible refine k_load ?_); refine rl_val (vv_load_box (by rfl) by_memb (by rfl) by_bd) rfl rfl rfl ?_) | ((with_reducible refine k_fieldAddr ?_); refine rl_pure (pv_fieldAddr rfl) rfl rfl rfl ?_) | ((with_reducible refine k_box ?_); refine rl_op rfl (op_box rfl (V.okc_or (by rfl)) rfl fun b => ?_)) | ((with_reducible refine k_leq ?_); refine rl_pure (pv_leq rfl rfl) rfl rfl rfl ?_) | ((with_reducible refine k_geq ?_); refine rl_pure (pv_geq rfl rfl) rfl rfl rfl ?_) | ((with_reducible refine k_pick ?_); (first | refine rl_pure (pv_pick_t rfl by_bd rfl) rfl rfl rfl ?_ | refine rl_pure (pv_pick_f rfl by_bd rfl) rfl rfl rfl ?_)) | ((with_reducible refine k_guard ?_); (first | refine rl_on_yes rfl rfl rfl by_bd rfl ?_ | refine rl_off_t rfl rfl rfl by_bd rfl ?_)) | (((with_reducible refine k_guard ?_); first | refine rl_if_t rfl rfl rfl rfl ?_ ?_ | refine rl_if_f rfl rfl rfl rfl ?_ ?_) <;> ((fail_if_success (refine imp_known (by assumption) ?_)); (intro hb <;> (have hc := hb) <;> (try simp only [decide_eq_true_eq, decide_eq_false_iff_not, Int.not_lt, Int.not_le, ne_eq, Bool.not_eq_true, Bool.not_eq_false, Decidable.not_not] at hc) <;> (try (exfalso; omega)) <;> (try (exfalso; simp only [Bool.not_eq_eq_eq_not, Bool.not_true, Bool.not_false, decide_eq_true_eq, decide_eq_false_iff_not, ne_eq, Decidable.not_not, Int.not_lt, Int.not_le] at hc; omega)) <;> (try (first | contradiction | (cases hc; done))) <;> (try (first | exact absurd (hb.symm.trans (by assumption) : true = false) (by decide) | exact absurd (hb.symm.trans (by assumption) : false = true) (by decide)))))))
  all_goals
    (first | refine ret_r (ret1 rfl by_res (List.nil_sublist _) ⟨_, rfl, ?_⟩) | refine ret_n (ret1 rfl by_res (List.nil_sublist _) ⟨_, rfl, ?_⟩))
    refine ⟨congrArg bool ?_, rfl⟩
    rw [Bool.eq_iff_iff]
    simp only [decide_eq_true_eq, Bool.false_eq_true]
    constructor <;> intro h <;> first | exact h.elim | omega
/-- The names that were seen. -/
def setOfN (sn : List ByteArray) (f : Value → Option Value) : Prop := ∀ p, f (.string p) = if seenIn p sn then some (.bool true) else none
theorem setOfN_put {sn : List ByteArray} {f : Value → Option Value} (h : setOfN sn f) (q : ByteArray) : setOfN (q :: sn) (mput f (.string q) (.bool true)) := fun p => by
  rw [mput_str, h p]
  by_cases e : p = q <;> simp [seenIn, e]
theorem areParts77 (t : Typ) (hw : t.wt ≤ 1048576) (hT : ∀ (i : Nat) x, t.l[i]? = some x → Fun Try.prog 55 [.agg x.cells] (bool (okT x))) :
    Fun Try.prog 77 [.agg t.cells] (bool (decide (t.l.length ≤ 20) && okL (decide (t.kind = 4)) t.l [])) := by
  have hwe := wt_eq t
  have hll := wtL_len t.l
  rw [cells_eq]
  generalize hl : t.l = l at *
  refine Fun.of (TriR.of (tri_of Try.func77 rfl Try.ntmps77 rfl fun j => ?_))
  repeat' (first | (with_reducible first | refine aw_seq ?_ | refine rl_nil ?_ | refine aw_region ?_ | refine then_n ?_ | refine aw_block ?_ | refine then_exit ?_ | refine then_ret ?_ | refine in_n ?_ | refine in_ret ?_ | refine aw_exit ?_ | refine aw_ret ?_ | refine aw_skip ?_ | refine in_exit_eq rfl ?_ | refine awr_succ ?_) | ((with_reducible refine k_move ?_); refine rl_pure (pv_move rfl) rfl rfl rfl ?_) | ((with_reducible refine k_assign ?_); refine rl_pure (pv_assign rfl) rfl rfl rfl ?_) | ((with_reducible refine k_load ?_); refine rl_val (vv_load_box (by rfl) by_memb (by rfl) by_bd) rfl rfl rfl ?_) | ((with_reducible refine k_fieldAddr ?_); refine rl_pure (pv_fieldAddr rfl) rfl rfl rfl ?_) | ((with_reducible refine k_box ?_); refine rl_op rfl (op_box rfl (V.okc_or (by rfl)) rfl fun b => ?_)) | ((with_reducible refine k_len ?_); refine rl_pure (pv_len_ro' (by rfl) by_len) rfl rfl rfl ?_) | ((with_reducible refine k_makeMap ?_); refine rl_op rfl (op_makeMap rfl fun b => ?_)))
  revert b; intro mb
  refine aw_iter (α := Nat × List ByteArray × Array MapEntry × Nat × (Value → Option Value)) (fun q => [(1, .raw (.pointer (some ⟨b, 0, none⟩))), (3, .raw (.map (some mb))), (8, .ro (l.map Typ.cells)), (9, int l.length), (10, int q.1)])
    (fun q => [.obj mb (.map q.2.2.1 q.2.2.2.1), .box b 24 [int t.kind, str t.name, int t.lo, int t.hi, bool t.opt, .ro (l.map Typ.cells)]])
    (fun q => q.1 ≤ l.length ∧ MapOf .str q.2.2.1 q.2.2.2.2 ∧ setOfN q.2.1 q.2.2.2.2 ∧ okL (decide (t.kind = 4)) l [] = okL (decide (t.kind = 4)) (l.drop q.1) q.2.1) (fun q => l.length - q.1)
    (0, [], #[], 0, fun _ => none) ⟨Nat.zero_le _, mapOf_empty, fun p => by simp [seenIn], rfl⟩ (by (repeat (first | exact sub_nil | refine sub_cons (by first | rfl | (simp; done)) ?_))) (.cons .here (.cons .here .nil)) fun q hI => ?_
  obtain ⟨i, sn, es, c, f⟩ := q
  dsimp only at hI ⊢
  obtain ⟨hi, hM, hS, hE⟩ := hI
  rcases Nat.lt_or_ge i l.length with hlt | hge
  · obtain ⟨x, hx⟩ : ∃ x, l[i]? = some x := ⟨_, List.getElem?_eq_getElem hlt⟩
    have hr : (l.map Typ.cells)[i]? = some x.cells := by simp [hx]
    have hx55 := hT i x hx
    have hxw := wtL_take hx
    have hxe := wt_eq x
    have hnm := name88 x.name (by omega)
    rw [okL_drop hx] at hE
    rw [cells_eq] at hr hx55
    have hf : f (.string x.name) = if seenIn x.name sn then some (.bool true) else none := hS x.name
    cases hsn : seenIn x.name sn with
    | false =>
      rw [hsn] at hE
      have hf2 : (f (.string x.name)).getD (.bool false) = .bool false := by rw [hf, hsn]; rfl
      repeat' (first | (with_reducible first | refine aw_seq ?_ | refine rl_nil ?_ | refine aw_region ?_ | refine then_n ?_ | refine aw_block ?_ | refine then_exit ?_ | refine then_ret ?_ | refine in_n ?_ | refine in_ret ?_ | refine aw_exit ?_ | refine aw_ret ?_ | refine aw_skip ?_ | refine in_exit_eq rfl ?_ | refine awr_succ ?_) | ((with_reducible refine k_move ?_); refine rl_pure (pv_move rfl) rfl rfl rfl ?_) | ((with_reducible refine k_assign ?_); refine rl_pure (pv_assign rfl) rfl rfl rfl ?_) | ((with_reducible refine k_load ?_); (first | refine rl_val (vv_load_ro_whole (by rfl) (by rfl) (by first | rfl | exact tcells_len _)) rfl rfl rfl ?_ | refine rl_val (vv_load_box (by rfl) by_memb (by rfl) by_bd) rfl rfl rfl ?_ | refine rl_val (vv_load_box_whole (by rfl) by_memb (by rfl) (by first | rfl | exact tcells_len _)) rfl rfl rfl ?_)) | ((with_reducible refine k_fieldAddr ?_); refine rl_pure (pv_fieldAddr rfl) rfl rfl rfl ?_) | ((with_reducible refine k_store ?_); refine rl_op rfl (op_store_box_whole (by rfl) (by rfl) (V.okc_or (by rfl)) by_upd (by first | rfl | exact tcells_len _) (by first | rfl | exact tcells_len _) ?_)) | ((with_reducible refine k_alloc ?_); refine rl_op rfl (op_alloc (by decide) rfl fun b => ?_)) | ((with_reducible refine k_neq ?_); refine rl_pure (pv_neq rfl rfl) rfl rfl rfl ?_) | ((with_reducible refine k_lss ?_); refine rl_pure (pv_lss rfl rfl) rfl rfl rfl ?_) | ((with_reducible refine k_add ?_); refine rl_pure (pv_add_in rfl rfl (by omega)) rfl rfl rfl ?_) | ((with_reducible refine k_not ?_); refine rl_pure (pv_not rfl) rfl rfl rfl ?_) | ((with_reducible refine k_indexAddr ?_); refine rl_pure (pv_indexAddr_ro (by rfl) rfl (by omega) (by first | rfl | assumption) (by first | rfl | exact tcells_len _)) rfl rfl rfl ?_) | ((with_reducible refine k_lookup ?_); refine rl_val (pv_lookup_is (by rfl) (by rfl) (by exact ⟨_, rfl⟩) by_memb (by assumption) (by assumption)) rfl rfl rfl ?_) | ((with_reducible refine k_mapUpdate ?_); refine rl_op rfl (op_mapUpdate_at 1 rfl rfl rfl rfl (by first | assumption | exact mapOf_empty) (by exact ⟨_, rfl⟩) (by rfl) fun es c hM => ?_)) | ((with_reducible refine k_pick ?_); (first | refine rl_pure (pv_pick_t rfl by_bd rfl) rfl rfl rfl ?_ | refine rl_pure (pv_pick_f rfl by_bd rfl) rfl rfl rfl ?_)) | ((with_reducible refine k_guard ?_); (first | refine rl_on_yes rfl rfl rfl by_bd rfl ?_ | refine rl_off_t rfl rfl rfl by_bd rfl ?_ | refine rl_off_f rfl rfl rfl by_bd rfl ?_ | refine rl_off_u rfl rfl rfl rfl ?_)) | ((with_reducible refine k_cond ?_); refine aw_cond_t rfl ?_) | ((with_reducible refine k_callv ?_); (first | refine rl_op rfl (op_callF rfl rfl (hnm) rfl ?_) | refine rl_op rfl (op_callF rfl rfl (hx55) rfl ?_))) | (((with_reducible refine k_guard ?_); first | refine rl_if_t rfl rfl rfl rfl ?_ ?_ | refine rl_if_f rfl rfl rfl rfl ?_ ?_) <;> ((fail_if_success (refine imp_known (by assumption) ?_)); (intro hb <;> (have hc := hb) <;> (try simp only [decide_eq_true_eq, decide_eq_false_iff_not, Int.not_lt, Int.not_le, ne_eq, Bool.not_eq_true, Bool.not_eq_false, Decidable.not_not] at hc) <;> (try (exfalso; omega)) <;> (try (exfalso; simp only [Bool.not_eq_eq_eq_not, Bool.not_true, Bool.not_false, decide_eq_true_eq, decide_eq_false_iff_not, ne_eq, Decidable.not_not, Int.not_lt, Int.not_le] at hc; omega)) <;> (try (first | contradiction | (cases hc; done))) <;> (try (first | exact absurd (hb.symm.trans (by assumption) : true = false) (by decide) | exact absurd (hb.symm.trans (by assumption) : false = true) (by decide)))))) | (((with_reducible refine k_cond ?_); refine aw_cond rfl ?_ ?_) <;> ((fail_if_success (refine imp_known (by assumption) ?_)); (intro hb <;> (have hc := hb) <;> (try simp only [decide_eq_true_eq, decide_eq_false_iff_not, Int.not_lt, Int.not_le, ne_eq, Bool.not_eq_true, Bool.not_eq_false, Decidable.not_not] at hc) <;> (try (exfalso; omega)) <;> (try (exfalso; simp only [Bool.not_eq_eq_eq_not, Bool.not_true, Bool.not_false, decide_eq_true_eq, decide_eq_false_iff_not, ne_eq, Decidable.not_not, Int.not_lt, Int.not_le] at hc; omega)) <;> (try (first | contradiction | (cases hc; done))) <;> (try (first | exact absurd (hb.symm.trans (by assumption) : true = false) (by decide) | exact absurd (hb.symm.trans (by assumption) : false = true) (by decide)))))))
      all_goals first
      | ((first | refine ret_r (ret1 rfl by_res (List.nil_sublist _) ⟨_, rfl, ?_⟩) | refine ret_n (ret1 rfl by_res (List.nil_sublist _) ⟨_, rfl, ?_⟩))
         refine ⟨congrArg bool ?_, rfl⟩
         rw [hE]
         clear hT hx55 hnm hS hf hf2 hE hr
         simp_all)
      | (have hS2 := setOfN_put hS x.name
         have hE2 : okL (decide (t.kind = 4)) l [] = okL (decide (t.kind = 4)) (l.drop (i + 1)) (x.name :: sn) := by
           rw [hE]
           clear hT hx55 hnm hS hf hf2 hE hr hS2
           simp_all
         first
         | exact next_of (R := [_]) (i + 1, x.name :: sn, es, c, _) ⟨hlt, hM, hS2, hE2⟩ (by dsimp only; omega) (by (repeat (first | exact sub_nil | refine sub_cons (by first | rfl | (simp; done)) ?_))) (.cons .here (.cons .here .nil))
         | exact next_of (R := [_]) (i + 1, x.name :: sn, es, c, _) ⟨hlt, hM, hS2, hE2⟩ (by dsimp only; omega) (by (repeat (first | exact sub_nil | refine sub_cons (by first | rfl | (simp; done)) ?_))) (.cons .here (.cons (.there .here) .nil))
         | exact next_of (R := [_]) (i + 1, x.name :: sn, es, c, _) ⟨hlt, hM, hS2, hE2⟩ (by dsimp only; omega) (by (repeat (first | exact sub_nil | refine sub_cons (by first | rfl | (simp; done)) ?_))) (.cons (.there .here) (.cons (.there .here) .nil))
         | exact next_of (R := [_]) (i + 1, x.name :: sn, es, c, _) ⟨hlt, hM, hS2, hE2⟩ (by dsimp only; omega) (by (repeat (first | exact sub_nil | refine sub_cons (by first | rfl | (simp; done)) ?_))) (.cons (.there .here) (.cons .here .nil)))
    | true =>
      rw [hsn] at hE
      have hf2 : (f (.string x.name)).getD (.bool false) = .bool true := by rw [hf, hsn]; rfl
      repeat' (first | (with_reducible first | refine aw_seq ?_ | refine rl_nil ?_ | refine aw_region ?_ | refine then_n ?_ | refine aw_block ?_ | refine then_exit ?_ | refine then_ret ?_ | refine in_n ?_ | refine in_ret ?_ | refine aw_exit ?_ | refine aw_ret ?_ | refine aw_skip ?_ | refine in_exit_eq rfl ?_ | refine awr_succ ?_) | ((with_reducible refine k_move ?_); refine rl_pure (pv_move rfl) rfl rfl rfl ?_) | ((with_reducible refine k_assign ?_); refine rl_pure (pv_assign rfl) rfl rfl rfl ?_) | ((with_reducible refine k_load ?_); (first | refine rl_val (vv_load_ro_whole (by rfl) (by rfl) (by first | rfl | exact tcells_len _)) rfl rfl rfl ?_ | refine rl_val (vv_load_box (by rfl) by_memb (by rfl) by_bd) rfl rfl rfl ?_)) | ((with_reducible refine k_fieldAddr ?_); refine rl_pure (pv_fieldAddr rfl) rfl rfl rfl ?_) | ((with_reducible refine k_store ?_); refine rl_op rfl (op_store_box_whole (by rfl) (by rfl) (V.okc_or (by rfl)) by_upd (by first | rfl | exact tcells_len _) (by first | rfl | exact tcells_len _) ?_)) | ((with_reducible refine k_alloc ?_); refine rl_op rfl (op_alloc (by decide) rfl fun b => ?_)) | ((with_reducible refine k_lss ?_); refine rl_pure (pv_lss rfl rfl) rfl rfl rfl ?_) | ((with_reducible refine k_not ?_); refine rl_pure (pv_not rfl) rfl rfl rfl ?_) | ((with_reducible refine k_indexAddr ?_); refine rl_pure (pv_indexAddr_ro (by rfl) rfl (by omega) (by first | rfl | assumption) (by first | rfl | exact tcells_len _)) rfl rfl rfl ?_) | ((with_reducible refine k_lookup ?_); refine rl_val (pv_lookup_is (by rfl) (by rfl) (by exact ⟨_, rfl⟩) by_memb (by assumption) (by assumption)) rfl rfl rfl ?_) | ((with_reducible refine k_pick ?_); (first | refine rl_pure (pv_pick_t rfl by_bd rfl) rfl rfl rfl ?_ | refine rl_pure (pv_pick_f rfl by_bd rfl) rfl rfl rfl ?_)) | ((with_reducible refine k_guard ?_); (first | refine rl_on_yes rfl rfl rfl by_bd rfl ?_ | refine rl_off_f rfl rfl rfl by_bd rfl ?_ | refine rl_off_u rfl rfl rfl rfl ?_)) | ((with_reducible refine k_cond ?_); refine aw_cond_t rfl ?_) | ((with_reducible refine k_callv ?_); refine rl_op rfl (op_callF rfl rfl (hnm) rfl ?_)) | (((with_reducible refine k_guard ?_); first | refine rl_if_t rfl rfl rfl rfl ?_ ?_ | refine rl_if_f rfl rfl rfl rfl ?_ ?_) <;> ((fail_if_success (refine imp_known (by assumption) ?_)); (intro hb <;> (have hc := hb) <;> (try simp only [decide_eq_true_eq, decide_eq_false_iff_not, Int.not_lt, Int.not_le, ne_eq, Bool.not_eq_true, Bool.not_eq_false, Decidable.not_not] at hc) <;> (try (exfalso; omega)) <;> (try (exfalso; simp only [Bool.not_eq_eq_eq_not, Bool.not_true, Bool.not_false, decide_eq_true_eq, decide_eq_false_iff_not, ne_eq, Decidable.not_not, Int.not_lt, Int.not_le] at hc; omega)) <;> (try (first | contradiction | (cases hc; done))) <;> (try (first | exact absurd (hb.symm.trans (by assumption) : true = false) (by decide) | exact absurd (hb.symm.trans (by assumption) : false = true) (by decide)))))) | (((with_reducible refine k_cond ?_); refine aw_cond rfl ?_ ?_) <;> ((fail_if_success (refine imp_known (by assumption) ?_)); (intro hb <;> (have hc := hb) <;> (try simp only [decide_eq_true_eq, decide_eq_false_iff_not, Int.not_lt, Int.not_le, ne_eq, Bool.not_eq_true, Bool.not_eq_false, Decidable.not_not] at hc) <;> (try (exfalso; omega)) <;> (try (exfalso; simp only [Bool.not_eq_eq_eq_not, Bool.not_true, Bool.not_false, decide_eq_true_eq, decide_eq_false_iff_not, ne_eq, Decidable.not_not, Int.not_lt, Int.not_le] at hc; omega)) <;> (try (first | contradiction | (cases hc; done))) <;> (try (first | exact absurd (hb.symm.trans (by assumption) : true = false) (by decide) | exact absurd (hb.symm.trans (by assumption) : false = true) (by decide)))))))
      all_goals
        (first | refine ret_r (ret1 rfl by_res (List.nil_sublist _) ⟨_, rfl, ?_⟩) | refine ret_n (ret1 rfl by_res (List.nil_sublist _) ⟨_, rfl, ?_⟩))
        refine ⟨congrArg bool ?_, rfl⟩
        rw [hE]
        clear hT hx55 hnm hS hf hf2 hE hr
        simp_all
  · have hk : i = l.length := by omega
    subst hk
    repeat' (first | (with_reducible first | refine aw_seq ?_ | refine rl_nil ?_ | refine aw_region ?_ | refine then_n ?_ | refine aw_block ?_ | refine then_exit ?_ | refine then_ret ?_ | refine in_n ?_ | refine in_ret ?_ | refine aw_exit ?_ | refine aw_ret ?_ | refine aw_skip ?_ | refine in_exit_eq rfl ?_ | refine awr_succ ?_) | ((with_reducible refine k_assign ?_); refine rl_pure (pv_assign rfl) rfl rfl rfl ?_) | ((with_reducible refine k_load ?_); refine rl_val (vv_load_box (by rfl) by_memb (by rfl) by_bd) rfl rfl rfl ?_) | ((with_reducible refine k_fieldAddr ?_); refine rl_pure (pv_fieldAddr rfl) rfl rfl rfl ?_) | ((with_reducible refine k_lss ?_); refine rl_pure (pv_lss rfl rfl) rfl rfl rfl ?_) | ((with_reducible refine k_leq ?_); refine rl_pure (pv_leq rfl rfl) rfl rfl rfl ?_) | ((with_reducible refine k_len ?_); refine rl_pure (pv_len_ro' (by rfl) by_len) rfl rfl rfl ?_) | (((with_reducible refine k_cond ?_); refine aw_cond rfl ?_ ?_) <;> ((fail_if_success (refine imp_known (by assumption) ?_)); (intro hb <;> (have hc := hb) <;> (try simp only [decide_eq_true_eq, decide_eq_false_iff_not, Int.not_lt, Int.not_le, ne_eq, Bool.not_eq_true, Bool.not_eq_false, Decidable.not_not] at hc) <;> (try (exfalso; omega)) <;> (try (exfalso; simp only [Bool.not_eq_eq_eq_not, Bool.not_true, Bool.not_false, decide_eq_true_eq, decide_eq_false_iff_not, ne_eq, Decidable.not_not, Int.not_lt, Int.not_le] at hc; omega)) <;> (try (first | contradiction | (cases hc; done))) <;> (try (first | exact absurd (hb.symm.trans (by assumption) : true = false) (by decide) | exact absurd (hb.symm.trans (by assumption) : false = true) (by decide)))))))
    (first | refine ret_r (ret1 rfl by_res (List.nil_sublist _) ⟨_, rfl, ?_⟩) | refine ret_n (ret1 rfl by_res (List.nil_sublist _) ⟨_, rfl, ?_⟩))
    refine ⟨?_, rfl⟩
    rw [hE, List.drop_length, okL, Bool.and_true]
    exact congrArg bool (decide_eq_decide.2 (by omega))
end Go.Proofs.Ytepmllodaoanmaa

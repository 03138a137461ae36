import Derived.Test.YtepmllodaoanmaaK24
import Derived.Test.YtepmllodaoanmaaK21
set_option linter.unusedVariables false
set_option linter.unusedSimpArgs false
namespace Go.Proofs.Ytepmllodaoanmaa
open Go Go.AX
set_option maxHeartbeats 8000000
set_option maxRecDepth 20000
attribute [local irreducible] AW RL OP PureV ValV HV DL Tri TriR Fun RetOk ResV
def lstD (t : Typ) : Dat := if vld t = 0 ∧ ncT t ≤ 4000 then lstT t else D00
def lstE (t : Typ) : Int := if vld t = 0 then (if ncT t ≤ 4000 then 0 else 3) else vld t
theorem Least25 (t : Typ) (hw : t.wt ≤ 1048576) (h50 : okT t = true → Fun Try.prog 50 [.agg t.cells] (.agg (lstT t).cells)) :
    Fun Try.prog 25 [.agg t.cells] (.tup [.agg (lstD t).cells, int (lstE t)]) := by
  have hv := valid13 t hw
  have hs := leastCount49 _ t hw (Nat.le_refl _)
  rw [cells_eq] at hv hs h50 ⊢
  by_cases h0 : vld t = 0
  · have hs := hs (vld_ok h0)
    have h5 := h50 (vld_ok h0)
    rw [dcells_eq] at h5
    clear h50
    by_cases hn : ncT t ≤ 4000
    · have hD : lstD t = lstT t := if_pos ⟨h0, hn⟩
      have hE : lstE t = 0 := by rw [lstE, if_pos h0, if_pos hn]
      have hm : min (ncT t) 4001 ≤ 4000 := by omega
      refine Fun.of (TriR.of (tri_of Try.func25 rfl Try.ntmps25 rfl fun j => ?_))
      repeat' (first | (with_reducible first | refine aw_seq ?_ | refine rl_nil ?_ | refine aw_region ?_ | refine then_n ?_ | refine aw_block ?_ | refine then_exit ?_ | refine then_ret ?_ | refine in_n ?_ | refine in_ret ?_ | refine aw_exit ?_ | refine aw_ret ?_ | refine aw_skip ?_ | refine in_exit_eq rfl ?_ | refine awr_succ ?_) | ((with_reducible refine k_move ?_); refine rl_pure (pv_move rfl) rfl rfl rfl ?_) | ((with_reducible refine k_assign ?_); refine rl_pure (pv_assign rfl) rfl rfl rfl ?_) | ((with_reducible refine k_load ?_); refine rl_val (vv_load_box_whole (by rfl) by_memb (by rfl) (by first | rfl | exact tcells_len _ | exact dcells_len _)) rfl rfl rfl ?_) | ((with_reducible refine k_store ?_); refine rl_op rfl (op_store_box_whole (by rfl) (by rfl) (V.okc_or (by rfl)) by_upd (by first | rfl | exact tcells_len _ | exact dcells_len _) (by first | rfl | exact tcells_len _ | exact dcells_len _) ?_)) | ((with_reducible refine k_alloc ?_); refine rl_op rfl (op_alloc (by decide) rfl fun b => ?_)) | ((with_reducible refine k_box ?_); refine rl_op rfl (op_box rfl (V.okc_or (by rfl)) rfl fun b => ?_)) | ((with_reducible refine k_neq ?_); refine rl_pure (pv_neq rfl rfl) rfl rfl rfl ?_) | ((with_reducible refine k_gtr ?_); refine rl_pure (pv_gtr rfl rfl) rfl rfl rfl ?_) | ((with_reducible refine k_callv ?_); (first | refine rl_op rfl (op_callF rfl rfl (hv) rfl ?_) | refine rl_op rfl (op_callF rfl rfl (hs) rfl ?_) | refine rl_op rfl (op_callF rfl rfl (h5) rfl ?_))) | (((with_reducible refine k_cond ?_); refine aw_cond rfl ?_ ?_) <;> ((fail_if_success (refine imp_known (by assumption) ?_)); (intro hb <;> (have hc := hb) <;> (try simp only [decide_eq_true_eq, decide_eq_false_iff_not, Int.not_lt, Int.not_le, ne_eq, Bool.not_eq_true, Bool.not_eq_false, Decidable.not_not] at hc) <;> (try (exfalso; omega)) <;> (try (exfalso; simp only [Bool.not_eq_eq_eq_not, Bool.not_true, Bool.not_false, decide_eq_true_eq, decide_eq_false_iff_not, ne_eq, Decidable.not_not, Int.not_lt, Int.not_le] at hc; omega)) <;> (try (first | contradiction | (cases hc; done))) <;> (try (first | exact absurd (hb.symm.trans (by assumption) : true = false) (by decide) | exact absurd (hb.symm.trans (by assumption) : false = true) (by decide)))))))
      all_goals first
      | (exfalso; omega)
      | ((first | refine ret_r (ret2 rfl by_res by_res (List.nil_sublist _) ⟨_, rfl, ?_⟩) | refine ret_n (ret2 rfl by_res by_res (List.nil_sublist _) ⟨_, rfl, ?_⟩))
         refine ⟨?_, rfl⟩
         rw [hD, hE, dcells_eq])
    · have hD : lstD t = D00 := if_neg fun h => hn h.2
      have hE : lstE t = 3 := by rw [lstE, if_pos h0, if_neg hn]
      have hm : min (ncT t) 4001 = 4001 := by omega
      clear h5
      refine Fun.of (TriR.of (tri_of Try.func25 rfl Try.ntmps25 rfl fun j => ?_))
      repeat' (first | (with_reducible first | refine aw_seq ?_ | refine rl_nil ?_ | refine aw_region ?_ | refine then_n ?_ | refine aw_block ?_ | refine then_exit ?_ | refine then_ret ?_ | refine in_n ?_ | refine in_ret ?_ | refine aw_exit ?_ | refine aw_ret ?_ | refine aw_skip ?_ | refine in_exit_eq rfl ?_ | refine awr_succ ?_) | ((with_reducible refine k_move ?_); refine rl_pure (pv_move rfl) rfl rfl rfl ?_) | ((with_reducible refine k_assign ?_); refine rl_pure (pv_assign rfl) rfl rfl rfl ?_) | ((with_reducible refine k_load ?_); refine rl_val (vv_load_box_whole (by rfl) by_memb (by rfl) (by first | rfl | exact tcells_len _ | exact dcells_len _)) rfl rfl rfl ?_) | ((with_reducible refine k_store ?_); refine rl_op rfl (op_store_box_whole (by rfl) (by rfl) (V.okc_or (by rfl)) by_upd (by first | rfl | exact tcells_len _ | exact dcells_len _) (by first | rfl | exact tcells_len _ | exact dcells_len _) ?_)) | ((with_reducible refine k_alloc ?_); refine rl_op rfl (op_alloc (by decide) rfl fun b => ?_)) | ((with_reducible refine k_box ?_); refine rl_op rfl (op_box rfl (V.okc_or (by rfl)) rfl fun b => ?_)) | ((with_reducible refine k_neq ?_); refine rl_pure (pv_neq rfl rfl) rfl rfl rfl ?_) | ((with_reducible refine k_gtr ?_); refine rl_pure (pv_gtr rfl rfl) rfl rfl rfl ?_) | ((with_reducible refine k_build ?_); refine rl_pure (pv_build rfl by_fill) rfl rfl rfl ?_) | ((with_reducible refine k_callv ?_); (first | refine rl_op rfl (op_callF rfl rfl (hv) rfl ?_) | refine rl_op rfl (op_callF rfl rfl (hs) rfl ?_))) | (((with_reducible refine k_cond ?_); refine aw_cond rfl ?_ ?_) <;> ((fail_if_success (refine imp_known (by assumption) ?_)); (intro hb <;> (have hc := hb) <;> (try simp only [decide_eq_true_eq, decide_eq_false_iff_not, Int.not_lt, Int.not_le, ne_eq, Bool.not_eq_true, Bool.not_eq_false, Decidable.not_not] at hc) <;> (try (exfalso; omega)) <;> (try (exfalso; simp only [Bool.not_eq_eq_eq_not, Bool.not_true, Bool.not_false, decide_eq_true_eq, decide_eq_false_iff_not, ne_eq, Decidable.not_not, Int.not_lt, Int.not_le] at hc; omega)) <;> (try (first | contradiction | (cases hc; done))) <;> (try (first | exact absurd (hb.symm.trans (by assumption) : true = false) (by decide) | exact absurd (hb.symm.trans (by assumption) : false = true) (by decide)))))))
      all_goals first
      | (exfalso; omega)
      | (refine ret_r (retok_box_le 2 .here rfl le_nil_ro (retok_box_le 4 .here rfl le_nil_ro (ret2 rfl by_res by_res (List.nil_sublist _) ⟨_, rfl, ?_⟩)))
         refine ⟨?_, rfl⟩
         rw [hD, hE]
         rfl)
  · have hD : lstD t = D00 := if_neg fun h => h0 h.1
    have hE : lstE t = vld t := if_neg h0
    clear hs h50
    refine Fun.of (TriR.of (tri_of Try.func25 rfl Try.ntmps25 rfl fun j => ?_))
    repeat' (first | (with_reducible first | refine aw_seq ?_ | refine rl_nil ?_ | refine aw_region ?_ | refine then_n ?_ | refine aw_block ?_ | refine then_exit ?_ | refine then_ret ?_ | refine in_n ?_ | refine in_ret ?_ | refine aw_exit ?_ | refine aw_ret ?_ | refine aw_skip ?_ | refine in_exit_eq rfl ?_ | refine awr_succ ?_) | ((with_reducible refine k_move ?_); refine rl_pure (pv_move rfl) rfl rfl rfl ?_) | ((with_reducible refine k_assign ?_); refine rl_pure (pv_assign rfl) rfl rfl rfl ?_) | ((with_reducible refine k_load ?_); refine rl_val (vv_load_box_whole (by rfl) by_memb (by rfl) (by first | rfl | exact tcells_len _ | exact dcells_len _)) rfl rfl rfl ?_) | ((with_reducible refine k_store ?_); refine rl_op rfl (op_store_box_whole (by rfl) (by rfl) (V.okc_or (by rfl)) by_upd (by first | rfl | exact tcells_len _ | exact dcells_len _) (by first | rfl | exact tcells_len _ | exact dcells_len _) ?_)) | ((with_reducible refine k_alloc ?_); refine rl_op rfl (op_alloc (by decide) rfl fun b => ?_)) | ((with_reducible refine k_box ?_); refine rl_op rfl (op_box rfl (V.okc_or (by rfl)) rfl fun b => ?_)) | ((with_reducible refine k_neq ?_); refine rl_pure (pv_neq rfl rfl) rfl rfl rfl ?_) | ((with_reducible refine k_build ?_); refine rl_pure (pv_build rfl by_fill) rfl rfl rfl ?_) | ((with_reducible refine k_callv ?_); refine rl_op rfl (op_callF rfl rfl (hv) rfl ?_)) | (((with_reducible refine k_cond ?_); refine aw_cond rfl ?_ ?_) <;> ((fail_if_success (refine imp_known (by assumption) ?_)); (intro hb <;> (have hc := hb) <;> (try simp only [decide_eq_true_eq, decide_eq_false_iff_not, Int.not_lt, Int.not_le, ne_eq, Bool.not_eq_true, Bool.not_eq_false, Decidable.not_not] at hc) <;> (try (exfalso; omega)) <;> (try (exfalso; simp only [Bool.not_eq_eq_eq_not, Bool.not_true, Bool.not_false, decide_eq_true_eq, decide_eq_false_iff_not, ne_eq, Decidable.not_not, Int.not_lt, Int.not_le] at hc; omega)) <;> (try (first | contradiction | (cases hc; done))) <;> (try (first | exact absurd (hb.symm.trans (by assumption) : true = false) (by decide) | exact absurd (hb.symm.trans (by assumption) : false = true) (by decide)))))))
    all_goals first
    | (exfalso; omega)
    | (refine ret_r (retok_box_le 2 .here rfl le_nil_ro (retok_box_le 4 .here rfl le_nil_ro (ret2 rfl by_res by_res (List.nil_sublist _) ⟨_, rfl, ?_⟩)))
       refine ⟨?_, rfl⟩
       rw [hD, hE]
       rfl)
theorem okD_rep {n : Nat} {d : Dat} (h : d.ok) : okD (List.replicate n d) := okD_mem.2 fun x hx => by rw [List.eq_of_mem_replicate hx]; exact h
theorem D00_ok : D00.ok := by
  rw [dok_eq]
  refine ⟨⟨fun x hx => ?_, Nat.zero_le _, Nat.zero_le _⟩, trivial⟩
  cases hx
theorem lstRow_ok : ∀ {l : List Typ}, (∀ x ∈ l, (lstT x).ok) → okD (lstRow l)
  | [], _ => trivial
  | t :: ts, h => by
    rw [lstRow, okD]
    refine ⟨?_, lstRow_ok fun x hx => h x (List.mem_cons_of_mem _ hx)⟩
    split
    · exact D00_ok
    · exact h t (List.mem_cons_self ..)
theorem lstT_ok : ∀ (n : Nat) (t : Typ), t.wt ≤ n → okT t = true → (lstT t).ok := by
  intro n
  induction n with
  | zero => intro t h; have := wt_eq t; omega
  | succ n ih =>
    intro t hw hok
    have hwe := wt_eq t
    have hkid : ∀ x ∈ t.l, (lstT x).ok := fun x hx => by
      obtain ⟨i, hi⟩ := List.mem_iff_getElem?.1 hx
      exact ih x (by have := wtL_take hi; omega) (okT_kid hok x hx)
    have hhd : ∀ k : Nat, k ≤ 1048576 → (lstHd t.l k).length ≤ 1048576 ∧ okD (lstHd t.l k) := fun k hk => by
      cases hl : t.l with
      | nil => exact ⟨by simp [lstHd], trivial⟩
      | cons x ts =>
        rw [lstHd, List.length_replicate]
        exact ⟨hk, okD_rep (hkid x (by rw [hl]; exact List.mem_cons_self ..))⟩
    have hcl := okT_cls hok
    rw [lstT_eq]
    refine (dok_eq _).2 ⟨⟨?_, ?_, ?_⟩, ?_⟩
    · dsimp only [Dat.b]
      split
      · intro x hx
        rw [List.eq_of_mem_replicate hx]
        decide
      · intro x hx; cases hx
    · dsimp only [Dat.b]
      split
      · rw [List.length_replicate]; omega
      · simp
    · dsimp only [Dat.l]
      repeat' split
      · rw [lstRow_len]; omega
      · exact (hhd 1 (by omega)).1
      · exact (hhd _ (by omega)).1
      · simp
    · dsimp only [Dat.l]
      repeat' split
      · exact lstRow_ok hkid
      · exact (hhd 1 (by omega)).2
      · exact (hhd _ (by omega)).2
      · trivial
theorem lstD_ok (t : Typ) : (lstD t).ok := by
  unfold lstD
  split
  · rename_i h; exact lstT_ok _ t (Nat.le_refl _) (vld_ok h.1)
  · exact D00_ok
theorem bitsLaw6 (t : Typ) (hw : t.wt ≤ 1048576) (h24 : Fun Try.prog 24 [.agg t.cells] (.tup [.agg (lstD t).cells, int (lstE t)])) (h25 : Fun Try.prog 25 [.agg t.cells] (.tup [.agg (lstD t).cells, int (lstE t)])) :
    TriR Try.prog 6 [.agg t.cells] [] fun v H' => v = bool true ∧ H' = [] := by
  have h7 := over7 t hw
  have h9 := known9
  have h22 := Bits22 t hw
  have h23 := Bits23 t hw
  have hs := same21 _ (lstD t) (lstD t) (Nat.le_refl _) (lstD_ok t) (lstD_ok t)
  rw [sameD_t.2 rfl] at hs
  obtain ⟨x, y, z, hB⟩ : ∃ x y z, bitsV t = .tup [int x, int y, int z] := by
    unfold bitsV
    split
    · exact ⟨_, _, _, rfl⟩
    · exact ⟨_, _, _, rfl⟩
  rw [hB] at h22 h23
  rw [dcells_eq] at hs h24 h25
  rw [cells_eq] at h7 h22 h23 h24 h25 ⊢
  refine TriR.of (tri_of Try.func6 rfl Try.ntmps6 rfl fun j => ?_)
  repeat' (first | (with_reducible first | refine aw_seq ?_ | refine rl_nil ?_ | refine aw_region ?_ | refine then_n ?_ | refine aw_block ?_ | refine then_exit ?_ | refine then_ret ?_ | refine in_n ?_ | refine in_ret ?_ | refine aw_exit ?_ | refine aw_ret ?_ | refine aw_skip ?_ | refine in_exit_eq rfl ?_ | refine awr_succ ?_) | ((with_reducible refine k_assign ?_); refine rl_pure (pv_assign rfl) rfl rfl rfl ?_) | ((with_reducible refine k_load ?_); refine rl_val (vv_load_box_whole (by rfl) by_memb (by rfl) (by first | rfl | exact tcells_len _ | exact dcells_len _)) rfl rfl rfl ?_) | ((with_reducible refine k_box ?_); refine rl_op rfl (op_box rfl (V.okc_or (by rfl)) rfl fun b => ?_)))
  (first | refine rl_op rfl (op_callR rfl rfl .nil h7 rfl ?_) | refine dl_op (by assumption) by_wants (op_callR rfl rfl .nil h7 rfl ?_))
  rintro _ _ ⟨⟨g, rfl⟩, rfl⟩
  repeat' (first | (with_reducible first | refine aw_seq ?_ | refine rl_nil ?_ | refine aw_region ?_ | refine then_n ?_ | refine aw_block ?_ | refine then_exit ?_ | refine then_ret ?_ | refine in_n ?_ | refine in_ret ?_ | refine aw_exit ?_ | refine aw_ret ?_ | refine aw_skip ?_ | refine in_exit_eq rfl ?_ | refine awr_succ ?_) | ((with_reducible refine k_move ?_); refine rl_pure (pv_move rfl) rfl rfl rfl ?_) | ((with_reducible refine k_assign ?_); refine rl_pure (pv_assign rfl) rfl rfl rfl ?_) | ((with_reducible refine k_load ?_); refine rl_val (vv_load_box_whole (by rfl) by_memb (by rfl) (by first | rfl | exact tcells_len _ | exact dcells_len _)) rfl rfl rfl ?_) | ((with_reducible refine k_store ?_); refine rl_op rfl (op_store_box_whole (by rfl) (by rfl) (V.okc_or (by rfl)) by_upd (by first | rfl | exact tcells_len _ | exact dcells_len _) (by first | rfl | exact tcells_len _ | exact dcells_len _) ?_)) | ((with_reducible refine k_alloc ?_); refine rl_op rfl (op_alloc (by decide) rfl fun b => ?_)) | ((with_reducible refine k_eql ?_); refine rl_pure (pv_eql rfl rfl) rfl rfl rfl ?_) | ((with_reducible refine k_neq ?_); refine rl_pure (pv_neq rfl rfl) rfl rfl rfl ?_) | ((with_reducible refine k_extract ?_); refine rl_pure (pv_extract rfl rfl) rfl rfl rfl ?_) | ((with_reducible refine k_pick ?_); (first | refine rl_pure (pv_pick_t rfl by_bd rfl) rfl rfl rfl ?_ | refine rl_pure (pv_pick_f rfl by_bd rfl) rfl rfl rfl ?_)) | ((with_reducible refine k_guard ?_); refine rl_on_yes rfl rfl rfl by_bd rfl ?_) | ((with_reducible refine k_callv ?_); (first | refine rl_op rfl (op_callF rfl rfl (h9) rfl ?_) | refine rl_op rfl (op_callF rfl rfl (h22) rfl ?_) | refine rl_op rfl (op_callF rfl rfl (h23) rfl ?_) | refine rl_op rfl (op_callF rfl rfl (h24) rfl ?_) | refine rl_op rfl (op_callF rfl rfl (h25) rfl ?_) | refine rl_op rfl (op_callF rfl rfl (hs) rfl ?_))) | (((with_reducible refine k_guard ?_); first | refine rl_if_t rfl rfl rfl rfl ?_ ?_ | refine rl_if_f rfl rfl rfl rfl ?_ ?_) <;> ((fail_if_success (refine imp_known (by assumption) ?_)); (intro hb <;> (have hc := hb) <;> (try simp only [decide_eq_true_eq, decide_eq_false_iff_not, Int.not_lt, Int.not_le, ne_eq, Bool.not_eq_true, Bool.not_eq_false, Decidable.not_not] at hc) <;> (try (exfalso; omega)) <;> (try (exfalso; simp only [Bool.not_eq_eq_eq_not, Bool.not_true, Bool.not_false, decide_eq_true_eq, decide_eq_false_iff_not, ne_eq, Decidable.not_not, Int.not_lt, Int.not_le] at hc; omega)) <;> (try (first | contradiction | (cases hc; done))) <;> (try (first | exact absurd (hb.symm.trans (by assumption) : true = false) (by decide) | exact absurd (hb.symm.trans (by assumption) : false = true) (by decide)))))) | (((with_reducible refine k_cond ?_); refine aw_cond rfl ?_ ?_) <;> ((fail_if_success (refine imp_known (by assumption) ?_)); (intro hb <;> (have hc := hb) <;> (try simp only [decide_eq_true_eq, decide_eq_false_iff_not, Int.not_lt, Int.not_le, ne_eq, Bool.not_eq_true, Bool.not_eq_false, Decidable.not_not] at hc) <;> (try (exfalso; omega)) <;> (try (exfalso; simp only [Bool.not_eq_eq_eq_not, Bool.not_true, Bool.not_false, decide_eq_true_eq, decide_eq_false_iff_not, ne_eq, Decidable.not_not, Int.not_lt, Int.not_le] at hc; omega)) <;> (try (first | contradiction | (cases hc; done))) <;> (try (first | exact absurd (hb.symm.trans (by assumption) : true = false) (by decide) | exact absurd (hb.symm.trans (by assumption) : false = true) (by decide)))))))
  all_goals first
  | ((first | refine ret_r (ret1 rfl by_res (List.nil_sublist _) ⟨_, rfl, ?_⟩) | refine ret_n (ret1 rfl by_res (List.nil_sublist _) ⟨_, rfl, ?_⟩))
     exact ⟨rfl, rfl⟩)
  | skip
  (set_option pp.deepTerms false in set_option pp.deepTerms.threshold 3 in trace_state)
end Go.Proofs.Ytepmllodaoanmaa

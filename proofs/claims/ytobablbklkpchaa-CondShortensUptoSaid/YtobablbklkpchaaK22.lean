import Derived.Test.YtobablbklkpchaaK21
set_option linter.unusedVariables false
set_option linter.unusedSimpArgs false
namespace Go.Proofs.Ytobablbklkpchaa
open Go Go.AX
set_option maxHeartbeats 8000000
set_option maxRecDepth 20000
attribute [local irreducible] AW RL OP PureV ValV HV DL Tri TriR Fun RetOk ResV
/-- Which blocks are reached over edges, without one. -/
def rch (wo : Int) : List (Int × Int) → (Int → Bool) → (Int → Bool)
  | [], S => S
  | e :: r, S => rch wo r (if S e.1 = true ∧ e.2 ≠ wo then fun k => S k || decide (k = e.2) else S)
def rch0 (wo : Int) : Int → Bool := fun k => decide (k = 0) && decide (wo ≠ 0)
theorem brs_set0 {n : Nat} (c : Bool) : (brs n fun _ => false).set 0 [bool c] = brs n fun k => decide (k = 0) && c := by
  cases c
  · apply List.ext_getElem?
    intro k
    rw [List.getElem?_set]
    by_cases h : k < n
    · rw [brs_get _ h, brs_get _ h]
      split
      · rename_i e; subst e; rw [if_pos (by rw [brs_len]; exact h)]; simp
      · simp
    · rw [List.getElem?_eq_none (l := brs n fun k => decide (k = 0) && false) (by rw [brs_len]; omega)]
      split
      · rename_i e; subst e; rw [if_neg (by rw [brs_len]; exact h)]
      · rw [List.getElem?_eq_none (by rw [brs_len]; omega)]
  · rw [brs_set]
    exact brs_cong fun q => by simp
theorem reached41 (n : Nat) (es : List (Int × Int)) (wo : Int) (hn : 0 < n ∧ n ≤ 400) (he : ∀ e ∈ es, (0 ≤ e.1 ∧ e.1 < n) ∧ 0 ≤ e.2 ∧ e.2 < n) (hl : es.length ≤ 1000000) :
    Fun Try.prog 41 [int n, .ro (es.map prow), int wo] (.ro (brs n (rch wo es (rch0 wo)))) := by
  refine Fun.of (TriR.of (tri_of Try.func41 rfl Try.ntmps41 rfl fun j => ?_))
  repeat' (first | (with_reducible first | refine aw_seq ?_ | refine rl_nil ?_ | refine aw_region ?_ | refine then_n ?_ | refine aw_block ?_ | refine then_exit ?_ | refine then_ret ?_ | refine in_n ?_ | refine in_ret ?_ | refine aw_exit ?_ | refine aw_ret ?_ | refine aw_skip ?_ | refine in_exit_eq rfl ?_) | ((with_reducible refine k_move ?_); refine rl_pure (pv_move rfl) rfl rfl rfl ?_) | ((with_reducible refine k_assign ?_); refine rl_pure (pv_assign rfl) rfl rfl rfl ?_) | ((with_reducible refine k_neq ?_); refine rl_pure (pv_neq rfl rfl) rfl rfl rfl ?_) | ((with_reducible refine k_indexAddr ?_); refine rl_pure (pv_indexAddr_own (by rfl) by_memb rfl (by first | omega | (simp only [List.length_cons, List.length_nil, List.length_append, List.length_map, List.length_replicate, List.length_set, brs_len]; omega))) rfl rfl rfl ?_) | ((with_reducible refine k_makeSlice ?_); refine rl_op rfl (op_makeSlice rfl rfl rfl rfl by_bound by_bound rfl fun sv => ?_)))
  rw [show List.replicate n [V.raw (.bool false)] = brs n fun _ => false from brs_rep _]
  refine rl_op rfl (op_store_vp (E := 4) (rows := brs n fun _ => false) (r := [bool false]) rfl rfl (V.okc_or rfl) by_upd ?_ rfl (Nat.le_refl 1) ?_)
  · exact brs_get (fun _ => false) hn.1
  rw [show (brs n fun _ => false).set (0 : Int).toNat (setAll [bool false] 0 (bool (decide (wo ≠ 0))).cells) = brs n (rch0 wo) from brs_set0 _]
  repeat' (first | (with_reducible first | refine aw_seq ?_ | refine rl_nil ?_ | refine aw_region ?_ | refine then_n ?_ | refine aw_block ?_ | refine then_exit ?_ | refine then_ret ?_ | refine in_n ?_ | refine in_ret ?_ | refine aw_exit ?_ | refine aw_ret ?_ | refine aw_skip ?_ | refine in_exit_eq rfl ?_) | ((with_reducible refine k_assign ?_); refine rl_pure (pv_assign rfl) rfl rfl rfl ?_))
  refine aw_iter (α := Nat × (Int → Bool)) (fun q => [(1, .ro (es.map prow)), (2, int wo), (7, .own sv), (8, int q.1)])
    (fun q => [.vec sv 4 1 (brs n q.2)]) (fun q => q.1 ≤ es.length ∧ rch wo es (rch0 wo) = rch wo (es.drop q.1) q.2) (fun q => es.length - q.1)
    (0, rch0 wo) ⟨Nat.zero_le _, rfl⟩ (by (repeat (first | exact sub_nil | refine sub_cons (by first | rfl | (simp; done)) ?_))) (.cons .here .nil) fun q hI => ?_
  obtain ⟨k, S⟩ := q
  dsimp only at hI ⊢
  obtain ⟨hk, hS⟩ := hI
  rcases Nat.lt_or_ge k es.length with h | h
  · obtain ⟨e, hx⟩ : ∃ e, es[k]? = some e := ⟨_, List.getElem?_eq_getElem h⟩
    have hr : (es.map prow)[k]? = some (prow e) := by simp [hx]
    have her := he e (List.mem_of_getElem? hx)
    have hd : es.drop k = e :: es.drop (k + 1) := by
      obtain ⟨_, rfl⟩ := List.getElem?_eq_some_iff.1 hx
      exact List.drop_eq_getElem_cons h
    rw [hd, rch] at hS
    have hg : (brs n S)[e.1.toNat]? = some [bool (S e.1)] := by
      rw [brs_get _ (by omega), show ((e.1.toNat : Nat) : Int) = e.1 by omega]
    cases hSe : S e.1 with
    | true =>
      rw [hSe] at hg
      repeat' (first | (with_reducible first | refine aw_seq ?_ | refine rl_nil ?_ | refine aw_region ?_ | refine then_n ?_ | refine aw_block ?_ | refine then_exit ?_ | refine then_ret ?_ | refine in_n ?_ | refine in_ret ?_ | refine aw_exit ?_ | refine aw_ret ?_ | refine aw_skip ?_ | refine in_exit_eq rfl ?_) | ((with_reducible refine k_move ?_); refine rl_pure (pv_move rfl) rfl rfl rfl ?_) | ((with_reducible refine k_assign ?_); refine rl_pure (pv_assign rfl) rfl rfl rfl ?_) | ((with_reducible refine k_load ?_); (first | refine rl_val (vv_load_ro (by rfl) (by rfl) by_bd) rfl rfl rfl ?_ | refine rl_val (vv_load_vp (by rfl) by_memb by_bd (by rfl) by_bd) rfl rfl rfl ?_)) | ((with_reducible refine k_neq ?_); refine rl_pure (pv_neq rfl rfl) rfl rfl rfl ?_) | ((with_reducible refine k_lss ?_); refine rl_pure (pv_lss rfl rfl) rfl rfl rfl ?_) | ((with_reducible refine k_add ?_); refine rl_pure (pv_add_in rfl rfl (by omega)) rfl rfl rfl ?_) | ((with_reducible refine k_len ?_); refine rl_pure (pv_len_ro' (by rfl) by_len) rfl rfl rfl ?_) | ((with_reducible refine k_indexAddr ?_); (first | refine rl_pure (pv_indexAddr_ro (by rfl) rfl (by omega) (by first | rfl | assumption) (by first | rfl | exact ins_len _ | exact prow_len _)) rfl rfl rfl ?_ | refine rl_pure (pv_indexAddr_own (by rfl) by_memb rfl (by first | omega | (simp only [List.length_cons, List.length_nil, List.length_append, List.length_map, List.length_replicate, List.length_set, brs_len]; omega))) rfl rfl rfl ?_ | refine rl_pure (pv_indexAddr_arr_ro (by rfl) rfl by_bound) rfl rfl rfl ?_)) | ((with_reducible refine k_pick ?_); refine rl_pure (pv_pick_t rfl by_bd rfl) rfl rfl rfl ?_) | ((with_reducible refine k_guard ?_); refine rl_on_yes rfl rfl rfl by_bd rfl ?_) | ((with_reducible refine k_store ?_); refine rl_op rfl (st_brs (by rfl) (by rfl) by_upd by_bound ?_)) | (((with_reducible refine k_cond ?_); refine aw_cond rfl ?_ ?_) <;> intro hb <;> (have hc := hb) <;> (try simp only [decide_eq_true_eq, decide_eq_false_iff_not, Int.not_lt, Int.not_le, ne_eq, Bool.not_eq_true, Bool.not_eq_false, Decidable.not_not] at hc) <;> (try (exfalso; omega)) <;> (try (first | contradiction | (cases hc; done)))))
      · rw [if_pos ⟨hSe, hc⟩] at hS
        refine next_of (R := []) (k + 1, _) ⟨h, ?_⟩ (by dsimp only; omega) (by (repeat (first | exact sub_nil | refine sub_cons (by first | rfl | (simp; done)) ?_))) (.cons .here .nil)
        dsimp only
        rw [hS]
        congr 1
      · rw [if_neg (fun h => h.2 hc)] at hS
        exact next_of (R := []) (k + 1, S) ⟨h, hS⟩ (by dsimp only; omega) (by (repeat (first | exact sub_nil | refine sub_cons (by first | rfl | (simp; done)) ?_))) (.cons .here .nil)
    | false =>
      rw [hSe] at hg
      rw [if_neg (by simp [hSe])] at hS
      repeat' (first | (with_reducible first | refine aw_seq ?_ | refine rl_nil ?_ | refine aw_region ?_ | refine then_n ?_ | refine aw_block ?_ | refine then_exit ?_ | refine then_ret ?_ | refine in_n ?_ | refine in_ret ?_ | refine aw_exit ?_ | refine aw_ret ?_ | refine aw_skip ?_ | refine in_exit_eq rfl ?_) | ((with_reducible refine k_move ?_); refine rl_pure (pv_move rfl) rfl rfl rfl ?_) | ((with_reducible refine k_assign ?_); refine rl_pure (pv_assign rfl) rfl rfl rfl ?_) | ((with_reducible refine k_load ?_); (first | refine rl_val (vv_load_ro (by rfl) (by rfl) by_bd) rfl rfl rfl ?_ | refine rl_val (vv_load_vp (by rfl) by_memb by_bd (by rfl) by_bd) rfl rfl rfl ?_)) | ((with_reducible refine k_lss ?_); refine rl_pure (pv_lss rfl rfl) rfl rfl rfl ?_) | ((with_reducible refine k_add ?_); refine rl_pure (pv_add_in rfl rfl (by omega)) rfl rfl rfl ?_) | ((with_reducible refine k_len ?_); refine rl_pure (pv_len_ro' (by rfl) by_len) rfl rfl rfl ?_) | ((with_reducible refine k_indexAddr ?_); (first | refine rl_pure (pv_indexAddr_ro (by rfl) rfl (by omega) (by first | rfl | assumption) (by first | rfl | exact ins_len _ | exact prow_len _)) rfl rfl rfl ?_ | refine rl_pure (pv_indexAddr_own (by rfl) by_memb rfl (by first | omega | (simp only [List.length_cons, List.length_nil, List.length_append, List.length_map, List.length_replicate, List.length_set, brs_len]; omega))) rfl rfl rfl ?_ | refine rl_pure (pv_indexAddr_arr_ro (by rfl) rfl by_bound) rfl rfl rfl ?_)) | ((with_reducible refine k_pick ?_); refine rl_pure (pv_pick_f rfl by_bd rfl) rfl rfl rfl ?_) | ((with_reducible refine k_guard ?_); refine rl_off_t rfl rfl rfl by_bd rfl ?_) | ((with_reducible refine k_cond ?_); refine aw_cond_f rfl ?_) | (((with_reducible refine k_cond ?_); refine aw_cond rfl ?_ ?_) <;> intro hb <;> (have hc := hb) <;> (try simp only [decide_eq_true_eq, decide_eq_false_iff_not, Int.not_lt, Int.not_le, ne_eq, Bool.not_eq_true, Bool.not_eq_false, Decidable.not_not] at hc) <;> (try (exfalso; omega)) <;> (try (first | contradiction | (cases hc; done)))))
      exact next_of (R := []) (k + 1, S) ⟨h, hS⟩ (by dsimp only; omega) (by (repeat (first | exact sub_nil | refine sub_cons (by first | rfl | (simp; done)) ?_))) (.cons .here .nil)
  · rw [List.drop_eq_nil_of_le h, rch] at hS
    refine aw_freeze (d := 7) rfl by_take ?_
    repeat' (first | (with_reducible first | refine aw_seq ?_ | refine rl_nil ?_ | refine aw_region ?_ | refine then_n ?_ | refine aw_block ?_ | refine then_exit ?_ | refine then_ret ?_ | refine in_n ?_ | refine in_ret ?_ | refine aw_exit ?_ | refine aw_ret ?_ | refine aw_skip ?_ | refine in_exit_eq rfl ?_) | ((with_reducible refine k_move ?_); refine rl_pure (pv_move rfl) rfl rfl rfl ?_) | ((with_reducible refine k_assign ?_); refine rl_pure (pv_assign rfl) rfl rfl rfl ?_) | ((with_reducible refine k_lss ?_); refine rl_pure (pv_lss rfl rfl) rfl rfl rfl ?_) | ((with_reducible refine k_len ?_); refine rl_pure (pv_len_ro' (by rfl) by_len) rfl rfl rfl ?_) | (((with_reducible refine k_cond ?_); refine aw_cond rfl ?_ ?_) <;> intro hb <;> (have hc := hb) <;> (try simp only [decide_eq_true_eq, decide_eq_false_iff_not, Int.not_lt, Int.not_le, ne_eq, Bool.not_eq_true, Bool.not_eq_false, Decidable.not_not] at hc) <;> (try (exfalso; omega)) <;> (try (first | contradiction | (cases hc; done)))))
    (first | refine ret_r (ret1 rfl by_res (List.nil_sublist _) ⟨_, rfl, ?_⟩) | refine ret_n (ret1 rfl by_res (List.nil_sublist _) ⟨_, rfl, ?_⟩))
    exact ⟨by rw [hS], rfl⟩
theorem edI_range {bs : List (Int × Int)} {i t : Int} : ∀ j : Nat, ∀ e ∈ edI bs i t j, e.1 = i ∧ 0 ≤ e.2 ∧ e.2 < j
  | 0, e, h => by simp [edI] at h
  | j + 1, e, h => by
    rw [edI] at h
    rcases List.mem_append.1 h with h | h
    · have := edI_range j e h; omega
    · split at h
      · rw [List.mem_singleton.1 h]; dsimp only; omega
      · simp at h
theorem edE_range {L : List Ins} {bs : List (Int × Int)} : ∀ i : Nat, ∀ e ∈ edE L bs i, (0 ≤ e.1 ∧ e.1 < i) ∧ 0 ≤ e.2 ∧ e.2 < bs.length
  | 0, e, h => by simp [edE] at h
  | i + 1, e, h => by
    rw [edE] at h
    rcases List.mem_append.1 h with h | h
    · have := edE_range i e h; omega
    · obtain ⟨t, _, h⟩ := List.mem_flatMap.1 h
      have := edI_range _ e h
      omega
theorem flat_le {α β : Type} {f : α → List β} {c : Nat} (hf : ∀ x, (f x).length ≤ c) : ∀ l : List α, (l.flatMap f).length ≤ l.length * c
  | [] => by simp
  | x :: l => by
    have h1 := hf x
    have h2 := flat_le hf l
    rw [List.flatMap_cons, List.length_append, List.length_cons, Nat.succ_mul]
    omega
theorem edM_len (bs : List (Int × Int)) (i : Int) (ts : List Int) : (edM bs i ts).length ≤ ts.length * bs.length := flat_le (fun t => edI_len bs i t _) ts
theorem edE_len (L : List Ins) (bs : List (Int × Int)) (h : bs.length ≤ 400) : ∀ i : Nat, (edE L bs i).length ≤ i * 800
  | 0 => by simp [edE]
  | i + 1 => by
    have h1 := edE_len L bs h i
    have h2 := edM_len bs i (nx L (bs.getD i (0, 0)).2)
    have h3 := nx_len L (bs.getD i (0, 0)).2
    have h4 : (nx L (bs.getD i (0, 0)).2).length * bs.length ≤ 2 * 400 := Nat.mul_le_mul h3 h
    rw [edE, List.length_append]
    omega
/-- The blocks that are reached. -/
def rchL (L : List Ins) : List Int := ((List.range (blks_ L).length).filter fun (k : Nat) => rch (-1) (edgs L) (rch0 (-1)) k).map fun (k : Nat) => (k : Int)
def rchP (L : List Ins) : List Int := if (chk L).2 = 0 then rchL L else []
theorem reach16 (L : List Ins) : Fun Try.prog 16 [.ro (L.map Ins.cells)] (.tup [.ro ((rchP L).map irow), int (chk L).2]) := by
  have hbl := blocks15 L
  have hed := edges21 L
  refine Fun.of (TriR.of (tri_of Try.func16 rfl Try.ntmps16 rfl fun j => ?_))
  repeat' (first | (with_reducible first | refine aw_seq ?_ | refine rl_nil ?_ | refine aw_region ?_ | refine then_n ?_ | refine aw_block ?_ | refine then_exit ?_ | refine then_ret ?_ | refine in_n ?_ | refine in_ret ?_ | refine aw_exit ?_ | refine aw_ret ?_ | refine aw_skip ?_ | refine in_exit_eq rfl ?_) | ((with_reducible refine k_move ?_); refine rl_pure (pv_move rfl) rfl rfl rfl ?_) | ((with_reducible refine k_assign ?_); refine rl_pure (pv_assign rfl) rfl rfl rfl ?_) | ((with_reducible refine k_neq ?_); refine rl_pure (pv_neq rfl rfl) rfl rfl rfl ?_) | ((with_reducible refine k_extract ?_); refine rl_pure (pv_extract rfl rfl) rfl rfl rfl ?_) | ((with_reducible refine k_callv ?_); refine rl_op rfl (op_callF rfl rfl (hbl) rfl ?_)) | (((with_reducible refine k_cond ?_); refine aw_cond rfl ?_ ?_) <;> intro hb <;> (have hc := hb) <;> (try simp only [decide_eq_true_eq, decide_eq_false_iff_not, Int.not_lt, Int.not_le, ne_eq, Bool.not_eq_true, Bool.not_eq_false, Decidable.not_not] at hc) <;> (try (exfalso; omega)) <;> (try (first | contradiction | (cases hc; done)))))
  · refine ret_r (ret2 rfl (res_le (res_tmp rfl) le_nil_ro) (res_tmp rfl) (List.nil_sublist _) ⟨_, rfl, ?_⟩)
    exact ⟨by rw [rchP, if_neg (by omega)]; rfl, rfl⟩
  have h0 : (chk L).2 = 0 := by omega
  have hL := chk_code h0
  have hlen := hL.len
  have hnb := blks_len L
  have hnp := blks_pos (L := L) hlen.1
  have e0 : blkP L = blks_ L := by rw [blkP, if_pos h0]
  have eg : edgP L = edgs L := by rw [edgP, if_pos h0]
  have hre := reached41 (blks_ L).length (edgs L) (-1) ⟨hnp, by omega⟩ (fun e he => by
    have := edE_range _ e he; omega) (by have := edE_len L (blks_ L) (by omega) (blks_ L).length; rw [edgs]; omega)
  have er : rchP L = rchL L := by rw [rchP, if_pos h0]
  rw [er, e0]
  rw [eg] at hed
  unfold rchL
  generalize rch (-1) (edgs L) (rch0 (-1)) = S at hre ⊢
  generalize blks_ L = bs at hnb hnp hre ⊢
  repeat' (first | (with_reducible first | refine aw_seq ?_ | refine rl_nil ?_ | refine aw_region ?_ | refine then_n ?_ | refine aw_block ?_ | refine then_exit ?_ | refine then_ret ?_ | refine in_n ?_ | refine in_ret ?_ | refine aw_exit ?_ | refine aw_ret ?_ | refine aw_skip ?_ | refine in_exit_eq rfl ?_) | ((with_reducible refine k_move ?_); refine rl_pure (pv_move rfl) rfl rfl rfl ?_) | ((with_reducible refine k_assign ?_); refine rl_pure (pv_assign rfl) rfl rfl rfl ?_) | ((with_reducible refine k_extract ?_); refine rl_pure (pv_extract rfl rfl) rfl rfl rfl ?_) | ((with_reducible refine k_len ?_); refine rl_pure (pv_len_ro' (by rfl) by_len) rfl rfl rfl ?_) | ((with_reducible refine k_callv ?_); (first | refine rl_op rfl (op_callF rfl rfl (hed) rfl ?_) | refine rl_op rfl (op_callF rfl rfl (hre) rfl ?_))))
  refine aw_nil_own 9 3 1 rfl ?_
  refine aw_iter (α := Nat × Value) (fun q => [(4, .ro (bs.map prow)), (8, .ro (brs bs.length S)), (9, .own q.2), (10, int q.1)])
    (fun q => [.vec q.2 3 1 ((((List.range q.1).filter fun (k : Nat) => S k).map fun (k : Nat) => (k : Int)).map irow)]) (fun q => q.1 ≤ bs.length) (fun q => bs.length - q.1)
    (0, _) (Nat.zero_le _) (by (repeat (first | exact sub_nil | refine sub_cons (by first | rfl | (simp; done)) ?_))) (.cons .here .nil) fun q hI => ?_
  obtain ⟨k, sv⟩ := q
  dsimp only at hI ⊢
  rcases Nat.lt_or_ge k bs.length with h | h
  · have hg := brs_get S h
    have hfl : ((((List.range k).filter fun (k : Nat) => S k).map fun (k : Nat) => (k : Int)).map irow).length ≤ k := by
      rw [List.length_map, List.length_map]
      exact Nat.le_trans (List.length_filter_le _ _) (by simp)
    cases hSk : S k with
    | true =>
      rw [hSk] at hg
      have e : (((List.range (k + 1)).filter fun (k : Nat) => S k).map fun (k : Nat) => (k : Int)).map irow = (((List.range k).filter fun (k : Nat) => S k).map fun (k : Nat) => (k : Int)).map irow ++ [[int k]] := by
        rw [List.range_succ, List.filter_append]
        simp [hSk]
      generalize (((List.range k).filter fun (k : Nat) => S k).map fun (k : Nat) => (k : Int)).map irow = rows at hfl e
      repeat' (first | (with_reducible first | refine aw_seq ?_ | refine rl_nil ?_ | refine aw_region ?_ | refine then_n ?_ | refine aw_block ?_ | refine then_exit ?_ | refine then_ret ?_ | refine in_n ?_ | refine in_ret ?_ | refine aw_exit ?_ | refine aw_ret ?_ | refine aw_skip ?_ | refine in_exit_eq rfl ?_) | ((with_reducible refine k_move ?_); refine rl_pure (pv_move rfl) rfl rfl rfl ?_) | ((with_reducible refine k_load ?_); refine rl_val (vv_load_ro (by rfl) (by rfl) by_bd) rfl rfl rfl ?_) | ((with_reducible refine k_lss ?_); refine rl_pure (pv_lss rfl rfl) rfl rfl rfl ?_) | ((with_reducible refine k_len ?_); refine rl_pure (pv_len_ro' (by rfl) by_len) rfl rfl rfl ?_) | ((with_reducible refine k_indexAddr ?_); refine rl_pure (pv_indexAddr_ro (by rfl) rfl (by omega) (by first | rfl | assumption) (by first | rfl | exact ins_len _ | exact prow_len _)) rfl rfl rfl ?_) | ((with_reducible refine k_buildSlice ?_); refine rl_op rfl (op_buildSlice_ro rfl rfl rfl (by rfl) (by rfl) (by rfl) (by rfl) rfl by_rows ?_)) | ((with_reducible refine k_cond ?_); refine aw_cond_t rfl ?_) | (((with_reducible refine k_cond ?_); refine aw_cond rfl ?_ ?_) <;> intro hb <;> (have hc := hb) <;> (try simp only [decide_eq_true_eq, decide_eq_false_iff_not, Int.not_lt, Int.not_le, ne_eq, Bool.not_eq_true, Bool.not_eq_false, Decidable.not_not] at hc) <;> (try (exfalso; omega)) <;> (try (first | contradiction | (cases hc; done)))))
      (first | refine rl_op rfl (op_append rfl .here rfl rfl rfl rfl (by intro r hr; rcases List.mem_singleton.1 hr with rfl; rfl) (by first | omega | (simp only [List.length_map, List.length_cons, List.length_nil]; omega)) rfl fun sv' => ?_) | (refine dl_op (by assumption) by_wants (op_append rfl .here rfl rfl rfl rfl (by intro r hr; rcases List.mem_singleton.1 hr with rfl; rfl) (by first | omega | (simp only [List.length_map, List.length_cons, List.length_nil]; omega)) rfl fun sv' => ?_); intro jd hjd))
      repeat' (first | (with_reducible first | refine aw_seq ?_ | refine rl_nil ?_ | refine aw_region ?_ | refine then_n ?_ | refine aw_block ?_ | refine then_exit ?_ | refine then_ret ?_ | refine in_n ?_ | refine in_ret ?_ | refine aw_exit ?_ | refine aw_ret ?_ | refine aw_skip ?_ | refine in_exit_eq rfl ?_) | ((with_reducible refine k_move ?_); refine rl_pure (pv_move rfl) rfl rfl rfl ?_) | ((with_reducible refine k_assign ?_); refine rl_pure (pv_assign rfl) rfl rfl rfl ?_) | ((with_reducible refine k_add ?_); refine rl_pure (pv_add_in rfl rfl (by omega)) rfl rfl rfl ?_))
      refine next_of (R := []) (k + 1, sv') h (by dsimp only; omega) (by (repeat (first | exact sub_nil | refine sub_cons (by first | rfl | (simp; done)) ?_))) ?_
      rw [e]
      exact (.cons .here .nil)
    | false =>
      rw [hSk] at hg
      have e : (((List.range (k + 1)).filter fun (k : Nat) => S k).map fun (k : Nat) => (k : Int)).map irow = (((List.range k).filter fun (k : Nat) => S k).map fun (k : Nat) => (k : Int)).map irow := by
        rw [List.range_succ, List.filter_append]
        simp [hSk]
      repeat' (first | (with_reducible first | refine aw_seq ?_ | refine rl_nil ?_ | refine aw_region ?_ | refine then_n ?_ | refine aw_block ?_ | refine then_exit ?_ | refine then_ret ?_ | refine in_n ?_ | refine in_ret ?_ | refine aw_exit ?_ | refine aw_ret ?_ | refine aw_skip ?_ | refine in_exit_eq rfl ?_) | ((with_reducible refine k_move ?_); refine rl_pure (pv_move rfl) rfl rfl rfl ?_) | ((with_reducible refine k_assign ?_); refine rl_pure (pv_assign rfl) rfl rfl rfl ?_) | ((with_reducible refine k_load ?_); refine rl_val (vv_load_ro (by rfl) (by rfl) by_bd) rfl rfl rfl ?_) | ((with_reducible refine k_lss ?_); refine rl_pure (pv_lss rfl rfl) rfl rfl rfl ?_) | ((with_reducible refine k_add ?_); refine rl_pure (pv_add_in rfl rfl (by omega)) rfl rfl rfl ?_) | ((with_reducible refine k_len ?_); refine rl_pure (pv_len_ro' (by rfl) by_len) rfl rfl rfl ?_) | ((with_reducible refine k_indexAddr ?_); refine rl_pure (pv_indexAddr_ro (by rfl) rfl (by omega) (by first | rfl | assumption) (by first | rfl | exact ins_len _ | exact prow_len _)) rfl rfl rfl ?_) | ((with_reducible refine k_cond ?_); refine aw_cond_f rfl ?_) | (((with_reducible refine k_cond ?_); refine aw_cond rfl ?_ ?_) <;> intro hb <;> (have hc := hb) <;> (try simp only [decide_eq_true_eq, decide_eq_false_iff_not, Int.not_lt, Int.not_le, ne_eq, Bool.not_eq_true, Bool.not_eq_false, Decidable.not_not] at hc) <;> (try (exfalso; omega)) <;> (try (first | contradiction | (cases hc; done)))))
      refine next_of (R := []) (k + 1, sv) h (by dsimp only; omega) (by (repeat (first | exact sub_nil | refine sub_cons (by first | rfl | (simp; done)) ?_))) ?_
      rw [e]
      exact (.cons .here .nil)
  · have hk : k = bs.length := by omega
    subst hk
    refine aw_freeze (d := 9) rfl by_take ?_
    repeat' (first | (with_reducible first | refine aw_seq ?_ | refine rl_nil ?_ | refine aw_region ?_ | refine then_n ?_ | refine aw_block ?_ | refine then_exit ?_ | refine then_ret ?_ | refine in_n ?_ | refine in_ret ?_ | refine aw_exit ?_ | refine aw_ret ?_ | refine aw_skip ?_ | refine in_exit_eq rfl ?_) | ((with_reducible refine k_move ?_); refine rl_pure (pv_move rfl) rfl rfl rfl ?_) | ((with_reducible refine k_assign ?_); refine rl_pure (pv_assign rfl) rfl rfl rfl ?_) | ((with_reducible refine k_lss ?_); refine rl_pure (pv_lss rfl rfl) rfl rfl rfl ?_) | ((with_reducible refine k_len ?_); refine rl_pure (pv_len_ro' (by rfl) by_len) rfl rfl rfl ?_) | (((with_reducible refine k_cond ?_); refine aw_cond rfl ?_ ?_) <;> intro hb <;> (have hc := hb) <;> (try simp only [decide_eq_true_eq, decide_eq_false_iff_not, Int.not_lt, Int.not_le, ne_eq, Bool.not_eq_true, Bool.not_eq_false, Decidable.not_not] at hc) <;> (try (exfalso; omega)) <;> (try (first | contradiction | (cases hc; done)))))
    (first | refine ret_r (ret2 rfl by_res by_res (List.nil_sublist _) ⟨_, rfl, ?_⟩) | refine ret_n (ret2 rfl by_res by_res (List.nil_sublist _) ⟨_, rfl, ?_⟩))
    exact ⟨by rw [h0], rfl⟩
/-- Equal codes. -/
theorem cells_inj {i j : Ins} (h : i.cells = j.cells) : i = j := by
  cases i; cases j
  simp only [Ins.cells, List.cons.injEq, V.raw.injEq, Value.int.injEq, true_and, and_true] at h
  obtain ⟨h1, h2, h3, h4⟩ := h
  subst h1 h2 h3 h4
  rfl
instance : DecidableEq Ins := fun a b => decidable_of_iff (a.op = b.op ∧ a.k = b.k ∧ a.t = b.t ∧ a.f = b.f) (by cases a; cases b; simp)
theorem eqR_ins (a b : Ins) : eqR a.cells b.cells [(0, .int .i64), (1, .int .i64), (2, .int .i64), (3, .int .i64)] = some (decide (a = b)) := by
  simp only [eqR, Ins.cells, eqSc, List.getElem?_cons_zero, List.getElem?_cons_succ, if_true]
  congr 1
  rw [Bool.eq_iff_iff]
  cases a; cases b
  simp
theorem same18 (A B : List Ins) (hA : A.length ≤ 400 ∨ B.length ≤ 400) : Fun Try.prog 18 [.ro (A.map Ins.cells), .ro (B.map Ins.cells)] (bool (decide (A = B))) := by
  have hins := eqR_ins
  refine Fun.of (TriR.of (tri_of Try.func18 rfl Try.ntmps18 rfl fun j => ?_))
  repeat' (first | (with_reducible first | refine aw_seq ?_ | refine rl_nil ?_ | refine aw_region ?_ | refine then_n ?_ | refine aw_block ?_ | refine then_exit ?_ | refine then_ret ?_ | refine in_n ?_ | refine in_ret ?_ | refine aw_exit ?_ | refine aw_ret ?_ | refine aw_skip ?_ | refine in_exit_eq rfl ?_) | ((with_reducible refine k_move ?_); refine rl_pure (pv_move rfl) rfl rfl rfl ?_) | ((with_reducible refine k_assign ?_); refine rl_pure (pv_assign rfl) rfl rfl rfl ?_) | ((with_reducible refine k_neq ?_); refine rl_pure (pv_neq rfl rfl) rfl rfl rfl ?_) | ((with_reducible refine k_len ?_); refine rl_pure (pv_len_ro' (by rfl) by_len) rfl rfl rfl ?_) | (((with_reducible refine k_cond ?_); refine aw_cond rfl ?_ ?_) <;> intro hb <;> (have hc := hb) <;> (try simp only [decide_eq_true_eq, decide_eq_false_iff_not, Int.not_lt, Int.not_le, ne_eq, Bool.not_eq_true, Bool.not_eq_false, Decidable.not_not] at hc) <;> (try (exfalso; omega)) <;> (try (first | contradiction | (cases hc; done)))))
  · (first | refine ret_r (ret1 rfl by_res (List.nil_sublist _) ⟨_, rfl, ?_⟩) | refine ret_n (ret1 rfl by_res (List.nil_sublist _) ⟨_, rfl, ?_⟩))
    exact ⟨by rw [decide_eq_false]; exact fun h => hc (by rw [h]), rfl⟩
  have hlen : A.length = B.length := by omega
  refine aw_iter (α := Nat) (fun k => [(0, .ro (A.map Ins.cells)), (1, .ro (B.map Ins.cells)), (5, int k)])
    (fun q => []) (fun k => k ≤ A.length ∧ A.take k = B.take k) (fun k => A.length - k)
    0 ⟨Nat.zero_le _, rfl⟩ (by (repeat (first | exact sub_nil | refine sub_cons (by first | rfl | (simp; done)) ?_))) .nil fun k hI => ?_
  obtain ⟨hk, ht⟩ := hI
  rcases Nat.lt_or_ge k A.length with h | h
  · obtain ⟨x, hx⟩ : ∃ x, A[k]? = some x := ⟨_, List.getElem?_eq_getElem h⟩
    obtain ⟨y, hy⟩ : ∃ y, B[k]? = some y := ⟨_, List.getElem?_eq_getElem (by omega)⟩
    have hr : (A.map Ins.cells)[k]? = some x.cells := by simp [hx]
    have hr2 : (B.map Ins.cells)[k]? = some y.cells := by simp [hy]
    have hxy := eqR_ins x y
    have tk : ∀ {C : List Ins} {z : Ins}, C[k]? = some z → C.take (k + 1) = C.take k ++ [z] := fun {C z} hz => by
      obtain ⟨h, rfl⟩ := List.getElem?_eq_some_iff.1 hz
      exact List.take_succ_eq_append_getElem h
    have hext : x = y ↔ (x.op = y.op ∧ x.k = y.k ∧ x.t = y.t ∧ x.f = y.f) := by cases x; cases y; simp
    repeat' (first | (with_reducible first | refine aw_seq ?_ | refine rl_nil ?_ | refine aw_region ?_ | refine then_n ?_ | refine aw_block ?_ | refine then_exit ?_ | refine then_ret ?_ | refine in_n ?_ | refine in_ret ?_ | refine aw_exit ?_ | refine aw_ret ?_ | refine aw_skip ?_ | refine in_exit_eq rfl ?_) | ((with_reducible refine k_move ?_); refine rl_pure (pv_move rfl) rfl rfl rfl ?_) | ((with_reducible refine k_assign ?_); refine rl_pure (pv_assign rfl) rfl rfl rfl ?_) | ((with_reducible refine k_lss ?_); refine rl_pure (pv_lss rfl rfl) rfl rfl rfl ?_) | ((with_reducible refine k_add ?_); refine rl_pure (pv_add_in rfl rfl (by omega)) rfl rfl rfl ?_) | ((with_reducible refine k_len ?_); refine rl_pure (pv_len_ro' (by rfl) by_len) rfl rfl rfl ?_) | (with_reducible refine dl_nil by_app ?_) | ((with_reducible refine kd_move ?_); refine dl_pure (by assumption) (pv_move rfl) by_wants rfl rfl ?_) | ((with_reducible refine kd_neq ?_); refine dl_pure (by assumption) (pv_neq_agg rfl rfl (by rfl)) by_wants rfl rfl ?_) | ((with_reducible refine kd_indexAddr ?_); refine dl_pure (by assumption) (pv_indexAddr_ro (by rfl) rfl (by omega) (by first | rfl | assumption) (by first | rfl | exact ins_len _ | exact prow_len _)) by_wants rfl rfl ?_) | ((with_reducible refine kd_load ?_); refine dl_take (by assumption) (hv_load_ro_whole (by assumption) (by rfl) (by rfl) (by first | rfl | exact ins_len _ | exact prow_len _)) by_wants rfl rfl ?_) | (refine aw_draw (id := 6) [(false, 0), (false, 1), (false, 2), (false, 3), (false, 4), (false, 5), (false, 6), (false, 7), (false, 8)] [] (by kernel_rfl) (by decide +kernel) (by decide) by_lit .nil by_nos fun jd hjd => ?_) | (((with_reducible refine k_cond ?_); refine aw_cond rfl ?_ ?_) <;> intro hb <;> (have hc := hb) <;> (try simp only [decide_eq_true_eq, decide_eq_false_iff_not, Int.not_lt, Int.not_le, ne_eq, Bool.not_eq_true, Bool.not_eq_false, Decidable.not_not] at hc) <;> (try (exfalso; omega)) <;> (try (first | contradiction | (cases hc; done)))))
    · (first | refine ret_r (ret1 rfl by_res (List.nil_sublist _) ⟨_, rfl, ?_⟩) | refine ret_n (ret1 rfl by_res (List.nil_sublist _) ⟨_, rfl, ?_⟩))
      refine ⟨by rw [decide_eq_false]; intro e; subst e; rw [hx] at hy; cases hy; simp at hc, rfl⟩
    · refine next_of (R := []) (k + 1) ⟨h, ?_⟩ (by omega) (by (repeat (first | exact sub_nil | refine sub_cons (by first | rfl | (simp; done)) ?_))) .nil
      rw [tk hx, tk hy, ht, hext.2 (by simpa using hc)]
  · rw [List.take_of_length_le h, List.take_of_length_le (by omega)] at ht
    repeat' (first | (with_reducible first | refine aw_seq ?_ | refine rl_nil ?_ | refine aw_region ?_ | refine then_n ?_ | refine aw_block ?_ | refine then_exit ?_ | refine then_ret ?_ | refine in_n ?_ | refine in_ret ?_ | refine aw_exit ?_ | refine aw_ret ?_ | refine aw_skip ?_ | refine in_exit_eq rfl ?_) | ((with_reducible refine k_move ?_); refine rl_pure (pv_move rfl) rfl rfl rfl ?_) | ((with_reducible refine k_assign ?_); refine rl_pure (pv_assign rfl) rfl rfl rfl ?_) | ((with_reducible refine k_lss ?_); refine rl_pure (pv_lss rfl rfl) rfl rfl rfl ?_) | ((with_reducible refine k_len ?_); refine rl_pure (pv_len_ro' (by rfl) by_len) rfl rfl rfl ?_) | (((with_reducible refine k_cond ?_); refine aw_cond rfl ?_ ?_) <;> intro hb <;> (have hc := hb) <;> (try simp only [decide_eq_true_eq, decide_eq_false_iff_not, Int.not_lt, Int.not_le, ne_eq, Bool.not_eq_true, Bool.not_eq_false, Decidable.not_not] at hc) <;> (try (exfalso; omega)) <;> (try (first | contradiction | (cases hc; done)))))
    (first | refine ret_r (ret1 rfl by_res (List.nil_sublist _) ⟨_, rfl, ?_⟩) | refine ret_n (ret1 rfl by_res (List.nil_sublist _) ⟨_, rfl, ?_⟩))
    exact ⟨by rw [decide_eq_true ht], rfl⟩
theorem equal38 (A B : List Ins) (hA : A.length ≤ 400 ∨ B.length ≤ 400) : Fun Try.prog 38 [.ro (A.map Ins.cells), .ro (B.map Ins.cells)] (bool (decide (A = B))) := by
  refine Fun.of (TriR.of (tri_of Try.func38 rfl Try.ntmps38 rfl fun j => ?_))
  repeat' (first | (with_reducible first | refine aw_seq ?_ | refine rl_nil ?_ | refine aw_region ?_ | refine then_n ?_ | refine aw_block ?_ | refine then_exit ?_ | refine then_ret ?_ | refine in_n ?_ | refine in_ret ?_ | refine aw_exit ?_ | refine aw_ret ?_ | refine aw_skip ?_ | refine in_exit_eq rfl ?_) | ((with_reducible refine k_move ?_); refine rl_pure (pv_move rfl) rfl rfl rfl ?_) | ((with_reducible refine k_assign ?_); refine rl_pure (pv_assign rfl) rfl rfl rfl ?_) | ((with_reducible refine k_neq ?_); refine rl_pure (pv_neq rfl rfl) rfl rfl rfl ?_) | ((with_reducible refine k_len ?_); refine rl_pure (pv_len_ro' (by rfl) by_len) rfl rfl rfl ?_) | (((with_reducible refine k_cond ?_); refine aw_cond rfl ?_ ?_) <;> intro hb <;> (have hc := hb) <;> (try simp only [decide_eq_true_eq, decide_eq_false_iff_not, Int.not_lt, Int.not_le, ne_eq, Bool.not_eq_true, Bool.not_eq_false, Decidable.not_not] at hc) <;> (try (exfalso; omega)) <;> (try (first | contradiction | (cases hc; done)))))
  · (first | refine ret_r (ret1 rfl by_res (List.nil_sublist _) ⟨_, rfl, ?_⟩) | refine ret_n (ret1 rfl by_res (List.nil_sublist _) ⟨_, rfl, ?_⟩))
    exact ⟨by rw [decide_eq_false]; exact fun h => hc (by rw [h]), rfl⟩
  have hlen : A.length = B.length := by omega
  refine aw_iter (α := Nat) (fun k => [(0, .ro (A.map Ins.cells)), (1, .ro (B.map Ins.cells)), (12, int A.length), (13, int k)])
    (fun q => []) (fun k => k ≤ A.length ∧ A.take k = B.take k) (fun k => A.length - k)
    0 ⟨Nat.zero_le _, rfl⟩ (by (repeat (first | exact sub_nil | refine sub_cons (by first | rfl | (simp; done)) ?_))) .nil fun k hI => ?_
  obtain ⟨hk, ht⟩ := hI
  rcases Nat.lt_or_ge k A.length with h | h
  · obtain ⟨x, hx⟩ : ∃ x, A[k]? = some x := ⟨_, List.getElem?_eq_getElem h⟩
    obtain ⟨y, hy⟩ : ∃ y, B[k]? = some y := ⟨_, List.getElem?_eq_getElem (by omega)⟩
    have hr : (A.map Ins.cells)[k]? = some x.cells := by simp [hx]
    have hr2 : (B.map Ins.cells)[k]? = some y.cells := by simp [hy]
    have tk : ∀ {C : List Ins} {z : Ins}, C[k]? = some z → C.take (k + 1) = C.take k ++ [z] := fun {C z} hz => by
      obtain ⟨h, rfl⟩ := List.getElem?_eq_some_iff.1 hz
      exact List.take_succ_eq_append_getElem h
    have hext : x = y ↔ (x.op = y.op ∧ x.k = y.k ∧ x.t = y.t ∧ x.f = y.f) := by cases x; cases y; simp
    repeat' (first | (with_reducible first | refine aw_seq ?_ | refine rl_nil ?_ | refine aw_region ?_ | refine then_n ?_ | refine aw_block ?_ | refine then_exit ?_ | refine then_ret ?_ | refine in_n ?_ | refine in_ret ?_ | refine aw_exit ?_ | refine aw_ret ?_ | refine aw_skip ?_ | refine in_exit_eq rfl ?_) | ((with_reducible refine k_move ?_); refine rl_pure (pv_move rfl) rfl rfl rfl ?_) | ((with_reducible refine k_assign ?_); refine rl_pure (pv_assign rfl) rfl rfl rfl ?_) | ((with_reducible refine k_lss ?_); refine rl_pure (pv_lss rfl rfl) rfl rfl rfl ?_) | ((with_reducible refine k_add ?_); refine rl_pure (pv_add_in rfl rfl (by omega)) rfl rfl rfl ?_) | (with_reducible refine dl_nil by_app ?_) | ((with_reducible refine kd_move ?_); refine dl_pure (by assumption) (pv_move rfl) by_wants rfl rfl ?_) | ((with_reducible refine kd_neq ?_); refine dl_pure (by assumption) (pv_neq_agg rfl rfl (by rfl)) by_wants rfl rfl ?_) | ((with_reducible refine kd_indexAddr ?_); refine dl_pure (by assumption) (pv_indexAddr_ro (by rfl) rfl (by omega) (by first | rfl | assumption) (by first | rfl | exact ins_len _ | exact prow_len _)) by_wants rfl rfl ?_) | ((with_reducible refine kd_load ?_); refine dl_take (by assumption) (hv_load_ro_whole (by assumption) (by rfl) (by rfl) (by first | rfl | exact ins_len _ | exact prow_len _)) by_wants rfl rfl ?_) | (refine aw_draw (id := 6) [(false, 0), (false, 1), (false, 2), (false, 3), (false, 4), (false, 5), (false, 6), (false, 7), (false, 8)] [] (by kernel_rfl) (by decide +kernel) (by decide) by_lit .nil by_nos fun jd hjd => ?_) | (((with_reducible refine k_cond ?_); refine aw_cond rfl ?_ ?_) <;> intro hb <;> (have hc := hb) <;> (try simp only [decide_eq_true_eq, decide_eq_false_iff_not, Int.not_lt, Int.not_le, ne_eq, Bool.not_eq_true, Bool.not_eq_false, Decidable.not_not] at hc) <;> (try (exfalso; omega)) <;> (try (first | contradiction | (cases hc; done)))))
    · (first | refine ret_r (ret1 rfl by_res (List.nil_sublist _) ⟨_, rfl, ?_⟩) | refine ret_n (ret1 rfl by_res (List.nil_sublist _) ⟨_, rfl, ?_⟩))
      refine ⟨by rw [decide_eq_false]; intro e; subst e; rw [hx] at hy; cases hy; simp at hc, rfl⟩
    · refine next_of (R := []) (k + 1) ⟨h, ?_⟩ (by omega) (by (repeat (first | exact sub_nil | refine sub_cons (by first | rfl | (simp; done)) ?_))) .nil
      rw [tk hx, tk hy, ht, hext.2 (by simpa using hc)]
  · rw [List.take_of_length_le h, List.take_of_length_le (by omega)] at ht
    repeat' (first | (with_reducible first | refine aw_seq ?_ | refine rl_nil ?_ | refine aw_region ?_ | refine then_n ?_ | refine aw_block ?_ | refine then_exit ?_ | refine then_ret ?_ | refine in_n ?_ | refine in_ret ?_ | refine aw_exit ?_ | refine aw_ret ?_ | refine aw_skip ?_ | refine in_exit_eq rfl ?_) | ((with_reducible refine k_assign ?_); refine rl_pure (pv_assign rfl) rfl rfl rfl ?_) | ((with_reducible refine k_lss ?_); refine rl_pure (pv_lss rfl rfl) rfl rfl rfl ?_) | (((with_reducible refine k_cond ?_); refine aw_cond rfl ?_ ?_) <;> intro hb <;> (have hc := hb) <;> (try simp only [decide_eq_true_eq, decide_eq_false_iff_not, Int.not_lt, Int.not_le, ne_eq, Bool.not_eq_true, Bool.not_eq_false, Decidable.not_not] at hc) <;> (try (exfalso; omega)) <;> (try (first | contradiction | (cases hc; done)))))
    (first | refine ret_r (ret1 rfl by_res (List.nil_sublist _) ⟨_, rfl, ?_⟩) | refine ret_n (ret1 rfl by_res (List.nil_sublist _) ⟨_, rfl, ?_⟩))
    exact ⟨by rw [decide_eq_true ht], rfl⟩
end Go.Proofs.Ytobablbklkpchaa

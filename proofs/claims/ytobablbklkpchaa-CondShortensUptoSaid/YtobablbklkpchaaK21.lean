import Derived.Test.YtobablbklkpchaaK20
set_option linter.unusedVariables false
set_option linter.unusedSimpArgs false
namespace Go.Proofs.Ytobablbklkpchaa
open Go Go.AX
set_option maxHeartbeats 8000000
set_option maxRecDepth 20000
attribute [local irreducible] AW RL OP PureV ValV HV DL Tri TriR Fun RetOk ResV
theorem blkTo_range {B : Int → Bool} : ∀ k : Nat, ∀ p ∈ blkTo B k, 0 ≤ p.1 ∧ p.1 ≤ p.2 ∧ p.2 < k
  | 0, p, h => by simp [blkTo] at h
  | k + 1, p, h => by
    have ih := blkTo_range (B := B) k
    rw [blkTo] at h
    split at h
    · rcases List.mem_append.1 h with h | h
      · have := ih p h; omega
      · rw [List.mem_singleton.1 h]; dsimp only; omega
    · rcases List.mem_or_eq_of_mem_set h with h | h
      · have := ih p h; omega
      · rw [h]
        dsimp only
        by_cases hz : (blkTo B k).length = 0
        · have e0 : blkTo B k = [] := List.eq_nil_of_length_eq_zero hz
          simp [e0]; omega
        · have hm : (blkTo B k).getD ((blkTo B k).length - 1) (0, 0) ∈ blkTo B k := by
            rw [List.getD_eq_getElem?_getD, List.getElem?_eq_getElem (by omega), Option.getD_some]
            exact List.getElem_mem _
          have := ih _ hm
          omega
theorem blks_range {L : List Ins} : ∀ p ∈ blks_ L, 0 ≤ p.1 ∧ p.1 ≤ p.2 ∧ p.2 < L.length := blkTo_range _
theorem blks_len (L : List Ins) : (blks_ L).length ≤ L.length := blkTo_le _ _
theorem blks_pos {L : List Ins} (h : 0 < L.length) : 0 < (blks_ L).length := blkTo_pos (begs_zero L _) _ h
/-- The followers of a place. -/
def nx (L : List Ins) (q : Int) : List Int := match L[q.toNat]? with
  | some i => nxt q i
  | none => []
def edI (bs : List (Int × Int)) (i t : Int) : Nat → List (Int × Int)
  | 0 => []
  | j + 1 => edI bs i t j ++ (if (bs.getD j (0, 0)).1 = t then [(i, (j : Int))] else [])
def edM (bs : List (Int × Int)) (i : Int) (ts : List Int) : List (Int × Int) := ts.flatMap fun t => edI bs i t bs.length
def edE (L : List Ins) (bs : List (Int × Int)) : Nat → List (Int × Int)
  | 0 => []
  | i + 1 => edE L bs i ++ edM bs i (nx L (bs.getD i (0, 0)).2)
/-- The edges. -/
def edgs (L : List Ins) : List (Int × Int) := edE L (blks_ L) (blks_ L).length
def edgP (L : List Ins) : List (Int × Int) := if (chk L).2 = 0 then edgs L else []
theorem nx_len (L : List Ins) (q : Int) : (nx L q).length ≤ 2 := by
  unfold nx
  split
  · unfold nxt
    repeat' split
    all_goals simp
  · simp
theorem edI_len (bs : List (Int × Int)) (i t : Int) : ∀ j, (edI bs i t j).length ≤ j
  | 0 => by simp [edI]
  | j + 1 => by
    have := edI_len bs i t j
    rw [edI]
    split <;> simp <;> omega
theorem getD_of {α : Type} {l : List α} {i : Nat} {a d : α} (h : l[i]? = some a) : l.getD i d = a := by
  rw [List.getD_eq_getElem?_getD, h, Option.getD_some]
theorem edges21 (L : List Ins) : Fun Try.prog 21 [.ro (L.map Ins.cells)] (.tup [.ro ((edgP L).map prow), int (chk L).2]) := by
  have hbl := blocks15 L
  refine Fun.of (TriR.of (tri_of Try.func21 rfl Try.ntmps21 rfl fun j => ?_))
  repeat' (first | (with_reducible first | refine aw_seq ?_ | refine rl_nil ?_ | refine aw_region ?_ | refine then_n ?_ | refine aw_block ?_ | refine then_exit ?_ | refine then_ret ?_ | refine in_n ?_ | refine in_ret ?_ | refine aw_exit ?_ | refine aw_ret ?_ | refine aw_skip ?_ | refine in_exit_eq rfl ?_) | ((with_reducible refine k_move ?_); refine rl_pure (pv_move rfl) rfl rfl rfl ?_) | ((with_reducible refine k_assign ?_); refine rl_pure (pv_assign rfl) rfl rfl rfl ?_) | ((with_reducible refine k_neq ?_); refine rl_pure (pv_neq rfl rfl) rfl rfl rfl ?_) | ((with_reducible refine k_extract ?_); refine rl_pure (pv_extract rfl rfl) rfl rfl rfl ?_) | ((with_reducible refine k_callv ?_); refine rl_op rfl (op_callF rfl rfl (hbl) rfl ?_)) | (((with_reducible refine k_cond ?_); refine aw_cond rfl ?_ ?_) <;> intro hb <;> (have hc := hb) <;> (try simp only [decide_eq_true_eq, decide_eq_false_iff_not, Int.not_lt, Int.not_le, ne_eq, Bool.not_eq_true, Bool.not_eq_false, Decidable.not_not] at hc) <;> (try (exfalso; omega)) <;> (try (first | contradiction | (cases hc; done)))))
  · refine ret_r (ret2 rfl (res_le (res_tmp rfl) le_nil_ro) (res_tmp rfl) (List.nil_sublist _) ⟨_, rfl, ?_⟩)
    exact ⟨by rw [edgP, if_neg (by omega)]; rfl, rfl⟩
  have h0 : (chk L).2 = 0 := by omega
  have hL := chk_code h0
  have hlen := hL.len
  have hnb := blks_len L
  have hrg := blks_range (L := L)
  have e0 : blkP L = blks_ L := by rw [blkP, if_pos h0]
  have eg : edgP L = edE L (blks_ L) (blks_ L).length := by rw [edgP, if_pos h0, edgs]
  rw [e0]
  generalize blks_ L = bs at hnb hrg eg
  refine aw_nil_own 6 51 2 rfl ?_
  refine aw_iter (α := Nat × Value × List (Int × Int)) (fun q => [(0, .ro (L.map Ins.cells)), (4, .ro (bs.map prow)), (6, .own q.2.1), (7, int q.1)])
    (fun q => [.vec q.2.1 51 2 (q.2.2.map prow)]) (fun q => q.1 ≤ bs.length ∧ q.2.2 = edE L bs q.1 ∧ q.2.2.length ≤ q.1 * 800) (fun q => bs.length - q.1)
    (0, _, []) ⟨Nat.zero_le _, rfl, by simp⟩ (by (repeat (first | exact sub_nil | refine sub_cons (by first | rfl | (simp; done)) ?_))) (.cons .here .nil) fun q hI => ?_
  obtain ⟨i, sv, out⟩ := q
  dsimp only at hI ⊢
  obtain ⟨hi, hO, hol⟩ := hI
  rcases Nat.lt_or_ge i bs.length with h | h
  · obtain ⟨p, hp⟩ : ∃ p, bs[i]? = some p := ⟨_, List.getElem?_eq_getElem h⟩
    have hr : (bs.map prow)[i]? = some (prow p) := by simp [hp]
    have hpr := hrg p (List.mem_of_getElem? hp)
    obtain ⟨x, hx⟩ : ∃ x, L[p.2.toNat]? = some x := ⟨_, List.getElem?_eq_getElem (by omega)⟩
    have hnx := next40 L p.2.toNat x hL hx
    rw [show ((p.2.toNat : Nat) : Int) = p.2 by omega] at hnx
    have hN : nx L (bs.getD i (0, 0)).2 = nxt p.2 x := by rw [getD_of hp, nx, hx]
    have hl2 := nx_len L (bs.getD i (0, 0)).2
    rw [hN] at hl2
    generalize nxt p.2 x = ts at hnx hN hl2
    repeat' (first | (with_reducible first | refine aw_seq ?_ | refine rl_nil ?_ | refine aw_region ?_ | refine then_n ?_ | refine aw_block ?_ | refine then_exit ?_ | refine then_ret ?_ | refine in_n ?_ | refine in_ret ?_ | refine aw_exit ?_ | refine aw_ret ?_ | refine aw_skip ?_ | refine in_exit_eq rfl ?_) | ((with_reducible refine k_move ?_); refine rl_pure (pv_move rfl) rfl rfl rfl ?_) | ((with_reducible refine k_assign ?_); refine rl_pure (pv_assign rfl) rfl rfl rfl ?_) | ((with_reducible refine k_load ?_); refine rl_val (vv_load_ro (by rfl) (by rfl) by_bd) rfl rfl rfl ?_) | ((with_reducible refine k_lss ?_); refine rl_pure (pv_lss rfl rfl) rfl rfl rfl ?_) | ((with_reducible refine k_len ?_); refine rl_pure (pv_len_ro' (by rfl) by_len) rfl rfl rfl ?_) | ((with_reducible refine k_indexAddr ?_); (first | refine rl_pure (pv_indexAddr_ro (by rfl) rfl (by omega) (by first | rfl | assumption) (by first | rfl | exact ins_len _ | exact prow_len _)) rfl rfl rfl ?_ | refine rl_pure (pv_indexAddr_arr_ro (by rfl) rfl by_bound) rfl rfl rfl ?_)) | ((with_reducible refine k_callv ?_); refine rl_op rfl (op_callF rfl rfl (hnx) rfl ?_)) | (((with_reducible refine k_cond ?_); refine aw_cond rfl ?_ ?_) <;> intro hb <;> (have hc := hb) <;> (try simp only [decide_eq_true_eq, decide_eq_false_iff_not, Int.not_lt, Int.not_le, ne_eq, Bool.not_eq_true, Bool.not_eq_false, Decidable.not_not] at hc) <;> (try (exfalso; omega)) <;> (try (first | contradiction | (cases hc; done)))))
    refine aw_iter (α := Nat × Value × List (Int × Int)) (fun q => [(0, .ro (L.map Ins.cells)), (4, .ro (bs.map prow)), (6, .own q.2.1), (7, int i), (8, .ro (ts.map irow)), (9, int q.1)])
      (fun q => [.vec q.2.1 51 2 (q.2.2.map prow)]) (fun q => q.1 ≤ ts.length ∧ q.2.2 = out ++ edM bs i (ts.take q.1) ∧ q.2.2.length ≤ i * 800 + q.1 * 400) (fun q => ts.length - q.1)
      (0, sv, out) ⟨Nat.zero_le _, by simp [edM], by dsimp only; omega⟩ (by (repeat (first | exact sub_nil | refine sub_cons (by first | rfl | (simp; done)) ?_))) (.cons .here .nil) fun q hI => ?_
    obtain ⟨k, sv1, o1⟩ := q
    dsimp only at hI ⊢
    obtain ⟨hk, hO1, hol1⟩ := hI
    rcases Nat.lt_or_ge k ts.length with h2 | h2
    · obtain ⟨t, ht⟩ : ∃ t, ts[k]? = some t := ⟨_, List.getElem?_eq_getElem h2⟩
      have hr2 : (ts.map irow)[k]? = some (irow t) := by simp [ht]
      have htk : ts.take (k + 1) = ts.take k ++ [t] := by
        obtain ⟨_, rfl⟩ := List.getElem?_eq_some_iff.1 ht
        exact List.take_succ_eq_append_getElem h2
      repeat' (first | (with_reducible first | refine aw_seq ?_ | refine rl_nil ?_ | refine aw_region ?_ | refine then_n ?_ | refine aw_block ?_ | refine then_exit ?_ | refine then_ret ?_ | refine in_n ?_ | refine in_ret ?_ | refine aw_exit ?_ | refine aw_ret ?_ | refine aw_skip ?_ | refine in_exit_eq rfl ?_) | ((with_reducible refine k_move ?_); refine rl_pure (pv_move rfl) rfl rfl rfl ?_) | ((with_reducible refine k_assign ?_); refine rl_pure (pv_assign rfl) rfl rfl rfl ?_) | ((with_reducible refine k_lss ?_); refine rl_pure (pv_lss rfl rfl) rfl rfl rfl ?_) | ((with_reducible refine k_len ?_); refine rl_pure (pv_len_ro' (by rfl) by_len) rfl rfl rfl ?_) | (((with_reducible refine k_cond ?_); refine aw_cond rfl ?_ ?_) <;> intro hb <;> (have hc := hb) <;> (try simp only [decide_eq_true_eq, decide_eq_false_iff_not, Int.not_lt, Int.not_le, ne_eq, Bool.not_eq_true, Bool.not_eq_false, Decidable.not_not] at hc) <;> (try (exfalso; omega)) <;> (try (first | contradiction | (cases hc; done)))))
      refine aw_iter (α := Nat × Value × List (Int × Int)) (fun q => [(0, .ro (L.map Ins.cells)), (4, .ro (bs.map prow)), (6, .own q.2.1), (7, int i), (8, .ro (ts.map irow)), (9, int k), (10, int q.1)])
        (fun q => [.vec q.2.1 51 2 (q.2.2.map prow)]) (fun q => q.1 ≤ bs.length ∧ q.2.2 = o1 ++ edI bs i t q.1 ∧ q.2.2.length ≤ i * 800 + k * 400 + q.1) (fun q => bs.length - q.1)
        (0, sv1, o1) ⟨Nat.zero_le _, by simp [edI], by dsimp only; omega⟩ (by (repeat (first | exact sub_nil | refine sub_cons (by first | rfl | (simp; done)) ?_))) (.cons .here .nil) fun q hI => ?_
      obtain ⟨m, sv2, o2⟩ := q
      dsimp only at hI ⊢
      obtain ⟨hm, hO2, hol2⟩ := hI
      rcases Nat.lt_or_ge m bs.length with h3 | h3
      · obtain ⟨u, hu⟩ : ∃ u, bs[m]? = some u := ⟨_, List.getElem?_eq_getElem h3⟩
        have hr3 : (bs.map prow)[m]? = some (prow u) := by simp [hu]
        repeat' (first | (with_reducible first | refine aw_seq ?_ | refine rl_nil ?_ | refine aw_region ?_ | refine then_n ?_ | refine aw_block ?_ | refine then_exit ?_ | refine then_ret ?_ | refine in_n ?_ | refine in_ret ?_ | refine aw_exit ?_ | refine aw_ret ?_ | refine aw_skip ?_ | refine in_exit_eq rfl ?_) | ((with_reducible refine k_move ?_); refine rl_pure (pv_move rfl) rfl rfl rfl ?_) | ((with_reducible refine k_assign ?_); refine rl_pure (pv_assign rfl) rfl rfl rfl ?_) | ((with_reducible refine k_lss ?_); refine rl_pure (pv_lss rfl rfl) rfl rfl rfl ?_) | ((with_reducible refine k_add ?_); refine rl_pure (pv_add_in rfl rfl (by omega)) rfl rfl rfl ?_) | ((with_reducible refine k_len ?_); refine rl_pure (pv_len_ro' (by rfl) by_len) rfl rfl rfl ?_) | ((with_reducible refine k_build ?_); refine rl_pure (pv_build_arr rfl by_fill (by rfl)) rfl rfl rfl ?_) | ((with_reducible refine k_buildSlice ?_); refine rl_op rfl (op_buildSlice_ro rfl rfl rfl (by rfl) (by rfl) (by rfl) (by rfl) rfl by_rows ?_)) | (with_reducible refine dl_nil by_app ?_) | ((with_reducible refine kd_move ?_); refine dl_pure (by assumption) (pv_move rfl) by_wants rfl rfl ?_) | ((with_reducible refine kd_eql ?_); refine dl_pure (by assumption) (pv_eql rfl rfl) by_wants rfl rfl ?_) | ((with_reducible refine kd_indexAddr ?_); (first | refine dl_pure (by assumption) (pv_indexAddr_ro (by rfl) rfl (by omega) (by first | rfl | assumption) (by first | rfl | exact ins_len _ | exact prow_len _)) by_wants rfl rfl ?_ | refine dl_pure (by assumption) (pv_indexAddr_arr_ro (by rfl) rfl by_bound) by_wants rfl rfl ?_)) | ((with_reducible refine kd_load ?_); refine dl_take (by assumption) (hv_load_ro (by assumption) (by rfl) (by rfl) by_bd) by_wants rfl rfl ?_) | (refine aw_draw (id := 15) [(false, 0), (false, 1), (false, 2), (false, 3), (false, 4), (false, 5), (false, 6), (false, 7), (false, 8), (false, 9)] [] (by kernel_rfl) (by decide +kernel) (by decide) by_lit .nil by_nos fun jd hjd => ?_) | (((with_reducible refine k_cond ?_); refine aw_cond rfl ?_ ?_) <;> intro hb <;> (have hc := hb) <;> (try simp only [decide_eq_true_eq, decide_eq_false_iff_not, Int.not_lt, Int.not_le, ne_eq, Bool.not_eq_true, Bool.not_eq_false, Decidable.not_not] at hc) <;> (try (exfalso; omega)) <;> (try (first | contradiction | (cases hc; done)))))
        · (first | refine rl_op rfl (op_append rfl .here rfl rfl rfl rfl (by intro r hr; rcases List.mem_singleton.1 hr with rfl; rfl) (by first | omega | (simp only [List.length_map, List.length_cons, List.length_nil]; omega)) rfl fun sv' => ?_) | (refine dl_op (by assumption) by_wants (op_append rfl .here rfl rfl rfl rfl (by intro r hr; rcases List.mem_singleton.1 hr with rfl; rfl) (by first | omega | (simp only [List.length_map, List.length_cons, List.length_nil]; omega)) rfl fun sv' => ?_); intro jd hjd))
          repeat' (first | (with_reducible first | refine aw_seq ?_ | refine rl_nil ?_ | refine aw_region ?_ | refine then_n ?_ | refine aw_block ?_ | refine then_exit ?_ | refine then_ret ?_ | refine in_n ?_ | refine in_ret ?_ | refine aw_exit ?_ | refine aw_ret ?_ | refine aw_skip ?_ | refine in_exit_eq rfl ?_) | ((with_reducible refine k_move ?_); refine rl_pure (pv_move rfl) rfl rfl rfl ?_) | ((with_reducible refine k_assign ?_); refine rl_pure (pv_assign rfl) rfl rfl rfl ?_) | ((with_reducible refine k_add ?_); refine rl_pure (pv_add_in rfl rfl (by omega)) rfl rfl rfl ?_))
          refine next_of (R := []) (m + 1, sv', o2 ++ [((i : Int), (m : Int))]) ⟨h3, ?_, by simp; omega⟩ (by dsimp only; omega) (by (repeat (first | exact sub_nil | refine sub_cons (by first | rfl | (simp; done)) ?_))) ?_
          · dsimp only
            rw [edI, getD_of hu, if_pos hc, hO2, List.append_assoc]
          · rw [List.map_append]; exact (.cons .here .nil)
        · refine next_of (R := []) (m + 1, sv2, o2) ⟨h3, ?_, by dsimp only; omega⟩ (by dsimp only; omega) (by (repeat (first | exact sub_nil | refine sub_cons (by first | rfl | (simp; done)) ?_))) (.cons .here .nil)
          dsimp only
          rw [edI, getD_of hu, if_neg hc, hO2, List.append_nil]
      · have hm' : m = bs.length := by omega
        subst hm'
        repeat' (first | (with_reducible first | refine aw_seq ?_ | refine rl_nil ?_ | refine aw_region ?_ | refine then_n ?_ | refine aw_block ?_ | refine then_exit ?_ | refine then_ret ?_ | refine in_n ?_ | refine in_ret ?_ | refine aw_exit ?_ | refine aw_ret ?_ | refine aw_skip ?_ | refine in_exit_eq rfl ?_) | ((with_reducible refine k_move ?_); refine rl_pure (pv_move rfl) rfl rfl rfl ?_) | ((with_reducible refine k_assign ?_); refine rl_pure (pv_assign rfl) rfl rfl rfl ?_) | ((with_reducible refine k_lss ?_); refine rl_pure (pv_lss rfl rfl) rfl rfl rfl ?_) | ((with_reducible refine k_add ?_); refine rl_pure (pv_add_in rfl rfl (by omega)) rfl rfl rfl ?_) | ((with_reducible refine k_len ?_); refine rl_pure (pv_len_ro' (by rfl) by_len) rfl rfl rfl ?_) | (((with_reducible refine k_cond ?_); refine aw_cond rfl ?_ ?_) <;> intro hb <;> (have hc := hb) <;> (try simp only [decide_eq_true_eq, decide_eq_false_iff_not, Int.not_lt, Int.not_le, ne_eq, Bool.not_eq_true, Bool.not_eq_false, Decidable.not_not] at hc) <;> (try (exfalso; omega)) <;> (try (first | contradiction | (cases hc; done)))))
        refine next_of (R := []) (k + 1, sv2, o2) ⟨h2, ?_, by dsimp only; omega⟩ (by dsimp only; omega) (by (repeat (first | exact sub_nil | refine sub_cons (by first | rfl | (simp; done)) ?_))) (.cons .here .nil)
        dsimp only
        rw [hO2, hO1, htk]
        simp [edM]
    · repeat' (first | (with_reducible first | refine aw_seq ?_ | refine rl_nil ?_ | refine aw_region ?_ | refine then_n ?_ | refine aw_block ?_ | refine then_exit ?_ | refine then_ret ?_ | refine in_n ?_ | refine in_ret ?_ | refine aw_exit ?_ | refine aw_ret ?_ | refine aw_skip ?_ | refine in_exit_eq rfl ?_) | ((with_reducible refine k_move ?_); refine rl_pure (pv_move rfl) rfl rfl rfl ?_) | ((with_reducible refine k_assign ?_); refine rl_pure (pv_assign rfl) rfl rfl rfl ?_) | ((with_reducible refine k_lss ?_); refine rl_pure (pv_lss rfl rfl) rfl rfl rfl ?_) | ((with_reducible refine k_add ?_); refine rl_pure (pv_add_in rfl rfl (by omega)) rfl rfl rfl ?_) | ((with_reducible refine k_len ?_); refine rl_pure (pv_len_ro' (by rfl) by_len) rfl rfl rfl ?_) | (((with_reducible refine k_cond ?_); refine aw_cond rfl ?_ ?_) <;> intro hb <;> (have hc := hb) <;> (try simp only [decide_eq_true_eq, decide_eq_false_iff_not, Int.not_lt, Int.not_le, ne_eq, Bool.not_eq_true, Bool.not_eq_false, Decidable.not_not] at hc) <;> (try (exfalso; omega)) <;> (try (first | contradiction | (cases hc; done)))))
      refine next_of (R := []) (i + 1, sv1, o1) ⟨h, ?_, by dsimp only; omega⟩ (by dsimp only; omega) (by (repeat (first | exact sub_nil | refine sub_cons (by first | rfl | (simp; done)) ?_))) (.cons .here .nil)
      dsimp only
      rw [hO1, List.take_of_length_le h2, hO, edE, hN]
  · have hi' : i = bs.length := by omega
    subst hi'
    refine aw_freeze (d := 6) rfl by_take ?_
    repeat' (first | (with_reducible first | refine aw_seq ?_ | refine rl_nil ?_ | refine aw_region ?_ | refine then_n ?_ | refine aw_block ?_ | refine then_exit ?_ | refine then_ret ?_ | refine in_n ?_ | refine in_ret ?_ | refine aw_exit ?_ | refine aw_ret ?_ | refine aw_skip ?_ | refine in_exit_eq rfl ?_) | ((with_reducible refine k_move ?_); refine rl_pure (pv_move rfl) rfl rfl rfl ?_) | ((with_reducible refine k_assign ?_); refine rl_pure (pv_assign rfl) rfl rfl rfl ?_) | ((with_reducible refine k_lss ?_); refine rl_pure (pv_lss rfl rfl) rfl rfl rfl ?_) | ((with_reducible refine k_len ?_); refine rl_pure (pv_len_ro' (by rfl) by_len) rfl rfl rfl ?_) | (((with_reducible refine k_cond ?_); refine aw_cond rfl ?_ ?_) <;> intro hb <;> (have hc := hb) <;> (try simp only [decide_eq_true_eq, decide_eq_false_iff_not, Int.not_lt, Int.not_le, ne_eq, Bool.not_eq_true, Bool.not_eq_false, Decidable.not_not] at hc) <;> (try (exfalso; omega)) <;> (try (first | contradiction | (cases hc; done)))))
    (first | refine ret_r (ret2 rfl by_res by_res (List.nil_sublist _) ⟨_, rfl, ?_⟩) | refine ret_n (ret2 rfl by_res by_res (List.nil_sublist _) ⟨_, rfl, ?_⟩))
    exact ⟨by rw [eg, hO, h0], rfl⟩
end Go.Proofs.Ytobablbklkpchaa

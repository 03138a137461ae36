import Derived.Test.YtbhbjlhobdoomaaDoorK42
set_option linter.unusedVariables false
set_option linter.unusedSimpArgs false
namespace Go.Proofs.YtbhbjlhobdoomaaDoor
open Go Go.AX
set_option maxHeartbeats 4000000
set_option maxRecDepth 20000
attribute [local irreducible] AW RL RLI OP PureV ValV HV DL Tri TriR Fun RetOk ResV
theorem joinT_size (x : ByteArray) (l : List ByteArray) : (joinT 32 (x :: l)).size = x.size + l.length + tot l := by
  show (strOfNums (jn 32 x l)).size = _
  rw [strOf_size, jn_len]
theorem joinT_take (L : List ByteArray) (i : Nat) : (joinT 32 (L.take i)).size ≤ (joinT 32 L).size := by
  cases i with
  | zero => exact Nat.zero_le _
  | succ i =>
    cases L with
    | nil => exact Nat.le_refl _
    | cons x l =>
      rw [List.take_succ_cons, joinT_size, joinT_size]
      have h1 := tot_take l i
      have h2 : (l.take i).length ≤ l.length := by rw [List.length_take]; omega
      omega
theorem joinT_one (x : ByteArray) : joinT 32 [x] = x := by
  show strOfNums (jn 32 x []) = x
  unfold jn
  rw [List.flatMap_nil, List.append_nil, strOf_nums]
theorem joinT_snoc (x y : ByteArray) (l : List ByteArray) : joinT 32 ((x :: l) ++ [y]) = joinT 32 (x :: l) ++ ⟨#[32]⟩ ++ y := by
  rw [← strOf_nums (joinT 32 (x :: l) ++ ⟨#[32]⟩ ++ y), nums_append, nums_append]
  show strOfNums (jn 32 x (l ++ [y])) = strOfNums (nums (strOfNums (jn 32 x l)) ++ [32] ++ nums y)
  rw [nums_strOf _ (jn_range (by decide) (by decide) x l)]
  unfold jn
  rw [List.flatMap_append]
  simp
theorem empty_app (x : ByteArray) : (⟨#[]⟩ : ByteArray) ++ x = x := ByteArray.empty_append
theorem text19 (l : List GT) (hn : ∀ t ∈ l, I64 t.n) (hl : l.length ≤ 12000) (hx : txs l ≤ 48000) (R : V) (hR : TxtR l R) :
    TriR Tryd.prog 19 [.ro (l.map GT.row)] [kpc] fun u H' => u = R ∧ H' = [kpc] := by
  refine TriR.of (tri_of Tryd.func19 rfl Tryd.ntmps19 rfl fun j => ?_)
  repeat' (first | (with_reducible first | refine aw_seq ?_ | refine rl_nil ?_ | refine aw_region ?_ | refine then_n ?_ | refine aw_block ?_ | refine then_exit ?_ | refine then_ret ?_ | refine in_n ?_ | refine in_ret ?_ | refine aw_exit ?_ | refine aw_ret ?_ | refine aw_skip ?_ | refine in_exit_eq rfl ?_ | refine awr_succ ?_) | ((with_reducible refine k_assign ?_); refine rl_pure (pv_assign rfl) rfl rfl rfl ?_))
  refine aw_iter (α := Nat) (fun i => [(0, .ro (l.map GT.row)), (4, str (joinT 32 ((l.map wr).take i))), (5, int i)]) (fun _ => [kpc]) (fun i => i ≤ l.length ∧ (joinT 32 ((l.map wr).take i)).size ≤ 6000) (fun i => l.length - i)
    0 ⟨Nat.zero_le _, Nat.zero_le _⟩ (by (repeat (first | exact sub_nil | refine sub_cons (by first | rfl | (simp; done)) ?_))) (.cons .here .nil) fun i hI => ?_
  obtain ⟨hI, hsz⟩ := hI
  by_cases hlt : i < l.length
  · obtain ⟨t, ht⟩ : ∃ t, l[i]? = some t := ⟨_, List.getElem?_eq_getElem hlt⟩
    have hrow : (l.map GT.row)[(i : Int).toNat]? = some [int t.kd, int t.n, int t.a, str t.t] := by rw [Int.toNat_natCast, List.getElem?_map, ht]; rfl
    have htn := hn t (List.mem_of_getElem? ht)
    have htm := txs_mem ht
    have hwl := wr_len t htn
    have hle := joinT_take (l.map wr) (i + 1)
    have htk : (l.map wr).take (i + 1) = (l.map wr).take i ++ [wr t] := by rw [List.take_add_one, List.getElem?_map, ht]; rfl
    have hbig : 6000 < (joinT 32 ((l.map wr).take (i + 1))).size → R = .tup [str ⟨#[]⟩, int 3] := fun q => by
      rcases hR with ⟨ts, h1, h2, h3, h4⟩ | ⟨n, e, h1, h2, h3, h4⟩
      · omega
      · rw [h4, h3 (by omega)]
    rcases Nat.eq_zero_or_pos i with hi | hi
    · subst hi
      have hj : joinT 32 ((l.map wr).take (0 + 1)) = (⟨#[]⟩ : ByteArray) ++ wr t := by
        rw [htk, List.take_zero, List.nil_append, joinT_one, empty_app]
      have hj0 : joinT 32 ((l.map wr).take 0) = ⟨#[]⟩ := rfl
      rw [hj0] at hsz ⊢
      rw [hj] at hle
      repeat' (first | (with_reducible first | refine aw_seq ?_ | refine rl_nil ?_ | refine aw_region ?_ | refine then_n ?_ | refine aw_block ?_ | refine then_exit ?_ | refine then_ret ?_ | refine in_n ?_ | refine in_ret ?_ | refine aw_exit ?_ | refine aw_ret ?_ | refine aw_skip ?_ | refine in_exit_eq rfl ?_ | refine awr_succ ?_) | ((with_reducible refine k_move ?_); refine rl_pure (pv_move rfl) rfl rfl rfl ?_) | ((with_reducible refine k_load ?_); refine rl_val (vv_load_ro_whole (by rfl) (by rfl) (by first | rfl)) rfl rfl rfl ?_) | ((with_reducible refine k_lss ?_); refine rl_pure (pv_lss rfl rfl) rfl rfl rfl ?_) | ((with_reducible refine k_gtr ?_); refine rl_pure (pv_gtr rfl rfl) rfl rfl rfl ?_) | ((with_reducible refine k_len ?_); refine rl_pure (pv_len_ro' (by rfl) by_len) rfl rfl rfl ?_) | ((with_reducible refine k_indexAddr ?_); refine rl_pure (pv_indexAddr_ro (by rfl) rfl (by omega) (by first | rfl | assumption) (by first | rfl)) rfl rfl rfl ?_) | ((with_reducible refine k_cond ?_); refine aw_cond_f rfl ?_) | (((with_reducible refine k_cond ?_); refine aw_cond rfl ?_ ?_) <;> ((fail_if_success (refine imp_known (by assumption) ?_)); (intro hb <;> (have hc := hb) <;> (try simp only [decide_eq_true_eq, decide_eq_false_iff_not, Int.not_lt, Int.not_le, ne_eq, Bool.not_eq_true, Bool.not_eq_false, Decidable.not_not] at hc) <;> (try (exfalso; omega)) <;> (try (exfalso; simp only [Bool.not_eq_eq_eq_not, Bool.not_true, Bool.not_false, decide_eq_true_eq, decide_eq_false_iff_not, ne_eq, Decidable.not_not, Int.not_lt, Int.not_le] at hc; omega)) <;> (try (first | contradiction | (cases hc; done))) <;> (try (first | exact absurd (hb.symm.trans (by assumption) : true = false) (by decide) | exact absurd (hb.symm.trans (by assumption) : false = true) (by decide)))))))
      (first | refine rl_op rfl (op_callR rfl rfl (.cons .here .nil) (written37 t htn (by omega)) rfl ?_) | refine dl_op (by assumption) by_wants (op_callR rfl rfl (.cons .here .nil) (written37 t htn (by omega)) rfl ?_))
      rintro _ _ ⟨rfl, rfl⟩
      repeat' (first | (with_reducible first | refine aw_seq ?_ | refine rl_nil ?_ | refine aw_region ?_ | refine then_n ?_ | refine aw_block ?_ | refine then_exit ?_ | refine then_ret ?_ | refine in_n ?_ | refine in_ret ?_ | refine aw_exit ?_ | refine aw_ret ?_ | refine aw_skip ?_ | refine in_exit_eq rfl ?_ | refine awr_succ ?_) | ((with_reducible refine k_move ?_); refine rl_pure (pv_move rfl) rfl rfl rfl ?_) | ((with_reducible refine k_assign ?_); refine rl_pure (pv_assign rfl) rfl rfl rfl ?_) | ((with_reducible refine k_gtr ?_); refine rl_pure (pv_gtr rfl rfl) rfl rfl rfl ?_) | ((with_reducible refine k_add ?_); (first | refine rl_pure (pv_add_in rfl rfl (by omega)) rfl rfl rfl ?_ | refine rl_pure (pv_str_add rfl rfl by_bound) rfl rfl rfl ?_)) | ((with_reducible refine k_len ?_); refine rl_pure (pv_len_str rfl) rfl rfl rfl ?_) | (((with_reducible refine k_cond ?_); refine aw_cond rfl ?_ ?_) <;> ((fail_if_success (refine imp_known (by assumption) ?_)); (intro hb <;> (have hc := hb) <;> (try simp only [decide_eq_true_eq, decide_eq_false_iff_not, Int.not_lt, Int.not_le, ne_eq, Bool.not_eq_true, Bool.not_eq_false, Decidable.not_not] at hc) <;> (try (exfalso; omega)) <;> (try (exfalso; simp only [Bool.not_eq_eq_eq_not, Bool.not_true, Bool.not_false, decide_eq_true_eq, decide_eq_false_iff_not, ne_eq, Decidable.not_not, Int.not_lt, Int.not_le] at hc; omega)) <;> (try (first | contradiction | (cases hc; done))) <;> (try (first | exact absurd (hb.symm.trans (by assumption) : true = false) (by decide) | exact absurd (hb.symm.trans (by assumption) : false = true) (by decide)))))))
      · rw [hbig (by rw [hj]; omega)]
        (first | refine ret_r (retok_pick (.cons .here .nil) (ret2 rfl by_res by_res (List.Sublist.refl _) ⟨_, rfl, ?_⟩)) | refine ret_n (retok_pick (.cons .here .nil) (ret2 rfl by_res by_res (List.Sublist.refl _) ⟨_, rfl, ?_⟩)))
        exact ⟨rfl, rfl⟩
      · rw [← hj]
        exact next_of (R := []) (0 + 1) ⟨hlt, by rw [hj]; omega⟩ (by omega) (by (repeat (first | exact sub_nil | refine sub_cons (by first | rfl | (simp; done)) ?_))) (.cons .here .nil)
    · obtain ⟨x, L, hL⟩ : ∃ x L, (l.map wr).take i = x :: L := by
        cases h : (l.map wr).take i with
        | nil => have := congrArg List.length h; rw [List.length_take, List.length_map, List.length_nil] at this; omega
        | cons x L => exact ⟨x, L, rfl⟩
      have hj : joinT 32 ((l.map wr).take (i + 1)) = joinT 32 ((l.map wr).take i) ++ ⟨#[32]⟩ ++ wr t := by rw [htk, hL, joinT_snoc]
      rw [hj] at hle
      clear hL
      generalize joinT 32 ((l.map wr).take i) = o at hj hsz hle ⊢
      have hz : (ByteArray.mk #[32]).size = 1 := rfl
      have hz2 : (o ++ ByteArray.mk #[32]).size = o.size + 1 := by rw [ByteArray.size_append]; rfl
      repeat' (first | (with_reducible first | refine aw_seq ?_ | refine rl_nil ?_ | refine aw_region ?_ | refine then_n ?_ | refine aw_block ?_ | refine then_exit ?_ | refine then_ret ?_ | refine in_n ?_ | refine in_ret ?_ | refine aw_exit ?_ | refine aw_ret ?_ | refine aw_skip ?_ | refine in_exit_eq rfl ?_ | refine awr_succ ?_) | ((with_reducible refine k_move ?_); refine rl_pure (pv_move rfl) rfl rfl rfl ?_) | ((with_reducible refine k_assign ?_); refine rl_pure (pv_assign rfl) rfl rfl rfl ?_) | ((with_reducible refine k_load ?_); refine rl_val (vv_load_ro_whole (by rfl) (by rfl) (by first | rfl)) rfl rfl rfl ?_) | ((with_reducible refine k_lss ?_); refine rl_pure (pv_lss rfl rfl) rfl rfl rfl ?_) | ((with_reducible refine k_gtr ?_); refine rl_pure (pv_gtr rfl rfl) rfl rfl rfl ?_) | ((with_reducible refine k_add ?_); refine rl_pure (pv_str_add rfl rfl by_bound) rfl rfl rfl ?_) | ((with_reducible refine k_len ?_); refine rl_pure (pv_len_ro' (by rfl) by_len) rfl rfl rfl ?_) | ((with_reducible refine k_indexAddr ?_); refine rl_pure (pv_indexAddr_ro (by rfl) rfl (by omega) (by first | rfl | assumption) (by first | rfl)) rfl rfl rfl ?_) | (((with_reducible refine k_cond ?_); refine aw_cond rfl ?_ ?_) <;> ((fail_if_success (refine imp_known (by assumption) ?_)); (intro hb <;> (have hc := hb) <;> (try simp only [decide_eq_true_eq, decide_eq_false_iff_not, Int.not_lt, Int.not_le, ne_eq, Bool.not_eq_true, Bool.not_eq_false, Decidable.not_not] at hc) <;> (try (exfalso; omega)) <;> (try (exfalso; simp only [Bool.not_eq_eq_eq_not, Bool.not_true, Bool.not_false, decide_eq_true_eq, decide_eq_false_iff_not, ne_eq, Decidable.not_not, Int.not_lt, Int.not_le] at hc; omega)) <;> (try (first | contradiction | (cases hc; done))) <;> (try (first | exact absurd (hb.symm.trans (by assumption) : true = false) (by decide) | exact absurd (hb.symm.trans (by assumption) : false = true) (by decide)))))))
      (first | refine rl_op rfl (op_callR rfl rfl (.cons .here .nil) (written37 t htn (by omega)) rfl ?_) | refine dl_op (by assumption) by_wants (op_callR rfl rfl (.cons .here .nil) (written37 t htn (by omega)) rfl ?_))
      rintro _ _ ⟨rfl, rfl⟩
      repeat' (first | (with_reducible first | refine aw_seq ?_ | refine rl_nil ?_ | refine aw_region ?_ | refine then_n ?_ | refine aw_block ?_ | refine then_exit ?_ | refine then_ret ?_ | refine in_n ?_ | refine in_ret ?_ | refine aw_exit ?_ | refine aw_ret ?_ | refine aw_skip ?_ | refine in_exit_eq rfl ?_ | refine awr_succ ?_) | ((with_reducible refine k_move ?_); refine rl_pure (pv_move rfl) rfl rfl rfl ?_) | ((with_reducible refine k_assign ?_); refine rl_pure (pv_assign rfl) rfl rfl rfl ?_) | ((with_reducible refine k_gtr ?_); refine rl_pure (pv_gtr rfl rfl) rfl rfl rfl ?_) | ((with_reducible refine k_add ?_); (first | refine rl_pure (pv_add_in rfl rfl (by omega)) rfl rfl rfl ?_ | refine rl_pure (pv_str_add rfl rfl by_bound) rfl rfl rfl ?_)) | ((with_reducible refine k_len ?_); refine rl_pure (pv_len_str rfl) rfl rfl rfl ?_) | (((with_reducible refine k_cond ?_); refine aw_cond rfl ?_ ?_) <;> ((fail_if_success (refine imp_known (by assumption) ?_)); (intro hb <;> (have hc := hb) <;> (try simp only [decide_eq_true_eq, decide_eq_false_iff_not, Int.not_lt, Int.not_le, ne_eq, Bool.not_eq_true, Bool.not_eq_false, Decidable.not_not] at hc) <;> (try (exfalso; omega)) <;> (try (exfalso; simp only [Bool.not_eq_eq_eq_not, Bool.not_true, Bool.not_false, decide_eq_true_eq, decide_eq_false_iff_not, ne_eq, Decidable.not_not, Int.not_lt, Int.not_le] at hc; omega)) <;> (try (first | contradiction | (cases hc; done))) <;> (try (first | exact absurd (hb.symm.trans (by assumption) : true = false) (by decide) | exact absurd (hb.symm.trans (by assumption) : false = true) (by decide)))))))
      · rw [hbig (by rw [hj]; omega)]
        (first | refine ret_r (retok_pick (.cons .here .nil) (ret2 rfl by_res by_res (List.Sublist.refl _) ⟨_, rfl, ?_⟩)) | refine ret_n (retok_pick (.cons .here .nil) (ret2 rfl by_res by_res (List.Sublist.refl _) ⟨_, rfl, ?_⟩)))
        exact ⟨rfl, rfl⟩
      · rw [← hj]
        exact next_of (R := []) (i + 1) ⟨hlt, by rw [hj]; omega⟩ (by omega) (by (repeat (first | exact sub_nil | refine sub_cons (by first | rfl | (simp; done)) ?_))) (.cons .here .nil)
  · have hti : (l.map wr).take i = l.map wr := List.take_of_length_le (by rw [List.length_map]; omega)
    rw [hti] at hsz ⊢
    have g := refLex10 (joinT 32 (l.map wr)) (by omega)
    rcases hR with ⟨ts, h1, h2, h3, h4⟩ | ⟨n, e, h1, h2, h3, h4⟩
    · rw [h3] at g
      have g2 := same20 (ts.map GT.of) l (by rw [List.length_map]; omega)
      rw [of_rows] at g2
      cases hs : sameB (ts.map GT.of) l with
      | true =>
        rw [hs] at g2 h4
        rw [h4]
        repeat' (first | (with_reducible first | refine aw_seq ?_ | refine rl_nil ?_ | refine aw_region ?_ | refine then_n ?_ | refine aw_block ?_ | refine then_exit ?_ | refine then_ret ?_ | refine in_n ?_ | refine in_ret ?_ | refine aw_exit ?_ | refine aw_ret ?_ | refine aw_skip ?_ | refine in_exit_eq rfl ?_ | refine awr_succ ?_) | ((with_reducible refine k_move ?_); refine rl_pure (pv_move rfl) rfl rfl rfl ?_) | ((with_reducible refine k_assign ?_); refine rl_pure (pv_assign rfl) rfl rfl rfl ?_) | ((with_reducible refine k_neq ?_); refine rl_pure (pv_neq rfl rfl) rfl rfl rfl ?_) | ((with_reducible refine k_lss ?_); refine rl_pure (pv_lss rfl rfl) rfl rfl rfl ?_) | ((with_reducible refine k_not ?_); refine rl_pure (pv_not rfl) rfl rfl rfl ?_) | ((with_reducible refine k_extract ?_); refine rl_pure (pv_extract rfl rfl) rfl rfl rfl ?_) | ((with_reducible refine k_len ?_); refine rl_pure (pv_len_ro' (by rfl) by_len) rfl rfl rfl ?_) | ((with_reducible refine k_cond ?_); refine aw_cond_f rfl ?_) | ((with_reducible refine k_callv ?_); (first | refine rl_op rfl (op_callF rfl rfl (g) rfl ?_) | refine rl_op rfl (op_callF rfl rfl (g2) rfl ?_))) | (((with_reducible refine k_cond ?_); refine aw_cond rfl ?_ ?_) <;> ((fail_if_success (refine imp_known (by assumption) ?_)); (intro hb <;> (have hc := hb) <;> (try simp only [decide_eq_true_eq, decide_eq_false_iff_not, Int.not_lt, Int.not_le, ne_eq, Bool.not_eq_true, Bool.not_eq_false, Decidable.not_not] at hc) <;> (try (exfalso; omega)) <;> (try (exfalso; simp only [Bool.not_eq_eq_eq_not, Bool.not_true, Bool.not_false, decide_eq_true_eq, decide_eq_false_iff_not, ne_eq, Decidable.not_not, Int.not_lt, Int.not_le] at hc; omega)) <;> (try (first | contradiction | (cases hc; done))) <;> (try (first | exact absurd (hb.symm.trans (by assumption) : true = false) (by decide) | exact absurd (hb.symm.trans (by assumption) : false = true) (by decide)))))))
        (first | refine ret_r (retok_pick (.cons .here .nil) (ret2 rfl by_res by_res (List.Sublist.refl _) ⟨_, rfl, ?_⟩)) | refine ret_n (retok_pick (.cons .here .nil) (ret2 rfl by_res by_res (List.Sublist.refl _) ⟨_, rfl, ?_⟩)))
        exact ⟨rfl, rfl⟩
      | false =>
        rw [hs] at g2 h4
        rw [h4]
        repeat' (first | (with_reducible first | refine aw_seq ?_ | refine rl_nil ?_ | refine aw_region ?_ | refine then_n ?_ | refine aw_block ?_ | refine then_exit ?_ | refine then_ret ?_ | refine in_n ?_ | refine in_ret ?_ | refine aw_exit ?_ | refine aw_ret ?_ | refine aw_skip ?_ | refine in_exit_eq rfl ?_ | refine awr_succ ?_) | ((with_reducible refine k_move ?_); refine rl_pure (pv_move rfl) rfl rfl rfl ?_) | ((with_reducible refine k_assign ?_); refine rl_pure (pv_assign rfl) rfl rfl rfl ?_) | ((with_reducible refine k_neq ?_); refine rl_pure (pv_neq rfl rfl) rfl rfl rfl ?_) | ((with_reducible refine k_lss ?_); refine rl_pure (pv_lss rfl rfl) rfl rfl rfl ?_) | ((with_reducible refine k_not ?_); refine rl_pure (pv_not rfl) rfl rfl rfl ?_) | ((with_reducible refine k_extract ?_); refine rl_pure (pv_extract rfl rfl) rfl rfl rfl ?_) | ((with_reducible refine k_len ?_); refine rl_pure (pv_len_ro' (by rfl) by_len) rfl rfl rfl ?_) | ((with_reducible refine k_cond ?_); (first | refine aw_cond_t rfl ?_ | refine aw_cond_f rfl ?_)) | ((with_reducible refine k_callv ?_); (first | refine rl_op rfl (op_callF rfl rfl (g) rfl ?_) | refine rl_op rfl (op_callF rfl rfl (g2) rfl ?_))) | (((with_reducible refine k_cond ?_); refine aw_cond rfl ?_ ?_) <;> ((fail_if_success (refine imp_known (by assumption) ?_)); (intro hb <;> (have hc := hb) <;> (try simp only [decide_eq_true_eq, decide_eq_false_iff_not, Int.not_lt, Int.not_le, ne_eq, Bool.not_eq_true, Bool.not_eq_false, Decidable.not_not] at hc) <;> (try (exfalso; omega)) <;> (try (exfalso; simp only [Bool.not_eq_eq_eq_not, Bool.not_true, Bool.not_false, decide_eq_true_eq, decide_eq_false_iff_not, ne_eq, Decidable.not_not, Int.not_lt, Int.not_le] at hc; omega)) <;> (try (first | contradiction | (cases hc; done))) <;> (try (first | exact absurd (hb.symm.trans (by assumption) : true = false) (by decide) | exact absurd (hb.symm.trans (by assumption) : false = true) (by decide)))))))
        (first | refine ret_r (retok_pick (.cons .here .nil) (ret2 rfl by_res by_res (List.Sublist.refl _) ⟨_, rfl, ?_⟩)) | refine ret_n (retok_pick (.cons .here .nil) (ret2 rfl by_res by_res (List.Sublist.refl _) ⟨_, rfl, ?_⟩)))
        exact ⟨rfl, rfl⟩
    · rw [h2] at g
      rw [h4]
      repeat' (first | (with_reducible first | refine aw_seq ?_ | refine rl_nil ?_ | refine aw_region ?_ | refine then_n ?_ | refine aw_block ?_ | refine then_exit ?_ | refine then_ret ?_ | refine in_n ?_ | refine in_ret ?_ | refine aw_exit ?_ | refine aw_ret ?_ | refine aw_skip ?_ | refine in_exit_eq rfl ?_ | refine awr_succ ?_) | ((with_reducible refine k_move ?_); refine rl_pure (pv_move rfl) rfl rfl rfl ?_) | ((with_reducible refine k_assign ?_); refine rl_pure (pv_assign rfl) rfl rfl rfl ?_) | ((with_reducible refine k_neq ?_); refine rl_pure (pv_neq rfl rfl) rfl rfl rfl ?_) | ((with_reducible refine k_lss ?_); refine rl_pure (pv_lss rfl rfl) rfl rfl rfl ?_) | ((with_reducible refine k_extract ?_); refine rl_pure (pv_extract rfl rfl) rfl rfl rfl ?_) | ((with_reducible refine k_len ?_); refine rl_pure (pv_len_ro' (by rfl) by_len) rfl rfl rfl ?_) | ((with_reducible refine k_callv ?_); refine rl_op rfl (op_callF rfl rfl (g) rfl ?_)) | (((with_reducible refine k_cond ?_); refine aw_cond rfl ?_ ?_) <;> ((fail_if_success (refine imp_known (by assumption) ?_)); (intro hb <;> (have hc := hb) <;> (try simp only [decide_eq_true_eq, decide_eq_false_iff_not, Int.not_lt, Int.not_le, ne_eq, Bool.not_eq_true, Bool.not_eq_false, Decidable.not_not] at hc) <;> (try (exfalso; omega)) <;> (try (exfalso; simp only [Bool.not_eq_eq_eq_not, Bool.not_true, Bool.not_false, decide_eq_true_eq, decide_eq_false_iff_not, ne_eq, Decidable.not_not, Int.not_lt, Int.not_le] at hc; omega)) <;> (try (first | contradiction | (cases hc; done))) <;> (try (first | exact absurd (hb.symm.trans (by assumption) : true = false) (by decide) | exact absurd (hb.symm.trans (by assumption) : false = true) (by decide)))))))
      (first | refine ret_r (retok_pick (.cons .here .nil) (ret2 rfl by_res by_res (List.Sublist.refl _) ⟨_, rfl, ?_⟩)) | refine ret_n (retok_pick (.cons .here .nil) (ret2 rfl by_res by_res (List.Sublist.refl _) ⟨_, rfl, ?_⟩)))
      exact ⟨rfl, rfl⟩
end Go.Proofs.YtbhbjlhobdoomaaDoor

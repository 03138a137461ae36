import Derived.Test.YtbhbjlhobdoomaaDoorK27
import Derived.Test.YtbhbjlhobdoomaaDoorK25
set_option linter.unusedVariables false
set_option linter.unusedSimpArgs false
namespace Go.Proofs.YtbhbjlhobdoomaaDoor
open Go Go.AX
set_option maxHeartbeats 4000000
set_option maxRecDepth 20000
theorem bt_app_l {p q : ByteArray} {k : Nat} (h : k < p.size) : bt (p ++ q) k = bt p k := by
  have h1 : k < (p ++ q).size := by rw [ByteArray.size_append]; omega
  rw [bt_get h, bt_get h1, ByteArray.getElem_append_left h]
theorem bt_app_r {p q : ByteArray} {k : Nat} (h : k < q.size) : bt (p ++ q) (p.size + k : Nat) = bt q k := by
  have h1 : p.size + k < (p ++ q).size := by rw [ByteArray.size_append]; omega
  rw [bt_get h, bt_get h1, ByteArray.getElem_append_right (Nat.le_add_right _ _)]
  have e : p.size + k - p.size = k := by omega
  simp only [e]
def nlT : ByteArray := ⟨#[10]⟩
theorem nl_size : nlT.size = 1 := rfl
theorem join_size (a b : ByteArray) : (a ++ nlT ++ b).size = a.size + 1 + b.size := by rw [ByteArray.size_append, ByteArray.size_append, nl_size]
theorem join_nl (a b : ByteArray) : bt (a ++ nlT ++ b) a.size = 10 := by
  rw [bt_app_l (by rw [ByteArray.size_append, nl_size]; omega)]
  have := bt_app_r (p := a) (q := nlT) (k := 0) (by decide)
  rw [Nat.add_zero] at this
  rw [this]; rfl
theorem emb_a (a b : ByteArray) : Emb (a ++ nlT ++ b) a 0 := by
  refine ⟨by rw [join_size]; omega, fun k hk => ?_, fun _ => ?_⟩
  · rw [Nat.zero_add, bt_app_l (by rw [ByteArray.size_append, nl_size]; omega), bt_app_l hk]
  · rw [Nat.zero_add]; exact join_nl a b
theorem emb_b (a b : ByteArray) : Emb (a ++ nlT ++ b) b (a.size + 1) := by
  refine ⟨by rw [join_size]; omega, fun k hk => ?_, fun h => ?_⟩
  · have := bt_app_r (p := a ++ nlT) (q := b) hk
    rw [ByteArray.size_append, nl_size] at this
    exact this
  · rw [join_size] at h; omega
theorem shT_zero (l : List Tok) : l.map (shT 0) = l := by
  induction l with
  | nil => rfl
  | cons t l ih => rw [List.map_cons, ih]; unfold shT; rw [Nat.zero_add]
/-- The tokens of two sources, one on a line behind the other. -/
theorem join_lxq (a b : ByteArray) (ha : (lxq a (skip a false 0)).2 = none) (hb : (lxq b (skip b false 0)).2 = none) :
    lxq (a ++ nlT ++ b) (skip (a ++ nlT ++ b) false 0) = ((lxq a (skip a false 0)).1 ++ (lxq b (skip b false 0)).1.map (shT (a.size + 1)), none) := by
  obtain ⟨c1, h1⟩ := emb_lxq (emb_a a b) _ 0 (Nat.le_refl _) (Nat.zero_le _) ha
  obtain ⟨c2, h2⟩ := emb_lxq (emb_b a b) _ 0 (Nat.le_refl _) (Nat.zero_le _) hb
  rw [Nat.add_zero] at h1 h2
  rw [Nat.zero_add] at h1
  rw [skip_end (k := a.size + 1 + b.size) (by rw [join_size]; omega), lxq_end (by rw [join_size]; omega)] at h2
  have hlt : a.size < (a ++ nlT ++ b).size := by rw [join_size]; omega
  have hnl := join_nl a b
  have h3 : skip (a ++ nlT ++ b) c1 a.size = skip (a ++ nlT ++ b) false (a.size + 1) := by
    cases c1 with
    | true =>
      rw [skip_in hlt (by rw [hnl]; decide), hnl]
      rfl
    | false => exact skip_blank hlt (by rw [hnl]; decide)
  rw [h3, h2] at h1
  rw [h1, shT_zero]
  simp
attribute [local irreducible] AW RL RLI OP PureV ValV HV DL Tri TriR Fun RetOk ResV
theorem same31 (kd n x y : Int) (t : ByteArray) : Fun Tryd.prog 31 [.agg [int kd, int n, int x, str t], .agg [int kd, int n, int y, str t]] (bool true) := by
  refine Fun.of (TriR.of (tri_of Tryd.func31 rfl Tryd.ntmps31 rfl fun j => ?_))
  repeat' (first | (with_reducible first | refine aw_seq ?_ | refine rl_nil ?_ | refine aw_region ?_ | refine then_n ?_ | refine aw_block ?_ | refine then_exit ?_ | refine then_ret ?_ | refine in_n ?_ | refine in_ret ?_ | refine aw_exit ?_ | refine aw_ret ?_ | refine aw_skip ?_ | refine in_exit_eq rfl ?_ | refine awr_succ ?_) | ((with_reducible refine k_move ?_); refine rl_pure (pv_move rfl) rfl rfl rfl ?_) | ((with_reducible refine k_assign ?_); refine rl_pure (pv_assign rfl) rfl rfl rfl ?_) | ((with_reducible refine k_load ?_); refine rl_val (vv_load_box (by rfl) by_memb (by rfl) by_bd) rfl rfl rfl ?_) | ((with_reducible refine k_fieldAddr ?_); refine rl_pure (pv_fieldAddr rfl) rfl rfl rfl ?_) | ((with_reducible refine k_box ?_); refine rl_op rfl (op_box rfl (V.okc_or (by rfl)) rfl fun b => ?_)) | ((with_reducible refine k_eql ?_); (first | refine rl_pure (pv_eql rfl rfl) rfl rfl rfl ?_ | refine rl_pure (pv_str_eql rfl rfl) rfl rfl rfl ?_)) | ((with_reducible refine k_pick ?_); refine rl_pure (pv_pick_t rfl by_bd rfl) rfl rfl rfl ?_) | ((with_reducible refine k_guard ?_); refine rl_on_yes rfl rfl rfl by_bd rfl ?_) | (((with_reducible refine k_guard ?_); first | refine rl_if_t rfl rfl rfl rfl ?_ ?_ | refine rl_if_f rfl rfl rfl rfl ?_ ?_) <;> ((fail_if_success (refine imp_known (by assumption) ?_)); (intro hb <;> (have hc := hb) <;> (try simp only [decide_eq_true_eq, decide_eq_false_iff_not, Int.not_lt, Int.not_le, ne_eq, Bool.not_eq_true, Bool.not_eq_false, Decidable.not_not] at hc) <;> (try (exfalso; omega)) <;> (try (exfalso; simp only [Bool.not_eq_eq_eq_not, Bool.not_true, Bool.not_false, decide_eq_true_eq, decide_eq_false_iff_not, ne_eq, Decidable.not_not, Int.not_lt, Int.not_le] at hc; omega)) <;> (try (first | contradiction | (cases hc; done))) <;> (try (first | exact absurd (hb.symm.trans (by assumption) : true = false) (by decide) | exact absurd (hb.symm.trans (by assumption) : false = true) (by decide)))))))
  (first | refine ret_r (ret1 rfl by_res (List.nil_sublist _) ⟨_, rfl, ?_⟩) | refine ret_n (ret1 rfl by_res (List.nil_sublist _) ⟨_, rfl, ?_⟩))
  exact ⟨congrArg bool (decide_eq_true rfl), rfl⟩
/-- Tokens but for their places. -/
abbrev eqT (t u : Tok) : Prop := t.kd = u.kd ∧ t.n = u.n ∧ t.t = u.t
theorem equal30 (l m : List Tok) (hlm : l.length = m.length) (hl : l.length ≤ 100000) (h : ∀ (i : Nat) t u, l[i]? = some t → m[i]? = some u → eqT t u) : Fun Tryd.prog 30 [.ro (l.map Tok.row), .ro (m.map Tok.row), .fn 31 []] (bool true) := by
  refine Fun.of (TriR.of (tri_of Tryd.func30 rfl Tryd.ntmps30 rfl fun j => ?_))
  repeat' (first | (with_reducible first | refine aw_seq ?_ | refine rl_nil ?_ | refine aw_region ?_ | refine then_n ?_ | refine aw_block ?_ | refine then_exit ?_ | refine then_ret ?_ | refine in_n ?_ | refine in_ret ?_ | refine aw_exit ?_ | refine aw_ret ?_ | refine aw_skip ?_ | refine in_exit_eq rfl ?_ | refine awr_succ ?_) | ((with_reducible refine k_move ?_); refine rl_pure (pv_move rfl) rfl rfl rfl ?_) | ((with_reducible refine k_assign ?_); refine rl_pure (pv_assign rfl) rfl rfl rfl ?_) | ((with_reducible refine k_neq ?_); refine rl_pure (pv_neq rfl rfl) rfl rfl rfl ?_) | ((with_reducible refine k_len ?_); refine rl_pure (pv_len_ro' (by rfl) by_len) rfl rfl rfl ?_) | (((with_reducible refine k_cond ?_); refine aw_cond rfl ?_ ?_) <;> ((fail_if_success (refine imp_known (by assumption) ?_)); (intro hb <;> (have hc := hb) <;> (try simp only [decide_eq_true_eq, decide_eq_false_iff_not, Int.not_lt, Int.not_le, ne_eq, Bool.not_eq_true, Bool.not_eq_false, Decidable.not_not] at hc) <;> (try (exfalso; omega)) <;> (try (exfalso; simp only [Bool.not_eq_eq_eq_not, Bool.not_true, Bool.not_false, decide_eq_true_eq, decide_eq_false_iff_not, ne_eq, Decidable.not_not, Int.not_lt, Int.not_le] at hc; omega)) <;> (try (first | contradiction | (cases hc; done))) <;> (try (first | exact absurd (hb.symm.trans (by assumption) : true = false) (by decide) | exact absurd (hb.symm.trans (by assumption) : false = true) (by decide)))))))
  refine aw_iter (α := Nat) (fun i => [(0, .ro (l.map Tok.row)), (1, .ro (m.map Tok.row)), (2, .fn 31 []), (15, .ro (l.map Tok.row)), (16, int l.length), (17, int i)]) (fun _ => []) (fun i => i ≤ l.length) (fun i => l.length - i)
    0 (Nat.zero_le _) (by (repeat (first | exact sub_nil | refine sub_cons (by first | rfl | (simp; done)) ?_))) .nil fun i hI => ?_
  by_cases hlt : i < l.length
  · obtain ⟨t, ht⟩ : ∃ t, l[i]? = some t := ⟨_, List.getElem?_eq_getElem hlt⟩
    obtain ⟨u, hu⟩ : ∃ t, m[i]? = some t := ⟨_, List.getElem?_eq_getElem (by omega)⟩
    have heq := h i t u ht hu
    obtain ⟨kd, n, x, tt⟩ := t
    obtain ⟨kd2, n2, y, tt2⟩ := u
    obtain ⟨rfl, rfl, rfl⟩ : kd = kd2 ∧ n = n2 ∧ tt = tt2 := heq
    have hrow : (l.map Tok.row)[(i : Int).toNat]? = some [int kd, int n, int x, str tt] := by rw [Int.toNat_natCast, List.getElem?_map, ht]; rfl
    have hrow2 : (m.map Tok.row)[(i : Int).toNat]? = some [int kd, int n, int y, str tt] := by rw [Int.toNat_natCast, List.getElem?_map, hu]; rfl
    have g := same31 kd n x y tt
    repeat' (first | (with_reducible first | refine aw_seq ?_ | refine rl_nil ?_ | refine aw_region ?_ | refine then_n ?_ | refine aw_block ?_ | refine then_exit ?_ | refine then_ret ?_ | refine in_n ?_ | refine in_ret ?_ | refine aw_exit ?_ | refine aw_ret ?_ | refine aw_skip ?_ | refine in_exit_eq rfl ?_ | refine awr_succ ?_) | ((with_reducible refine k_move ?_); refine rl_pure (pv_move rfl) rfl rfl rfl ?_) | ((with_reducible refine k_assign ?_); refine rl_pure (pv_assign rfl) rfl rfl rfl ?_) | ((with_reducible refine k_load ?_); (first | refine rl_val (vv_load_ro_whole (by rfl) (by rfl) (by first | rfl)) rfl rfl rfl ?_ | refine rl_val (vv_load_box_whole (by rfl) by_memb (by rfl) (by first | rfl)) rfl rfl rfl ?_)) | ((with_reducible refine k_store ?_); refine rl_op rfl (op_store_box_whole (by rfl) (by rfl) (V.okc_or (by rfl)) by_upd (by first | rfl) (by first | rfl) ?_)) | ((with_reducible refine k_alloc ?_); refine rl_op rfl (op_alloc (by decide) rfl fun b => ?_)) | ((with_reducible refine k_lss ?_); refine rl_pure (pv_lss rfl rfl) rfl rfl rfl ?_) | ((with_reducible refine k_add ?_); refine rl_pure (pv_add_in rfl rfl (by omega)) rfl rfl rfl ?_) | ((with_reducible refine k_not ?_); refine rl_pure (pv_not rfl) rfl rfl rfl ?_) | ((with_reducible refine k_indexAddr ?_); refine rl_pure (pv_indexAddr_ro (by rfl) rfl (by omega) (by first | rfl | assumption) (by first | rfl)) rfl rfl rfl ?_) | ((with_reducible refine k_cond ?_); refine aw_cond_f rfl ?_) | ((with_reducible refine k_callv ?_); refine rl_op rfl (op_callF rfl rfl (g) rfl ?_)) | (((with_reducible refine k_cond ?_); refine aw_cond rfl ?_ ?_) <;> ((fail_if_success (refine imp_known (by assumption) ?_)); (intro hb <;> (have hc := hb) <;> (try simp only [decide_eq_true_eq, decide_eq_false_iff_not, Int.not_lt, Int.not_le, ne_eq, Bool.not_eq_true, Bool.not_eq_false, Decidable.not_not] at hc) <;> (try (exfalso; omega)) <;> (try (exfalso; simp only [Bool.not_eq_eq_eq_not, Bool.not_true, Bool.not_false, decide_eq_true_eq, decide_eq_false_iff_not, ne_eq, Decidable.not_not, Int.not_lt, Int.not_le] at hc; omega)) <;> (try (first | contradiction | (cases hc; done))) <;> (try (first | exact absurd (hb.symm.trans (by assumption) : true = false) (by decide) | exact absurd (hb.symm.trans (by assumption) : false = true) (by decide)))))))
    exact next_of (R := [_, _]) (i + 1) hlt (by omega) (by (repeat (first | exact sub_nil | refine sub_cons (by first | rfl | (simp; done)) ?_))) .nil
  · repeat' (first | (with_reducible first | refine aw_seq ?_ | refine rl_nil ?_ | refine aw_region ?_ | refine then_n ?_ | refine aw_block ?_ | refine then_exit ?_ | refine then_ret ?_ | refine in_n ?_ | refine in_ret ?_ | refine aw_exit ?_ | refine aw_ret ?_ | refine aw_skip ?_ | refine in_exit_eq rfl ?_ | refine awr_succ ?_) | ((with_reducible refine k_assign ?_); refine rl_pure (pv_assign rfl) rfl rfl rfl ?_) | ((with_reducible refine k_lss ?_); refine rl_pure (pv_lss rfl rfl) rfl rfl rfl ?_) | (((with_reducible refine k_cond ?_); refine aw_cond rfl ?_ ?_) <;> ((fail_if_success (refine imp_known (by assumption) ?_)); (intro hb <;> (have hc := hb) <;> (try simp only [decide_eq_true_eq, decide_eq_false_iff_not, Int.not_lt, Int.not_le, ne_eq, Bool.not_eq_true, Bool.not_eq_false, Decidable.not_not] at hc) <;> (try (exfalso; omega)) <;> (try (exfalso; simp only [Bool.not_eq_eq_eq_not, Bool.not_true, Bool.not_false, decide_eq_true_eq, decide_eq_false_iff_not, ne_eq, Decidable.not_not, Int.not_lt, Int.not_le] at hc; omega)) <;> (try (first | contradiction | (cases hc; done))) <;> (try (first | exact absurd (hb.symm.trans (by assumption) : true = false) (by decide) | exact absurd (hb.symm.trans (by assumption) : false = true) (by decide)))))))
    (first | refine ret_r (ret1 rfl by_res (List.nil_sublist _) ⟨_, rfl, ?_⟩) | refine ret_n (ret1 rfl by_res (List.nil_sublist _) ⟨_, rfl, ?_⟩))
    exact ⟨rfl, rfl⟩
theorem same12 (l m : List Tok) (hlm : l.length = m.length) (hl : l.length ≤ 100000) (h : ∀ (i : Nat) t u, l[i]? = some t → m[i]? = some u → eqT t u) : Fun Tryd.prog 12 [.ro (l.map Tok.row), .ro (m.map Tok.row)] (bool true) := by
  have g := equal30 l m hlm hl h
  refine Fun.of (TriR.of (tri_of Tryd.func12 rfl Tryd.ntmps12 rfl fun j => ?_))
  repeat' (first | (with_reducible first | refine aw_seq ?_ | refine rl_nil ?_ | refine aw_region ?_ | refine then_n ?_ | refine aw_block ?_ | refine then_exit ?_ | refine then_ret ?_ | refine in_n ?_ | refine in_ret ?_ | refine aw_exit ?_ | refine aw_ret ?_ | refine aw_skip ?_ | refine in_exit_eq rfl ?_ | refine awr_succ ?_) | ((with_reducible refine k_move ?_); refine rl_pure (pv_move rfl) rfl rfl rfl ?_) | ((with_reducible refine k_assign ?_); refine rl_pure (pv_assign rfl) rfl rfl rfl ?_) | ((with_reducible refine k_callv ?_); refine rl_op rfl (op_callF rfl rfl (g) rfl ?_)))
  (first | refine ret_r (ret1 rfl by_res (List.nil_sublist _) ⟨_, rfl, ?_⟩) | refine ret_n (ret1 rfl by_res (List.nil_sublist _) ⟨_, rfl, ?_⟩))
  exact ⟨rfl, rfl⟩
theorem lexV_two (s : ByteArray) : (∃ ts, s.size ≤ 6000 ∧ lxq s (skip s false 0) = (ts, none) ∧ ts.length ≤ 2000 ∧ lexV s = .tup [.ro (ts.map Tok.row), int (ts.length : Nat), int 0]) ∨
    ∃ n e : Int, e ≠ 0 ∧ lexV s = .tup [.ro [], int n, int e] ∧ ((lxq s (skip s false 0)).2 = none → e = 3) := by
  rcases lexV_cases s with ⟨_, h⟩ | ⟨h0, ⟨ts, _, _, h⟩ | ⟨ts, hx, hl, h⟩ | ⟨a, hx, h⟩⟩
  · exact .inr ⟨0, 3, by decide, h, fun _ => rfl⟩
  · exact .inr ⟨0, 3, by decide, h, fun _ => rfl⟩
  · exact .inl ⟨ts, h0, hx, hl, h⟩
  · exact .inr ⟨_, 2, by decide, h, fun q => by rw [hx] at q; cases q⟩
theorem take_rows (l m : List Tok) : ((l ++ m).map Tok.row).take l.length = l.map Tok.row := by
  rw [List.map_append, List.take_append_of_le_length (by rw [List.length_map]; exact Nat.le_refl _), List.take_of_length_le (by rw [List.length_map]; exact Nat.le_refl _)]
theorem lexJoins4 (a b : ByteArray) : FunK Tryd.prog ks 4 [str a, str b] (bool true) := by
  have hk := known8
  have g1 := lexK9 a
  have g2 := lexK9 b
  refine TriR.of (tri_of Tryd.func4 rfl Tryd.ntmps4 rfl fun j => ?_)
  rcases lexV_two a with ⟨ta, hza, hxa, hla, hVa⟩ | ⟨na, ea, hea, hVa, _⟩
  · rw [hVa] at g1
    rcases lexV_two b with ⟨tb, hzb, hxb, hlb, hVb⟩ | ⟨nb, eb, heb, hVb, _⟩
    · rw [hVb] at g2
      have hJ := join_lxq a b (by rw [hxa]) (by rw [hxb])
      rw [hxa, hxb] at hJ
      dsimp only at hJ
      have g3 := lexK9 (a ++ nlT ++ b)
      have hn1 : (ByteArray.mk #[10]).size = 1 := rfl
      have hn2 : (a ++ ByteArray.mk #[10]).size = a.size + 1 := by rw [ByteArray.size_append]; rfl
      repeat' (first | (with_reducible first | refine aw_seq ?_ | refine rl_nil ?_ | refine aw_region ?_ | refine then_n ?_ | refine aw_block ?_ | refine then_exit ?_ | refine then_ret ?_ | refine in_n ?_ | refine in_ret ?_ | refine aw_exit ?_ | refine aw_ret ?_ | refine aw_skip ?_ | refine in_exit_eq rfl ?_ | refine awr_succ ?_) | ((with_reducible refine k_move ?_); refine rl_pure (pv_move rfl) rfl rfl rfl ?_) | ((with_reducible refine k_assign ?_); refine rl_pure (pv_assign rfl) rfl rfl rfl ?_) | ((with_reducible refine k_gtr ?_); refine rl_pure (pv_gtr rfl rfl) rfl rfl rfl ?_) | ((with_reducible refine k_add ?_); refine rl_pure (pv_add_in rfl rfl (by omega)) rfl rfl rfl ?_) | ((with_reducible refine k_len ?_); refine rl_pure (pv_len_str rfl) rfl rfl rfl ?_) | (((with_reducible refine k_cond ?_); refine aw_cond rfl ?_ ?_) <;> ((fail_if_success (refine imp_known (by assumption) ?_)); (intro hb <;> (have hc := hb) <;> (try simp only [decide_eq_true_eq, decide_eq_false_iff_not, Int.not_lt, Int.not_le, ne_eq, Bool.not_eq_true, Bool.not_eq_false, Decidable.not_not] at hc) <;> (try (exfalso; omega)) <;> (try (exfalso; simp only [Bool.not_eq_eq_eq_not, Bool.not_true, Bool.not_false, decide_eq_true_eq, decide_eq_false_iff_not, ne_eq, Decidable.not_not, Int.not_lt, Int.not_le] at hc; omega)) <;> (try (first | contradiction | (cases hc; done))) <;> (try (first | exact absurd (hb.symm.trans (by assumption) : true = false) (by decide) | exact absurd (hb.symm.trans (by assumption) : false = true) (by decide)))))))
      (first | refine rl_op rfl (op_callR rfl rfl (.cons .here .nil) g1 rfl ?_) | refine dl_op (by assumption) by_wants (op_callR rfl rfl (.cons .here .nil) g1 rfl ?_))
      rintro _ _ ⟨rfl, rfl⟩
      repeat' (first | (with_reducible first | refine aw_seq ?_ | refine rl_nil ?_ | refine aw_region ?_ | refine then_n ?_ | refine aw_block ?_ | refine then_exit ?_ | refine then_ret ?_ | refine in_n ?_ | refine in_ret ?_ | refine aw_exit ?_ | refine aw_ret ?_ | refine aw_skip ?_ | refine in_exit_eq rfl ?_ | refine awr_succ ?_) | ((with_reducible refine k_move ?_); refine rl_pure (pv_move rfl) rfl rfl rfl ?_) | ((with_reducible refine k_assign ?_); refine rl_pure (pv_assign rfl) rfl rfl rfl ?_) | ((with_reducible refine k_extract ?_); refine rl_pure (pv_extract rfl rfl) rfl rfl rfl ?_))
      (first | refine rl_op rfl (op_callR rfl rfl (.cons .here .nil) g2 rfl ?_) | refine dl_op (by assumption) by_wants (op_callR rfl rfl (.cons .here .nil) g2 rfl ?_))
      rintro _ _ ⟨rfl, rfl⟩
      repeat' (first | (with_reducible first | refine aw_seq ?_ | refine rl_nil ?_ | refine aw_region ?_ | refine then_n ?_ | refine aw_block ?_ | refine then_exit ?_ | refine then_ret ?_ | refine in_n ?_ | refine in_ret ?_ | refine aw_exit ?_ | refine aw_ret ?_ | refine aw_skip ?_ | refine in_exit_eq rfl ?_ | refine awr_succ ?_) | ((with_reducible refine k_move ?_); refine rl_pure (pv_move rfl) rfl rfl rfl ?_) | ((with_reducible refine k_assign ?_); refine rl_pure (pv_assign rfl) rfl rfl rfl ?_) | ((with_reducible refine k_neq ?_); refine rl_pure (pv_neq rfl rfl) rfl rfl rfl ?_) | ((with_reducible refine k_add ?_); refine rl_pure (pv_str_add rfl rfl by_bound) rfl rfl rfl ?_) | ((with_reducible refine k_extract ?_); refine rl_pure (pv_extract rfl rfl) rfl rfl rfl ?_) | ((with_reducible refine k_pick ?_); refine rl_pure (pv_pick_f rfl by_bd rfl) rfl rfl rfl ?_) | ((with_reducible refine k_guard ?_); refine rl_on_yes rfl rfl rfl by_bd rfl ?_) | ((with_reducible refine k_cond ?_); refine aw_cond_f rfl ?_))
      (first | refine rl_op rfl (op_callR rfl rfl (.cons .here .nil) g3 rfl ?_) | refine dl_op (by assumption) by_wants (op_callR rfl rfl (.cons .here .nil) g3 rfl ?_))
      rintro _ _ ⟨rfl, rfl⟩
      rcases lexV_two (a ++ nlT ++ b) with ⟨tj, hzj, hxj, hlj, hVj⟩ | ⟨nj, ej, hej, hVj, he3⟩
      · rw [hJ] at hxj
        cases hxj
        rw [hVj]
        have hlen : (ta ++ tb.map (shT (a.size + 1))).length = ta.length + tb.length := by rw [List.length_append, List.length_map]
        have hrl : ((ta ++ tb.map (shT (a.size + 1))).map Tok.row).length = ta.length + tb.length := by rw [List.length_map, hlen]
        have e1 : (((ta ++ tb.map (shT (a.size + 1))).map Tok.row).drop (0 : Int).toNat).take ((ta.length : Int).toNat - (0 : Int).toNat) = ta.map Tok.row := take_rows ta _
        have e2 : (((ta ++ tb.map (shT (a.size + 1))).map Tok.row).drop (ta.length : Int).toNat).take ((((ta ++ tb.map (shT (a.size + 1))).map Tok.row).length : Int).toNat - (ta.length : Int).toNat) = (tb.map (shT (a.size + 1))).map Tok.row := by
          rw [Int.toNat_natCast, Int.toNat_natCast, List.map_append, List.drop_append_of_le_length (by rw [List.length_map]; exact Nat.le_refl _), List.drop_eq_nil_of_le (by rw [List.length_map]; exact Nat.le_refl _), List.nil_append, List.take_of_length_le]
          simp only [List.length_append, List.length_map]
          omega
        have g4 : Fun Tryd.prog 12 [.ro ((((ta ++ tb.map (shT (a.size + 1))).map Tok.row).drop (0 : Int).toNat).take ((ta.length : Int).toNat - (0 : Int).toNat)), .ro (ta.map Tok.row)] (bool true) := by
          rw [e1]
          exact same12 ta ta rfl (by omega) fun i t u h1 h2 => by rw [h1] at h2; cases h2; exact ⟨rfl, rfl, rfl⟩
        have g5 : Fun Tryd.prog 12 [.ro ((((ta ++ tb.map (shT (a.size + 1))).map Tok.row).drop (ta.length : Int).toNat).take ((((ta ++ tb.map (shT (a.size + 1))).map Tok.row).length : Int).toNat - (ta.length : Int).toNat)), .ro (tb.map Tok.row)] (bool true) := by
          rw [e2]
          exact same12 _ tb (List.length_map ..) (by rw [List.length_map]; omega) fun i t u h1 h2 => by
            rw [List.getElem?_map, h2] at h1
            cases h1
            exact ⟨rfl, rfl, rfl⟩
        repeat' (first | (with_reducible first | refine aw_seq ?_ | refine rl_nil ?_ | refine aw_region ?_ | refine then_n ?_ | refine aw_block ?_ | refine then_exit ?_ | refine then_ret ?_ | refine in_n ?_ | refine in_ret ?_ | refine aw_exit ?_ | refine aw_ret ?_ | refine aw_skip ?_ | refine in_exit_eq rfl ?_ | refine awr_succ ?_) | ((with_reducible refine k_move ?_); refine rl_pure (pv_move rfl) rfl rfl rfl ?_) | ((with_reducible refine k_assign ?_); refine rl_pure (pv_assign rfl) rfl rfl rfl ?_) | ((with_reducible refine k_neq ?_); refine rl_pure (pv_neq rfl rfl) rfl rfl rfl ?_) | ((with_reducible refine k_add ?_); refine rl_pure (pv_add_in rfl rfl (by omega)) rfl rfl rfl ?_) | ((with_reducible refine k_extract ?_); refine rl_pure (pv_extract rfl rfl) rfl rfl rfl ?_) | ((with_reducible refine k_len ?_); refine rl_pure (pv_len_ro' (by rfl) by_len) rfl rfl rfl ?_) | ((with_reducible refine k_slice ?_); refine rl_pure (pv_slice_ro (by rfl) rfl rfl by_bound (by first | (intro r hr; simp at hr; done) | (intro r hr; obtain ⟨_, _, rfl⟩ := List.mem_map.1 hr; rfl))) rfl rfl rfl ?_) | ((with_reducible refine k_pick ?_); (first | refine rl_pure (pv_pick_t rfl by_bd rfl) rfl rfl rfl ?_ | refine rl_pure (pv_pick_f rfl by_bd rfl) rfl rfl rfl ?_)) | ((with_reducible refine k_guard ?_); refine rl_on_yes rfl rfl rfl by_bd rfl ?_) | ((with_reducible refine k_cond ?_); refine aw_cond_f rfl ?_) | ((with_reducible refine k_callv ?_); (first | refine rl_op rfl (op_callF rfl rfl (g4) rfl ?_) | refine rl_op rfl (op_callF rfl rfl (g5) rfl ?_))) | (((with_reducible refine k_guard ?_); first | refine rl_if_t rfl rfl rfl rfl ?_ ?_ | refine rl_if_f rfl rfl rfl rfl ?_ ?_) <;> ((fail_if_success (refine imp_known (by assumption) ?_)); (intro hb <;> (have hc := hb) <;> (try simp only [decide_eq_true_eq, decide_eq_false_iff_not, Int.not_lt, Int.not_le, ne_eq, Bool.not_eq_true, Bool.not_eq_false, Decidable.not_not] at hc) <;> (try (exfalso; omega)) <;> (try (exfalso; simp only [Bool.not_eq_eq_eq_not, Bool.not_true, Bool.not_false, decide_eq_true_eq, decide_eq_false_iff_not, ne_eq, Decidable.not_not, Int.not_lt, Int.not_le] at hc; omega)) <;> (try (first | contradiction | (cases hc; done))) <;> (try (first | exact absurd (hb.symm.trans (by assumption) : true = false) (by decide) | exact absurd (hb.symm.trans (by assumption) : false = true) (by decide)))))) | (((with_reducible refine k_cond ?_); refine aw_cond rfl ?_ ?_) <;> ((fail_if_success (refine imp_known (by assumption) ?_)); (intro hb <;> (have hc := hb) <;> (try simp only [decide_eq_true_eq, decide_eq_false_iff_not, Int.not_lt, Int.not_le, ne_eq, Bool.not_eq_true, Bool.not_eq_false, Decidable.not_not] at hc) <;> (try (exfalso; omega)) <;> (try (exfalso; simp only [Bool.not_eq_eq_eq_not, Bool.not_true, Bool.not_false, decide_eq_true_eq, decide_eq_false_iff_not, ne_eq, Decidable.not_not, Int.not_lt, Int.not_le] at hc; omega)) <;> (try (first | contradiction | (cases hc; done))) <;> (try (first | exact absurd (hb.symm.trans (by assumption) : true = false) (by decide) | exact absurd (hb.symm.trans (by assumption) : false = true) (by decide)))))))
        (first | refine rl_op rfl (op_callR rfl rfl (.cons .here .nil) hk rfl ?_) | refine dl_op (by assumption) by_wants (op_callR rfl rfl (.cons .here .nil) hk rfl ?_))
        rintro _ _ ⟨rfl, rfl⟩
        repeat' (first | (with_reducible first | refine aw_seq ?_ | refine rl_nil ?_ | refine aw_region ?_ | refine then_n ?_ | refine aw_block ?_ | refine then_exit ?_ | refine then_ret ?_ | refine in_n ?_ | refine in_ret ?_ | refine aw_exit ?_ | refine aw_ret ?_ | refine aw_skip ?_ | refine in_exit_eq rfl ?_ | refine awr_succ ?_) | ((with_reducible refine k_assign ?_); refine rl_pure (pv_assign rfl) rfl rfl rfl ?_) | ((with_reducible refine k_pick ?_); refine rl_pure (pv_pick_t rfl by_bd rfl) rfl rfl rfl ?_))
        all_goals refine ret_r (ret1 rfl by_res (H' := ks.map kbox) (List.sublist_append_left _ _) ⟨_, rfl, rfl, rfl⟩)
      · rw [hVj]
        have he3 := he3 (by rw [hJ])
        subst he3
        repeat' (first | (with_reducible first | refine aw_seq ?_ | refine rl_nil ?_ | refine aw_region ?_ | refine then_n ?_ | refine aw_block ?_ | refine then_exit ?_ | refine then_ret ?_ | refine in_n ?_ | refine in_ret ?_ | refine aw_exit ?_ | refine aw_ret ?_ | refine aw_skip ?_ | refine in_exit_eq rfl ?_ | refine awr_succ ?_) | ((with_reducible refine k_move ?_); refine rl_pure (pv_move rfl) rfl rfl rfl ?_) | ((with_reducible refine k_assign ?_); refine rl_pure (pv_assign rfl) rfl rfl rfl ?_) | ((with_reducible refine k_eql ?_); refine rl_pure (pv_eql rfl rfl) rfl rfl rfl ?_) | ((with_reducible refine k_neq ?_); refine rl_pure (pv_neq rfl rfl) rfl rfl rfl ?_) | ((with_reducible refine k_extract ?_); refine rl_pure (pv_extract rfl rfl) rfl rfl rfl ?_) | ((with_reducible refine k_guard ?_); refine rl_on_yes rfl rfl rfl by_bd rfl ?_) | ((with_reducible refine k_cond ?_); refine aw_cond_t rfl ?_))
        (first | refine rl_op rfl (op_callR rfl rfl (.cons .here .nil) hk rfl ?_) | refine dl_op (by assumption) by_wants (op_callR rfl rfl (.cons .here .nil) hk rfl ?_))
        rintro _ _ ⟨rfl, rfl⟩
        repeat' (first | (with_reducible first | refine aw_seq ?_ | refine rl_nil ?_ | refine aw_region ?_ | refine then_n ?_ | refine aw_block ?_ | refine then_exit ?_ | refine then_ret ?_ | refine in_n ?_ | refine in_ret ?_ | refine aw_exit ?_ | refine aw_ret ?_ | refine aw_skip ?_ | refine in_exit_eq rfl ?_ | refine awr_succ ?_) | ((with_reducible refine k_assign ?_); refine rl_pure (pv_assign rfl) rfl rfl rfl ?_) | ((with_reducible refine k_pick ?_); refine rl_pure (pv_pick_t rfl by_bd rfl) rfl rfl rfl ?_))
        all_goals refine ret_r (ret1 rfl by_res (H' := ks.map kbox) (List.sublist_append_left _ _) ⟨_, rfl, rfl, rfl⟩)
    · rw [hVb] at g2
      repeat' (first | (with_reducible first | refine aw_seq ?_ | refine rl_nil ?_ | refine aw_region ?_ | refine then_n ?_ | refine aw_block ?_ | refine then_exit ?_ | refine then_ret ?_ | refine in_n ?_ | refine in_ret ?_ | refine aw_exit ?_ | refine aw_ret ?_ | refine aw_skip ?_ | refine in_exit_eq rfl ?_ | refine awr_succ ?_) | ((with_reducible refine k_move ?_); refine rl_pure (pv_move rfl) rfl rfl rfl ?_) | ((with_reducible refine k_assign ?_); refine rl_pure (pv_assign rfl) rfl rfl rfl ?_) | ((with_reducible refine k_gtr ?_); refine rl_pure (pv_gtr rfl rfl) rfl rfl rfl ?_) | ((with_reducible refine k_len ?_); refine rl_pure (pv_len_str rfl) rfl rfl rfl ?_) | ((with_reducible refine k_add ?_); refine rl_pure (pv_add rfl rfl) rfl rfl rfl ?_) | (((with_reducible refine k_cond ?_); refine aw_cond rfl ?_ ?_) <;> ((fail_if_success (refine imp_known (by assumption) ?_)); (intro hb <;> (have hc := hb) <;> (try simp only [decide_eq_true_eq, decide_eq_false_iff_not, Int.not_lt, Int.not_le, ne_eq, Bool.not_eq_true, Bool.not_eq_false, Decidable.not_not] at hc) <;> (try (exfalso; omega)) <;> (try (exfalso; simp only [Bool.not_eq_eq_eq_not, Bool.not_true, Bool.not_false, decide_eq_true_eq, decide_eq_false_iff_not, ne_eq, Decidable.not_not, Int.not_lt, Int.not_le] at hc; omega)) <;> (try (first | contradiction | (cases hc; done))) <;> (try (first | exact absurd (hb.symm.trans (by assumption) : true = false) (by decide) | exact absurd (hb.symm.trans (by assumption) : false = true) (by decide)))))))
      · (first | refine rl_op rfl (op_callR rfl rfl (.cons .here .nil) hk rfl ?_) | refine dl_op (by assumption) by_wants (op_callR rfl rfl (.cons .here .nil) hk rfl ?_))
        rintro _ _ ⟨rfl, rfl⟩
        repeat' (first | (with_reducible first | refine aw_seq ?_ | refine rl_nil ?_ | refine aw_region ?_ | refine then_n ?_ | refine aw_block ?_ | refine then_exit ?_ | refine then_ret ?_ | refine in_n ?_ | refine in_ret ?_ | refine aw_exit ?_ | refine aw_ret ?_ | refine aw_skip ?_ | refine in_exit_eq rfl ?_ | refine awr_succ ?_) | ((with_reducible refine k_assign ?_); refine rl_pure (pv_assign rfl) rfl rfl rfl ?_))
        refine ret_r (ret1 rfl by_res (H' := ks.map kbox) (List.sublist_append_left _ _) ⟨_, rfl, rfl, rfl⟩)
      · (first | refine rl_op rfl (op_callR rfl rfl (.cons .here .nil) g1 rfl ?_) | refine dl_op (by assumption) by_wants (op_callR rfl rfl (.cons .here .nil) g1 rfl ?_))
        rintro _ _ ⟨rfl, rfl⟩
        repeat' (first | (with_reducible first | refine aw_seq ?_ | refine rl_nil ?_ | refine aw_region ?_ | refine then_n ?_ | refine aw_block ?_ | refine then_exit ?_ | refine then_ret ?_ | refine in_n ?_ | refine in_ret ?_ | refine aw_exit ?_ | refine aw_ret ?_ | refine aw_skip ?_ | refine in_exit_eq rfl ?_ | refine awr_succ ?_) | ((with_reducible refine k_move ?_); refine rl_pure (pv_move rfl) rfl rfl rfl ?_) | ((with_reducible refine k_assign ?_); refine rl_pure (pv_assign rfl) rfl rfl rfl ?_) | ((with_reducible refine k_extract ?_); refine rl_pure (pv_extract rfl rfl) rfl rfl rfl ?_))
        (first | refine rl_op rfl (op_callR rfl rfl (.cons .here .nil) g2 rfl ?_) | refine dl_op (by assumption) by_wants (op_callR rfl rfl (.cons .here .nil) g2 rfl ?_))
        rintro _ _ ⟨rfl, rfl⟩
        repeat' (first | (with_reducible first | refine aw_seq ?_ | refine rl_nil ?_ | refine aw_region ?_ | refine then_n ?_ | refine aw_block ?_ | refine then_exit ?_ | refine then_ret ?_ | refine in_n ?_ | refine in_ret ?_ | refine aw_exit ?_ | refine aw_ret ?_ | refine aw_skip ?_ | refine in_exit_eq rfl ?_ | refine awr_succ ?_) | ((with_reducible refine k_move ?_); refine rl_pure (pv_move rfl) rfl rfl rfl ?_) | ((with_reducible refine k_assign ?_); refine rl_pure (pv_assign rfl) rfl rfl rfl ?_) | ((with_reducible refine k_neq ?_); refine rl_pure (pv_neq rfl rfl) rfl rfl rfl ?_) | ((with_reducible refine k_extract ?_); refine rl_pure (pv_extract rfl rfl) rfl rfl rfl ?_) | ((with_reducible refine k_pick ?_); refine rl_pure (pv_pick_f rfl by_bd rfl) rfl rfl rfl ?_) | ((with_reducible refine k_guard ?_); refine rl_on_yes rfl rfl rfl by_bd rfl ?_) | (((with_reducible refine k_cond ?_); refine aw_cond rfl ?_ ?_) <;> ((fail_if_success (refine imp_known (by assumption) ?_)); (intro hb <;> (have hc := hb) <;> (try simp only [decide_eq_true_eq, decide_eq_false_iff_not, Int.not_lt, Int.not_le, ne_eq, Bool.not_eq_true, Bool.not_eq_false, Decidable.not_not] at hc) <;> (try (exfalso; omega)) <;> (try (exfalso; simp only [Bool.not_eq_eq_eq_not, Bool.not_true, Bool.not_false, decide_eq_true_eq, decide_eq_false_iff_not, ne_eq, Decidable.not_not, Int.not_lt, Int.not_le] at hc; omega)) <;> (try (first | contradiction | (cases hc; done))) <;> (try (first | exact absurd (hb.symm.trans (by assumption) : true = false) (by decide) | exact absurd (hb.symm.trans (by assumption) : false = true) (by decide)))))))
        (first | refine rl_op rfl (op_callR rfl rfl (.cons .here .nil) hk rfl ?_) | refine dl_op (by assumption) by_wants (op_callR rfl rfl (.cons .here .nil) hk rfl ?_))
        rintro _ _ ⟨rfl, rfl⟩
        repeat' (first | (with_reducible first | refine aw_seq ?_ | refine rl_nil ?_ | refine aw_region ?_ | refine then_n ?_ | refine aw_block ?_ | refine then_exit ?_ | refine then_ret ?_ | refine in_n ?_ | refine in_ret ?_ | refine aw_exit ?_ | refine aw_ret ?_ | refine aw_skip ?_ | refine in_exit_eq rfl ?_ | refine awr_succ ?_) | ((with_reducible refine k_assign ?_); refine rl_pure (pv_assign rfl) rfl rfl rfl ?_))
        refine ret_r (ret1 rfl by_res (H' := ks.map kbox) (List.sublist_append_left _ _) ⟨_, rfl, rfl, rfl⟩)
  · rw [hVa] at g1
    obtain ⟨ts, nb, eb, hlb, hVb⟩ := lexV_form b
    rw [hVb] at g2
    repeat' (first | (with_reducible first | refine aw_seq ?_ | refine rl_nil ?_ | refine aw_region ?_ | refine then_n ?_ | refine aw_block ?_ | refine then_exit ?_ | refine then_ret ?_ | refine in_n ?_ | refine in_ret ?_ | refine aw_exit ?_ | refine aw_ret ?_ | refine aw_skip ?_ | refine in_exit_eq rfl ?_ | refine awr_succ ?_) | ((with_reducible refine k_move ?_); refine rl_pure (pv_move rfl) rfl rfl rfl ?_) | ((with_reducible refine k_assign ?_); refine rl_pure (pv_assign rfl) rfl rfl rfl ?_) | ((with_reducible refine k_gtr ?_); refine rl_pure (pv_gtr rfl rfl) rfl rfl rfl ?_) | ((with_reducible refine k_len ?_); refine rl_pure (pv_len_str rfl) rfl rfl rfl ?_) | ((with_reducible refine k_add ?_); refine rl_pure (pv_add rfl rfl) rfl rfl rfl ?_) | (((with_reducible refine k_cond ?_); refine aw_cond rfl ?_ ?_) <;> ((fail_if_success (refine imp_known (by assumption) ?_)); (intro hb <;> (have hc := hb) <;> (try simp only [decide_eq_true_eq, decide_eq_false_iff_not, Int.not_lt, Int.not_le, ne_eq, Bool.not_eq_true, Bool.not_eq_false, Decidable.not_not] at hc) <;> (try (exfalso; omega)) <;> (try (exfalso; simp only [Bool.not_eq_eq_eq_not, Bool.not_true, Bool.not_false, decide_eq_true_eq, decide_eq_false_iff_not, ne_eq, Decidable.not_not, Int.not_lt, Int.not_le] at hc; omega)) <;> (try (first | contradiction | (cases hc; done))) <;> (try (first | exact absurd (hb.symm.trans (by assumption) : true = false) (by decide) | exact absurd (hb.symm.trans (by assumption) : false = true) (by decide)))))))
    · (first | refine rl_op rfl (op_callR rfl rfl (.cons .here .nil) hk rfl ?_) | refine dl_op (by assumption) by_wants (op_callR rfl rfl (.cons .here .nil) hk rfl ?_))
      rintro _ _ ⟨rfl, rfl⟩
      repeat' (first | (with_reducible first | refine aw_seq ?_ | refine rl_nil ?_ | refine aw_region ?_ | refine then_n ?_ | refine aw_block ?_ | refine then_exit ?_ | refine then_ret ?_ | refine in_n ?_ | refine in_ret ?_ | refine aw_exit ?_ | refine aw_ret ?_ | refine aw_skip ?_ | refine in_exit_eq rfl ?_ | refine awr_succ ?_) | ((with_reducible refine k_assign ?_); refine rl_pure (pv_assign rfl) rfl rfl rfl ?_))
      refine ret_r (ret1 rfl by_res (H' := ks.map kbox) (List.sublist_append_left _ _) ⟨_, rfl, rfl, rfl⟩)
    · (first | refine rl_op rfl (op_callR rfl rfl (.cons .here .nil) g1 rfl ?_) | refine dl_op (by assumption) by_wants (op_callR rfl rfl (.cons .here .nil) g1 rfl ?_))
      rintro _ _ ⟨rfl, rfl⟩
      repeat' (first | (with_reducible first | refine aw_seq ?_ | refine rl_nil ?_ | refine aw_region ?_ | refine then_n ?_ | refine aw_block ?_ | refine then_exit ?_ | refine then_ret ?_ | refine in_n ?_ | refine in_ret ?_ | refine aw_exit ?_ | refine aw_ret ?_ | refine aw_skip ?_ | refine in_exit_eq rfl ?_ | refine awr_succ ?_) | ((with_reducible refine k_move ?_); refine rl_pure (pv_move rfl) rfl rfl rfl ?_) | ((with_reducible refine k_assign ?_); refine rl_pure (pv_assign rfl) rfl rfl rfl ?_) | ((with_reducible refine k_extract ?_); refine rl_pure (pv_extract rfl rfl) rfl rfl rfl ?_))
      (first | refine rl_op rfl (op_callR rfl rfl (.cons .here .nil) g2 rfl ?_) | refine dl_op (by assumption) by_wants (op_callR rfl rfl (.cons .here .nil) g2 rfl ?_))
      rintro _ _ ⟨rfl, rfl⟩
      repeat' (first | (with_reducible first | refine aw_seq ?_ | refine rl_nil ?_ | refine aw_region ?_ | refine then_n ?_ | refine aw_block ?_ | refine then_exit ?_ | refine then_ret ?_ | refine in_n ?_ | refine in_ret ?_ | refine aw_exit ?_ | refine aw_ret ?_ | refine aw_skip ?_ | refine in_exit_eq rfl ?_ | refine awr_succ ?_) | ((with_reducible refine k_move ?_); refine rl_pure (pv_move rfl) rfl rfl rfl ?_) | ((with_reducible refine k_assign ?_); refine rl_pure (pv_assign rfl) rfl rfl rfl ?_) | ((with_reducible refine k_neq ?_); refine rl_pure (pv_neq rfl rfl) rfl rfl rfl ?_) | ((with_reducible refine k_extract ?_); refine rl_pure (pv_extract rfl rfl) rfl rfl rfl ?_) | ((with_reducible refine k_pick ?_); refine rl_pure (pv_pick_t rfl by_bd rfl) rfl rfl rfl ?_) | ((with_reducible refine k_guard ?_); refine rl_off_f rfl rfl rfl by_bd rfl ?_) | ((with_reducible refine k_cond ?_); refine aw_cond_t rfl ?_) | (((with_reducible refine k_guard ?_); first | refine rl_if_t rfl rfl rfl rfl ?_ ?_ | refine rl_if_f rfl rfl rfl rfl ?_ ?_) <;> ((fail_if_success (refine imp_known (by assumption) ?_)); (intro hb <;> (have hc := hb) <;> (try simp only [decide_eq_true_eq, decide_eq_false_iff_not, Int.not_lt, Int.not_le, ne_eq, Bool.not_eq_true, Bool.not_eq_false, Decidable.not_not] at hc) <;> (try (exfalso; omega)) <;> (try (exfalso; simp only [Bool.not_eq_eq_eq_not, Bool.not_true, Bool.not_false, decide_eq_true_eq, decide_eq_false_iff_not, ne_eq, Decidable.not_not, Int.not_lt, Int.not_le] at hc; omega)) <;> (try (first | contradiction | (cases hc; done))) <;> (try (first | exact absurd (hb.symm.trans (by assumption) : true = false) (by decide) | exact absurd (hb.symm.trans (by assumption) : false = true) (by decide)))))))
      (first | refine rl_op rfl (op_callR rfl rfl (.cons .here .nil) hk rfl ?_) | refine dl_op (by assumption) by_wants (op_callR rfl rfl (.cons .here .nil) hk rfl ?_))
      rintro _ _ ⟨rfl, rfl⟩
      repeat' (first | (with_reducible first | refine aw_seq ?_ | refine rl_nil ?_ | refine aw_region ?_ | refine then_n ?_ | refine aw_block ?_ | refine then_exit ?_ | refine then_ret ?_ | refine in_n ?_ | refine in_ret ?_ | refine aw_exit ?_ | refine aw_ret ?_ | refine aw_skip ?_ | refine in_exit_eq rfl ?_ | refine awr_succ ?_) | ((with_reducible refine k_assign ?_); refine rl_pure (pv_assign rfl) rfl rfl rfl ?_))
      refine ret_r (ret1 rfl by_res (H' := ks.map kbox) (List.sublist_append_left _ _) ⟨_, rfl, rfl, rfl⟩)
end Go.Proofs.YtbhbjlhobdoomaaDoor

import Derived.Test.YtbhbjlhobdoomaaDoorK34
import Derived.Test.YtbhbjlhobdoomaaDoorK38
set_option linter.unusedVariables false
set_option linter.unusedSimpArgs false
namespace Go.Proofs.YtbhbjlhobdoomaaDoor
open Go Go.AX
set_option maxHeartbeats 4000000
set_option maxRecDepth 20000
attribute [local irreducible] AW RL RLI OP PureV ValV HV DL Tri TriR Fun RetOk ResV
abbrev rS (x : ByteArray) : List V := [str x]
def tot (l : List ByteArray) : Nat := (l.map ByteArray.size).sum
theorem tot_nil : tot [] = 0 := rfl
theorem tot_cons (x : ByteArray) (l : List ByteArray) : tot (x :: l) = x.size + tot l := rfl
theorem tot_append (l m : List ByteArray) : tot (l ++ m) = tot l + tot m := by unfold tot; rw [List.map_append, List.sum_append]
theorem tot_take (l : List ByteArray) (i : Nat) : tot (l.take i) ≤ tot l := by
  have := tot_append (l.take i) (l.drop i)
  rw [List.take_append_drop] at this
  omega
theorem tot_succ {l : List ByteArray} {i : Nat} {x : ByteArray} (h : l[i]? = some x) : tot (l.take (i + 1)) = tot (l.take i) + x.size := by
  rw [List.take_add_one, h, tot_append]; rfl
theorem tot_mem {l : List ByteArray} {i : Nat} {x : ByteArray} (h : l[i]? = some x) : x.size ≤ tot l := by
  have h1 := tot_succ h
  have h2 := tot_take l (i + 1)
  omega
/-- Texts with something between them. -/
def jn (c : Int) (x : ByteArray) (l : List ByteArray) : List Int := nums x ++ l.flatMap fun y => c :: nums y
theorem jn_len (c : Int) (x : ByteArray) (l : List ByteArray) : (jn c x l).length = x.size + l.length + tot l := by
  unfold jn
  rw [List.length_append, nums_len]
  induction l with
  | nil => rfl
  | cons y l ih => rw [List.flatMap_cons, List.length_append, List.length_cons, List.length_cons, nums_len, tot_cons]; omega
theorem jn_snoc {c : Int} {x y : ByteArray} {l : List ByteArray} {i : Nat} (h : l[i]? = some y) : jn c x (l.take (i + 1)) = jn c x (l.take i) ++ [c] ++ nums y := by
  unfold jn
  rw [List.take_add_one, h, List.flatMap_append]
  simp
theorem jn_range {c : Int} (h0 : 0 ≤ c) (h1 : c ≤ 255) (x : ByteArray) (l : List ByteArray) : ∀ v ∈ jn c x l, 0 ≤ v ∧ v ≤ 255 := fun v hv => by
  rcases List.mem_append.1 hv with hv | hv
  · exact nums_range x v hv
  · obtain ⟨y, _, hv⟩ := List.mem_flatMap.1 hv
    rcases List.mem_cons.1 hv with rfl | hv
    · exact ⟨h0, h1⟩
    · exact nums_range y v hv
def joinT (c : Int) : List ByteArray → ByteArray
  | [] => ⟨#[]⟩
  | x :: l => strOfNums (jn c x l)
theorem join36_two (sep : ByteArray) (L : List ByteArray) (x : ByteArray) (l : List ByteArray) (hL : L = x :: l) (h2 : 2 ≤ L.length) (c : Int) (hsep : sep.size = 1) (hcs : nums sep = [c]) (h0 : 0 ≤ c) (h1 : c ≤ 255) (hT : tot L + L.length ≤ 900000) :
    Fun Tryd.prog 36 [.ro (L.map rS), str sep] (str (joinT c L)) := by
  refine Fun.of (TriR.of (tri_of Tryd.func36 rfl Tryd.ntmps36 rfl fun j => ?_))
  have hq : (2 : Int) ≤ 9223372036854775807 / ((L.length : Int) - 1) := Int.le_ediv_of_mul_le (by omega) (by omega)
  repeat' (first | (with_reducible first | refine aw_seq ?_ | refine rl_nil ?_ | refine aw_region ?_ | refine then_n ?_ | refine aw_block ?_ | refine then_exit ?_ | refine then_ret ?_ | refine in_n ?_ | refine in_ret ?_ | refine aw_exit ?_ | refine aw_ret ?_ | refine aw_skip ?_ | refine in_exit_eq rfl ?_ | refine awr_succ ?_) | ((with_reducible refine k_move ?_); refine rl_pure (pv_move rfl) rfl rfl rfl ?_) | ((with_reducible refine k_assign ?_); refine rl_pure (pv_assign rfl) rfl rfl rfl ?_) | ((with_reducible refine k_eql ?_); refine rl_pure (pv_eql rfl rfl) rfl rfl rfl ?_) | ((with_reducible refine k_gtr ?_); refine rl_pure (pv_gtr rfl rfl) rfl rfl rfl ?_) | ((with_reducible refine k_geq ?_); refine rl_pure (pv_geq rfl rfl) rfl rfl rfl ?_) | ((with_reducible refine k_sub ?_); refine rl_pure (pv_sub_in rfl rfl (by omega)) rfl rfl rfl ?_) | ((with_reducible refine k_quo ?_); refine rl_pure (pv_quo_in rfl rfl (by omega)) rfl rfl rfl ?_) | ((with_reducible refine k_len ?_); (first | refine rl_pure (pv_len_ro' (by rfl) by_len) rfl rfl rfl ?_ | refine rl_pure (pv_len_str rfl) rfl rfl rfl ?_)) | (((with_reducible refine k_cond ?_); refine aw_cond rfl ?_ ?_) <;> ((fail_if_success (refine imp_known (by assumption) ?_)); (intro hb <;> (have hc := hb) <;> (try simp only [decide_eq_true_eq, decide_eq_false_iff_not, Int.not_lt, Int.not_le, ne_eq, Bool.not_eq_true, Bool.not_eq_false, Decidable.not_not] at hc) <;> (try (exfalso; omega)) <;> (try (exfalso; simp only [Bool.not_eq_eq_eq_not, Bool.not_true, Bool.not_false, decide_eq_true_eq, decide_eq_false_iff_not, ne_eq, Decidable.not_not, Int.not_lt, Int.not_le] at hc; omega)) <;> (try (first | contradiction | (cases hc; done))) <;> (try (first | exact absurd (hb.symm.trans (by assumption) : true = false) (by decide) | exact absurd (hb.symm.trans (by assumption) : false = true) (by decide)))))))
  rw [hsep]
  repeat' (first | (with_reducible first | refine aw_seq ?_ | refine rl_nil ?_ | refine aw_region ?_ | refine then_n ?_ | refine aw_block ?_ | refine then_exit ?_ | refine then_ret ?_ | refine in_n ?_ | refine in_ret ?_ | refine aw_exit ?_ | refine aw_ret ?_ | refine aw_skip ?_ | refine in_exit_eq rfl ?_ | refine awr_succ ?_) | ((with_reducible refine k_move ?_); refine rl_pure (pv_move rfl) rfl rfl rfl ?_) | ((with_reducible refine k_assign ?_); refine rl_pure (pv_assign rfl) rfl rfl rfl ?_) | ((with_reducible refine k_add ?_); refine rl_pure (pv_add_in rfl rfl (by omega)) rfl rfl rfl ?_) | ((with_reducible refine k_mul ?_); refine rl_pure (pv_mul_in rfl rfl (by omega)) rfl rfl rfl ?_) | ((with_reducible refine k_len ?_); refine rl_pure (pv_len_ro' (by rfl) by_len) rfl rfl rfl ?_))
  rw [show (0 : Int) + ((1 : Nat) : Int) * ((L.length : Int) - 1) = ((L.length - 1 + tot (L.take 0) : Nat) : Int) by rw [List.take_zero, tot_nil]; omega]
  refine aw_iter (α := Nat) (fun i => [(0, .ro (L.map rS)), (1, str sep), (5, int ((L.length - 1 + tot (L.take i) : Nat) : Int)), (39, .ro (L.map rS)), (40, int L.length), (41, int i)]) (fun _ => []) (fun i => i ≤ L.length) (fun i => L.length - i)
    0 (Nat.zero_le _) (by (repeat (first | exact sub_nil | refine sub_cons (by first | rfl | (simp; done)) ?_))) .nil fun i hI => ?_
  have hti := tot_take L i
  by_cases hlt : i < L.length
  · obtain ⟨y, hy⟩ : ∃ y, L[i]? = some y := ⟨_, List.getElem?_eq_getElem hlt⟩
    have hrow : (L.map rS)[(i : Int).toNat]? = some [str y] := by rw [Int.toNat_natCast, List.getElem?_map, hy]; rfl
    have hym := tot_mem hy
    have hts : ((L.length - 1 + tot (L.take i) : Nat) : Int) + (y.size : Int) = ((L.length - 1 + tot (L.take (i + 1)) : Nat) : Int) := by rw [tot_succ hy]; omega
    repeat' (first | (with_reducible first | refine aw_seq ?_ | refine rl_nil ?_ | refine aw_region ?_ | refine then_n ?_ | refine aw_block ?_ | refine then_exit ?_ | refine then_ret ?_ | refine in_n ?_ | refine in_ret ?_ | refine aw_exit ?_ | refine aw_ret ?_ | refine aw_skip ?_ | refine in_exit_eq rfl ?_ | refine awr_succ ?_) | ((with_reducible refine k_move ?_); refine rl_pure (pv_move rfl) rfl rfl rfl ?_) | ((with_reducible refine k_assign ?_); refine rl_pure (pv_assign rfl) rfl rfl rfl ?_) | ((with_reducible refine k_load ?_); refine rl_val (vv_load_ro (by rfl) (by rfl) by_bd) rfl rfl rfl ?_) | ((with_reducible refine k_lss ?_); refine rl_pure (pv_lss rfl rfl) rfl rfl rfl ?_) | ((with_reducible refine k_gtr ?_); refine rl_pure (pv_gtr rfl rfl) rfl rfl rfl ?_) | ((with_reducible refine k_add ?_); refine rl_pure (pv_add_in rfl rfl (by omega)) rfl rfl rfl ?_) | ((with_reducible refine k_sub ?_); refine rl_pure (pv_sub_in rfl rfl (by omega)) rfl rfl rfl ?_) | ((with_reducible refine k_len ?_); refine rl_pure (pv_len_str rfl) rfl rfl rfl ?_) | ((with_reducible refine k_indexAddr ?_); refine rl_pure (pv_indexAddr_ro (by rfl) rfl (by omega) (by first | rfl | assumption) (by first | rfl)) rfl rfl rfl ?_) | (((with_reducible refine k_cond ?_); refine aw_cond rfl ?_ ?_) <;> ((fail_if_success (refine imp_known (by assumption) ?_)); (intro hb <;> (have hc := hb) <;> (try simp only [decide_eq_true_eq, decide_eq_false_iff_not, Int.not_lt, Int.not_le, ne_eq, Bool.not_eq_true, Bool.not_eq_false, Decidable.not_not] at hc) <;> (try (exfalso; omega)) <;> (try (exfalso; simp only [Bool.not_eq_eq_eq_not, Bool.not_true, Bool.not_false, decide_eq_true_eq, decide_eq_false_iff_not, ne_eq, Decidable.not_not, Int.not_lt, Int.not_le] at hc; omega)) <;> (try (first | contradiction | (cases hc; done))) <;> (try (first | exact absurd (hb.symm.trans (by assumption) : true = false) (by decide) | exact absurd (hb.symm.trans (by assumption) : false = true) (by decide)))))))
    rw [hts]
    exact next_of (R := []) (i + 1) hlt (by omega) (by (repeat (first | exact sub_nil | refine sub_cons (by first | rfl | (simp; done)) ?_))) .nil
  · have hrow0 : (L.map rS)[(0 : Int).toNat]? = some [str x] := by rw [hL]; rfl
    have hxm : x.size ≤ tot L := tot_mem (i := 0) (by rw [hL]; rfl)
    have hll : L.length = l.length + 1 := by rw [hL]; rfl
    have e4 : (List.take l.length (List.map rS l)) = l.map rS := List.take_of_length_le (by rw [List.length_map]; exact Nat.le_refl _)
    have e3 : (((L.map rS).drop (1 : Int).toNat).take (((L.map rS).length : Int).toNat - (1 : Int).toNat)) = l.map rS := by subst hL; simpa using e4
    have e5 : (((L.map rS).drop (1 : Int).toNat).take ((L.length : Int).toNat - (1 : Int).toNat)) = l.map rS := by subst hL; simpa using e4
    repeat' (first | (with_reducible first | refine aw_seq ?_ | refine rl_nil ?_ | refine aw_region ?_ | refine then_n ?_ | refine aw_block ?_ | refine then_exit ?_ | refine then_ret ?_ | refine in_n ?_ | refine in_ret ?_ | refine aw_exit ?_ | refine aw_ret ?_ | refine aw_skip ?_ | refine in_exit_eq rfl ?_ | refine awr_succ ?_) | ((with_reducible refine k_move ?_); refine rl_pure (pv_move rfl) rfl rfl rfl ?_) | ((with_reducible refine k_alloc ?_); refine rl_op rfl (op_alloc (by decide) rfl fun b => ?_)) | ((with_reducible refine k_lss ?_); refine rl_pure (pv_lss rfl rfl) rfl rfl rfl ?_) | (((with_reducible refine k_cond ?_); refine aw_cond rfl ?_ ?_) <;> ((fail_if_success (refine imp_known (by assumption) ?_)); (intro hb <;> (have hc := hb) <;> (try simp only [decide_eq_true_eq, decide_eq_false_iff_not, Int.not_lt, Int.not_le, ne_eq, Bool.not_eq_true, Bool.not_eq_false, Decidable.not_not] at hc) <;> (try (exfalso; omega)) <;> (try (exfalso; simp only [Bool.not_eq_eq_eq_not, Bool.not_true, Bool.not_false, decide_eq_true_eq, decide_eq_false_iff_not, ne_eq, Decidable.not_not, Int.not_lt, Int.not_le] at hc; omega)) <;> (try (first | contradiction | (cases hc; done))) <;> (try (first | exact absurd (hb.symm.trans (by assumption) : true = false) (by decide) | exact absurd (hb.symm.trans (by assumption) : false = true) (by decide)))))))
    (first | refine rl_op rfl (op_callR rfl rfl (.cons .here .nil) (grow54 b (L.length - 1 + tot (L.take i)) (by omega) (by omega)) rfl ?_) | refine dl_op (by assumption) by_wants (op_callR rfl rfl (.cons .here .nil) (grow54 b (L.length - 1 + tot (L.take i)) (by omega) (by omega)) rfl ?_))
    rintro _ _ ⟨sv, rfl, rfl⟩
    repeat' (first | (with_reducible first | refine aw_seq ?_ | refine rl_nil ?_ | refine aw_region ?_ | refine then_n ?_ | refine aw_block ?_ | refine then_exit ?_ | refine then_ret ?_ | refine in_n ?_ | refine in_ret ?_ | refine aw_exit ?_ | refine aw_ret ?_ | refine aw_skip ?_ | refine in_exit_eq rfl ?_ | refine awr_succ ?_) | ((with_reducible refine k_move ?_); refine rl_pure (pv_move rfl) rfl rfl rfl ?_) | ((with_reducible refine k_load ?_); refine rl_val (vv_load_ro (by rfl) (by rfl) by_bd) rfl rfl rfl ?_) | ((with_reducible refine k_indexAddr ?_); refine rl_pure (pv_indexAddr_ro (by rfl) rfl (by omega) (by first | rfl | assumption) (by first | rfl)) rfl rfl rfl ?_))
    (first | refine rl_op rfl (op_callR rfl rfl (.cons .here (.cons .here .nil)) (writeString50 b sv (.pointer (some ⟨b, 0, none⟩)) [] x (.inr rfl) (by decide) (by omega)) rfl ?_) | refine dl_op (by assumption) by_wants (op_callR rfl rfl (.cons .here (.cons .here .nil)) (writeString50 b sv (.pointer (some ⟨b, 0, none⟩)) [] x (.inr rfl) (by decide) (by omega)) rfl ?_))
    rintro _ _ ⟨sv1, rfl, rfl⟩
    repeat' (first | (with_reducible first | refine aw_seq ?_ | refine rl_nil ?_ | refine aw_region ?_ | refine then_n ?_ | refine aw_block ?_ | refine then_exit ?_ | refine then_ret ?_ | refine in_n ?_ | refine in_ret ?_ | refine aw_exit ?_ | refine aw_ret ?_ | refine aw_skip ?_ | refine in_exit_eq rfl ?_ | refine awr_succ ?_) | ((with_reducible refine k_move ?_); refine rl_pure (pv_move rfl) rfl rfl rfl ?_) | ((with_reducible refine k_len ?_); refine rl_pure (pv_len_ro' (by rfl) by_len) rfl rfl rfl ?_) | ((with_reducible refine k_slice ?_); refine rl_pure (pv_slice_ro (by rfl) rfl rfl by_bound (by first | (intro r hr; simp at hr; done) | (intro r hr; obtain ⟨_, _, rfl⟩ := List.mem_map.1 hr; rfl))) rfl rfl rfl ?_))
    rw [e3, e5, List.length_map]
    have hj0 : [] ++ nums x = jn c x (l.take 0) := by unfold jn; simp
    rw [hj0]
    have hTl : tot L = x.size + tot l := by rw [hL]; rfl
    refine aw_iter (α := Nat × Value) (fun q => [(1, str sep), (8, ptr b), (63, .ro (l.map rS)), (64, int l.length), (65, int q.1)]) (fun q => [.box b 70 [ptr b, .own q.2], .vec q.2 5 1 ((jn c x (l.take q.1)).map br)])
      (fun q => q.1 ≤ l.length) (fun q => l.length - q.1) (0, sv1) (Nat.zero_le _) (by (repeat (first | exact sub_nil | refine sub_cons (by first | rfl | (simp; done)) ?_))) (.cons .here (.cons .here .nil)) fun q hI => ?_
    obtain ⟨k, sv2⟩ := q
    dsimp only at hI ⊢
    have hjl := jn_len c x (l.take k)
    have htl := tot_take l k
    have hkl : (l.take k).length ≤ l.length := by rw [List.length_take]; omega
    by_cases hlt2 : k < l.length
    · obtain ⟨y, hy⟩ : ∃ y, l[k]? = some y := ⟨_, List.getElem?_eq_getElem hlt2⟩
      have hrow : (l.map rS)[(k : Int).toNat]? = some [str y] := by rw [Int.toNat_natCast, List.getElem?_map, hy]; rfl
      have hym := tot_mem hy
      have hjs := jn_snoc (c := c) (x := x) hy
      repeat' (first | (with_reducible first | refine aw_seq ?_ | refine rl_nil ?_ | refine aw_region ?_ | refine then_n ?_ | refine aw_block ?_ | refine then_exit ?_ | refine then_ret ?_ | refine in_n ?_ | refine in_ret ?_ | refine aw_exit ?_ | refine aw_ret ?_ | refine aw_skip ?_ | refine in_exit_eq rfl ?_ | refine awr_succ ?_) | ((with_reducible refine k_move ?_); refine rl_pure (pv_move rfl) rfl rfl rfl ?_) | ((with_reducible refine k_assign ?_); refine rl_pure (pv_assign rfl) rfl rfl rfl ?_) | ((with_reducible refine k_load ?_); refine rl_val (vv_load_ro (by rfl) (by rfl) by_bd) rfl rfl rfl ?_) | ((with_reducible refine k_lss ?_); refine rl_pure (pv_lss rfl rfl) rfl rfl rfl ?_) | ((with_reducible refine k_indexAddr ?_); refine rl_pure (pv_indexAddr_ro (by rfl) rfl (by omega) (by first | rfl | assumption) (by first | rfl)) rfl rfl rfl ?_) | (((with_reducible refine k_cond ?_); refine aw_cond rfl ?_ ?_) <;> ((fail_if_success (refine imp_known (by assumption) ?_)); (intro hb <;> (have hc := hb) <;> (try simp only [decide_eq_true_eq, decide_eq_false_iff_not, Int.not_lt, Int.not_le, ne_eq, Bool.not_eq_true, Bool.not_eq_false, Decidable.not_not] at hc) <;> (try (exfalso; omega)) <;> (try (exfalso; simp only [Bool.not_eq_eq_eq_not, Bool.not_true, Bool.not_false, decide_eq_true_eq, decide_eq_false_iff_not, ne_eq, Decidable.not_not, Int.not_lt, Int.not_le] at hc; omega)) <;> (try (first | contradiction | (cases hc; done))) <;> (try (first | exact absurd (hb.symm.trans (by assumption) : true = false) (by decide) | exact absurd (hb.symm.trans (by assumption) : false = true) (by decide)))))))
      (first | refine rl_op rfl (op_callR rfl rfl (.cons .here (.cons .here .nil)) (writeString50 b sv2 (.pointer (some ⟨b, 0, none⟩)) (jn c x (l.take k)) sep (.inr rfl) (by omega) (by omega)) rfl ?_) | refine dl_op (by assumption) by_wants (op_callR rfl rfl (.cons .here (.cons .here .nil)) (writeString50 b sv2 (.pointer (some ⟨b, 0, none⟩)) (jn c x (l.take k)) sep (.inr rfl) (by omega) (by omega)) rfl ?_))
      rintro _ _ ⟨sv3, rfl, rfl⟩
      repeat' (first | (with_reducible first | refine aw_seq ?_ | refine rl_nil ?_ | refine aw_region ?_ | refine then_n ?_ | refine aw_block ?_ | refine then_exit ?_ | refine then_ret ?_ | refine in_n ?_ | refine in_ret ?_ | refine aw_exit ?_ | refine aw_ret ?_ | refine aw_skip ?_ | refine in_exit_eq rfl ?_ | refine awr_succ ?_) | ((with_reducible refine k_move ?_); refine rl_pure (pv_move rfl) rfl rfl rfl ?_))
      (first | refine rl_op rfl (op_callR rfl rfl (.cons .here (.cons .here .nil)) (writeString50 b sv3 (.pointer (some ⟨b, 0, none⟩)) (jn c x (l.take k) ++ nums sep) y (.inr rfl) (by rw [List.length_append, nums_len]; omega) (by omega)) rfl ?_) | refine dl_op (by assumption) by_wants (op_callR rfl rfl (.cons .here (.cons .here .nil)) (writeString50 b sv3 (.pointer (some ⟨b, 0, none⟩)) (jn c x (l.take k) ++ nums sep) y (.inr rfl) (by rw [List.length_append, nums_len]; omega) (by omega)) rfl ?_))
      rintro _ _ ⟨sv4, rfl, rfl⟩
      repeat' (first | (with_reducible first | refine aw_seq ?_ | refine rl_nil ?_ | refine aw_region ?_ | refine then_n ?_ | refine aw_block ?_ | refine then_exit ?_ | refine then_ret ?_ | refine in_n ?_ | refine in_ret ?_ | refine aw_exit ?_ | refine aw_ret ?_ | refine aw_skip ?_ | refine in_exit_eq rfl ?_ | refine awr_succ ?_) | ((with_reducible refine k_move ?_); refine rl_pure (pv_move rfl) rfl rfl rfl ?_) | ((with_reducible refine k_add ?_); refine rl_pure (pv_add_in rfl rfl (by omega)) rfl rfl rfl ?_))
      rw [hcs, ← hjs]
      exact next_of (R := []) (k + 1, sv4) hlt2 (by dsimp only; omega) (by (repeat (first | exact sub_nil | refine sub_cons (by first | rfl | (simp; done)) ?_))) (.cons .here (.cons .here .nil))
    · have htk : l.take k = l := List.take_of_length_le (by omega)
      rw [htk] at hjl ⊢
      repeat' (first | (with_reducible first | refine aw_seq ?_ | refine rl_nil ?_ | refine aw_region ?_ | refine then_n ?_ | refine aw_block ?_ | refine then_exit ?_ | refine then_ret ?_ | refine in_n ?_ | refine in_ret ?_ | refine aw_exit ?_ | refine aw_ret ?_ | refine aw_skip ?_ | refine in_exit_eq rfl ?_ | refine awr_succ ?_) | ((with_reducible refine k_lss ?_); refine rl_pure (pv_lss rfl rfl) rfl rfl rfl ?_) | (((with_reducible refine k_cond ?_); refine aw_cond rfl ?_ ?_) <;> ((fail_if_success (refine imp_known (by assumption) ?_)); (intro hb <;> (have hc := hb) <;> (try simp only [decide_eq_true_eq, decide_eq_false_iff_not, Int.not_lt, Int.not_le, ne_eq, Bool.not_eq_true, Bool.not_eq_false, Decidable.not_not] at hc) <;> (try (exfalso; omega)) <;> (try (exfalso; simp only [Bool.not_eq_eq_eq_not, Bool.not_true, Bool.not_false, decide_eq_true_eq, decide_eq_false_iff_not, ne_eq, Decidable.not_not, Int.not_lt, Int.not_le] at hc; omega)) <;> (try (first | contradiction | (cases hc; done))) <;> (try (first | exact absurd (hb.symm.trans (by assumption) : true = false) (by decide) | exact absurd (hb.symm.trans (by assumption) : false = true) (by decide)))))))
      (first | refine rl_op rfl (op_callR rfl rfl (.cons .here (.cons .here .nil)) (string52 b sv2 (ptr b) (jn c x l) (by omega) (jn_range h0 h1 x l)) rfl ?_) | refine dl_op (by assumption) by_wants (op_callR rfl rfl (.cons .here (.cons .here .nil)) (string52 b sv2 (ptr b) (jn c x l) (by omega) (jn_range h0 h1 x l)) rfl ?_))
      rintro _ _ ⟨rfl, rfl⟩
      repeat' (first | (with_reducible first | refine aw_seq ?_ | refine rl_nil ?_ | refine aw_region ?_ | refine then_n ?_ | refine aw_block ?_ | refine then_exit ?_ | refine then_ret ?_ | refine in_n ?_ | refine in_ret ?_ | refine aw_exit ?_ | refine aw_ret ?_ | refine aw_skip ?_ | refine in_exit_eq rfl ?_ | refine awr_succ ?_) | ((with_reducible refine k_assign ?_); refine rl_pure (pv_assign rfl) rfl rfl rfl ?_))
      (first | refine ret_r (ret1 rfl by_res (List.nil_sublist _) ⟨_, rfl, ?_⟩) | refine ret_n (ret1 rfl by_res (List.nil_sublist _) ⟨_, rfl, ?_⟩))
      refine ⟨?_, rfl⟩
      rw [hL]
      rfl
theorem join36 (sep : ByteArray) (L : List ByteArray) (c : Int) (hsep : sep.size = 1) (hcs : nums sep = [c]) (h0 : 0 ≤ c) (h1 : c ≤ 255) (hT : tot L + L.length ≤ 900000) :
    Fun Tryd.prog 36 [.ro (L.map rS), str sep] (str (joinT c L)) := by
  match L, hT with
  | [], _ =>
    refine Fun.of (TriR.of (tri_of Tryd.func36 rfl Tryd.ntmps36 rfl fun j => ?_))
    repeat' (first | (with_reducible first | refine aw_seq ?_ | refine rl_nil ?_ | refine aw_region ?_ | refine then_n ?_ | refine aw_block ?_ | refine then_exit ?_ | refine then_ret ?_ | refine in_n ?_ | refine in_ret ?_ | refine aw_exit ?_ | refine aw_ret ?_ | refine aw_skip ?_ | refine in_exit_eq rfl ?_ | refine awr_succ ?_) | ((with_reducible refine k_move ?_); refine rl_pure (pv_move rfl) rfl rfl rfl ?_) | ((with_reducible refine k_assign ?_); refine rl_pure (pv_assign rfl) rfl rfl rfl ?_) | ((with_reducible refine k_eql ?_); refine rl_pure (pv_eql rfl rfl) rfl rfl rfl ?_) | ((with_reducible refine k_len ?_); refine rl_pure (pv_len_ro' (by rfl) by_len) rfl rfl rfl ?_) | ((with_reducible refine k_cond ?_); refine aw_cond_t rfl ?_))
    (first | refine ret_r (ret1 rfl by_res (List.nil_sublist _) ⟨_, rfl, ?_⟩) | refine ret_n (ret1 rfl by_res (List.nil_sublist _) ⟨_, rfl, ?_⟩))
    exact ⟨rfl, rfl⟩
  | [x], _ =>
    have e : joinT c [x] = x := by
      show strOfNums (jn c x []) = x
      unfold jn
      rw [List.flatMap_nil, List.append_nil, strOf_nums]
    rw [e]
    have hrow0 : ([x].map rS)[(0 : Int).toNat]? = some [str x] := rfl
    refine Fun.of (TriR.of (tri_of Tryd.func36 rfl Tryd.ntmps36 rfl fun j => ?_))
    repeat' (first | (with_reducible first | refine aw_seq ?_ | refine rl_nil ?_ | refine aw_region ?_ | refine then_n ?_ | refine aw_block ?_ | refine then_exit ?_ | refine then_ret ?_ | refine in_n ?_ | refine in_ret ?_ | refine aw_exit ?_ | refine aw_ret ?_ | refine aw_skip ?_ | refine in_exit_eq rfl ?_ | refine awr_succ ?_) | ((with_reducible refine k_move ?_); refine rl_pure (pv_move rfl) rfl rfl rfl ?_) | ((with_reducible refine k_assign ?_); refine rl_pure (pv_assign rfl) rfl rfl rfl ?_) | ((with_reducible refine k_load ?_); refine rl_val (vv_load_ro (by rfl) (by rfl) by_bd) rfl rfl rfl ?_) | ((with_reducible refine k_eql ?_); refine rl_pure (pv_eql rfl rfl) rfl rfl rfl ?_) | ((with_reducible refine k_len ?_); refine rl_pure (pv_len_ro' (by rfl) by_len) rfl rfl rfl ?_) | ((with_reducible refine k_indexAddr ?_); refine rl_pure (pv_indexAddr_ro (by rfl) rfl (by omega) (by first | rfl | assumption) (by first | rfl)) rfl rfl rfl ?_) | ((with_reducible refine k_cond ?_); (first | refine aw_cond_t rfl ?_ | refine aw_cond_f rfl ?_)))
    (first | refine ret_r (ret1 rfl by_res (List.nil_sublist _) ⟨_, rfl, ?_⟩) | refine ret_n (ret1 rfl by_res (List.nil_sublist _) ⟨_, rfl, ?_⟩))
    exact ⟨rfl, rfl⟩
  | x :: y :: l, hT => exact join36_two sep (x :: y :: l) x (y :: l) rfl (by simp) c hsep hcs h0 h1 hT
end Go.Proofs.YtbhbjlhobdoomaaDoor

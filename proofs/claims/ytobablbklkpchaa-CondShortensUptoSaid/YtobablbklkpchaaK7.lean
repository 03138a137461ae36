import Derived.Test.YtobablbklkpchaaK6
set_option linter.unusedVariables false
set_option linter.unusedSimpArgs false
namespace Go.Proofs.Ytobablbklkpchaa
open Go Go.AX
set_option maxHeartbeats 8000000
attribute [local irreducible] AW RL OP PureV ValV HV DL Tri TriR Fun RetOk ResV
theorem iand32 (r : Int) : iand .i64 r 4294967295 = r % 4294967296 := by
  have := iand_mask r 32 (by decide)
  simpa using this
theorem iand15 (r : Int) : iand .i64 r 15 = r % 16 := by
  have := iand_mask r 4 (by decide)
  simpa using this
theorem ld_bound {data : List Int} (hd : Bytes data) (at_ n : Int) (hn : 0 < n ∧ n ≤ 4) : W32 ((loadN data at_ n).getD 0) := by
  unfold loadN
  split
  · exact ⟨Int.le_refl _, by decide⟩
  · exact acc_small (fun y hy => hd y (List.mem_of_mem_drop (List.mem_of_mem_take hy))) (by simp only [List.length_take]; omega)
/-- What an operation does that is no jump. -/
def exec (real : Int) (data : List Int) (i : Ins) (m : M) : M :=
  if i.op = 8 then { m with x := m.a }
  else if i.op = 9 then { m with a := m.x }
  else if i.op = 10 then { m with x := 4 * ((loadN data i.k 1).getD 0 % 16), dead := m.dead || (loadN data i.k 1).isNone }
  else if i.op = 17 then { m with c := fun j => if j = i.k.toNat then m.a else m.c j }
  else { m with a := (res real data i.op i.k m).1 % 4294967296, dead := (res real data i.op i.k m).2 }
def runL (real : Int) (data : List Int) (L : List Ins) : Nat → Nat → Int → M → Bool × Int
  | 0, _, n, _ => (false, n)
  | fuel + 1, at_, n, m => match L[at_]? with
    | none => (false, n)
    | some i =>
      if i.op = 32 then (decide (i.k ≠ 0), n)
      else if i.op = 31 then runL real data L fuel (at_ + i.k.toNat + 1) (n + 1) m
      else if 25 ≤ i.op ∧ i.op ≤ 30 then runL real data L fuel (at_ + (if jmp i m then i.t else i.f).toNat + 1) (n + 1) m
      else if (exec real data i m).dead then (false, n)
      else runL real data L fuel (at_ + 1) (n + 1) (exec real data i m)
/-- Safe code. -/
structure Code_ (L : List Ins) : Prop where
  len : 0 < L.length ∧ L.length ≤ 400
  safe : ∀ (n : Nat) i, L[n]? = some i → Safe i n L.length
  last : ∀ i, L[L.length - 1]? = some i → i.op = 32
theorem exec_ok {real : Int} {data : List Int} (hd : Bytes data) {i : Ins} {m : M} (hm : MOk m) : MOk (exec real data i m) := by
  have h3 := ld_bound hd i.k 1 (by omega)
  unfold exec
  split
  · exact ⟨hm.a, hm.a, hm.c⟩
  · split
    · exact ⟨hm.x, hm.x, hm.c⟩
    · split
      · exact ⟨hm.a, ⟨by show 0 ≤ 4 * _; omega, by show 4 * _ < _; omega⟩, hm.c⟩
      · split
        · exact ⟨hm.a, hm.x, fun j => by
            show W32 (if j = i.k.toNat then m.a else m.c j)
            split
            · exact hm.a
            · exact hm.c j⟩
        · exact ⟨⟨Int.emod_nonneg _ (by omega), Int.emod_lt_of_pos _ (by omega)⟩, hm.x, hm.c⟩
/-- The table has a function for each operation that is told there. -/
theorem table (op : Int) (h : 0 ≤ op ∧ op ≤ 33 ∧ op ≠ 8 ∧ op ≠ 9 ∧ op ≠ 10 ∧ op ≠ 17 ∧ ¬ (25 ≤ op ∧ op ≤ 30) ∧ op ≠ 31 ∧ op ≠ 32) : ∃ f, Ent Try.prog f ∧ fns[0 + op.toNat * 1]? = some (.fn f []) ∧ Cl f op := by
  have : op = 0 ∨ op = 1 ∨ op = 2 ∨ op = 3 ∨ op = 4 ∨ op = 5 ∨ op = 6 ∨ op = 7 ∨ op = 11 ∨ op = 12 ∨ op = 13 ∨ op = 14 ∨ op = 15 ∨ op = 16 ∨ op = 18 ∨ op = 19 ∨ op = 20 ∨ op = 21 ∨ op = 22 ∨ op = 23 ∨ op = 24 ∨ op = 33 := by omega
  rcases this with rfl | rfl | rfl | rfl | rfl | rfl | rfl | rfl | rfl | rfl | rfl | rfl | rfl | rfl | rfl | rfl | rfl | rfl | rfl | rfl | rfl | rfl
  · exact ⟨64, inferInstance, rfl, cl64⟩
  · exact ⟨65, inferInstance, rfl, cl65⟩
  · exact ⟨66, inferInstance, rfl, cl66⟩
  · exact ⟨67, inferInstance, rfl, cl67⟩
  · exact ⟨68, inferInstance, rfl, cl68⟩
  · exact ⟨69, inferInstance, rfl, cl69⟩
  · exact ⟨70, inferInstance, rfl, cl70⟩
  · exact ⟨71, inferInstance, rfl, cl71⟩
  · exact ⟨72, inferInstance, rfl, cl72⟩
  · exact ⟨73, inferInstance, rfl, cl73⟩
  · exact ⟨74, inferInstance, rfl, cl74⟩
  · exact ⟨76, inferInstance, rfl, cl76⟩
  · exact ⟨77, inferInstance, rfl, cl77⟩
  · exact ⟨78, inferInstance, rfl, cl78⟩
  · exact ⟨80, inferInstance, rfl, cl80⟩
  · exact ⟨81, inferInstance, rfl, cl81⟩
  · exact ⟨82, inferInstance, rfl, cl82⟩
  · exact ⟨83, inferInstance, rfl, cl83⟩
  · exact ⟨84, inferInstance, rfl, cl84⟩
  · exact ⟨85, inferInstance, rfl, cl85⟩
  · exact ⟨86, inferInstance, rfl, cl86⟩
  · exact ⟨88, inferInstance, rfl, cl88⟩
theorem set_cell (real : Int) (rows : List (List V)) (m : M) (k : Int) (h : 0 ≤ k ∧ k < 16) : setAll (mcells real rows m) (0 + 2 + k.toNat * 1) (int m.a).cells = mcells real rows { m with c := fun j => if j = k.toNat then m.a else m.c j } := by
  have : k.toNat = 0 ∨ k.toNat = 1 ∨ k.toNat = 2 ∨ k.toNat = 3 ∨ k.toNat = 4 ∨ k.toNat = 5 ∨ k.toNat = 6 ∨ k.toNat = 7 ∨ k.toNat = 8 ∨ k.toNat = 9 ∨ k.toNat = 10 ∨ k.toNat = 11 ∨ k.toNat = 12 ∨ k.toNat = 13 ∨ k.toNat = 14 ∨ k.toNat = 15 := by omega
  rcases this with h | h | h | h | h | h | h | h | h | h | h | h | h | h | h | h <;> rw [h] <;> rfl
theorem run32 (p : Nat) (real : Int) (data : List Int) (L : List Ins) (hL : Code_ L) (hd : Bytes data) (hdl : data.length ≤ 1000000) (hreal : 0 ≤ real ∧ real ≤ 1000000) (m0 : M) (hm0 : MOk m0) (hdead0 : m0.dead = false) :
    TriR Try.prog 32 [.raw (.pointer (some ⟨p, 0, none⟩)), .ro (L.map Ins.cells)] [.box p 58 (mcells real (data.map brow) m0)] fun v H' =>
      v = .tup [bool (runL real data L L.length 0 1 m0).1, int (runL real data L L.length 0 1 m0).2] ∧ H' = [] := by
  have hlen := hL.len
  refine TriR.of (tri_of Try.func32 rfl Try.ntmps32 rfl fun j => ?_)
  repeat' (first | (with_reducible first | refine aw_seq ?_ | refine rl_nil ?_ | refine aw_region ?_ | refine then_n ?_ | refine aw_block ?_ | refine then_exit ?_ | refine then_ret ?_ | refine in_n ?_ | refine in_ret ?_ | refine aw_exit ?_ | refine aw_ret ?_ | refine aw_skip ?_ | refine in_exit_eq rfl ?_) | ((with_reducible refine k_assign ?_); refine rl_pure (pv_assign rfl) rfl rfl rfl ?_) | ((with_reducible refine k_store ?_); refine rl_op rfl (op_store_box_whole (by rfl) (by rfl) (V.okc_or (by rfl)) by_upd (by first | rfl | exact ins_len _) (by first | rfl | exact ins_len _) ?_)) | ((with_reducible refine k_alloc ?_); refine rl_op rfl (op_alloc (by decide) rfl fun b => ?_)) | ((with_reducible refine k_callv ?_); refine rl_op rfl (op_callF rfl rfl (steps49) rfl ?_)))
  refine aw_iter (α := Nat × Nat × Int × M) (fun q => [(0, .raw (.pointer (some ⟨p, 0, none⟩))), (1, .ro (L.map Ins.cells)), (6, .raw (.pointer (some ⟨b, 0, none⟩))), (7, int q.2.1), (8, int q.2.2.1)])
    (fun q => [.box b 79 fns, .box p 58 (mcells real (data.map brow) q.2.2.2)])
    (fun q => q.2.1 < L.length ∧ (1 ≤ q.2.2.1 ∧ q.2.2.1 ≤ q.2.1 + 1) ∧ MOk q.2.2.2 ∧ q.2.2.2.dead = false ∧ L.length - q.2.1 ≤ q.1 ∧ runL real data L L.length 0 1 m0 = runL real data L q.1 q.2.1 q.2.2.1 q.2.2.2)
    (fun q => L.length - q.2.1) (L.length, 0, 1, m0) ⟨by show 0 < L.length; omega, by show (1 : Int) ≤ 1 ∧ (1 : Int) ≤ ((0 : Nat) : Int) + 1; omega, hm0, hdead0, by show L.length - 0 ≤ L.length; omega, rfl⟩ (by (repeat (first | exact sub_nil | refine sub_cons (by first | rfl | (simp; done)) ?_))) (.cons .here (.cons .here .nil)) fun q hI => ?_
  obtain ⟨fuel, at_, n, m⟩ := q
  dsimp only at hI ⊢
  obtain ⟨hat, hn, hm, hdead, hfu, hrun⟩ := hI
  obtain ⟨fuel, rfl⟩ : ∃ f, fuel = f + 1 := ⟨fuel - 1, by omega⟩
  obtain ⟨i, hi⟩ : ∃ i, L[at_]? = some i := ⟨_, List.getElem?_eq_getElem hat⟩
  have hr : (L.map Ins.cells)[at_]? = some i.cells := by simp [hi]
  have hs := hL.safe at_ i hi
  simp only [Safe] at hs
  have hlst : i.op ≠ 32 → at_ + 1 < L.length := fun h => by
    rcases Nat.lt_or_ge (at_ + 1) L.length with h1 | h1
    · exact h1
    · exact absurd (hL.last i (by rw [← hi]; congr 1; omega)) h
  simp only [runL, hi] at hrun
  have h15 := iand15 ((loadN data i.k 1).getD 0)
  have hld := ld_bound hd i.k 1 (by omega)
  obtain ⟨⟨a0, a1⟩, ⟨x0, x1⟩, _⟩ := id hm
  obtain ⟨ld0, ld1⟩ := hld
  have cls : i.op = 32 ∨ i.op = 31 ∨ (25 ≤ i.op ∧ i.op ≤ 30) ∨ i.op = 8 ∨ i.op = 9 ∨ i.op = 10 ∨ i.op = 17 ∨
    (0 ≤ i.op ∧ i.op ≤ 33 ∧ i.op ≠ 8 ∧ i.op ≠ 9 ∧ i.op ≠ 10 ∧ i.op ≠ 17 ∧ ¬ (25 ≤ i.op ∧ i.op ≤ 30) ∧ i.op ≠ 31 ∧ i.op ≠ 32) := by omega
  rcases cls with ho | ho | ho | ho | ho | ho | ho | ho
  · rw [if_pos ho] at hrun
    repeat' (first | (with_reducible first | refine aw_seq ?_ | refine rl_nil ?_ | refine aw_region ?_ | refine then_n ?_ | refine aw_block ?_ | refine then_exit ?_ | refine then_ret ?_ | refine in_n ?_ | refine in_ret ?_ | refine aw_exit ?_ | refine aw_ret ?_ | refine aw_skip ?_ | refine in_exit_eq rfl ?_) | ((with_reducible refine k_move ?_); refine rl_pure (pv_move rfl) rfl rfl rfl ?_) | ((with_reducible refine k_assign ?_); refine rl_pure (pv_assign rfl) rfl rfl rfl ?_) | ((with_reducible refine k_load ?_); (first | refine rl_val (vv_load_ro_whole (by rfl) (by rfl) (by first | rfl | exact ins_len _)) rfl rfl rfl ?_ | refine rl_val (vv_load_box (by rfl) by_memb (by rfl) by_bd) rfl rfl rfl ?_)) | ((with_reducible refine k_fieldAddr ?_); refine rl_pure (pv_fieldAddr rfl) rfl rfl rfl ?_) | ((with_reducible refine k_store ?_); refine rl_op rfl (op_store_box_whole (by rfl) (by rfl) (V.okc_or (by rfl)) by_upd (by first | rfl | exact ins_len _) (by first | rfl | exact ins_len _) ?_)) | ((with_reducible refine k_alloc ?_); refine rl_op rfl (op_alloc (by decide) rfl fun b => ?_)) | ((with_reducible refine k_eql ?_); refine rl_pure (pv_eql rfl rfl) rfl rfl rfl ?_) | ((with_reducible refine k_neq ?_); refine rl_pure (pv_neq rfl rfl) rfl rfl rfl ?_) | ((with_reducible refine k_indexAddr ?_); refine rl_pure (pv_indexAddr_ro (by rfl) rfl (by omega) (by first | rfl | assumption) (by first | rfl | exact ins_len _)) rfl rfl rfl ?_) | (((with_reducible refine k_cond ?_); refine aw_cond rfl ?_ ?_) <;> intro hb <;> (have hc := hb) <;> (try simp only [decide_eq_true_eq, decide_eq_false_iff_not, Int.not_lt, Int.not_le, ne_eq, Bool.not_eq_true, Bool.not_eq_false, Decidable.not_not] at hc) <;> (try (exfalso; omega)) <;> (try (first | contradiction | (cases hc; done)))))
    (first | refine ret_r (ret2 rfl by_res by_res (List.nil_sublist _) ⟨_, rfl, ?_⟩) | refine ret_n (ret2 rfl by_res by_res (List.nil_sublist _) ⟨_, rfl, ?_⟩))
    rw [hrun]
    exact ⟨rfl, rfl⟩
  · rw [if_neg (by omega), if_pos ho] at hrun
    repeat' (first | (with_reducible first | refine aw_seq ?_ | refine rl_nil ?_ | refine aw_region ?_ | refine then_n ?_ | refine aw_block ?_ | refine then_exit ?_ | refine then_ret ?_ | refine in_n ?_ | refine in_ret ?_ | refine aw_exit ?_ | refine aw_ret ?_ | refine aw_skip ?_ | refine in_exit_eq rfl ?_) | ((with_reducible refine k_move ?_); refine rl_pure (pv_move rfl) rfl rfl rfl ?_) | ((with_reducible refine k_assign ?_); refine rl_pure (pv_assign rfl) rfl rfl rfl ?_) | ((with_reducible refine k_load ?_); (first | refine rl_val (vv_load_ro_whole (by rfl) (by rfl) (by first | rfl | exact ins_len _)) rfl rfl rfl ?_ | refine rl_val (vv_load_box (by rfl) by_memb (by rfl) by_bd) rfl rfl rfl ?_)) | ((with_reducible refine k_fieldAddr ?_); refine rl_pure (pv_fieldAddr rfl) rfl rfl rfl ?_) | ((with_reducible refine k_store ?_); refine rl_op rfl (op_store_box_whole (by rfl) (by rfl) (V.okc_or (by rfl)) by_upd (by first | rfl | exact ins_len _) (by first | rfl | exact ins_len _) ?_)) | ((with_reducible refine k_alloc ?_); refine rl_op rfl (op_alloc (by decide) rfl fun b => ?_)) | ((with_reducible refine k_eql ?_); refine rl_pure (pv_eql rfl rfl) rfl rfl rfl ?_) | ((with_reducible refine k_add ?_); refine rl_pure (pv_add_in rfl rfl (by omega)) rfl rfl rfl ?_) | ((with_reducible refine k_indexAddr ?_); refine rl_pure (pv_indexAddr_ro (by rfl) rfl (by omega) (by first | rfl | assumption) (by first | rfl | exact ins_len _)) rfl rfl rfl ?_) | ((with_reducible refine k_nilCheck ?_); refine rl_pure (pv_nilCheck rfl) rfl rfl rfl ?_) | ((with_reducible refine k_cond ?_); refine aw_cond_no rfl (by assumption) ?_) | (((with_reducible refine k_cond ?_); refine aw_cond rfl ?_ ?_) <;> intro hb <;> (have hc := hb) <;> (try simp only [decide_eq_true_eq, decide_eq_false_iff_not, Int.not_lt, Int.not_le, ne_eq, Bool.not_eq_true, Bool.not_eq_false, Decidable.not_not] at hc) <;> (try (exfalso; omega)) <;> (try (first | contradiction | (cases hc; done)))))
    have e : ((at_ + i.k.toNat + 1 : Nat) : Int) = (at_ : Int) + i.k + 1 := by omega
    refine next_of (fuel, at_ + i.k.toNat + 1, n + 1, m) ⟨by show at_ + i.k.toNat + 1 < L.length; omega, by show 1 ≤ n + 1 ∧ n + 1 ≤ ((at_ + i.k.toNat + 1 : Nat) : Int) + 1; omega, hm, hdead, by show L.length - (at_ + i.k.toNat + 1) ≤ fuel; omega, hrun⟩ (by show L.length - (at_ + i.k.toNat + 1) < L.length - at_; omega) ?_ (.cons (.there .here) (.cons (.there .here) .nil))
    rw [e]
    (repeat (first | exact sub_nil | refine sub_cons (by first | rfl | (simp; done)) ?_))
  · rw [if_neg (by omega), if_neg (by omega), if_pos ho] at hrun
    repeat' (first | (with_reducible first | refine aw_seq ?_ | refine rl_nil ?_ | refine aw_region ?_ | refine then_n ?_ | refine aw_block ?_ | refine then_exit ?_ | refine then_ret ?_ | refine in_n ?_ | refine in_ret ?_ | refine aw_exit ?_ | refine aw_ret ?_ | refine aw_skip ?_ | refine in_exit_eq rfl ?_) | ((with_reducible refine k_move ?_); refine rl_pure (pv_move rfl) rfl rfl rfl ?_) | ((with_reducible refine k_assign ?_); refine rl_pure (pv_assign rfl) rfl rfl rfl ?_) | ((with_reducible refine k_load ?_); (first | refine rl_val (vv_load_ro_whole (by rfl) (by rfl) (by first | rfl | exact ins_len _)) rfl rfl rfl ?_ | refine rl_val (vv_load_box (by rfl) by_memb (by rfl) by_bd) rfl rfl rfl ?_ | refine rl_val (vv_load_box_whole (by rfl) by_memb (by rfl) (by first | rfl | exact ins_len _)) rfl rfl rfl ?_)) | ((with_reducible refine k_fieldAddr ?_); refine rl_pure (pv_fieldAddr rfl) rfl rfl rfl ?_) | ((with_reducible refine k_store ?_); refine rl_op rfl (op_store_box_whole (by rfl) (by rfl) (V.okc_or (by rfl)) by_upd (by first | rfl | exact ins_len _) (by first | rfl | exact ins_len _) ?_)) | ((with_reducible refine k_alloc ?_); refine rl_op rfl (op_alloc (by decide) rfl fun b => ?_)) | ((with_reducible refine k_eql ?_); refine rl_pure (pv_eql rfl rfl) rfl rfl rfl ?_) | ((with_reducible refine k_indexAddr ?_); refine rl_pure (pv_indexAddr_ro (by rfl) rfl (by omega) (by first | rfl | assumption) (by first | rfl | exact ins_len _)) rfl rfl rfl ?_) | ((with_reducible refine k_callv ?_); refine rl_op rfl (op_callF rfl rfl (isJump_fun _) rfl ?_)) | (((with_reducible refine k_cond ?_); refine aw_cond rfl ?_ ?_) <;> intro hb <;> (have hc := hb) <;> (try simp only [decide_eq_true_eq, decide_eq_false_iff_not, Int.not_lt, Int.not_le, ne_eq, Bool.not_eq_true, Bool.not_eq_false, Decidable.not_not] at hc) <;> (try (exfalso; omega)) <;> (try (first | contradiction | (cases hc; done)))))
    (first | refine rl_op rfl (op_callR rfl rfl (.cons (.there (.there .here)) .nil) (holds50 p real (data.map brow) m i) rfl ?_) | refine dl_op (by assumption) by_wants (op_callR rfl rfl (.cons (.there (.there .here)) .nil) (holds50 p real (data.map brow) m i) rfl ?_))
    rintro _ _ ⟨rfl, rfl⟩
    repeat' (first | (with_reducible first | refine aw_seq ?_ | refine rl_nil ?_ | refine aw_region ?_ | refine then_n ?_ | refine aw_block ?_ | refine then_exit ?_ | refine then_ret ?_ | refine in_n ?_ | refine in_ret ?_ | refine aw_exit ?_ | refine aw_ret ?_ | refine aw_skip ?_ | refine in_exit_eq rfl ?_) | ((with_reducible refine k_move ?_); refine rl_pure (pv_move rfl) rfl rfl rfl ?_) | ((with_reducible refine k_assign ?_); refine rl_pure (pv_assign rfl) rfl rfl rfl ?_) | ((with_reducible refine k_load ?_); refine rl_val (vv_load_box (by rfl) by_memb (by rfl) by_bd) rfl rfl rfl ?_) | ((with_reducible refine k_fieldAddr ?_); refine rl_pure (pv_fieldAddr rfl) rfl rfl rfl ?_) | ((with_reducible refine k_add ?_); refine rl_pure (pv_add_in rfl rfl (by omega)) rfl rfl rfl ?_) | ((with_reducible refine k_nilCheck ?_); refine rl_pure (pv_nilCheck rfl) rfl rfl rfl ?_) | ((with_reducible refine k_cond ?_); refine aw_cond_no rfl (by assumption) ?_) | (((with_reducible refine k_cond ?_); refine aw_cond rfl ?_ ?_) <;> intro hb <;> (have hc := hb) <;> (try simp only [decide_eq_true_eq, decide_eq_false_iff_not, Int.not_lt, Int.not_le, ne_eq, Bool.not_eq_true, Bool.not_eq_false, Decidable.not_not] at hc) <;> (try (exfalso; omega)) <;> (try (first | contradiction | (cases hc; done)))))
    · rw [if_pos hc] at hrun
      have e : ((at_ + i.t.toNat + 1 : Nat) : Int) = (at_ : Int) + i.t + 1 := by omega
      refine next_of (fuel, at_ + i.t.toNat + 1, n + 1, m) ⟨by show at_ + i.t.toNat + 1 < L.length; omega, by show 1 ≤ n + 1 ∧ n + 1 ≤ ((at_ + i.t.toNat + 1 : Nat) : Int) + 1; omega, hm, hdead, by show L.length - (at_ + i.t.toNat + 1) ≤ fuel; omega, hrun⟩ (by show L.length - (at_ + i.t.toNat + 1) < L.length - at_; omega) ?_ (.cons (.there (.there .here)) (.cons .here .nil))
      rw [e]
      (repeat (first | exact sub_nil | refine sub_cons (by first | rfl | (simp; done)) ?_))
    · rw [if_neg (by simp [hc])] at hrun
      have e : ((at_ + i.f.toNat + 1 : Nat) : Int) = (at_ : Int) + i.f + 1 := by omega
      refine next_of (fuel, at_ + i.f.toNat + 1, n + 1, m) ⟨by show at_ + i.f.toNat + 1 < L.length; omega, by show 1 ≤ n + 1 ∧ n + 1 ≤ ((at_ + i.f.toNat + 1 : Nat) : Int) + 1; omega, hm, hdead, by show L.length - (at_ + i.f.toNat + 1) ≤ fuel; omega, hrun⟩ (by show L.length - (at_ + i.f.toNat + 1) < L.length - at_; omega) ?_ (.cons (.there (.there .here)) (.cons .here .nil))
      rw [e]
      (repeat (first | exact sub_nil | refine sub_cons (by first | rfl | (simp; done)) ?_))
  · rw [if_neg (by omega), if_neg (by omega), if_neg (by omega)] at hrun
    have hex : exec real data i m = { m with x := m.a } := by rw [exec, if_pos ho]
    have hok := exec_ok (real := real) hd (i := i) hm
    rw [hex] at hrun hok
    rw [if_neg (by simp [hdead])] at hrun
    have hl1 := hlst (by omega)
    repeat' (first | (with_reducible first | refine aw_seq ?_ | refine rl_nil ?_ | refine aw_region ?_ | refine then_n ?_ | refine aw_block ?_ | refine then_exit ?_ | refine then_ret ?_ | refine in_n ?_ | refine in_ret ?_ | refine aw_exit ?_ | refine aw_ret ?_ | refine aw_skip ?_ | refine in_exit_eq rfl ?_) | ((with_reducible refine k_move ?_); refine rl_pure (pv_move rfl) rfl rfl rfl ?_) | ((with_reducible refine k_assign ?_); refine rl_pure (pv_assign rfl) rfl rfl rfl ?_) | ((with_reducible refine k_load ?_); (first | refine rl_val (vv_load_ro_whole (by rfl) (by rfl) (by first | rfl | exact ins_len _)) rfl rfl rfl ?_ | refine rl_val (vv_load_box (by rfl) by_memb (by rfl) by_bd) rfl rfl rfl ?_)) | ((with_reducible refine k_fieldAddr ?_); refine rl_pure (pv_fieldAddr rfl) rfl rfl rfl ?_) | ((with_reducible refine k_store ?_); (first | refine rl_op rfl (op_store_box_whole (by rfl) (by rfl) (V.okc_or (by rfl)) by_upd (by first | rfl | exact ins_len _) (by first | rfl | exact ins_len _) ?_) | refine rl_op rfl (op_store_box (by rfl) (by rfl) (V.okc_or (by rfl)) by_upd (by rfl) (by first | exact Nat.le_of_ble_eq_true rfl | assumption) ?_))) | ((with_reducible refine k_alloc ?_); refine rl_op rfl (op_alloc (by decide) rfl fun b => ?_)) | ((with_reducible refine k_eql ?_); refine rl_pure (pv_eql rfl rfl) rfl rfl rfl ?_) | ((with_reducible refine k_add ?_); refine rl_pure (pv_add_in rfl rfl (by omega)) rfl rfl rfl ?_) | ((with_reducible refine k_indexAddr ?_); refine rl_pure (pv_indexAddr_ro (by rfl) rfl (by omega) (by first | rfl | assumption) (by first | rfl | exact ins_len _)) rfl rfl rfl ?_) | ((with_reducible refine k_nilCheck ?_); refine rl_pure (pv_nilCheck rfl) rfl rfl rfl ?_) | ((with_reducible refine k_cond ?_); refine aw_cond_no rfl (by assumption) ?_) | ((with_reducible refine k_callv ?_); refine rl_op rfl (op_callF rfl rfl (isJump_fun _) rfl ?_)) | (((with_reducible refine k_cond ?_); refine aw_cond rfl ?_ ?_) <;> intro hb <;> (have hc := hb) <;> (try simp only [decide_eq_true_eq, decide_eq_false_iff_not, Int.not_lt, Int.not_le, ne_eq, Bool.not_eq_true, Bool.not_eq_false, Decidable.not_not] at hc) <;> (try (exfalso; omega)) <;> (try (first | contradiction | (cases hc; done)))))
    exact next_of (fuel, at_ + 1, n + 1, { m with x := m.a }) ⟨by show at_ + 1 < L.length; omega, by show 1 ≤ n + 1 ∧ n + 1 ≤ ((at_ + 1 : Nat) : Int) + 1; omega, hok, hdead, by show L.length - (at_ + 1) ≤ fuel; omega, hrun⟩ (by show L.length - (at_ + 1) < L.length - at_; omega) (by (repeat (first | exact sub_nil | refine sub_cons (by first | rfl | (simp; done)) ?_))) (.cons (.there .here) (.cons (.there .here) .nil))
  · rw [if_neg (by omega), if_neg (by omega), if_neg (by omega)] at hrun
    have hex : exec real data i m = { m with a := m.x } := by rw [exec, if_neg (by omega), if_pos ho]
    have hok := exec_ok (real := real) hd (i := i) hm
    rw [hex] at hrun hok
    rw [if_neg (by simp [hdead])] at hrun
    have hl1 := hlst (by omega)
    repeat' (first | (with_reducible first | refine aw_seq ?_ | refine rl_nil ?_ | refine aw_region ?_ | refine then_n ?_ | refine aw_block ?_ | refine then_exit ?_ | refine then_ret ?_ | refine in_n ?_ | refine in_ret ?_ | refine aw_exit ?_ | refine aw_ret ?_ | refine aw_skip ?_ | refine in_exit_eq rfl ?_) | ((with_reducible refine k_move ?_); refine rl_pure (pv_move rfl) rfl rfl rfl ?_) | ((with_reducible refine k_assign ?_); refine rl_pure (pv_assign rfl) rfl rfl rfl ?_) | ((with_reducible refine k_load ?_); (first | refine rl_val (vv_load_ro_whole (by rfl) (by rfl) (by first | rfl | exact ins_len _)) rfl rfl rfl ?_ | refine rl_val (vv_load_box (by rfl) by_memb (by rfl) by_bd) rfl rfl rfl ?_)) | ((with_reducible refine k_fieldAddr ?_); refine rl_pure (pv_fieldAddr rfl) rfl rfl rfl ?_) | ((with_reducible refine k_store ?_); (first | refine rl_op rfl (op_store_box_whole (by rfl) (by rfl) (V.okc_or (by rfl)) by_upd (by first | rfl | exact ins_len _) (by first | rfl | exact ins_len _) ?_) | refine rl_op rfl (op_store_box (by rfl) (by rfl) (V.okc_or (by rfl)) by_upd (by rfl) (by first | exact Nat.le_of_ble_eq_true rfl | assumption) ?_))) | ((with_reducible refine k_alloc ?_); refine rl_op rfl (op_alloc (by decide) rfl fun b => ?_)) | ((with_reducible refine k_eql ?_); refine rl_pure (pv_eql rfl rfl) rfl rfl rfl ?_) | ((with_reducible refine k_add ?_); refine rl_pure (pv_add_in rfl rfl (by omega)) rfl rfl rfl ?_) | ((with_reducible refine k_indexAddr ?_); refine rl_pure (pv_indexAddr_ro (by rfl) rfl (by omega) (by first | rfl | assumption) (by first | rfl | exact ins_len _)) rfl rfl rfl ?_) | ((with_reducible refine k_nilCheck ?_); refine rl_pure (pv_nilCheck rfl) rfl rfl rfl ?_) | ((with_reducible refine k_cond ?_); refine aw_cond_no rfl (by assumption) ?_) | ((with_reducible refine k_callv ?_); refine rl_op rfl (op_callF rfl rfl (isJump_fun _) rfl ?_)) | (((with_reducible refine k_cond ?_); refine aw_cond rfl ?_ ?_) <;> intro hb <;> (have hc := hb) <;> (try simp only [decide_eq_true_eq, decide_eq_false_iff_not, Int.not_lt, Int.not_le, ne_eq, Bool.not_eq_true, Bool.not_eq_false, Decidable.not_not] at hc) <;> (try (exfalso; omega)) <;> (try (first | contradiction | (cases hc; done)))))
    exact next_of (fuel, at_ + 1, n + 1, { m with a := m.x }) ⟨by show at_ + 1 < L.length; omega, by show 1 ≤ n + 1 ∧ n + 1 ≤ ((at_ + 1 : Nat) : Int) + 1; omega, hok, hdead, by show L.length - (at_ + 1) ≤ fuel; omega, hrun⟩ (by show L.length - (at_ + 1) < L.length - at_; omega) (by (repeat (first | exact sub_nil | refine sub_cons (by first | rfl | (simp; done)) ?_))) (.cons (.there .here) (.cons (.there .here) .nil))
  · rw [if_neg (by omega), if_neg (by omega), if_neg (by omega)] at hrun
    have hex : exec real data i m = { m with x := 4 * iand .i64 ((loadN data i.k 1).getD 0) 15, dead := m.dead || (loadN data i.k 1).isNone } := by rw [exec, if_neg (by omega), if_neg (by omega), if_pos ho, h15]
    have hok := exec_ok (real := real) hd (i := i) hm
    rw [hex] at hrun hok
    have hl1 := hlst (by omega)
    repeat' (first | (with_reducible first | refine aw_seq ?_ | refine rl_nil ?_ | refine aw_region ?_ | refine then_n ?_ | refine aw_block ?_ | refine then_exit ?_ | refine then_ret ?_ | refine in_n ?_ | refine in_ret ?_ | refine aw_exit ?_ | refine aw_ret ?_ | refine aw_skip ?_ | refine in_exit_eq rfl ?_) | ((with_reducible refine k_move ?_); refine rl_pure (pv_move rfl) rfl rfl rfl ?_) | ((with_reducible refine k_assign ?_); refine rl_pure (pv_assign rfl) rfl rfl rfl ?_) | ((with_reducible refine k_load ?_); (first | refine rl_val (vv_load_ro_whole (by rfl) (by rfl) (by first | rfl | exact ins_len _)) rfl rfl rfl ?_ | refine rl_val (vv_load_box (by rfl) by_memb (by rfl) by_bd) rfl rfl rfl ?_)) | ((with_reducible refine k_fieldAddr ?_); refine rl_pure (pv_fieldAddr rfl) rfl rfl rfl ?_) | ((with_reducible refine k_store ?_); refine rl_op rfl (op_store_box_whole (by rfl) (by rfl) (V.okc_or (by rfl)) by_upd (by first | rfl | exact ins_len _) (by first | rfl | exact ins_len _) ?_)) | ((with_reducible refine k_alloc ?_); refine rl_op rfl (op_alloc (by decide) rfl fun b => ?_)) | ((with_reducible refine k_eql ?_); refine rl_pure (pv_eql rfl rfl) rfl rfl rfl ?_) | ((with_reducible refine k_indexAddr ?_); refine rl_pure (pv_indexAddr_ro (by rfl) rfl (by omega) (by first | rfl | assumption) (by first | rfl | exact ins_len _)) rfl rfl rfl ?_) | ((with_reducible refine k_callv ?_); refine rl_op rfl (op_callF rfl rfl (isJump_fun _) rfl ?_)) | (((with_reducible refine k_cond ?_); refine aw_cond rfl ?_ ?_) <;> intro hb <;> (have hc := hb) <;> (try simp only [decide_eq_true_eq, decide_eq_false_iff_not, Int.not_lt, Int.not_le, ne_eq, Bool.not_eq_true, Bool.not_eq_false, Decidable.not_not] at hc) <;> (try (exfalso; omega)) <;> (try (first | contradiction | (cases hc; done)))))
    (first | refine rl_op rfl (op_callR rfl rfl (.cons (.there (.there .here)) .nil) (load51 p real data m i.k 1 hd hdl (by omega) (by omega)) rfl ?_) | refine dl_op (by assumption) by_wants (op_callR rfl rfl (.cons (.there (.there .here)) .nil) (load51 p real data m i.k 1 hd hdl (by omega) (by omega)) rfl ?_))
    rintro _ _ ⟨rfl, rfl⟩
    repeat' (first | (with_reducible first | refine aw_seq ?_ | refine rl_nil ?_ | refine aw_region ?_ | refine then_n ?_ | refine aw_block ?_ | refine then_exit ?_ | refine then_ret ?_ | refine in_n ?_ | refine in_ret ?_ | refine aw_exit ?_ | refine aw_ret ?_ | refine aw_skip ?_ | refine in_exit_eq rfl ?_) | ((with_reducible refine k_move ?_); refine rl_pure (pv_move rfl) rfl rfl rfl ?_) | ((with_reducible refine k_assign ?_); refine rl_pure (pv_assign rfl) rfl rfl rfl ?_) | ((with_reducible refine k_load ?_); refine rl_val (vv_load_box (by rfl) by_memb (by rfl) by_bd) rfl rfl rfl ?_) | ((with_reducible refine k_fieldAddr ?_); refine rl_pure (pv_fieldAddr rfl) rfl rfl rfl ?_) | ((with_reducible refine k_store ?_); refine rl_op rfl (op_store_box (by rfl) (by rfl) (V.okc_or (by rfl)) by_upd (by rfl) (by first | exact Nat.le_of_ble_eq_true rfl | assumption) ?_)) | ((with_reducible refine k_add ?_); refine rl_pure (pv_add_in rfl rfl (by omega)) rfl rfl rfl ?_) | ((with_reducible refine k_mul ?_); refine rl_pure (pv_mul_in rfl rfl (by omega)) rfl rfl rfl ?_) | ((with_reducible refine k_nilCheck ?_); refine rl_pure (pv_nilCheck rfl) rfl rfl rfl ?_) | ((with_reducible refine k_and ?_); refine rl_pure (pv_and rfl rfl) rfl rfl rfl ?_) | (((with_reducible refine k_cond ?_); refine aw_cond rfl ?_ ?_) <;> intro hb <;> (have hc := hb) <;> (try simp only [decide_eq_true_eq, decide_eq_false_iff_not, Int.not_lt, Int.not_le, ne_eq, Bool.not_eq_true, Bool.not_eq_false, Decidable.not_not] at hc) <;> (try (exfalso; omega)) <;> (try (first | contradiction | (cases hc; done)))))
    · rw [if_pos hc] at hrun
      (first | refine ret_r (ret2 rfl by_res by_res (List.nil_sublist _) ⟨_, rfl, ?_⟩) | refine ret_n (ret2 rfl by_res by_res (List.nil_sublist _) ⟨_, rfl, ?_⟩))
      rw [hrun]
      exact ⟨rfl, rfl⟩
    · rw [if_neg (by simp [hc])] at hrun
      exact next_of (fuel, at_ + 1, n + 1, { m with x := 4 * iand .i64 ((loadN data i.k 1).getD 0) 15, dead := m.dead || (loadN data i.k 1).isNone }) ⟨by show at_ + 1 < L.length; omega, by show 1 ≤ n + 1 ∧ n + 1 ≤ ((at_ + 1 : Nat) : Int) + 1; omega, hok, hc, by show L.length - (at_ + 1) ≤ fuel; omega, hrun⟩ (by show L.length - (at_ + 1) < L.length - at_; omega) (by (repeat (first | exact sub_nil | refine sub_cons (by first | rfl | (simp; done)) ?_))) (.cons (.there (.there .here)) (.cons .here .nil))
  · rw [if_neg (by omega), if_neg (by omega), if_neg (by omega)] at hrun
    have hex : exec real data i m = { m with c := fun j => if j = i.k.toNat then m.a else m.c j } := by rw [exec, if_neg (by omega), if_neg (by omega), if_neg (by omega), if_pos ho]
    have hok := exec_ok (real := real) hd (i := i) hm
    rw [hex] at hrun hok
    rw [if_neg (by simp [hdead])] at hrun
    have hl1 := hlst (by omega)
    have hbnd : 0 + 2 + i.k.toNat * 1 + 1 ≤ (mcells real (data.map brow) m).length := by show _ ≤ 21; omega
    have hsc := set_cell real (data.map brow) m i.k (by omega)
    repeat' (first | (with_reducible first | refine aw_seq ?_ | refine rl_nil ?_ | refine aw_region ?_ | refine then_n ?_ | refine aw_block ?_ | refine then_exit ?_ | refine then_ret ?_ | refine in_n ?_ | refine in_ret ?_ | refine aw_exit ?_ | refine aw_ret ?_ | refine aw_skip ?_ | refine in_exit_eq rfl ?_) | ((with_reducible refine k_move ?_); refine rl_pure (pv_move rfl) rfl rfl rfl ?_) | ((with_reducible refine k_assign ?_); refine rl_pure (pv_assign rfl) rfl rfl rfl ?_) | ((with_reducible refine k_load ?_); (first | refine rl_val (vv_load_ro_whole (by rfl) (by rfl) (by first | rfl | exact ins_len _)) rfl rfl rfl ?_ | refine rl_val (vv_load_box (by rfl) by_memb (by rfl) by_bd) rfl rfl rfl ?_)) | ((with_reducible refine k_fieldAddr ?_); refine rl_pure (pv_fieldAddr rfl) rfl rfl rfl ?_) | ((with_reducible refine k_store ?_); refine rl_op rfl (op_store_box_whole (by rfl) (by rfl) (V.okc_or (by rfl)) by_upd (by first | rfl | exact ins_len _) (by first | rfl | exact ins_len _) ?_)) | ((with_reducible refine k_alloc ?_); refine rl_op rfl (op_alloc (by decide) rfl fun b => ?_)) | ((with_reducible refine k_eql ?_); refine rl_pure (pv_eql rfl rfl) rfl rfl rfl ?_) | ((with_reducible refine k_indexAddr ?_); refine rl_pure (pv_indexAddr_ro (by rfl) rfl (by omega) (by first | rfl | assumption) (by first | rfl | exact ins_len _)) rfl rfl rfl ?_) | ((with_reducible refine k_nilCheck ?_); refine rl_pure (pv_nilCheck rfl) rfl rfl rfl ?_) | (with_reducible refine dl_nil by_app ?_) | ((with_reducible refine kd_move ?_); refine dl_pure (by assumption) (pv_move rfl) by_wants rfl rfl ?_) | ((with_reducible refine kd_fieldAddr ?_); refine dl_pure (by assumption) (pv_fieldAddr rfl) by_wants rfl rfl ?_) | ((with_reducible refine kd_store ?_); (refine dl_op (by assumption) by_wants (op_store_box (by rfl) (by rfl) (V.okc_or (by rfl)) by_upd (by rfl) (by first | exact Nat.le_of_ble_eq_true rfl | assumption) ?_); intro jd hjd)) | ((with_reducible refine kd_indexAddr ?_); refine dl_pure (by assumption) (pv_indexAddr_arr (by rfl) rfl by_bound) by_wants rfl rfl ?_) | ((with_reducible refine kd_nilCheck ?_); refine dl_pure (by assumption) (pv_nilCheck rfl) by_wants rfl rfl ?_) | ((with_reducible refine kd_load ?_); (first | refine dl_take (by assumption) (hv_load_box (by assumption) (by rfl) by_mem0 (by rfl) by_bd) by_wants rfl rfl ?_ | (refine dl_op (by assumption) by_wants (op_val (vv_load_box (by rfl) by_memj (by rfl) by_bd) rfl rfl ?_); intro jd hjd))) | (refine aw_draw (id := 21) [(false, 0), (false, 1), (false, 2), (false, 3), (false, 4), (false, 5), (false, 7), (false, 8), (true, 6), (false, 9), (true, 10)] _ (by kernel_rfl) (by decide +kernel) (by decide) by_lit (.cons (.there (.there .here)) .nil) by_nos fun jd hjd => ?_) | ((with_reducible refine k_callv ?_); refine rl_op rfl (op_callF rfl rfl (isJump_fun _) rfl ?_)) | (((with_reducible refine k_cond ?_); refine aw_cond rfl ?_ ?_) <;> intro hb <;> (have hc := hb) <;> (try simp only [decide_eq_true_eq, decide_eq_false_iff_not, Int.not_lt, Int.not_le, ne_eq, Bool.not_eq_true, Bool.not_eq_false, Decidable.not_not] at hc) <;> (try (exfalso; omega)) <;> (try (first | contradiction | (cases hc; done)))))
    rw [hsc]
    repeat' (first | (with_reducible first | refine aw_seq ?_ | refine rl_nil ?_ | refine aw_region ?_ | refine then_n ?_ | refine aw_block ?_ | refine then_exit ?_ | refine then_ret ?_ | refine in_n ?_ | refine in_ret ?_ | refine aw_exit ?_ | refine aw_ret ?_ | refine aw_skip ?_ | refine in_exit_eq rfl ?_) | ((with_reducible refine k_move ?_); refine rl_pure (pv_move rfl) rfl rfl rfl ?_) | ((with_reducible refine k_assign ?_); refine rl_pure (pv_assign rfl) rfl rfl rfl ?_) | ((with_reducible refine k_load ?_); refine rl_val (vv_load_box (by rfl) by_memb (by rfl) by_bd) rfl rfl rfl ?_) | ((with_reducible refine k_add ?_); refine rl_pure (pv_add_in rfl rfl (by omega)) rfl rfl rfl ?_) | ((with_reducible refine k_cond ?_); refine aw_cond_no rfl (by assumption) ?_))
    exact next_of (fuel, at_ + 1, n + 1, { m with c := fun j => if j = i.k.toNat then m.a else m.c j }) ⟨by show at_ + 1 < L.length; omega, by show 1 ≤ n + 1 ∧ n + 1 ≤ ((at_ + 1 : Nat) : Int) + 1; omega, hok, hdead, by show L.length - (at_ + 1) ≤ fuel; omega, hrun⟩ (by show L.length - (at_ + 1) < L.length - at_; omega) (by (repeat (first | exact sub_nil | refine sub_cons (by first | rfl | (simp; done)) ?_))) (.cons (.there (.there .here)) (.cons .here .nil))
  · rw [if_neg (by omega), if_neg (by omega), if_neg (by omega)] at hrun
    obtain ⟨f, hE, hf, hcl⟩ := table i.op ho
    have hex : exec real data i m = { m with a := iand .i64 (res real data i.op i.k m).1 4294967295, dead := (res real data i.op i.k m).2 } := by rw [exec, if_neg (by omega), if_neg (by omega), if_neg (by omega), if_neg (by omega), iand32]
    have hok := exec_ok (real := real) hd (i := i) hm
    rw [hex] at hrun hok
    have hl1 := hlst (by omega)
    repeat' (first | (with_reducible first | refine aw_seq ?_ | refine rl_nil ?_ | refine aw_region ?_ | refine then_n ?_ | refine aw_block ?_ | refine then_exit ?_ | refine then_ret ?_ | refine in_n ?_ | refine in_ret ?_ | refine aw_exit ?_ | refine aw_ret ?_ | refine aw_skip ?_ | refine in_exit_eq rfl ?_) | ((with_reducible refine k_move ?_); refine rl_pure (pv_move rfl) rfl rfl rfl ?_) | ((with_reducible refine k_assign ?_); refine rl_pure (pv_assign rfl) rfl rfl rfl ?_) | ((with_reducible refine k_load ?_); (first | refine rl_val (vv_load_ro_whole (by rfl) (by rfl) (by first | rfl | exact ins_len _)) rfl rfl rfl ?_ | refine rl_val (vv_load_box (by rfl) by_memb (by rfl) by_bd) rfl rfl rfl ?_)) | ((with_reducible refine k_fieldAddr ?_); refine rl_pure (pv_fieldAddr rfl) rfl rfl rfl ?_) | ((with_reducible refine k_store ?_); refine rl_op rfl (op_store_box_whole (by rfl) (by rfl) (V.okc_or (by rfl)) by_upd (by first | rfl | exact ins_len _) (by first | rfl | exact ins_len _) ?_)) | ((with_reducible refine k_alloc ?_); refine rl_op rfl (op_alloc (by decide) rfl fun b => ?_)) | ((with_reducible refine k_eql ?_); refine rl_pure (pv_eql rfl rfl) rfl rfl rfl ?_) | ((with_reducible refine k_indexAddr ?_); refine rl_pure (pv_indexAddr_ro (by rfl) rfl (by omega) (by first | rfl | assumption) (by first | rfl | exact ins_len _)) rfl rfl rfl ?_) | ((with_reducible refine kd_move ?_); refine dl_pure (by assumption) (pv_move rfl) by_wants rfl rfl ?_) | ((with_reducible refine kd_fieldAddr ?_); refine dl_pure (by assumption) (pv_fieldAddr rfl) by_wants rfl rfl ?_) | ((with_reducible refine kd_indexAddr ?_); refine dl_pure (by assumption) (pv_indexAddr_arr (by rfl) rfl by_bound) by_wants rfl rfl ?_) | ((with_reducible refine kd_load ?_); refine dl_take (by assumption) (hv_load_box (by assumption) (by rfl) by_mem0 (by rfl) by_bd) by_wants rfl rfl ?_) | (refine aw_draw (id := 5) [(false, 0), (false, 1), (false, 2), (false, 3), (false, 4), (false, 5), (false, 6), (false, 7), (true, 8), (false, 9), (false, 10), (false, 11), (true, 12)] _ (by kernel_rfl) (by decide +kernel) (by decide) by_lit (.cons (.there (.there .here)) .nil) by_nos fun jd hjd => ?_) | ((with_reducible refine k_callv ?_); refine rl_op rfl (op_callF rfl rfl (isJump_fun _) rfl ?_)) | (((with_reducible refine k_cond ?_); refine aw_cond rfl ?_ ?_) <;> intro hb <;> (have hc := hb) <;> (try simp only [decide_eq_true_eq, decide_eq_false_iff_not, Int.not_lt, Int.not_le, ne_eq, Bool.not_eq_true, Bool.not_eq_false, Decidable.not_not] at hc) <;> (try (exfalso; omega)) <;> (try (first | contradiction | (cases hc; done)))))
    (first | refine rl_op rfl (op_callR rfl rfl (.cons .here .nil) (hcl p real data m i.k hd hdl hm ⟨by omega, by omega⟩ (by omega)) rfl ?_) | refine dl_op (by assumption) by_wants (op_callR rfl rfl (.cons .here .nil) (hcl p real data m i.k hd hdl hm ⟨by omega, by omega⟩ (by omega)) rfl ?_))
    rintro _ _ ⟨rfl, rfl⟩
    intro jd hjd
    repeat' (first | (with_reducible first | refine aw_seq ?_ | refine rl_nil ?_ | refine aw_region ?_ | refine then_n ?_ | refine aw_block ?_ | refine then_exit ?_ | refine then_ret ?_ | refine in_n ?_ | refine in_ret ?_ | refine aw_exit ?_ | refine aw_ret ?_ | refine aw_skip ?_ | refine in_exit_eq rfl ?_) | ((with_reducible refine k_move ?_); refine rl_pure (pv_move rfl) rfl rfl rfl ?_) | ((with_reducible refine k_assign ?_); refine rl_pure (pv_assign rfl) rfl rfl rfl ?_) | ((with_reducible refine k_load ?_); refine rl_val (vv_load_box (by rfl) by_memb (by rfl) by_bd) rfl rfl rfl ?_) | ((with_reducible refine k_fieldAddr ?_); refine rl_pure (pv_fieldAddr rfl) rfl rfl rfl ?_) | ((with_reducible refine k_add ?_); refine rl_pure (pv_add_in rfl rfl (by omega)) rfl rfl rfl ?_) | ((with_reducible refine k_nilCheck ?_); refine rl_pure (pv_nilCheck rfl) rfl rfl rfl ?_) | (with_reducible refine dl_nil by_app ?_) | ((with_reducible refine kd_fieldAddr ?_); refine dl_pure (by assumption) (pv_fieldAddr rfl) by_wants rfl rfl ?_) | ((with_reducible refine kd_store ?_); (refine dl_op (by assumption) by_wants (op_store_box (by rfl) (by rfl) (V.okc_or (by rfl)) by_upd (by rfl) (by first | exact Nat.le_of_ble_eq_true rfl | assumption) ?_); intro jd hjd)) | ((with_reducible refine kd_nilCheck ?_); refine dl_pure (by assumption) (pv_nilCheck rfl) by_wants rfl rfl ?_) | ((with_reducible refine kd_and ?_); refine dl_pure (by assumption) (pv_and rfl rfl) by_wants rfl rfl ?_) | (((with_reducible refine k_cond ?_); refine aw_cond rfl ?_ ?_) <;> intro hb <;> (have hc := hb) <;> (try simp only [decide_eq_true_eq, decide_eq_false_iff_not, Int.not_lt, Int.not_le, ne_eq, Bool.not_eq_true, Bool.not_eq_false, Decidable.not_not] at hc) <;> (try (exfalso; omega)) <;> (try (first | contradiction | (cases hc; done)))))
    · rw [if_pos hc] at hrun
      (first | refine ret_r (ret2 rfl by_res by_res (List.nil_sublist _) ⟨_, rfl, ?_⟩) | refine ret_n (ret2 rfl by_res by_res (List.nil_sublist _) ⟨_, rfl, ?_⟩))
      rw [hrun]
      exact ⟨rfl, rfl⟩
    · rw [if_neg (by simp [hc])] at hrun
      exact next_of (fuel, at_ + 1, n + 1, { m with a := iand .i64 (res real data i.op i.k m).1 4294967295, dead := (res real data i.op i.k m).2 }) ⟨by show at_ + 1 < L.length; omega, by show 1 ≤ n + 1 ∧ n + 1 ≤ ((at_ + 1 : Nat) : Int) + 1; omega, hok, hc, by show L.length - (at_ + 1) ≤ fuel; omega, hrun⟩ (by show L.length - (at_ + 1) < L.length - at_; omega) (by (repeat (first | exact sub_nil | refine sub_cons (by first | rfl | (simp; done)) ?_))) (.cons (.there (.there .here)) (.cons .here .nil))
end Go.Proofs.Ytobablbklkpchaa

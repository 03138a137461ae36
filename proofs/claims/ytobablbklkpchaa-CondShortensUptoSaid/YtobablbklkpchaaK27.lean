import Derived.Test.YtobablbklkpchaaK26
set_option linter.unusedVariables false
set_option linter.unusedSimpArgs false
namespace Go.Proofs.Ytobablbklkpchaa
open Go Go.AX
set_option maxHeartbeats 8000000
set_option maxRecDepth 20000
attribute [local irreducible] AW RL OP PureV ValV HV DL Tri TriR Fun RetOk ResV
def upd {α : Type} (f : Int → α) (k : Int) (v : α) : Int → α := fun q => if q = k then v else f q
theorem upd_self {α : Type} (f : Int → α) (k : Int) (v : α) : upd f k v k = v := by simp [upd]
theorem upd_ne {α : Type} (f : Int → α) {k q : Int} (v : α) (h : q ≠ k) : upd f k v q = f q := by simp [upd, h]
/-- A row of integers. -/
def irs (n : Nat) (F : Int → Int) : List (List V) := (List.range n).map fun (q : Nat) => [int (F (q : Int))]
theorem irs_len (n : Nat) (F : Int → Int) : (irs n F).length = n := by simp [irs]
theorem irs_get {n : Nat} (F : Int → Int) {q : Nat} (h : q < n) : (irs n F)[q]? = some [int (F q)] := by simp [irs, h]
theorem irs_at {n : Nat} (F : Int → Int) {q : Int} (h : 0 ≤ q ∧ q < n) : (irs n F)[q.toNat]? = some [int (F q)] := by
  rw [irs_get F (by omega), show ((q.toNat : Nat) : Int) = q by omega]
theorem brs_at {n : Nat} (F : Int → Bool) {q : Int} (h : 0 ≤ q ∧ q < n) : (brs n F)[q.toNat]? = some [bool (F q)] := by
  rw [brs_get F (by omega), show ((q.toNat : Nat) : Int) = q by omega]
theorem irs_set {n : Nat} (F : Int → Int) {q : Nat} (v : Int) : (irs n F).set q [int v] = irs n (upd F q v) := by
  apply List.ext_getElem?
  intro k
  rw [List.getElem?_set]
  split
  · rename_i e
    subst e
    rw [irs_len]
    split
    · rename_i h
      rw [irs_get _ h, upd_self]
    · rename_i h
      rw [List.getElem?_eq_none (by rw [irs_len]; omega)]
  · rename_i e
    by_cases h : k < n
    · rw [irs_get _ h, irs_get _ h, upd_ne _ _ (by omega)]
    · rw [List.getElem?_eq_none (by rw [irs_len]; omega), List.getElem?_eq_none (by rw [irs_len]; omega)]
theorem brs_upd {n : Nat} (F : Int → Bool) {q : Nat} (v : Bool) : (brs n F).set q [bool v] = brs n (upd F q v) := by
  apply List.ext_getElem?
  intro k
  rw [List.getElem?_set]
  split
  · rename_i e
    subst e
    rw [brs_len]
    split
    · rename_i h
      rw [brs_get _ h, upd_self]
    · rename_i h
      rw [List.getElem?_eq_none (by rw [brs_len]; omega)]
  · rename_i e
    by_cases h : k < n
    · rw [brs_get _ h, brs_get _ h, upd_ne _ _ (by omega)]
    · rw [List.getElem?_eq_none (by rw [brs_len]; omega), List.getElem?_eq_none (by rw [brs_len]; omega)]
theorem irs_self {n : Nat} {F : Int → Int} {q v : Int} (h : 0 ≤ q ∧ q < n) : (irs n (upd F q v))[q.toNat]? = some [int v] := by rw [irs_at _ h, upd_self]
theorem brs_self {n : Nat} {F : Int → Bool} {q : Int} {v : Bool} (h : 0 ≤ q ∧ q < n) : (brs n (upd F q v))[q.toNat]? = some [bool v] := by rw [brs_at _ h, upd_self]
theorem irs_rep (n : Nat) : List.replicate n [int 0] = irs n fun _ => 0 := by
  apply List.ext_getElem?
  intro k
  by_cases h : k < n
  · rw [irs_get _ h]; simp [h]
  · rw [List.getElem?_eq_none (by rw [List.length_replicate]; omega), List.getElem?_eq_none (by rw [irs_len]; omega)]
section
variable {N : Nat} {j : J Try.prog N} {Q : Exit → Sl → List Ch → Prop} {K : Sl → List Ch → Prop} {s : Sl} {H H' : List Ch} {ty : TypeId} {pos : String} {after : Array Edge} {x y : Operand} {sv : Value} {n : Nat} {q : Int}
theorem st_irs {F : Int → Int} {v : Int} (hx : s.ev x = some (.vp sv 1 q.toNat 0)) (hy : s.ev y = some (int v)) (hu : Upd (.vec sv 3 1 (irs n F)) (.vec sv 3 1 (irs n (upd F q v))) H H') (hq : 0 ≤ q ∧ q < (n : Int))
    (h : K s H') : OP j ⟨none, .store 3 x y, ty, pos, after, none⟩ K Q s H := by
  refine op_store_vp (E := 3) (rows := irs n F) (r := [int (F q)]) hx hy (V.okc_or rfl) ?_ (irs_at F hq) rfl (Nat.le_refl 1) h
  have e : (irs n F).set q.toNat (setAll [int (F q)] 0 (int v).cells) = irs n (upd F q v) := by
    show (irs n F).set q.toNat [int v] = _
    rw [irs_set, show ((q.toNat : Nat) : Int) = q by omega]
  rw [e]
  exact hu
theorem st_brv {F : Int → Bool} {v : Bool} (hx : s.ev x = some (.vp sv 1 q.toNat 0)) (hy : s.ev y = some (bool v)) (hu : Upd (.vec sv 4 1 (brs n F)) (.vec sv 4 1 (brs n (upd F q v))) H H') (hq : 0 ≤ q ∧ q < (n : Int))
    (h : K s H') : OP j ⟨none, .store 4 x y, ty, pos, after, none⟩ K Q s H := by
  refine op_store_vp (E := 4) (rows := brs n F) (r := [bool (F q)]) hx hy (V.okc_or rfl) ?_ (brs_at F hq) rfl (Nat.le_refl 1) h
  have e : (brs n F).set q.toNat (setAll [bool (F q)] 0 (bool v).cells) = brs n (upd F q v) := by
    show (brs n F).set q.toNat [bool v] = _
    rw [brs_upd, show ((q.toNat : Nat) : Int) = q by omega]
  rw [e]
  exact hu
end
/-- A jump that is a plain one. -/
abbrev plainN (n : Nd) : Prop := n.i.op = 31 ∨ (isJp n.i ∧ n.yes = n.no)
def keptN (n : Nd) (b c : Int) : Bool := n.rb && !(decide (plainN n) && decide (b = c))
/-- Which of the last nodes are kept, and how many from a place on. -/
def chF (l : List Nd) : Nat → (Int → Bool) × (Int → Int)
  | 0 => (fun _ => false, fun _ => 0)
  | d + 1 => match l[l.length - 1 - d]? with
    | some n => (upd (chF l d).1 (l.length - 1 - d : Nat) (keptN n ((chF l d).2 ((l.length - 1 - d : Nat) + 1)) ((chF l d).2 n.yes)),
        upd (chF l d).2 (l.length - 1 - d : Nat) ((chF l d).2 ((l.length - 1 - d : Nat) + 1) + if keptN n ((chF l d).2 ((l.length - 1 - d : Nat) + 1)) ((chF l d).2 n.yes) then 1 else 0))
    | none => chF l d
theorem chF_step {l : List Nd} {a : Nat} {n : Nd} (hn : l[a]? = some n) : chF l (l.length - a) =
    (upd (chF l (l.length - (a + 1))).1 a (keptN n ((chF l (l.length - (a + 1))).2 ((a : Int) + 1)) ((chF l (l.length - (a + 1))).2 n.yes)),
     upd (chF l (l.length - (a + 1))).2 a ((chF l (l.length - (a + 1))).2 ((a : Int) + 1) + if keptN n ((chF l (l.length - (a + 1))).2 ((a : Int) + 1)) ((chF l (l.length - (a + 1))).2 n.yes) then 1 else 0)) := by
  have h := (List.getElem?_eq_some_iff.1 hn).1
  have e : l.length - a = (l.length - (a + 1)) + 1 := by omega
  have e2 : l.length - 1 - (l.length - (a + 1)) = a := by omega
  rw [e, chF, e2, hn]
theorem chF_le (l : List Nd) : ∀ d q, 0 ≤ (chF l d).2 q ∧ (chF l d).2 q ≤ d
  | 0, q => by simp [chF]
  | d + 1, q => by
    rw [chF]
    split
    · rename_i n hn
      dsimp only
      have h1 := chF_le l d q
      have h2 := chF_le l d ((l.length - 1 - d : Nat) + 1)
      unfold upd
      split
      · split <;> omega
      · omega
    · have := chF_le l d q; omega
theorem keptN_t {n : Nd} {b c : Int} (h1 : n.rb = true) (h2 : ¬ plainN n ∨ b ≠ c) : keptN n b c = true := by
  rw [keptN, h1]
  rcases h2 with h | h <;> simp [h]
theorem keptN_f1 {n : Nd} {b c : Int} (h1 : n.rb = false) : keptN n b c = false := by rw [keptN, h1]; rfl
theorem keptN_f2 {n : Nd} {b c : Int} (h1 : plainN n) (h2 : b = c) : keptN n b c = false := by
  rw [keptN, decide_eq_true h1, decide_eq_true h2]; simp
theorem upd_upd {α : Type} (f : Int → α) (k : Int) (u v : α) : upd (upd f k u) k v = upd f k v := by
  funext q; unfold upd; split <;> rfl
theorem chosen53 (sp : Value) (l : List Nd) (hN : NOK l) (hlen : 0 < l.length ∧ l.length ≤ 400) :
    FunB Try.prog 53 [.own sp] [.vec sp 84 7 (l.map Nd.cells)] (.ro (brs l.length (chF l l.length).1)) := by
  refine funB_of Try.func53 rfl Try.ntmps53 rfl fun j hC => ?_
  have hmem := hC _ (List.mem_cons_self ..)
  clear hC
  repeat' (first | (with_reducible first | refine aw_seq ?_ | refine rl_nil ?_ | refine aw_region ?_ | refine then_n ?_ | refine aw_block ?_ | refine then_exit ?_ | refine then_ret ?_ | refine in_n ?_ | refine in_ret ?_ | refine aw_exit ?_ | refine aw_ret ?_ | refine aw_skip ?_ | refine in_exit_eq rfl ?_) | ((with_reducible refine k_move ?_); refine rl_pure (pv_move rfl) rfl rfl rfl ?_) | ((with_reducible refine k_assign ?_); refine rl_pure (pv_assign rfl) rfl rfl rfl ?_) | ((with_reducible refine k_add ?_); refine rl_pure (pv_add_in rfl rfl (by omega)) rfl rfl rfl ?_) | ((with_reducible refine k_sub ?_); refine rl_pure (pv_sub_in rfl rfl (by omega)) rfl rfl rfl ?_) | ((with_reducible refine k_len ?_); refine rl_pure (pv_len_own' (by rfl) by_memb by_len) rfl rfl rfl ?_) | ((with_reducible refine k_makeSlice ?_); refine rl_op rfl (op_makeSlice rfl rfl rfl rfl by_bound by_bound rfl fun sv => ?_)))
  rename_i kv
  rw [show List.replicate l.length [V.raw (.bool false)] = brs l.length (chF l (l.length - l.length)).1 by rw [Nat.sub_self]; exact brs_rep _]
  rw [show List.replicate (l.length + 1) [V.raw (.int .i64 0)] = irs (l.length + 1) (chF l (l.length - l.length)).2 by rw [Nat.sub_self]; exact irs_rep _]
  refine aw_iter (α := Nat) (fun m => [(0, .own sp), (3, .own kv), (4, .own sv), (5, int ((m : Int) - 1))])
    (fun m => [.vec kv 4 1 (brs l.length (chF l (l.length - m)).1), .vec sv 3 1 (irs (l.length + 1) (chF l (l.length - m)).2)]) (fun m => m ≤ l.length) (fun m => m)
    l.length (Nat.le_refl _) (by (repeat (first | exact sub_nil | refine sub_cons (by first | rfl | (simp; done)) ?_))) (.cons (.there .here) (.cons .here .nil)) fun m hI => ?_
  rcases m with _ | a
  · rw [Nat.sub_zero]
    refine aw_freeze (d := 3) rfl by_take ?_
    repeat' (first | (with_reducible first | refine aw_seq ?_ | refine rl_nil ?_ | refine aw_region ?_ | refine then_n ?_ | refine aw_block ?_ | refine then_exit ?_ | refine then_ret ?_ | refine in_n ?_ | refine in_ret ?_ | refine aw_exit ?_ | refine aw_ret ?_ | refine aw_skip ?_ | refine in_exit_eq rfl ?_) | ((with_reducible refine k_move ?_); refine rl_pure (pv_move rfl) rfl rfl rfl ?_) | ((with_reducible refine k_assign ?_); refine rl_pure (pv_assign rfl) rfl rfl rfl ?_) | ((with_reducible refine k_geq ?_); refine rl_pure (pv_geq rfl rfl) rfl rfl rfl ?_) | ((with_reducible refine k_cond ?_); refine aw_cond_f rfl ?_))
    (first | refine ret_r (ret1 rfl by_res (List.nil_sublist _) ⟨_, rfl, ?_⟩) | refine ret_n (ret1 rfl by_res (List.nil_sublist _) ⟨_, rfl, ?_⟩))
    exact ⟨rfl, rfl⟩
  · rw [show ((a + 1 : Nat) : Int) - 1 = a by omega]
    obtain ⟨n, hn⟩ : ∃ n, l[a]? = some n := ⟨_, List.getElem?_eq_getElem (by omega)⟩
    have hS := chF_step hn
    have hF := chF_le l (l.length - (a + 1))
    generalize chF l (l.length - (a + 1)) = KF at hS hF
    obtain ⟨K, F⟩ := KF
    dsimp only at hS hF ⊢
    have hr : (l.map Nd.cells)[a]? = some n.cells := by simp [hn]
    have hfw := hN.fw a n hn
    have hF1 := hF ((a : Int) + 1)
    have cls : n.i.op = 32 ∨ n.i.op ≠ 32 := by omega
    rcases cls with c0 | c0
    all_goals (try have := hfw c0)
    all_goals repeat' (first | (with_reducible first | refine aw_seq ?_ | refine rl_nil ?_ | refine aw_region ?_ | refine then_n ?_ | refine aw_block ?_ | refine then_exit ?_ | refine then_ret ?_ | refine in_n ?_ | refine in_ret ?_ | refine aw_exit ?_ | refine aw_ret ?_ | refine aw_skip ?_ | refine in_exit_eq rfl ?_) | ((with_reducible refine k_move ?_); refine rl_pure (pv_move rfl) rfl rfl rfl ?_) | ((with_reducible refine k_assign ?_); refine rl_pure (pv_assign rfl) rfl rfl rfl ?_) | ((with_reducible refine k_load ?_); (first | refine rl_val (vv_load_vp (by rfl) by_memb (by first | rfl | assumption | exact brs_self (by omega) | exact irs_self (by omega) | exact irs_at _ (by omega) | exact brs_at _ (by omega)) (by rfl) by_bd) rfl rfl rfl ?_ | refine rl_val (vv_load_vp_whole (by rfl) by_memb (by first | rfl | assumption | exact brs_self (by omega) | exact irs_self (by omega) | exact irs_at _ (by omega) | exact brs_at _ (by omega)) (by rfl) (by first | rfl | exact ins_len _ | exact prow_len _ | exact nd_len _)) rfl rfl rfl ?_ | refine rl_val (vv_load_box (by rfl) by_memb (by rfl) by_bd) rfl rfl rfl ?_)) | ((with_reducible refine k_fieldAddr ?_); refine rl_pure (pv_fieldAddr rfl) rfl rfl rfl ?_) | ((with_reducible refine k_store ?_); refine rl_op rfl (op_store_box_whole (by rfl) (by rfl) (V.okc_or (by rfl)) by_upd (by first | rfl | exact ins_len _ | exact prow_len _ | exact nd_len _) (by first | rfl | exact ins_len _ | exact prow_len _ | exact nd_len _) ?_)) | ((with_reducible refine k_alloc ?_); refine rl_op rfl (op_alloc (by decide) rfl fun b => ?_)) | ((with_reducible refine k_eql ?_); refine rl_pure (pv_eql rfl rfl) rfl rfl rfl ?_) | ((with_reducible refine k_geq ?_); refine rl_pure (pv_geq rfl rfl) rfl rfl rfl ?_) | ((with_reducible refine k_add ?_); refine rl_pure (pv_add_in rfl rfl (by omega)) rfl rfl rfl ?_) | ((with_reducible refine k_sub ?_); refine rl_pure (pv_sub_in rfl rfl (by omega)) rfl rfl rfl ?_) | ((with_reducible refine k_indexAddr ?_); refine rl_pure (pv_indexAddr_own (by rfl) by_memb rfl (by first | omega | (simp only [List.length_cons, List.length_nil, List.length_append, List.length_map, List.length_replicate, List.length_set, brs_len, irs_len]; omega))) rfl rfl rfl ?_) | ((with_reducible refine k_pick ?_); (first | refine rl_pure (pv_pick_t rfl by_bd rfl) rfl rfl rfl ?_ | refine rl_pure (pv_pick_f rfl by_bd rfl) rfl rfl rfl ?_)) | ((with_reducible refine k_guard ?_); (first | refine rl_on_yes rfl rfl rfl by_bd rfl ?_ | refine rl_off_t rfl rfl rfl by_bd rfl ?_ | refine rl_off_f rfl rfl rfl by_bd rfl ?_ | refine rl_off_u rfl rfl rfl rfl ?_)) | ((with_reducible refine k_cond ?_); (first | refine aw_cond_t rfl ?_ | refine aw_cond_f rfl ?_)) | (with_reducible refine dl_nil by_app ?_) | ((with_reducible refine kd_guard ?_); (first | refine dl_off rfl rfl rfl rfl by_bd rfl rfl ?_ | refine dl_off_u rfl rfl rfl rfl rfl rfl ?_)) | ((with_reducible refine kd_move ?_); refine dl_pure (by assumption) (pv_move rfl) by_wants rfl rfl ?_) | ((with_reducible refine kd_fieldAddr ?_); refine dl_pure (by assumption) (pv_fieldAddr rfl) by_wants rfl rfl ?_) | ((with_reducible refine kd_eql ?_); refine dl_pure (by assumption) (pv_eql rfl rfl) by_wants rfl rfl ?_) | ((with_reducible refine kd_add ?_); refine dl_pure (by assumption) (pv_add_in rfl rfl (by omega)) by_wants rfl rfl ?_) | ((with_reducible refine kd_not ?_); refine dl_pure (by assumption) (pv_not rfl) by_wants rfl rfl ?_) | ((with_reducible refine kd_indexAddr ?_); refine dl_pure (by assumption) (pv_indexAddr_own (by rfl) by_memj rfl (by first | omega | (simp only [List.length_cons, List.length_nil, List.length_append, List.length_map, List.length_replicate, List.length_set, brs_len, irs_len]; omega))) by_wants rfl rfl ?_) | ((with_reducible refine kd_pick ?_); (first | refine dl_pure (by assumption) (pv_pick_t rfl by_bd rfl) by_wants rfl rfl ?_ | refine dl_pure (by assumption) (pv_pick_f rfl by_bd rfl) by_wants rfl rfl ?_)) | ((with_reducible refine kd_load ?_); (first | refine dl_take (by assumption) (hv_load_box (by assumption) (by rfl) by_mem0 (by rfl) by_bd) by_wants rfl rfl ?_ | refine dl_take (by assumption) (hv_load_vp (by assumption) (by rfl) by_mem0 (by first | rfl | assumption | exact brs_self (by omega) | exact irs_self (by omega) | exact irs_at _ (by omega) | exact brs_at _ (by omega)) (by rfl) by_bd) by_wants rfl rfl ?_)) | (refine aw_draw (id := 8) [(false, 0), (false, 1), (false, 2), (false, 3), (false, 4), (false, 5), (false, 6), (false, 7), (false, 8), (false, 9), (false, 10), (false, 11), (false, 12), (false, 13), (false, 14), (false, 15), (false, 16), (false, 17), (false, 18), (false, 19), (false, 20), (false, 21), (true, 22)] _ (by kernel_rfl) (by decide +kernel) (by decide) by_lit (.cons (.there .here) .nil) by_nos fun jd hjd => ?_) | ((with_reducible refine k_callv ?_); refine rl_op rfl (op_callF rfl rfl (isJump_fun _) rfl ?_)) | ((with_reducible refine k_store ?_); refine rl_op rfl (st_irs (by rfl) (by rfl) by_upd by_bound ?_)) | ((with_reducible refine kd_store ?_); (refine dl_op (by assumption) by_wants (st_brv (by rfl) (by rfl) by_upd by_bound ?_); intro jd hjd)) | (((with_reducible refine k_guard ?_); first | refine rl_if_t rfl rfl rfl rfl ?_ ?_ | refine rl_if_f rfl rfl rfl rfl ?_ ?_) <;> intro hb <;> (have hc := hb) <;> (try simp only [decide_eq_true_eq, decide_eq_false_iff_not, Int.not_lt, Int.not_le, ne_eq, Bool.not_eq_true, Bool.not_eq_false, Decidable.not_not] at hc) <;> (try (exfalso; omega)) <;> (try (first | contradiction | (cases hc; done)))) | (((with_reducible refine k_cond ?_); refine aw_cond rfl ?_ ?_) <;> intro hb <;> (have hc := hb) <;> (try simp only [decide_eq_true_eq, decide_eq_false_iff_not, Int.not_lt, Int.not_le, ne_eq, Bool.not_eq_true, Bool.not_eq_false, Decidable.not_not] at hc) <;> (try (exfalso; omega)) <;> (try (first | contradiction | (cases hc; done)))) | (((with_reducible refine kd_guard ?_); refine dl_if rfl rfl rfl ?_ ?_) <;> intro hb <;> (have hc := hb) <;> (try simp only [decide_eq_true_eq, decide_eq_false_iff_not, Int.not_lt, Int.not_le, ne_eq, Bool.not_eq_true, Bool.not_eq_false, Decidable.not_not] at hc) <;> (try (exfalso; omega)) <;> (try (first | contradiction | (cases hc; done)))))
    all_goals first
    | (have ek : keptN n (F ((a : Int) + 1)) (F n.yes) = true := keptN_t (by assumption) (by first | (left; simp only [plainN, isJp]; omega) | (right; simpa using hb))
       rw [ek, if_pos rfl] at hS
       refine next_of (R := [.box b 84 (V.agg n.cells).cells]) a (by omega) (by omega) (by (repeat (first | exact sub_nil | refine sub_cons (by first | rfl | (simp; done)) ?_))) ?_
       try dsimp only
       rw [hS]
       try rw [hb]
       try rw [upd_upd]
       exact (.cons .here (.cons (.there .here) .nil)))
    | (have ek : keptN n (F ((a : Int) + 1)) (F n.yes) = false := by
         first
         | exact keptN_f1 (by assumption)
         | exact keptN_f2 (by simp only [plainN, isJp]; omega) (by simpa using hb)
       rw [ek, if_neg (by simp), Int.add_zero] at hS
       refine next_of (R := [.box b 84 (V.agg n.cells).cells]) a (by omega) (by omega) (by (repeat (first | exact sub_nil | refine sub_cons (by first | rfl | (simp; done)) ?_))) ?_
       try dsimp only
       rw [hS]
       try rw [hb]
       exact (.cons .here (.cons (.there .here) .nil)))
end Go.Proofs.Ytobablbklkpchaa

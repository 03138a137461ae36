import Derived.Test.YtbhbjlhobdoomaaDoorK30
import Derived.Lib.MakeNoZero
import Derived.Laws.IdiomCopy
set_option linter.unusedVariables false
set_option linter.unusedSimpArgs false
namespace Go.AX
open Go.ChangeShapes Go.WideShapes Go.ChangeAt Go.RowKit
section
variable {P : Program} {N : Nat} {j : J P N} {Q : Exit → Sl → List Ch → Prop} {K : Sl → List Ch → Prop} {s so : Sl} {H R : List Ch}
variable {d : Nat} {dst : Option Tmp} {ty : TypeId} {pos : String} {after : Array Edge} {g : Option (Nat × Bool)} {T T' : TypeId} {x y : Operand} {sz bs : Nat} {z : Value}
/-- A call of internal/bytealg.MakeNoZero: room for new bytes. -/
theorem op_makeNoZero {f : FuncId} {fn : Func} {ts : Array TypeId} {ti T e : TypeId} {n : Nat} {zs : Value} {szT bsT : Nat} [t : Ty P T (.slice e) szT bsT zs]
    {m : Int} (hx : s.ev x = some (.raw (.int .i64 m))) (hmn : m = n) (hf : P.funcs[f]? = some fn) (hn : (fn.name == "runtime.NumGoroutine") = false) (hb : fn.body.isNone = true) (h1 : Extern.findNext fn = none)
    (h2 : Extern.find fn = some (Extern.BytealgMakeNoZero.makeNoZero #[ti] #[T])) (hm : n ≤ 10000000) (hN : Nat.blt d N = true)
    (h : ∀ A cap : Nat, n ≤ cap → K ((d, .raw (.slice (some ⟨A, 0, none⟩) n cap)) :: s) (.vec (.slice (some ⟨A, 0, none⟩) 0 cap) e 1 [] :: H)) :
    OP j ⟨some d, .call { callee := .value (.func f), args := #[x], argTypes := ts }, ty, pos, after, none⟩ K Q s H :=
  op_eff rfl hN fun a w st => by
    subst hmn
    have h3 := st.sl.ev hx
    simp only [conc] at h3
    obtain ⟨cs, hr, hle, hmax⟩ := Lib.run_makeNoZero (P := P) w #[ti] T e t.u n (by omega)
    have hc := run_callFunc_extern hf hn hb h1 h2 #[.int .i64 n] w
    rw [hr] at hc
    have ee : a.eval (.func f) = .func (.func f) #[] #[] := rfl
    have hg : w.grownBy (w.drew.drew.alloc (.cells cs e)) none := ⟨rfl, rfl, rfl, by simp [World.alloc], fun k hk _ => heap_alloc_old w.drew.drew _ hk⟩
    have ho : (w.drew.drew.alloc (.cells cs e)).ownsRow w.heap.size e 1 (.slice (some ⟨w.heap.size, 0, none⟩) 0 cs.size) 0 [] :=
      ⟨rfl, .inr ⟨w.heap.size, cs.size, cs, rfl, Nat.le_refl _, heap_alloc_new w.drew.drew _, Nat.zero_le _, hmax (by simp [maxLen]; omega), by omega, by simp⟩⟩
    refine ⟨.slice (some ⟨w.heap.size, 0, none⟩) n cs.size, w.drew.drew.alloc (.cells cs e), .raw (.slice (some ⟨w.heap.size, 0, none⟩) n cs.size), .vec (.slice (some ⟨w.heap.size, 0, none⟩) 0 cs.size) e 1 [] :: H, ?_, st_grown st hg (rows := []) ho (fun ow => rfl) (fun y hy => by cases hy) (fun r hr => by cases hr), ?_, h w.heap.size cs.size hle⟩
    · simp [execOp, resolve, ee, Deferred.ofValue, invoke, h3, hc]
    · simp only [conc]
/-- None of a slice's elements. -/
theorem pv_slice_none {dst : Option Nat} {g : Option (Nat × Bool)} {T e : TypeId} {DE : TypeDesc} {zT z : Value} {szT bsT sz bs A n cap : Nat} {hi : Option Operand} [t : Ty P T (.slice e) szT bsT zT] [te : Ty P e DE sz bs z]
    (hx : s.ev x = some (.raw (.slice (some ⟨A, 0, none⟩) n cap))) (hh : s.hi n hi = some 0) (hc : n ≤ cap) :
    PureV j s H ⟨dst, .slice T x none hi none, ty, pos, after, g⟩ (.raw (.slice (some ⟨A, 0, none⟩) 0 cap)) := fun a w st => by
  have h1 := st.sl.ev hx
  simp only [conc] at h1
  have hhi := hi_form st hh
  refine ⟨.slice (some ⟨A, 0, none⟩) 0 cap, fun w' => ?_, rfl⟩
  have hbd := run_bounds (P := P) (w := w') (isS := true) (lo := none) (.inl ⟨rfl, rfl⟩) hhi (Int.le_refl 0) (Int.le_refl 0) (by omega) hc
  simp [execOp, h1, Instr.sliceAt, run_underlying t.u, Instr.slice, hbd, te.sizeOf, Addr.add_lit]
theorem pv_cap_raw {e n c : Nat} {sz bs : Nat} {A : Option Addr} {z : Value} [t : Ty P T (.slice e) sz bs z] (hx : s.ev x = some (.raw (.slice A n c))) : PureV j s H ⟨dst, .call { callee := .builtin .cap, args := #[x], argTypes := #[T] }, ty, pos, after, g⟩ (.raw (.int .i64 c)) := fun a w st => by
  have h1 := st.sl.ev hx
  simp only [conc] at h1
  exact ⟨.int .i64 c, fun w' => by simp [execOp, h1, resolve, invoke, builtin, Builtin.cap_, run_underlying t.u, goInt], rfl⟩
/-- A copy of no element. -/
theorem pv_copy_none {dst : Option Nat} {g : Option (Nat × Bool)} {T1 T2 e : TypeId} {DE : TypeDesc} {zT z : Value} {szT bsT bs c1 l2 c2 : Nat} {a1 a2 : Option Addr} [t : Ty P T1 (.slice e) szT bsT zT] [te : Ty P e DE 1 bs z]
    (hx : s.ev x = some (.raw (.slice a1 0 c1))) (hy : s.ev y = some (.raw (.slice a2 l2 c2))) :
    PureV j s H ⟨dst, .call { callee := .builtin .copy, args := #[x, y], argTypes := #[T1, T2] }, ty, pos, after, g⟩ (.raw (.int .i64 0)) := fun a w st => by
  have h1 := st.sl.ev hx
  have h2 := st.sl.ev hy
  simp only [conc] at h1 h2
  obtain ⟨i, hi1, hi2, _⟩ := te.i
  refine ⟨goInt 0, fun w' => ?_, rfl⟩
  have := run_copy_none (P := P) w' T1 T2 ty e a1 a2 0 c1 l2 c2 t.u (by rw [hi1]; exact congrArg some hi2) (by simp)
  simp [execOp, resolve, invoke, builtin, h1, h2, this]
/-- A slice of one's own in a variable's field. -/
theorem st_box2_own {sv : Value} {u : V} {b B : Nat} {H2 : List Ch} (hs : ∃ a n c, sv = .slice a n c) {a : Act} {w : World} (hu : Upd (.box b B [u, .raw sv]) (.box b B [u, .own sv]) H H2) (st : St j s H a w) : St j s H2 a w := by
  obtain ⟨t, h1, h2⟩ := hu.split
  have st1 := st.perm h1
  have st2 : St j s (Ch.box b B [u, .own sv] :: t) a w := by
    have ho : own (Ch.box b B [u, .own sv] :: t ++ j.F) = own (Ch.box b B [u, .raw sv] :: t ++ j.F) := rfl
    refine ⟨by rw [ho]; exact st1.sl, ⟨st1.hp.nd, fun c hcm => ?_⟩, st1.evo, st1.df⟩
    rw [ho]
    rcases List.mem_cons.1 hcm with rfl | hcm
    · obtain ⟨l, k1, k2, k3⟩ := st1.hp.sat _ (List.mem_cons_self ..)
      refine ⟨l, k1, ?_, k3⟩
      simp only [concL] at k2 ⊢
      obtain ⟨x, xs, rfl, q1, y, ys, rfl, q2, rfl⟩ := k2
      refine ⟨x, _, rfl, q1, y, _, rfl, ?_, rfl⟩
      obtain ⟨aa, n, c, rfl⟩ := hs
      simp only [conc] at q2 ⊢
      subst q2
      first | exact ⟨rfl, rfl⟩ | exact ⟨rfl, trivial⟩ | trace_state
    · exact st1.hp.sat _ (List.mem_cons_of_mem _ hcm)
  exact st2.perm h2.symm
theorem retOk_weak {fn : Func} {H2 : List Ch} {K : V → List Ch → Prop} (h : ∀ a w, St j s H a w → St j s H2 a w) (k : RetOk j fn s H2 K) : RetOk j fn s H K := fun a w st => k a w (h a w st)
end
end Go.AX
namespace Go.Proofs.YtbhbjlhobdoomaaDoor
open Go Go.AX
set_option maxHeartbeats 4000000
set_option maxRecDepth 20000
attribute [local irreducible] AW RL RLI OP PureV ValV HV DL Tri TriR Fun RetOk ResV
theorem grow74 (b n : Nat) (hn : n ≤ 10000000) : TriR Tryd.prog 74 [ptr b, int n] [.box b 70 [ptr b, .raw (.slice none 0 0)]] fun u H' => ∃ sv', u = .tup [] ∧ H' = [.box b 70 [ptr b, .own sv'], .vec sv' 5 1 []] := by
  refine TriR.of (tri_of Tryd.func74 rfl Tryd.ntmps74 rfl fun j => ?_)
  repeat' (first | (with_reducible first | refine aw_seq ?_ | refine rl_nil ?_ | refine aw_region ?_ | refine then_n ?_ | refine aw_block ?_ | refine then_exit ?_ | refine then_ret ?_ | refine in_n ?_ | refine in_ret ?_ | refine aw_exit ?_ | refine aw_ret ?_ | refine aw_skip ?_ | refine in_exit_eq rfl ?_ | refine awr_succ ?_) | ((with_reducible refine kd_move ?_); refine dl_pure (by assumption) (pv_move rfl) by_wants rfl rfl ?_) | ((with_reducible refine kd_fieldAddr ?_); refine dl_pure (by assumption) (pv_fieldAddr rfl) by_wants rfl rfl ?_) | ((with_reducible refine kd_nilCheck ?_); refine dl_pure (by assumption) (pv_nilCheck rfl) by_wants rfl rfl ?_) | ((with_reducible refine kd_load ?_); refine dl_take (by assumption) (hv_load_box (by assumption) (by rfl) by_mem0 (by rfl) by_bd) by_wants rfl rfl ?_) | (refine aw_draw (id := 0) [(false, 0), (false, 1), (false, 2), (false, 3), (false, 4), (false, 5), (false, 6), (false, 7), (false, 9), (false, 10), (false, 11), (false, 12), (false, 13), (true, 8), (false, 14), (false, 15)] [] (by kernel_rfl) (by decide +kernel) (by decide) by_lit .nil by_nos fun jd hjd => ?_))
  refine dl_pure (by assumption) (pv_cap_raw rfl) by_wants rfl rfl ?_
  repeat' (first | ((with_reducible refine kd_move ?_); refine dl_pure (by assumption) (pv_move rfl) by_wants rfl rfl ?_) | ((with_reducible refine kd_fieldAddr ?_); refine dl_pure (by assumption) (pv_fieldAddr rfl) by_wants rfl rfl ?_) | ((with_reducible refine kd_add ?_); refine dl_pure (by assumption) (pv_add_in rfl rfl (by omega)) by_wants rfl rfl ?_) | ((with_reducible refine kd_mul ?_); refine dl_pure (by assumption) (pv_mul_in rfl rfl (by omega)) by_wants rfl rfl ?_) | ((with_reducible refine kd_len ?_); refine dl_pure (by assumption) (pv_len_nil rfl) by_wants rfl rfl ?_) | ((with_reducible refine kd_nilCheck ?_); refine dl_pure (by assumption) (pv_nilCheck rfl) by_wants rfl rfl ?_) | ((with_reducible refine kd_load ?_); refine dl_take (by assumption) (hv_load_box (by assumption) (by rfl) by_mem0 (by rfl) by_bd) by_wants rfl rfl ?_))
  refine dl_op (by assumption) by_wants (op_makeNoZero (ti := 3) (T := 68) (e := 5) (n := n) rfl (by omega) Tryd.func88 (by kernel_rfl) (by kernel_rfl) (by kernel_rfl) (by kernel_rfl) hn rfl fun A cap hcap => ?_)
  intro jd hjd
  repeat' (fail)
  refine dl_pure (by assumption) (pv_slice_none rfl rfl hcap) by_wants rfl rfl ?_
  repeat' (first | (with_reducible first | refine aw_seq ?_ | refine rl_nil ?_ | refine aw_region ?_ | refine then_n ?_ | refine aw_block ?_ | refine then_exit ?_ | refine then_ret ?_ | refine in_n ?_ | refine in_ret ?_ | refine aw_exit ?_ | refine aw_ret ?_ | refine aw_skip ?_ | refine in_exit_eq rfl ?_ | refine awr_succ ?_) | ((with_reducible refine k_move ?_); refine rl_pure (pv_move rfl) rfl rfl rfl ?_) | ((with_reducible refine k_load ?_); refine rl_val (vv_load_box (by rfl) by_memb (by rfl) by_bd) rfl rfl rfl ?_) | ((with_reducible refine k_fieldAddr ?_); refine rl_pure (pv_fieldAddr rfl) rfl rfl rfl ?_) | ((with_reducible refine k_nilCheck ?_); refine rl_pure (pv_nilCheck rfl) rfl rfl rfl ?_) | (with_reducible refine dl_nil by_app ?_) | ((with_reducible refine kd_assign ?_); refine dl_pure (by assumption) (pv_assign rfl) by_wants rfl rfl ?_))
  refine rl_pure (pv_copy_none rfl rfl) rfl rfl rfl ?_
  repeat' (first | (with_reducible first | refine aw_seq ?_ | refine rl_nil ?_ | refine aw_region ?_ | refine then_n ?_ | refine aw_block ?_ | refine then_exit ?_ | refine then_ret ?_ | refine in_n ?_ | refine in_ret ?_ | refine aw_exit ?_ | refine aw_ret ?_ | refine aw_skip ?_ | refine in_exit_eq rfl ?_ | refine awr_succ ?_) | ((with_reducible refine k_move ?_); refine rl_pure (pv_move rfl) rfl rfl rfl ?_) | ((with_reducible refine k_fieldAddr ?_); refine rl_pure (pv_fieldAddr rfl) rfl rfl rfl ?_) | ((with_reducible refine k_store ?_); refine rl_op rfl (op_store_box (by rfl) (by rfl) (V.okc_or (by rfl)) by_upd (by rfl) (by first | exact Nat.le_of_ble_eq_true rfl | assumption) ?_)) | ((with_reducible refine k_nilCheck ?_); refine rl_pure (pv_nilCheck rfl) rfl rfl rfl ?_))
  refine ret_n (retOk_weak (H2 := [.box b 70 [ptr b, .own (.slice (some ⟨A, 0, none⟩) 0 cap)], .vec (.slice (some ⟨A, 0, none⟩) 0 cap) 5 1 []]) (fun a w st => ?_) (ret0 rfl (List.Sublist.refl _) ⟨_, rfl, _, rfl, rfl⟩))
  exact st_box2_own ⟨_, _, _, rfl⟩ .here (st.perm (List.Perm.swap ..))
theorem grow54 (b n : Nat) (hn0 : 0 < n) (hn : n ≤ 10000000) : TriR Tryd.prog 54 [ptr b, int n] [.box b 70 [.raw (.pointer none), .raw (.slice none 0 0)]] fun u H' => ∃ sv', u = .tup [] ∧ H' = [.box b 70 [ptr b, .own sv'], .vec sv' 5 1 []] := by
  refine TriR.of (tri_of Tryd.func54 rfl Tryd.ntmps54 rfl fun j => ?_)
  repeat' (first | (with_reducible first | refine aw_seq ?_ | refine rl_nil ?_ | refine aw_region ?_ | refine then_n ?_ | refine aw_block ?_ | refine then_exit ?_ | refine then_ret ?_ | refine in_n ?_ | refine in_ret ?_ | refine aw_exit ?_ | refine aw_ret ?_ | refine aw_skip ?_ | refine in_exit_eq rfl ?_ | refine awr_succ ?_) | ((with_reducible refine k_move ?_); refine rl_pure (pv_move rfl) rfl rfl rfl ?_))
  (first | refine rl_op rfl (op_callR rfl rfl (.cons .here .nil) (copyCheck73 b (.raw (.slice none 0 0)) (.pointer none) (.inl rfl)) rfl ?_) | refine dl_op (by assumption) by_wants (op_callR rfl rfl (.cons .here .nil) (copyCheck73 b (.raw (.slice none 0 0)) (.pointer none) (.inl rfl)) rfl ?_))
  rintro _ _ ⟨rfl, rfl⟩
  repeat' (first | (with_reducible first | refine aw_seq ?_ | refine rl_nil ?_ | refine aw_region ?_ | refine then_n ?_ | refine aw_block ?_ | refine then_exit ?_ | refine then_ret ?_ | refine in_n ?_ | refine in_ret ?_ | refine aw_exit ?_ | refine aw_ret ?_ | refine aw_skip ?_ | refine in_exit_eq rfl ?_ | refine awr_succ ?_) | ((with_reducible refine k_move ?_); refine rl_pure (pv_move rfl) rfl rfl rfl ?_) | ((with_reducible refine k_lss ?_); refine rl_pure (pv_lss rfl rfl) rfl rfl rfl ?_) | ((with_reducible refine k_cond ?_); refine aw_cond_f rfl ?_) | ((with_reducible refine kd_move ?_); refine dl_pure (by assumption) (pv_move rfl) by_wants rfl rfl ?_) | ((with_reducible refine kd_fieldAddr ?_); refine dl_pure (by assumption) (pv_fieldAddr rfl) by_wants rfl rfl ?_) | ((with_reducible refine kd_nilCheck ?_); refine dl_pure (by assumption) (pv_nilCheck rfl) by_wants rfl rfl ?_) | ((with_reducible refine kd_load ?_); refine dl_take (by assumption) (hv_load_box (by assumption) (by rfl) by_mem0 (by rfl) by_bd) by_wants rfl rfl ?_) | (refine aw_draw (id := 3) [(false, 0), (false, 1), (false, 2), (false, 3), (false, 4), (false, 5), (false, 6), (false, 7), (false, 8), (false, 9), (false, 10), (false, 11), (false, 12)] [] (by kernel_rfl) (by decide +kernel) (by decide) by_lit .nil by_nos fun jd hjd => ?_))
  refine dl_pure (by assumption) (pv_cap_raw rfl) by_wants rfl rfl ?_
  repeat' (first | (with_reducible first | refine aw_seq ?_ | refine rl_nil ?_ | refine aw_region ?_ | refine then_n ?_ | refine aw_block ?_ | refine then_exit ?_ | refine then_ret ?_ | refine in_n ?_ | refine in_ret ?_ | refine aw_exit ?_ | refine aw_ret ?_ | refine aw_skip ?_ | refine in_exit_eq rfl ?_ | refine awr_succ ?_) | ((with_reducible refine k_move ?_); refine rl_pure (pv_move rfl) rfl rfl rfl ?_) | (with_reducible refine dl_nil by_app ?_) | ((with_reducible refine kd_move ?_); refine dl_pure (by assumption) (pv_move rfl) by_wants rfl rfl ?_) | ((with_reducible refine kd_fieldAddr ?_); refine dl_pure (by assumption) (pv_fieldAddr rfl) by_wants rfl rfl ?_) | ((with_reducible refine kd_lss ?_); refine dl_pure (by assumption) (pv_lss rfl rfl) by_wants rfl rfl ?_) | ((with_reducible refine kd_sub ?_); refine dl_pure (by assumption) (pv_sub_in rfl rfl (by omega)) by_wants rfl rfl ?_) | ((with_reducible refine kd_len ?_); refine dl_pure (by assumption) (pv_len_nil rfl) by_wants rfl rfl ?_) | ((with_reducible refine kd_nilCheck ?_); refine dl_pure (by assumption) (pv_nilCheck rfl) by_wants rfl rfl ?_) | ((with_reducible refine kd_load ?_); refine dl_take (by assumption) (hv_load_box (by assumption) (by rfl) by_mem0 (by rfl) by_bd) by_wants rfl rfl ?_) | (((with_reducible refine k_cond ?_); refine aw_cond rfl ?_ ?_) <;> ((fail_if_success (refine imp_known (by assumption) ?_)); (intro hb <;> (have hc := hb) <;> (try simp only [decide_eq_true_eq, decide_eq_false_iff_not, Int.not_lt, Int.not_le, ne_eq, Bool.not_eq_true, Bool.not_eq_false, Decidable.not_not] at hc) <;> (try (exfalso; omega)) <;> (try (exfalso; simp only [Bool.not_eq_eq_eq_not, Bool.not_true, Bool.not_false, decide_eq_true_eq, decide_eq_false_iff_not, ne_eq, Decidable.not_not, Int.not_lt, Int.not_le] at hc; omega)) <;> (try (first | contradiction | (cases hc; done))) <;> (try (first | exact absurd (hb.symm.trans (by assumption) : true = false) (by decide) | exact absurd (hb.symm.trans (by assumption) : false = true) (by decide)))))))
  (first | refine rl_op rfl (op_callR rfl rfl (.cons .here .nil) (grow74 b n hn) rfl ?_) | refine dl_op (by assumption) by_wants (op_callR rfl rfl (.cons .here .nil) (grow74 b n hn) rfl ?_))
  rintro _ _ ⟨sv, rfl, rfl⟩
  repeat' (with_reducible first | refine aw_seq ?_ | refine rl_nil ?_ | refine aw_region ?_ | refine then_n ?_ | refine aw_block ?_ | refine then_exit ?_ | refine then_ret ?_ | refine in_n ?_ | refine in_ret ?_ | refine aw_exit ?_ | refine aw_ret ?_ | refine aw_skip ?_ | refine in_exit_eq rfl ?_ | refine awr_succ ?_)
  (first | refine ret_r (retok_pick (.cons .here (.cons .here .nil)) (ret0 rfl  (List.Sublist.refl _) ⟨_, rfl, ?_⟩)) | refine ret_n (retok_pick (.cons .here (.cons .here .nil)) (ret0 rfl  (List.Sublist.refl _) ⟨_, rfl, ?_⟩)))
  exact ⟨sv, rfl, rfl⟩
end Go.Proofs.YtbhbjlhobdoomaaDoor

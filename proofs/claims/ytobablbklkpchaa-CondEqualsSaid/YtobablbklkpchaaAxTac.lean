/- AX 12: small rules for the steps. -/
import Derived.Test.YtobablbklkpchaaAxFun
set_option linter.unusedVariables false
set_option linter.unusedSimpArgs false
namespace Go.AX
variable {P : Program} {N : Nat} {j : J P N} {Q : Exit → Sl → List Ch → Prop} {K : Sl → List Ch → Prop} {s : Sl} {H : List Ch}
variable {dst : Option Tmp} {ty : TypeId} {pos : String} {after : Array Edge} {g : Option (Nat × Bool)} {T : TypeId} {x y : Operand} {D : TypeDesc} {sz bs : Nat} {z : Value}
theorem then_n (h : K s H) : Then K Q .normal s H := h
theorem then_exit {id : Nat} (h : Q (.exit id) s H) : Then K Q (.exit id) s H := h
theorem then_ret (h : Q .ret s H) : Then K Q .ret s H := h
theorem then_panic {c : List PanicEntry} (h : Q (.panic c) s H) : Then K Q (.panic c) s H := h
theorem in_n {id : Nat} (h : Q .normal s H) : InBlock id Q .normal s H := h
theorem in_ret {id : Nat} (h : Q .ret s H) : InBlock id Q .ret s H := h
theorem in_panic {id : Nat} {c : List PanicEntry} (h : Q (.panic c) s H) : InBlock id Q (.panic c) s H := h
theorem in_exit_eq {id k : Nat} (e : Nat.beq k id = true) (h : Q .normal s H) : InBlock id Q (.exit k) s H := by
  simp only [InBlock, if_pos (Nat.eq_of_beq_eq_true e)]
  exact h
theorem in_exit_ne {id k : Nat} (e : k ≠ id) (h : Q (.exit k) s H) : InBlock id Q (.exit k) s H := by
  simp only [InBlock, if_neg e]
  exact h
theorem pv_len_ro' {e sz bs n : Nat} {z : Value} {rows : List (List V)} [t : Ty P T (.slice e) sz bs z] (hx : s.ev x = some (.ro rows)) (hn : rows.length = n) : PureV j s H ⟨dst, .call { callee := .builtin .len, args := #[x], argTypes := #[T] }, ty, pos, after, g⟩ (.raw (.int .i64 n)) := hn ▸ pv_len_ro hx
theorem pv_len_own' {e sz bs E k n : Nat} {z sv : Value} {rows : List (List V)} [t : Ty P T (.slice e) sz bs z] (hx : s.ev x = some (.own sv)) (hm : Ch.vec sv E k rows ∈ H ++ j.F) (hn : rows.length = n) : PureV j s H ⟨dst, .call { callee := .builtin .len, args := #[x], argTypes := #[T] }, ty, pos, after, g⟩ (.raw (.int .i64 n)) := hn ▸ pv_len_own hx hm
theorem vv_load_box_whole {b : Nat} {E : TypeId} {cells : List V} [t : Ty P T D sz bs z] (hx : s.ev x = some (.raw (.pointer (some ⟨b, 0, none⟩)))) (hm : Ch.box b E cells ∈ H ++ j.F) (hD : aggOf D = true) (hl : cells.length = sz) :
    ValV j s H ⟨dst, .load T x, ty, pos, after, g⟩ (.agg cells) :=
  vv_load_box_agg hx hm hD (by rw [List.drop_zero, List.take_of_length_le (Nat.le_of_eq hl)]) hl
theorem vv_load_ro_whole {cells : List V} [t : Ty P T D sz bs z] (hx : s.ev x = some (.rop cells 0)) (hD : aggOf D = true) (hl : cells.length = sz) :
    ValV j s H ⟨dst, .load T x, ty, pos, after, g⟩ (.agg cells) :=
  vv_load_ro_agg hx hD (by rw [List.drop_zero, List.take_of_length_le (Nat.le_of_eq hl)]) hl
theorem TriR.of {f : FuncId} {vs : List V} {R : V → List Ch → Prop} (h : Tri P f vs H fun ae H' => ∃ v, ae = .ret v ∧ R v H') : TriR P f vs H R := h
theorem Fun.of {f : FuncId} {vs : List V} {v : V} (h : TriR P f vs [] fun u H' => u = v ∧ H' = []) : Fun P f vs v := h
theorem Fun.triR {f : FuncId} {vs : List V} {v : V} (h : Fun P f vs v) : TriR P f vs [] fun u H' => u = v ∧ H' = [] := h
theorem TriR.tri {f : FuncId} {vs : List V} {R : V → List Ch → Prop} (h : TriR P f vs H R) : Tri P f vs H fun ae H' => ∃ v, ae = .ret v ∧ R v H' := h
theorem ret_n {fn : Func} {Post : AEnd → List Ch → Prop} (h : RetOk j fn s H fun v H' => Post (.ret v) H') : Ret j fn Post .normal s H := h
theorem ret_r {fn : Func} {Post : AEnd → List Ch → Prop} (h : RetOk j fn s H fun v H' => Post (.ret v) H') : Ret j fn Post .ret s H := h
theorem aw_cond_yes {c : Operand} {x y : Code} {b : Bool} (hc : s.ev c = some (.raw (.bool b))) (hb : b = true) (ht : AW j x Q s H) : AW j (.cond c x y) Q s H := aw_cond hc (fun _ => ht) (fun e => by rw [hb] at e; cases e)
theorem aw_cond_no {c : Operand} {x y : Code} {b : Bool} (hc : s.ev c = some (.raw (.bool b))) (hb : b = false) (hf : AW j y Q s H) : AW j (.cond c x y) Q s H := aw_cond hc (fun e => by rw [hb] at e; cases e) (fun _ => hf)
/-! ### Weaker states, as a whole -/
def Sl.sub : Sl → Sl → Prop
  | [], _ => True
  | (i, v) :: r, s => s.get i = some v ∧ Sl.sub r s
theorem Sl.sub_get {s : Sl} : ∀ {s' : Sl}, s'.sub s → ∀ i v, s'.get i = some v → s.get i = some v
  | [], _, i, v, h => by simp [Sl.get] at h
  | (k, u) :: r, hs, i, v, h => by
    simp only [Sl.get] at h
    cases e : Nat.beq i k
    · rw [e] at h; exact Sl.sub_get hs.2 i v h
    · rw [e] at h
      simp at h
      subst h
      obtain rfl := Nat.eq_of_beq_eq_true e
      exact hs.1
theorem st_weak {a : Act} {w : World} {s' : Sl} {G : List Ch} (hs : s'.sub s) (hg : G.Sublist H) (st : St j s H a w) : St j s' G a w := st_sub (st_forget st (Sl.sub_get hs)) hg
theorem aw_weaken {c : Code} (s' : Sl) (G : List Ch) (hs : s'.sub s) (hg : G.Sublist H) (h : AW j c Q s' G) : AW j c Q s H := aw_weak (fun a w st => st_weak hs hg st) h
theorem rl_weaken {ops : Array Oper} {l : List Oper} (s' : Sl) (G : List Ch) (hs : s'.sub s) (hg : G.Sublist H) (h : RL j ops l Q s' G) : RL j ops l Q s H := rl_weak (fun a w st => st_weak hs hg st) h
/-- The end of a region, with a state that says less. -/
theorem rl_end {ops : Array Oper} (s' : Sl) (G : List Ch) (hs : s'.sub s) (hg : G.Sublist H) (h : Q .normal s' G) : RL j ops [] Q s H := rl_weaken s' G hs hg (rl_nil h)
theorem aw_perm {c : Code} {G : List Ch} (hp : H.Perm G) (h : AW j c Q s G) : AW j c Q s H := aw_weak (fun a w st => st.perm hp) h
theorem rl_perm {ops : Array Oper} {l : List Oper} {G : List Ch} (hp : H.Perm G) (h : RL j ops l Q s G) : RL j ops l Q s H := rl_weak (fun a w st => st.perm hp) h
variable {ops : Array Oper} {rest : List Oper} {d : Nat}
/-- What can be said of a state after forgetting something. -/
def KW (j : J P N) (K : Sl → List Ch → Prop) (s : Sl) (H : List Ch) : Prop := ∀ a w, St j s H a w → lift j K a w
theorem kw_self (h : K s H) : KW j K s H := fun a w st => ⟨s, H, st, h⟩
theorem kw_weaken (s' : Sl) (G : List Ch) (hs : s'.sub s) (hg : G.Sublist H) (h : K s' G) : KW j K s H := fun a w st => ⟨s', G, st_weak hs hg st, h⟩
theorem kw_freeze {sv : Value} {E k : Nat} {rows : List (List V)} {H' : List Ch} (ht : Take (.vec sv E k rows) H H') (h : K ((d, .ro rows) :: s) H') : KW j K ((d, .own sv) :: s) H := fun a w st => by
  obtain ⟨st', hc⟩ := st_freeze st ht
  refine ⟨_, H', ?_, h⟩
  have st2 := st_slot (d := d) (v := .own sv) (v' := .ro rows) st' (by simp [Sl.get]) (fun x hx => by simp only [conc] at hx; rw [hx.1]; exact hc)
  exact st_forget st2 fun i v hi => by
    simp only [Sl.get] at hi ⊢
    cases e : Nat.beq i d
    · rw [e] at hi; simpa [e] using hi
    · rw [e] at hi; simpa [e] using hi
theorem op_kw {o : Oper} (h : OP j o (KW j K) Q s H) : OP j o K Q s H := fun a w st K' hK => h a w st K' fun a' w' h' => by
  obtain ⟨s', H', st', hk⟩ := h'
  exact hK _ _ (hk a' w' st')
/-- '[]T{..}' that nobody will write. -/
theorem op_buildSlice_ro {e n : Nat} {DE : TypeDesc} {zs : Value} {szT bsT : Nat} {parts : Array (Nat × Operand)} {vs : List V} [t : Ty P T (.slice e) szT bsT zs] [te : Ty P e DE sz bs z]
    (hq : isSeq 0 parts.toList = true) (hn : parts.toList.length = n) (hv : s.evs (parts.toList.map (·.2)) = some vs) (hok : okcs sz vs = true) (hsz : Nat.blt 0 sz = true) (hsm : Nat.ble (n * sz) 16777216 = true) (hz : z.cells.size = sz) (hN : Nat.blt d N = true) {rows : List (List V)} (hrw : vs.map V.cells = rows)
    (h : K ((d, .ro rows) :: s) H) : OP j ⟨some d, .buildSlice T n parts, ty, pos, after, none⟩ K Q s H := by
  subst hrw
  exact op_kw (op_buildSlice hq hn hv hok hsz hsm hz hN fun sv => kw_freeze .here h)
section
variable {op : Op} {gi tt : Nat} {b want : Bool} {og : Oper}
theorem rl_on_yes (ho : ops[gi]? = some og) (hd : og.dst = some tt) (hv : s.get tt = some (.raw (.bool b))) (hb : b = want) (hN : Nat.blt d N = true)
    (h : RL j ops (⟨some d, op, ty, pos, after, none⟩ :: rest) Q s H) : RL j ops (⟨some d, op, ty, pos, after, some (gi, want)⟩ :: rest) Q s H :=
  rl_on ho hd hv (fun i hi => by cases hi; exact Nat.le_of_ble_eq_true hN) (fun _ => h) (fun e => by subst hb; cases b <;> cases e)
theorem rl_off_t (ho : ops[gi]? = some og) (hd : og.dst = some tt) (hv : s.get tt = some (.raw (.bool b))) (hb : b = false) (hN : Nat.blt d N = true)
    (h : RL j ops rest Q ((d, .raw undef) :: s) H) : RL j ops (⟨some d, op, ty, pos, after, some (gi, true)⟩ :: rest) Q s H :=
  rl_on ho hd hv (fun i hi => by cases hi; exact Nat.le_of_ble_eq_true hN) (fun e => by rw [hb] at e; cases e) (fun _ => h)
theorem rl_off_f (ho : ops[gi]? = some og) (hd : og.dst = some tt) (hv : s.get tt = some (.raw (.bool b))) (hb : b = true) (hN : Nat.blt d N = true)
    (h : RL j ops rest Q ((d, .raw undef) :: s) H) : RL j ops (⟨some d, op, ty, pos, after, some (gi, false)⟩ :: rest) Q s H :=
  rl_on ho hd hv (fun i hi => by cases hi; exact Nat.le_of_ble_eq_true hN) (fun e => by rw [hb] at e; cases e) (fun _ => h)
theorem rl_if_t (ho : ops[gi]? = some og) (hd : og.dst = some tt) (hv : s.get tt = some (.raw (.bool b))) (hN : Nat.blt d N = true)
    (h1 : b = true → RL j ops (⟨some d, op, ty, pos, after, none⟩ :: rest) Q s H) (h2 : b = false → RL j ops rest Q ((d, .raw undef) :: s) H) : RL j ops (⟨some d, op, ty, pos, after, some (gi, true)⟩ :: rest) Q s H :=
  rl_on ho hd hv (fun i hi => by cases hi; exact Nat.le_of_ble_eq_true hN) h1 h2
theorem rl_if_f (ho : ops[gi]? = some og) (hd : og.dst = some tt) (hv : s.get tt = some (.raw (.bool b))) (hN : Nat.blt d N = true)
    (h1 : b = false → RL j ops (⟨some d, op, ty, pos, after, none⟩ :: rest) Q s H) (h2 : b = true → RL j ops rest Q ((d, .raw undef) :: s) H) : RL j ops (⟨some d, op, ty, pos, after, some (gi, false)⟩ :: rest) Q s H :=
  rl_on ho hd hv (fun i hi => by cases hi; exact Nat.le_of_ble_eq_true hN) h1 h2
end
/-! ### What stands first -/
section
variable {T' : TypeId} {c : Operand} {i : Nat} {xs ys : Array Operand} {ts : Array TypeId} {ps : Array (Nat × Operand)} {fn : Fn} {op : Op} {b : Bool}
theorem k_move (h : RL j ops (⟨dst, .move x, ty, pos, after, none⟩ :: rest) Q s H) : RL j ops (⟨dst, .move x, ty, pos, after, none⟩ :: rest) Q s H := h
theorem k_assign (h : RL j ops (⟨dst, .assign x, ty, pos, after, none⟩ :: rest) Q s H) : RL j ops (⟨dst, .assign x, ty, pos, after, none⟩ :: rest) Q s H := h
theorem k_load (h : RL j ops (⟨dst, .load T x, ty, pos, after, none⟩ :: rest) Q s H) : RL j ops (⟨dst, .load T x, ty, pos, after, none⟩ :: rest) Q s H := h
theorem k_fieldAddr (h : RL j ops (⟨dst, .fieldAddr T x i, ty, pos, after, none⟩ :: rest) Q s H) : RL j ops (⟨dst, .fieldAddr T x i, ty, pos, after, none⟩ :: rest) Q s H := h
theorem k_store (h : RL j ops (⟨dst, .store T x y, ty, pos, after, none⟩ :: rest) Q s H) : RL j ops (⟨dst, .store T x y, ty, pos, after, none⟩ :: rest) Q s H := h
theorem k_alloc (h : RL j ops (⟨dst, .alloc T, ty, pos, after, none⟩ :: rest) Q s H) : RL j ops (⟨dst, .alloc T, ty, pos, after, none⟩ :: rest) Q s H := h
theorem k_box (h : RL j ops (⟨dst, .box T x, ty, pos, after, none⟩ :: rest) Q s H) : RL j ops (⟨dst, .box T x, ty, pos, after, none⟩ :: rest) Q s H := h
theorem k_extract (h : RL j ops (⟨dst, .extract x i, ty, pos, after, none⟩ :: rest) Q s H) : RL j ops (⟨dst, .extract x i, ty, pos, after, none⟩ :: rest) Q s H := h
theorem k_len (h : RL j ops (⟨dst, .call { callee := .builtin .len, args := xs, argTypes := ts }, ty, pos, after, none⟩ :: rest) Q s H) : RL j ops (⟨dst, .call { callee := .builtin .len, args := xs, argTypes := ts }, ty, pos, after, none⟩ :: rest) Q s H := h
theorem k_indexAddr (h : RL j ops (⟨dst, .indexAddr T x y, ty, pos, after, none⟩ :: rest) Q s H) : RL j ops (⟨dst, .indexAddr T x y, ty, pos, after, none⟩ :: rest) Q s H := h
theorem k_build (h : RL j ops (⟨dst, .build T ps, ty, pos, after, none⟩ :: rest) Q s H) : RL j ops (⟨dst, .build T ps, ty, pos, after, none⟩ :: rest) Q s H := h
theorem k_buildSlice (h : RL j ops (⟨dst, .buildSlice T i ps, ty, pos, after, none⟩ :: rest) Q s H) : RL j ops (⟨dst, .buildSlice T i ps, ty, pos, after, none⟩ :: rest) Q s H := h
theorem k_makeFunc (h : RL j ops (⟨dst, .makeFunc fn xs ys, ty, pos, after, none⟩ :: rest) Q s H) : RL j ops (⟨dst, .makeFunc fn xs ys, ty, pos, after, none⟩ :: rest) Q s H := h
theorem k_field (h : RL j ops (⟨dst, .field T x i, ty, pos, after, none⟩ :: rest) Q s H) : RL j ops (⟨dst, .field T x i, ty, pos, after, none⟩ :: rest) Q s H := h
theorem k_pick (h : RL j ops (⟨dst, .pick c x y, ty, pos, after, none⟩ :: rest) Q s H) : RL j ops (⟨dst, .pick c x y, ty, pos, after, none⟩ :: rest) Q s H := h
theorem k_convert (h : RL j ops (⟨dst, .convert T T' x, ty, pos, after, none⟩ :: rest) Q s H) : RL j ops (⟨dst, .convert T T' x, ty, pos, after, none⟩ :: rest) Q s H := h
theorem k_not (h : RL j ops (⟨dst, .unOp .not T x, ty, pos, after, none⟩ :: rest) Q s H) : RL j ops (⟨dst, .unOp .not T x, ty, pos, after, none⟩ :: rest) Q s H := h
theorem k_neg (h : RL j ops (⟨dst, .unOp .neg T x, ty, pos, after, none⟩ :: rest) Q s H) : RL j ops (⟨dst, .unOp .neg T x, ty, pos, after, none⟩ :: rest) Q s H := h
theorem k_eql (h : RL j ops (⟨dst, .binOp .eql T x y T', ty, pos, after, none⟩ :: rest) Q s H) : RL j ops (⟨dst, .binOp .eql T x y T', ty, pos, after, none⟩ :: rest) Q s H := h
theorem k_neq (h : RL j ops (⟨dst, .binOp .neq T x y T', ty, pos, after, none⟩ :: rest) Q s H) : RL j ops (⟨dst, .binOp .neq T x y T', ty, pos, after, none⟩ :: rest) Q s H := h
theorem k_lss (h : RL j ops (⟨dst, .binOp .lss T x y T', ty, pos, after, none⟩ :: rest) Q s H) : RL j ops (⟨dst, .binOp .lss T x y T', ty, pos, after, none⟩ :: rest) Q s H := h
theorem k_leq (h : RL j ops (⟨dst, .binOp .leq T x y T', ty, pos, after, none⟩ :: rest) Q s H) : RL j ops (⟨dst, .binOp .leq T x y T', ty, pos, after, none⟩ :: rest) Q s H := h
theorem k_gtr (h : RL j ops (⟨dst, .binOp .gtr T x y T', ty, pos, after, none⟩ :: rest) Q s H) : RL j ops (⟨dst, .binOp .gtr T x y T', ty, pos, after, none⟩ :: rest) Q s H := h
theorem k_geq (h : RL j ops (⟨dst, .binOp .geq T x y T', ty, pos, after, none⟩ :: rest) Q s H) : RL j ops (⟨dst, .binOp .geq T x y T', ty, pos, after, none⟩ :: rest) Q s H := h
theorem k_add (h : RL j ops (⟨dst, .binOp .add T x y T', ty, pos, after, none⟩ :: rest) Q s H) : RL j ops (⟨dst, .binOp .add T x y T', ty, pos, after, none⟩ :: rest) Q s H := h
theorem k_sub (h : RL j ops (⟨dst, .binOp .sub T x y T', ty, pos, after, none⟩ :: rest) Q s H) : RL j ops (⟨dst, .binOp .sub T x y T', ty, pos, after, none⟩ :: rest) Q s H := h
theorem k_mul (h : RL j ops (⟨dst, .binOp .mul T x y T', ty, pos, after, none⟩ :: rest) Q s H) : RL j ops (⟨dst, .binOp .mul T x y T', ty, pos, after, none⟩ :: rest) Q s H := h
theorem k_quo (h : RL j ops (⟨dst, .binOp .quo T x y T', ty, pos, after, none⟩ :: rest) Q s H) : RL j ops (⟨dst, .binOp .quo T x y T', ty, pos, after, none⟩ :: rest) Q s H := h
theorem k_rem (h : RL j ops (⟨dst, .binOp .rem T x y T', ty, pos, after, none⟩ :: rest) Q s H) : RL j ops (⟨dst, .binOp .rem T x y T', ty, pos, after, none⟩ :: rest) Q s H := h
theorem k_guard (h : RL j ops (⟨dst, op, ty, pos, after, some (i, b)⟩ :: rest) Q s H) : RL j ops (⟨dst, op, ty, pos, after, some (i, b)⟩ :: rest) Q s H := h
theorem k_cond {p q : Code} (h : AW j (.cond c p q) Q s H) : AW j (.cond c p q) Q s H := h
end
end Go.AX

/- AX 2: judgments over abstract states; control flow. -/
import Derived.Test.YtobablbklkpchaaAxCore
set_option linter.unusedVariables false
namespace Go.AX

/-- What stays the same while a function runs: the program, how many temporaries, what is framed, what was owned when it began, and the world then. -/
structure J (P : Program) (N : Nat) where
  F : List Ch
  H0 : Nat → Prop
  w0 : World
variable {P : Program} {N : Nat}
structure St (j : J P N) (s : Sl) (H : List Ch) (a : Act) (w : World) : Prop where
  sl : SlOk N s (own (H ++ j.F)) a.tmps w
  hp : Hp (own (H ++ j.F)) (H ++ j.F) w
  evo : Evo j.H0 j.w0 (own H) w
  df : a.defers = []
def lift (j : J P N) (K : Sl → List Ch → Prop) (a : Act) (w : World) : Prop := ∃ s H, St j s H a w ∧ K s H
def liftE (j : J P N) (Q : Exit → Sl → List Ch → Prop) (e : Exit) (a : Act) (w : World) : Prop := ∃ s H, St j s H a w ∧ Q e s H
def AW (j : J P N) (c : Code) (Q : Exit → Sl → List Ch → Prop) (s : Sl) (H : List Ch) : Prop := ∀ a w, St j s H a w → c.wp P (liftE j Q) a w
def RL (j : J P N) (ops : Array Oper) (l : List Oper) (Q : Exit → Sl → List Ch → Prop) (s : Sl) (H : List Ch) : Prop := ∀ a w, St j s H a w → wpList P ops (liftE j Q) l a w
/-- One operation. -/
def OP (j : J P N) (o : Oper) (K : Sl → List Ch → Prop) (Q : Exit → Sl → List Ch → Prop) (s : Sl) (H : List Ch) : Prop := ∀ a w, St j s H a w → ∀ K' : Act → World → Prop, (∀ a w, lift j K a w → K' a w) → o.wp P a w K' (liftE j Q)
def Then (K : Sl → List Ch → Prop) (Q : Exit → Sl → List Ch → Prop) : Exit → Sl → List Ch → Prop
  | .normal, s, H => K s H
  | e, s, H => Q e s H
def InBlock (id : Nat) (Q : Exit → Sl → List Ch → Prop) : Exit → Sl → List Ch → Prop
  | .exit k, s, H => if k = id then Q .normal s H else Q (.exit k) s H
  | e, s, H => Q e s H
variable {j : J P N} {Q : Exit → Sl → List Ch → Prop} {s : Sl} {H : List Ch}

theorem aw_seq {x y : Code} (h : AW j x (Then (AW j y Q) Q) s H) : AW j (.seq x y) Q s H := fun a w st =>
  wp_seq (Code.wp_mono (fun e a' w' h' => by
    obtain ⟨s', H', st', hq⟩ := h'
    cases e with
    | normal => exact hq a' w' st'
    | _ => exact ⟨s', H', st', hq⟩) (h a w st))
theorem aw_skip (h : Q .normal s H) : AW j .skip Q s H := fun a w st => wp_skip ⟨s, H, st, h⟩
theorem aw_exit {id : Nat} (h : Q (.exit id) s H) : AW j (.exit id) Q s H := fun a w st => wp_exit ⟨s, H, st, h⟩
theorem aw_ret (h : Q .ret s H) : AW j .ret Q s H := fun a w st => wp_ret ⟨s, H, st, h⟩
theorem aw_block {id : Nat} {c : Code} (h : AW j c (InBlock id Q) s H) : AW j (.block id c) Q s H := fun a w st =>
  wp_block (Code.wp_mono (fun e a' w' h' => by
    obtain ⟨s', H', st', hq⟩ := h'
    cases e with
    | exit k =>
      simp only [InBlock, Exit.inBlock] at hq ⊢
      split
      · rename_i e; rw [if_pos e] at hq; exact ⟨s', H', st', hq⟩
      · rename_i e; rw [if_neg e] at hq; exact ⟨s', H', st', hq⟩
    | _ => exact ⟨s', H', st', hq⟩) (h a w st))
theorem aw_cond {c : Operand} {x y : Code} {t : Bool} (hc : s.ev c = some (.raw (.bool t))) (ht : t = true → AW j x Q s H) (hf : t = false → AW j y Q s H) : AW j (.cond c x y) Q s H := fun a w st => by
  have hv : a.eval c = .bool t := by simpa [conc] using st.sl.ev hc
  exact wp_cond_split hv (fun e => ht e a w st) (fun e => hf e a w st)
theorem aw_cond_t {c : Operand} {x y : Code} (hc : s.ev c = some (.raw (.bool true))) (ht : AW j x Q s H) : AW j (.cond c x y) Q s H := aw_cond hc (fun _ => ht) (fun e => by cases e)
theorem aw_cond_f {c : Operand} {x y : Code} (hc : s.ev c = some (.raw (.bool false))) (hf : AW j y Q s H) : AW j (.cond c x y) Q s H := aw_cond hc (fun e => by cases e) (fun _ => hf)
theorem least {T : Nat → Prop} (h : ∃ n, T n) : ∃ n, T n ∧ ∀ m, T m → n ≤ m := by
  obtain ⟨n, hn⟩ := h
  induction n using Nat.strongRecOn with
  | _ n ih =>
    by_cases hs : ∃ m, m < n ∧ T m
    · obtain ⟨m, h1, h2⟩ := hs
      exact ih m h1 h2
    · refine ⟨n, hn, fun m hm => ?_⟩
      rcases Nat.lt_or_ge m n with h1 | h1
      · exact absurd ⟨m, h1, hm⟩ hs
      · exact h1
/-- A loop: an invariant that tells how many rounds are left at most. -/
theorem aw_loop {c : Code} (I : Nat → Sl → List Ch → Prop) (n : Nat) (h0 : I n s H)
    (round : ∀ n s H, I n s H → AW j c (Then (fun s' H' => ∃ m, m < n ∧ I m s' H') Q) s H) : AW j (.loop c) Q s H := fun a w st => by
  classical
  let T (a : Act) (w : World) (n : Nat) : Prop := ∃ s H, St j s H a w ∧ I n s H
  let μ (a : Act) (w : World) : Nat := if h : ∃ n, T a w n then Classical.choose (least h) else 0
  refine wp_loop (fun a w => ∃ n, T a w n) μ ⟨n, s, H, st, h0⟩ fun a w hI => ?_
  have hμ : μ a w = Classical.choose (least hI) := by simp only [μ, dif_pos hI]
  obtain ⟨s1, H1, st1, hi1⟩ := (Classical.choose_spec (least hI)).1
  refine Code.wp_mono (fun e a' w' h' => ?_) (round _ s1 H1 hi1 a w st1)
  obtain ⟨s', H', st', hq⟩ := h'
  cases e with
  | normal =>
    obtain ⟨m, hm, him⟩ := hq
    have hex : ∃ n, T a' w' n := ⟨m, s', H', st', him⟩
    refine ⟨hex, ?_⟩
    have : μ a' w' ≤ m := by simp only [μ, dif_pos hex]; exact (Classical.choose_spec (least hex)).2 m ⟨s', H', st', him⟩
    rw [hμ]
    omega
  | _ => exact ⟨s', H', st', hq⟩
theorem aw_mono {c : Code} {Q' : Exit → Sl → List Ch → Prop} (h : AW j c Q' s H) (hq : ∀ e s H, Q' e s H → Q e s H) : AW j c Q s H := fun a w st =>
  Code.wp_mono (fun e a' w' h' => let ⟨s', H', st', h1⟩ := h'; ⟨s', H', st', hq _ _ _ h1⟩) (h a w st)
/-- Any state that says less. -/
theorem aw_weak {c : Code} {s' : Sl} {H' : List Ch} (hw : ∀ a w, St j s H a w → St j s' H' a w) (h : AW j c Q s' H') : AW j c Q s H := fun a w st => h a w (hw a w st)
theorem aw_region {id : Nat} {l : List Oper} (h : RL j l.toArray l Q s H) : AW j (.region id l.toArray false) Q s H := fun a w st => wp_region_lit (h a w st)
variable {ops : Array Oper} {rest : List Oper}
theorem rl_nil (h : Q .normal s H) : RL j ops [] Q s H := fun a w st => wpList_nil ⟨s, H, st, h⟩
theorem rl_weak {l : List Oper} {s' : Sl} {H' : List Ch} (hw : ∀ a w, St j s H a w → St j s' H' a w) (h : RL j ops l Q s' H') : RL j ops l Q s H := fun a w st => h a w (hw a w st)
theorem rl_op {o : Oper} (hg : o.guard = none) (h : OP j o (RL j ops rest Q) Q s H) : RL j ops (o :: rest) Q s H := fun a w st =>
  wpList_plain hg fun K hK => h a w st K fun a' w' h' => let ⟨s', H', st', hr⟩ := h'; hK _ _ (hr a' w' st')
/-- Operations under a guard: g is the temporary of the operation on which it hangs. -/
theorem yielded_bool {a : Act} {w : World} {g t : Nat} {b : Bool} {og : Oper} (st : St j s H a w) (ho : ops[g]? = some og) (hd : og.dst = some t) (hv : s.get t = some (.raw (.bool b))) : yielded ops a.tmps g = some b := by
  obtain ⟨x, h1, h2⟩ := st.sl.2 t _ hv
  simp only [conc] at h2
  subst h2
  simp [yielded, ho, hd, h1]
theorem St.put {a : Act} {w : World} {d : Option Nat} {v : V} {x : Value} (st : St j s H a w) (hx : conc w (own (H ++ j.F)) v x) (hd : ∀ i, d = some i → i < N) : St j (s.put d v) H (a.put d x) w :=
  ⟨st.sl.put d v x hx hd, st.hp, st.evo, by cases d <;> exact st.df⟩
theorem rl_on {dst : Option Nat} {op : Op} {ty : TypeId} {pos : String} {after : Array Edge} {g t : Nat} {b want : Bool} {og : Oper} (ho : ops[g]? = some og) (hd : og.dst = some t) (hv : s.get t = some (.raw (.bool b)))
    (hN : ∀ i, dst = some i → i < N)
    (h1 : b = want → RL j ops (⟨dst, op, ty, pos, after, none⟩ :: rest) Q s H) (h2 : b = !want → RL j ops rest Q (s.put dst (.raw undef)) H) : RL j ops (⟨dst, op, ty, pos, after, some (g, want)⟩ :: rest) Q s H := fun a w st => by
  have hy := yielded_bool st ho hd hv
  unfold wpList
  by_cases e : b = want
  · subst e
    have := h1 rfl a w st
    unfold wpList at this
    rw [if_pos (by simp [Region.wanted])] at this
    rw [if_pos (by simp [Region.wanted, hy])]
    exact this
  · have e2 : b = !want := by cases b <;> cases want <;> simp_all
    rw [if_neg (by simp [Region.wanted, hy, e])]
    exact h2 e2 _ _ (st.put rfl hN)
end Go.AX

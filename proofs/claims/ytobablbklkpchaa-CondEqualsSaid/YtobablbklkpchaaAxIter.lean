/- AX 15: loops told by literal states; what a function keeps. -/
import Derived.Test.YtobablbklkpchaaAxEq
set_option linter.unusedVariables false
set_option linter.unusedSimpArgs false
namespace Go.AX
variable {P : Program} {N : Nat} {j : J P N} {Q : Exit → Sl → List Ch → Prop} {s so : Sl} {H G R : List Ch}
variable {dst : Option Tmp} {ty : TypeId} {pos : String} {after : Array Edge} {g : Option (Nat × Bool)} {T : TypeId} {x : Operand} {D : TypeDesc} {sz bs : Nat} {z : Value}
theorem sub_nil : Sl.sub [] s := trivial
theorem sub_cons {i : Nat} {v : V} {r : Sl} (h : s.get i = some v) (hr : Sl.sub r s) : Sl.sub ((i, v) :: r) s := ⟨h, hr⟩
theorem st_pick {a : Act} {w : World} (st : St j s H a w) (h : Pick G H R) : St j s G a w := st_sub (st.perm h.perm) (List.sublist_append_left _ _)
theorem aw_pick {c : Code} (s' : Sl) (G : List Ch) (hs : s'.sub s) (hp : Pick G H R) (h : AW j c Q s' G) : AW j c Q s H :=
  aw_weak (fun a w st => st_pick (st_forget st (Sl.sub_get hs)) hp) h
theorem rl_pick {ops : Array Oper} {l : List Oper} (s' : Sl) (G : List Ch) (hs : s'.sub s) (hp : Pick G H R) (h : RL j ops l Q s' G) : RL j ops l Q s H :=
  rl_weak (fun a w st => st_pick (st_forget st (Sl.sub_get hs)) hp) h
theorem retok_pick {fn : Func} {K : V → List Ch → Prop} (hp : Pick G H R) (h : RetOk j fn s G K) : RetOk j fn s H K := fun a w st => h a w (st_pick st hp)
/-- What a round must leave behind. -/
def Next {α : Type} (lit : α → Sl) (hl : α → List Ch) (I : α → Prop) (m : α → Nat) (a : α) (s : Sl) (H : List Ch) : Prop := ∃ b R, I b ∧ m b < m a ∧ Sl.sub (lit b) s ∧ Pick (hl b) H R
theorem next_of {α : Type} {lit : α → Sl} {hl : α → List Ch} {I : α → Prop} {m : α → Nat} {a : α} (b : α) (h1 : I b) (h2 : m b < m a) (h3 : Sl.sub (lit b) s) (h4 : Pick (hl b) H R) : Next lit hl I m a s H := ⟨b, R, h1, h2, h3, h4⟩
theorem aw_iter {α : Type} {c : Code} (lit : α → Sl) (hl : α → List Ch) (I : α → Prop) (m : α → Nat) (a0 : α) (h0 : I a0) (hs : Sl.sub (lit a0) s) (hH : Pick (hl a0) H R)
    (round : ∀ a, I a → AW j c (Then (Next lit hl I m a) Q) (lit a) (hl a)) : AW j (.loop c) Q s H :=
  aw_loop (fun n s H => ∃ a R, m a = n ∧ I a ∧ Sl.sub (lit a) s ∧ Pick (hl a) H R) (m a0) ⟨a0, R, rfl, h0, hs, hH⟩ fun n s H ⟨a, R, hm, hI, h1, h2⟩ =>
    aw_pick (lit a) (hl a) h1 h2 (aw_mono (round a hI) fun e s' H' h => by
      cases e with
      | normal =>
        obtain ⟨b, R', k1, k2, k3, k4⟩ := h
        exact ⟨m b, hm ▸ k2, b, R', rfl, k1, k3, k4⟩
      | _ => exact h)
theorem vv_load_vp_whole {i E k : Nat} {sv : Value} {rows : List (List V)} {r : List V} [t : Ty P T D sz bs z] (hx : s.ev x = some (.vp sv k i 0)) (hm : Ch.vec sv E k rows ∈ H ++ j.F) (hr : rows[i]? = some r) (hD : aggOf D = true) (hl : r.length = sz) :
    ValV j s H ⟨dst, .load T x, ty, pos, after, g⟩ (.agg r) :=
  vv_load_vp_agg hx hm hr hD (by rw [List.drop_zero, List.take_of_length_le (Nat.le_of_eq hl)]) hl
theorem hv_load_vp_whole {i B m : Nat} {sv : Value} {rows : List (List V)} {r : List V} {Hs F E1 : List Ch} [t : Ty P T D sz bs z] (hj : DrawJ j Hs F E1) (hx : so.ev x = some (.vp sv m i 0)) (hm : Ch.vec sv B m rows ∈ Hs) (hr : rows[i]? = some r) (hD : aggOf D = true) (hl : r.length = sz) :
    HV j so E1 ⟨dst, .load T x, ty, pos, after, g⟩ (.agg r) :=
  hv_load_vp_agg hj hx hm hr hD (by rw [List.drop_zero, List.take_of_length_le (Nat.le_of_eq hl)]) hl
theorem setAll_whole {α : Type} {vs cs : List α} (h : vs.length = cs.length) : setAll cs 0 vs = vs := by
  rw [setAll_eq vs cs 0 (by omega)]
  simp [h]
/-- A store of a whole variable. -/
theorem op_store_box_whole {b : Nat} {E : TypeId} {cells : List V} {v : V} {H' : List Ch} {y : Operand} {K : Sl → List Ch → Prop} [t : Ty P T D sz bs z] (hx : s.ev x = some (.raw (.pointer (some ⟨b, 0, none⟩)))) (hy : s.ev y = some v) (h1 : v.one = true ∨ ∃ cs, v = .agg cs)
    (hu : Upd (.box b E cells) (.box b E v.cells) H H') (hs : v.cells.length = sz) (hl : cells.length = sz)
    (h : K s H') : OP j ⟨none, .store T x y, ty, pos, after, none⟩ K Q s H :=
  op_store_box hx hy h1 (by rw [setAll_whole (hs.trans hl.symm)]; exact hu) hs (by omega) h
/-- A variable that holds a nil slice becomes one that holds a slice of one's own. -/
theorem st_box_nil {a : Act} {w : World} {b : Nat} {B : TypeId} {H' : List Ch} (E k : Nat) (hu : Upd (.box b B [.raw (.slice none 0 0)]) (.box b B [.own (.slice none 0 0)]) H H') (st : St j s H a w) : St j s (.vec (.slice none 0 0) E k [] :: H') a w := by
  obtain ⟨t, h1, h2⟩ := hu.split
  have st1 := st.perm h1
  have hb : blks (Ch.box b B [V.own (.slice none 0 0)] :: t ++ j.F) = blks (Ch.box b B [V.raw (.slice none 0 0)] :: t ++ j.F) := rfl
  have ho : own (Ch.box b B [V.own (.slice none 0 0)] :: t ++ j.F) = own (Ch.box b B [V.raw (.slice none 0 0)] :: t ++ j.F) := by unfold own; rw [hb]
  have ho' : own (Ch.box b B [V.own (.slice none 0 0)] :: t) = own (Ch.box b B [V.raw (.slice none 0 0)] :: t) := rfl
  have st2 : St j s (Ch.box b B [V.own (.slice none 0 0)] :: t) a w := by
    refine ⟨?_, ⟨?_, fun c hc => ?_⟩, ?_, st1.df⟩
    · rw [ho]; exact st1.sl
    · rw [hb]; exact st1.hp.nd
    · rw [ho]
      rcases List.mem_cons.1 hc with rfl | hc
      · obtain ⟨l, k1, k2, k3⟩ := st1.hp.sat _ (List.mem_cons_self ..)
        refine ⟨l, k1, ?_, k3⟩
        simp only [concL, conc] at k2 ⊢
        obtain ⟨x, xs, rfl, rfl, rfl⟩ := k2
        exact ⟨_, _, rfl, ⟨rfl, by simp [Value.oneCell']⟩, rfl⟩
      · exact st1.hp.sat _ (List.mem_cons_of_mem _ hc)
    · rw [ho']; exact st1.evo
  exact st_vec_nil (st2.perm h2.symm) E k
theorem rl_box_nil {ops : Array Oper} {l : List Oper} {b : Nat} {B : TypeId} {H' : List Ch} (E k : Nat) (hu : Upd (.box b B [.raw (.slice none 0 0)]) (.box b B [.own (.slice none 0 0)]) H H') (h : RL j ops l Q s (.vec (.slice none 0 0) E k [] :: H')) : RL j ops l Q s H :=
  rl_weak (fun a w st => st_box_nil E k hu st) h
theorem aw_box_nil {c : Code} {b : Nat} {B : TypeId} {H' : List Ch} (E k : Nat) (hu : Upd (.box b B [.raw (.slice none 0 0)]) (.box b B [.own (.slice none 0 0)]) H H') (h : AW j c Q s (.vec (.slice none 0 0) E k [] :: H')) : AW j c Q s H :=
  aw_weak (fun a w st => st_box_nil E k hu st) h
theorem rl_nil_own {ops : Array Oper} {l : List Oper} (d E sz : Nat) (hv : s.get d = some (.raw (.slice none 0 0))) (h : RL j ops l Q ((d, .own (.slice none 0 0)) :: s) (.vec (.slice none 0 0) E sz [] :: H)) : RL j ops l Q s H :=
  rl_weak (fun a w st => st_vec_nil (st_slot st hv fun x hx => le_nil_own w _ x hx) E sz) h
theorem rl_nil_ro {ops : Array Oper} {l : List Oper} (d : Nat) (hv : s.get d = some (.raw (.slice none 0 0))) (h : RL j ops l Q ((d, .ro []) :: s) H) : RL j ops l Q s H :=
  rl_weak (fun a w st => st_slot st hv fun x hx => le_nil_ro w _ x hx) h
theorem aw_nil_ro {c : Code} (d : Nat) (hv : s.get d = some (.raw (.slice none 0 0))) (h : AW j c Q ((d, .ro []) :: s) H) : AW j c Q s H :=
  aw_weak (fun a w st => st_slot st hv fun x hx => le_nil_ro w _ x hx) h
/-- No slice is longer than that. -/
theorem aw_len_own {c : Code} {sv : Value} {E k : Nat} {rows : List (List V)} (hm : Ch.vec sv E k rows ∈ H ++ j.F) (h : rows.length ≤ 9223372036854775807 → AW j c Q s H) : AW j c Q s H := fun a w st => by
  obtain ⟨l, h1, _⟩ := st.hp.sat _ hm
  obtain ⟨A, c, _, h2, h3⟩ := own_form h1
  exact h (Nat.le_trans (Nat.le_trans h2 h3) (by decide)) a w st
theorem aw_len_ro {c : Code} {d : Nat} {rows : List (List V)} (hv : s.get d = some (.ro rows)) (h : rows.length ≤ 9223372036854775807 → AW j c Q s H) : AW j c Q s H := fun a w st => by
  obtain ⟨x, _, h2⟩ := st.sl.2 d _ hv
  simp only [conc] at h2
  obtain ⟨A, c, _, h3, h4, _⟩ := h2
  exact h (Nat.le_trans (Nat.le_trans h3 h4) (by decide)) a w st
end Go.AX

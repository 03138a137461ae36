/- AX 16: values that say less; nil slices as arguments. -/
import Derived.Test.YtobablbklkpchaaAxIter
set_option linter.unusedVariables false
set_option linter.unusedSimpArgs false
namespace Go.AX
variable {P : Program} {N : Nat} {j : J P N} {Q : Exit → Sl → List Ch → Prop} {s so : Sl} {H G R : List Ch}
def LeL (vs us : List V) : Prop := ∀ w ow l, concL w ow vs l → concL w ow us l
theorem le_refl (v : V) : V.Le v v := fun _ _ _ h => h
theorem leL_nil : LeL [] [] := fun _ _ _ h => h
theorem leL_cons {v u : V} {vs us : List V} (h : V.Le v u) (k : LeL vs us) : LeL (v :: vs) (u :: us) := fun w ow l hl => by
  simp only [concL] at hl ⊢
  obtain ⟨x, xs, rfl, h1, h2⟩ := hl
  exact ⟨x, xs, rfl, h _ _ _ h1, k _ _ _ h2⟩
theorem le_agg {cs ds : List V} (h : LeL cs ds) : V.Le (.agg cs) (.agg ds) := fun w ow x hx => by
  simp only [conc] at hx ⊢
  obtain ⟨l, rfl, h1, h2⟩ := hx
  exact ⟨l, rfl, h _ _ _ h1, h2⟩
theorem rl_le {ops : Array Oper} {l : List Oper} (d : Nat) {v v' : V} (hv : s.get d = some v) (hle : V.Le v v') (h : RL j ops l Q ((d, v') :: s) H) : RL j ops l Q s H :=
  rl_weak (fun a w st => st_slot st hv fun x hx => hle w _ x hx) h
theorem aw_le {c : Code} (d : Nat) {v v' : V} (hv : s.get d = some v) (hle : V.Le v v') (h : AW j c Q ((d, v') :: s) H) : AW j c Q s H :=
  aw_weak (fun a w st => st_slot st hv fun x hx => hle w _ x hx) h
theorem Tri.le {f : FuncId} {vs us : List V} {Post : AEnd → List Ch → Prop} (hle : LeL vs us) (h : Tri P f us H Post) : Tri P f vs H Post := fun F w xs h1 h2 => h F w xs h1 (hle _ _ _ h2)
theorem TriR.le {f : FuncId} {vs us : List V} {Rr : V → List Ch → Prop} (hle : LeL vs us) (h : TriR P f us H Rr) : TriR P f vs H Rr := Tri.le hle h
theorem TriR.mono {f : FuncId} {vs : List V} {Rr R' : V → List Ch → Prop} (h : TriR P f vs H Rr) (hr : ∀ v H', Rr v H' → R' v H') : TriR P f vs H R' :=
  Tri.mono h fun ae H' ⟨v, e, k⟩ => ⟨v, e, hr v H' k⟩
theorem rl_vec_nil {ops : Array Oper} {l : List Oper} (E k : Nat) (h : RL j ops l Q s (.vec (.slice none 0 0) E k [] :: H)) : RL j ops l Q s H := rl_weak (fun a w st => st_vec_nil st E k) h
inductive LeP : List V → List V → Prop
  | nil : LeP [] []
  | cons {v u : V} {vs us : List V} (h : V.Le v u) (t : LeP vs us) : LeP (v :: vs) (u :: us)
theorem LeP.refl : ∀ vs : List V, LeP vs vs
  | [] => .nil
  | v :: vs => .cons (le_refl v) (LeP.refl vs)
theorem LeP.leL {vs us : List V} (h : LeP vs us) : LeL vs us := by
  induction h with
  | nil => exact leL_nil
  | cons h _ ih => exact leL_cons h ih
theorem LeP.len {vs us : List V} (h : LeP vs us) : us.length = vs.length := by
  induction h with
  | nil => rfl
  | cons h _ ih => simp [ih]
theorem LeP.concAt {vs us : List V} (h : LeP vs us) {w : World} {ow : Nat → Prop} {b : Nat} : ∀ {o : Nat}, AX.concAt w ow b o vs → AX.concAt w ow b o us := by
  induction h with
  | nil => intro o h; simp [AX.concAt]
  | cons h _ ih =>
    intro o hc
    simp only [AX.concAt] at hc ⊢
    obtain ⟨⟨x, h1, h2, h3⟩, h4⟩ := hc
    exact ⟨⟨x, h1, h2, h _ _ _ h3⟩, ih h4⟩
inductive LeR : List (List V) → List (List V) → Prop
  | nil : LeR [] []
  | cons {v u : List V} {vs us : List (List V)} (h : LeP v u) (t : LeR vs us) : LeR (v :: vs) (u :: us)
theorem LeR.len {vs us : List (List V)} (h : LeR vs us) : us.length = vs.length := by
  induction h with
  | nil => rfl
  | cons h _ ih => simp [ih]
theorem LeR.concRows {vs us : List (List V)} (h : LeR vs us) {w : World} {ow : Nat → Prop} {b sz : Nat} : ∀ {o : Nat}, AX.concRows w ow b sz o vs → AX.concRows w ow b sz o us := by
  induction h with
  | nil => intro o h; simp [AX.concRows]
  | cons h _ ih =>
    intro o hc
    simp only [AX.concRows] at hc ⊢
    exact ⟨h.len.trans hc.1, h.concAt hc.2.1, ih hc.2.2⟩
theorem le_ro {vs us : List (List V)} (h : LeR vs us) : V.Le (.ro vs) (.ro us) := fun w ow x hx => by
  simp only [conc] at hx ⊢
  obtain ⟨A, c, rfl, h1, h2, h3⟩ := hx
  refine ⟨A, c, by rw [h.len], by rw [h.len]; exact h1, h2, ?_⟩
  rcases h3 with ⟨h3, h4⟩ | ⟨b, o, sz, rfl, hb, ho, hr⟩
  · subst h3; cases h; exact .inl ⟨rfl, h4⟩
  · exact .inr ⟨b, o, sz, rfl, hb, ho, h.concRows hr⟩
theorem le_aggP {cs ds : List V} (h : LeP cs ds) : V.Le (.agg cs) (.agg ds) := le_agg h.leL
end Go.AX

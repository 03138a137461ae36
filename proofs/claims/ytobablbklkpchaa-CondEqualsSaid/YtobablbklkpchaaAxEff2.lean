/- AX 7: structs and slices that are built; appends; what may be forgotten. -/
import Derived.Test.YtobablbklkpchaaAxEff
import Derived.Laws.OwnMore
set_option linter.unusedVariables false
set_option linter.unusedSimpArgs false
namespace Go.AX
variable {P : Program} {N : Nat} {j : J P N} {Q : Exit → Sl → List Ch → Prop} {s : Sl} {H : List Ch} {ops : Array Oper} {rest : List Oper}

/-! ### Weaker states -/
def V.Le (v v' : V) : Prop := ∀ w ow x, conc w ow v x → conc w ow v' x
theorem le_nil_own : V.Le (.raw (.slice none 0 0)) (.own (.slice none 0 0)) := fun w ow x h => by simp only [conc] at h ⊢; exact ⟨h, by simp [Value.oneCell']⟩
theorem le_nil_ro : V.Le (.raw (.slice none 0 0)) (.ro []) := fun w ow x h => by
  simp only [conc] at h ⊢
  exact ⟨none, 0, h, Nat.le_refl _, Nat.zero_le _, .inl (by simp)⟩
theorem st_slot {a : Act} {w : World} {d : Nat} {v v' : V} (st : St j s H a w) (hv : s.get d = some v) (hle : ∀ x, conc w (own (H ++ j.F)) v x → conc w (own (H ++ j.F)) v' x) : St j ((d, v') :: s) H a w :=
  ⟨⟨st.sl.1, fun i u hu => by
    simp only [Sl.get] at hu
    cases e : Nat.beq i d
    · rw [e] at hu; exact st.sl.2 i u hu
    · rw [e] at hu
      simp at hu
      subst hu
      obtain rfl := Nat.eq_of_beq_eq_true e
      obtain ⟨x, h1, h2⟩ := st.sl.2 i v hv
      exact ⟨x, h1, hle x h2⟩⟩, st.hp, st.evo, st.df⟩
theorem st_forget {a : Act} {w : World} {s' : Sl} (st : St j s H a w) (h : ∀ i v, s'.get i = some v → s.get i = some v) : St j s' H a w :=
  ⟨⟨st.sl.1, fun i u hu => st.sl.2 i u (h i u hu)⟩, st.hp, st.evo, st.df⟩
theorem st_sub {a : Act} {w : World} {G : List Ch} (st : St j s H a w) (h : G.Sublist H) : St j s G a w := by
  have hs : (G ++ j.F).Sublist (H ++ j.F) := h.append_right _
  have hless : ∀ b, own (G ++ j.F) b → own (H ++ j.F) b := fun b hb => (hs.filterMap Ch.blk).mem hb
  have k : Keeps (own (H ++ j.F)) w (own (G ++ j.F)) w := ⟨Nat.le_refl _, fun _ _ _ => rfl, fun b _ h => hless b h⟩
  have hp' := st.hp.sub hs
  exact ⟨st.sl.keep k, ⟨hp'.nd, fun c hc => Ch.sat_keep k (hp'.sat c hc) fun _ _ => rfl⟩, st.evo.less fun b hb => (h.filterMap Ch.blk).mem hb, st.df⟩
theorem Take.sub {c : Ch} {l r : List Ch} (h : Take c l r) : r.Sublist l := by
  induction h with
  | here => exact List.sublist_cons_self _ _
  | there _ ih => exact ih.cons_cons _
theorem Take.mem {c : Ch} {l r : List Ch} (h : Take c l r) : c ∈ l := h.perm.mem_iff.2 (List.mem_cons_self ..)
/-- Nil is an empty slice of one's own. -/
theorem st_vec_nil {a : Act} {w : World} (st : St j s H a w) (E sz : Nat) : St j s (.vec (.slice none 0 0) E sz [] :: H) a w := by
  have hown : own (Ch.vec (.slice none 0 0) E sz [] :: H) = own H := rfl
  have hown2 : own (Ch.vec (.slice none 0 0) E sz [] :: H ++ j.F) = own (H ++ j.F) := rfl
  refine ⟨hown2 ▸ st.sl, ⟨?_, fun c hc => ?_⟩, hown ▸ st.evo, st.df⟩
  · exact st.hp.nd
  · rw [hown2]
    rcases List.mem_cons.1 hc with rfl | hc
    · exact ⟨[], World.ownsRow_nil _ _ _ _, rfl, by simp, by simp⟩
    · exact st.hp.sat c hc
theorem concRows_of {w : World} {ow : Nat → Prop} {b sz : Nat} (l : List Value) (hcell : ∀ i v, l[i]? = some v → w.cell? ⟨b, i, none⟩ = some v) (h1 : ∀ y ∈ l, y.oneCell' = true) : ∀ (rows : List (List V)) (o : Nat), (∀ r ∈ rows, r.length = sz) → concL w ow rows.flatten (l.drop o) → concRows w ow b sz o rows
  | [], o, hr, h => by simp [concRows]
  | r :: rows, o, hr, h => by
    have hrl := hr r (List.mem_cons_self ..)
    have key : ∀ (q : List V) (o : Nat) (rest : List V), concL w ow (q ++ rest) (l.drop o) → concAt w ow b o q ∧ concL w ow rest (l.drop (o + q.length)) := by
      intro q
      induction q with
      | nil => intro o rest h; exact ⟨by simp [concAt], by simpa using h⟩
      | cons v q ih =>
        intro o rest h
        rw [List.cons_append] at h
        simp only [concL] at h
        obtain ⟨x, xs, hx, k1, k2⟩ := h
        have hlo : l[o]? = some x := by
          have := congrArg (fun t => t[0]?) hx
          simpa using this
        have hxs : xs = l.drop (o + 1) := by
          have := congrArg List.tail hx
          simpa using this.symm
        subst hxs
        obtain ⟨m1, m2⟩ := ih (o + 1) rest k2
        exact ⟨⟨⟨x, hcell o x hlo, h1 x (List.mem_of_getElem? hlo), k1⟩, m1⟩, by simpa [Nat.add_assoc, Nat.add_comm 1] using m2⟩
    obtain ⟨m1, m2⟩ := key r o rows.flatten (by simpa using h)
    exact ⟨hrl, m1, concRows_of l hcell h1 rows (o + sz) (fun q hq => hr q (List.mem_cons_of_mem _ hq)) (hrl ▸ m2)⟩
/-- A slice of one's own that nobody will write any more. -/
theorem st_freeze {a : Act} {w : World} {sv : Value} {E sz : Nat} {rows : List (List V)} {H' : List Ch} (st : St j s H a w) (ht : Take (.vec sv E sz rows) H H') :
    St j s H' a w ∧ conc w (own (H' ++ j.F)) (.ro rows) sv := by
  have st' := st_sub st ht.sub
  refine ⟨st', ?_⟩
  have hpm : (H ++ j.F).Perm (Ch.vec sv E sz rows :: (H' ++ j.F)) := ht.perm.append_right _
  have hp := (own_funext hpm ▸ st.hp).perm hpm
  obtain ⟨l, ho, hl, h1, hr⟩ := hp.sat _ (List.mem_cons_self ..)
  simp only [conc]
  have hlen : l.length = rows.length * sz := ho.1
  rcases ho.2 with ⟨rfl, hn⟩ | ⟨g, cap, cur, rfl, _, hg, hc1, hc2, hcs, htk⟩
  · exact ⟨none, 0, by rw [hn], by omega, by omega, .inl ⟨List.eq_nil_of_length_eq_zero hn, fun _ => rfl⟩⟩
  · have hng : ¬ own (H' ++ j.F) g := by
      have := hp.nd
      simp only [blks, Ch.blk, Value.ownBlock, List.filterMap_cons, List.nodup_cons] at this
      exact this.1
    have k : Keeps (own (Ch.vec (.slice (some ⟨g, 0, none⟩) rows.length cap) E sz rows :: (H' ++ j.F))) w (own (H' ++ j.F)) w := ⟨Nat.le_refl _, fun _ _ _ => rfl, fun b _ h => by
      have h2 : b ∈ blks (H' ++ j.F) := h
      show b ∈ blks _
      simp only [blks, List.filterMap_cons, Ch.blk, Value.ownBlock, List.mem_cons]
      exact .inr h2⟩
    refine ⟨some ⟨g, 0, none⟩, cap, rfl, hc1, hc2, .inr ⟨g, 0, sz, rfl, (Array.getElem?_eq_some_iff.1 hg).1, hng, ?_⟩⟩
    refine concRows_of l (fun i v hv => ?_) h1 rows 0 hr (by simpa using concL_keep k _ _ hl)
    rw [cell_of_row w g i _ _ _ hg]
    rw [← htk, List.getElem?_take] at hv
    split at hv
    · simpa using hv
    · cases hv
theorem rl_freeze {l : List Oper} {d : Nat} {sv : Value} {E sz : Nat} {rows : List (List V)} {H' : List Ch} (hv : s.get d = some (.own sv)) (ht : Take (.vec sv E sz rows) H H') (h : RL j ops l Q ((d, .ro rows) :: s) H') : RL j ops l Q s H :=
  fun a w st => by
    obtain ⟨st', hc⟩ := st_freeze st ht
    exact h a w (st_slot st' hv fun x hx => by simp only [conc] at hx; rw [hx.1]; exact hc)
theorem aw_freeze {c : Code} {d : Nat} {sv : Value} {E sz : Nat} {rows : List (List V)} {H' : List Ch} (hv : s.get d = some (.own sv)) (ht : Take (.vec sv E sz rows) H H') (h : AW j c Q ((d, .ro rows) :: s) H') : AW j c Q s H :=
  fun a w st => by
    obtain ⟨st', hc⟩ := st_freeze st ht
    exact h a w (st_slot st' hv fun x hx => by simp only [conc] at hx; rw [hx.1]; exact hc)
/-- A temporary that holds nil becomes an empty slice of one's own. -/
theorem aw_nil_own {c : Code} (d E sz : Nat) (hv : s.get d = some (.raw (.slice none 0 0))) (h : AW j c Q ((d, .own (.slice none 0 0)) :: s) (.vec (.slice none 0 0) E sz [] :: H)) : AW j c Q s H :=
  fun a w st => h a w (st_slot (st_vec_nil st E sz) hv fun x hx => le_nil_own _ _ _ hx)
end Go.AX

/- AX 17: from what a row reads to abstract values, and back. -/
import Derived.ProofKit
import Derived.OpenShut
import Derived.JoinedCond
import Derived.Deep.Slices
import Derived.Test.YtobablbklkpchaaAxMore
set_option linter.unusedVariables false
set_option linter.unusedSimpArgs false
namespace Go.AX
open Go.ChangeShapes Go.WideShapes Go.ChangeAt Go.RowKit
/-- Nothing is owned. -/
abbrev ow0 : Nat → Prop := own []
theorem ow0_not (b : Nat) : ¬ ow0 b := by simp [own, blks]
/-- Cells that stand for abstract ones. -/
def Rdg (w : World) (cs : List Value) (vs : List V) : Prop := concL w ow0 vs cs ∧ ∀ y ∈ cs, y.oneCell' = true
section
variable {H : Type} {enc : TypeId × Value → H} {P : Program} {w : World} {t e : TypeId} {fuel : Nat} {cs : List Value} {d : DataW H} {ps : List MemPlace}
theorem rdg_one {x : Value} {v : V} (h : conc w ow0 v x) (h1 : x.oneCell' = true) : Rdg w [x] [v] := ⟨⟨x, [], rfl, h, rfl⟩, fun y hy => by rw [List.mem_singleton.1 hy]; exact h1⟩
theorem rdg_nil : Rdg w [] [] := ⟨rfl, by simp⟩
theorem rdg_append {cs cs' : List Value} {vs vs' : List V} (h : Rdg w cs vs) (h' : Rdg w cs' vs') : Rdg w (cs ++ cs') (vs ++ vs') := ⟨concL_append h.1 h'.1, fun y hy => by
  rcases List.mem_append.1 hy with hy | hy
  · exact h.2 y hy
  · exact h'.2 y hy⟩
theorem rdg_cons {x : Value} {cs : List Value} {v : V} {vs : List V} (h : Rdg w [x] [v]) (h' : Rdg w cs vs) : Rdg w (x :: cs) (v :: vs) := rdg_append h h'
theorem rdg_len {cs : List Value} {vs : List V} (h : Rdg w cs vs) : cs.length = vs.length := concL_length h.1
theorem rd_int {k : IntKind} (ht : P.underlying t = some (.int k)) (h : DataW.trod enc P w 0 (fun _ => true) true fuel t cs = some (d, ps)) : ∃ n, (Lit.int k n).wf = true ∧ d = .lit (.int k n) ∧ Rdg w cs [.raw (.int k n)] := by
  obtain ⟨n, rfl, hx, hw⟩ := DataW.trod_int ht h
  simp only [Prod.mk.injEq] at hx
  exact ⟨n, hw, hx.1, rdg_one rfl rfl⟩
theorem rd_bool (ht : P.underlying t = some .bool) (h : DataW.trod enc P w 0 (fun _ => true) true fuel t cs = some (d, ps)) : ∃ b, d = .lit (.bool b) ∧ Rdg w cs [.raw (.bool b)] := by
  obtain ⟨b, rfl, hx⟩ := DataW.trod_bool ht h
  simp only [Prod.mk.injEq] at hx
  exact ⟨b, hx.1, rdg_one rfl rfl⟩
theorem rd_string (ht : P.underlying t = some .string) (h : DataW.trod enc P w 0 (fun _ => true) true fuel t cs = some (d, ps)) : ∃ s : ByteArray, s.size ≤ maxLen ∧ d = .lit (.string s.data.toList) ∧ Rdg w cs [.raw (.string s)] := by
  obtain ⟨s, rfl, hx, hs⟩ := DataW.trod_string ht h
  simp only [Prod.mk.injEq] at hx
  exact ⟨s, hs, hx.1, rdg_one rfl rfl⟩
/-- A row of n cells. -/
theorem cells?_at {b o : Nat} {sp : Option Nat} : ∀ {n : Nat} {cs : List Value}, w.cells? 0 ⟨b, o, sp⟩ n = some cs → cs.length = n ∧ ∀ i v, cs[i]? = some v → w.cell? ((⟨b, o, sp⟩ : Addr).add i) = some v := by
  intro n cs h
  simp only [World.cells?, Nat.zero_le, if_true] at h
  have key : ∀ (l : List Nat) (cs : List Value), l.mapM (fun i => w.cell? ((⟨b, o, sp⟩ : Addr).add i)) = some cs → cs.length = l.length ∧ ∀ (i : Nat) (k : Nat) (v : Value), l[i]? = some k → cs[i]? = some v → w.cell? ((⟨b, o, sp⟩ : Addr).add k) = some v := by
    intro l
    induction l with
    | nil => intro cs h; simp at h; subst h; simp
    | cons a l ih =>
      intro cs h
      simp only [List.mapM_cons, Option.bind_eq_bind, Option.bind_eq_some_iff, Option.pure_def, Option.some.injEq] at h
      obtain ⟨x, h1, xs, h2, rfl⟩ := h
      obtain ⟨k1, k2⟩ := ih xs h2
      refine ⟨by simp [k1], fun i k v hi hv => ?_⟩
      cases i with
      | zero => simp at hi hv; subst hi hv; exact h1
      | succ i => exact k2 i k v (by simpa using hi) (by simpa using hv)
  obtain ⟨h1, h2⟩ := key _ _ h
  simp only [List.length_range] at h1
  refine ⟨h1, fun i v hv => h2 i i v ?_ hv⟩
  have : i < n := by rw [← h1]; exact (List.getElem?_eq_some_iff.1 hv).1
  simp [List.getElem?_range, this]
theorem concAt_of {b : Nat} : ∀ {vs : List V} {cs : List Value} {o : Nat}, Rdg w cs vs → (∀ i v, cs[i]? = some v → w.cell? ⟨b, o + i, none⟩ = some v) → concAt w ow0 b o vs
  | [], cs, o, h, _ => by simp [concAt]
  | v :: vs, cs, o, h, hc => by
    obtain ⟨h1, h2⟩ := h
    simp only [concL] at h1
    obtain ⟨x, xs, rfl, h3, h4⟩ := h1
    refine ⟨⟨x, by simpa using hc 0 x rfl, h2 x (List.mem_cons_self ..), h3⟩, concAt_of (cs := xs) ⟨h4, fun y hy => h2 y (List.mem_cons_of_mem _ hy)⟩ fun i v hv => ?_⟩
    have := hc (i + 1) v (by simpa using hv)
    rwa [show o + 1 + i = o + (i + 1) by omega]
theorem concRows_of_at {b sz : Nat} : ∀ {rows : List (List V)} {o : Nat}, (∀ (i : Nat) (r : List V), rows[i]? = some r → r.length = sz ∧ concAt w ow0 b (o + i * sz) r) → concRows w ow0 b sz o rows
  | [], o, _ => by simp [concRows]
  | r :: rs, o, h => by
    have h0 := h 0 r rfl
    refine ⟨h0.1, by simpa using h0.2, concRows_of_at fun i r' hr => ?_⟩
    have := h (i + 1) r' (by simpa using hr)
    refine ⟨this.1, ?_⟩
    rw [show o + sz + i * sz = o + (i + 1) * sz by rw [Nat.succ_mul]; omega]
    exact this.2
/-- A slice, opened: its elements are parts of the reading. -/
theorem rd_slice {Re : DataW H → List V → Prop} (ht : P.underlying t = some (.slice e)) (hc : 0 < P.cellsOf e) (h : DataW.trod enc P w 0 (fun _ => true) true fuel t cs = some (d, ps))
    (he : ∀ d', SizeOf.sizeOf d' < SizeOf.sizeOf d → ∀ fuel cs ps, DataW.trod enc P w 0 (fun _ => true) true fuel e cs = some (d', ps) → ∃ vs, Re d' vs ∧ Rdg w cs vs) :
    ∃ (rows : List (List V)) (ds spare : List (DataW H)), Rdg w cs [.ro rows] ∧ ds.length = rows.length ∧ (∀ (i : Nat) (d : DataW H) (r : List V), ds[i]? = some d → rows[i]? = some r → Re d r) ∧ (∀ r ∈ rows, r.length = P.cellsOf e) ∧ rows.length ≤ maxLen ∧ ((d = .nil ∧ rows = []) ∨ d = .slice ds spare) := by
  rcases Go.Deep.open_slice ht h with ⟨rfl, hx⟩ | ⟨a, len, cap, m, n, D, Pl, rfl, _, hl, hm, hmm, hx, hel⟩
  · simp only [Prod.mk.injEq] at hx
    exact ⟨[], [], [], rdg_one (le_nil_ro w ow0 _ rfl) rfl, rfl, by simp, by simp, by simp [maxLen], .inl ⟨hx.1, rfl⟩⟩
  · simp only [if_true] at hmm
    subst hmm
    simp only [Prod.mk.injEq] at hx
    obtain ⟨hd, _⟩ := hx
    have hrow : ∀ i, i < len → ∃ cs' r, w.cells? 0 (a.add (i * P.cellsOf e)) (P.cellsOf e) = some cs' ∧ Re (D i) r ∧ Rdg w cs' r := fun i hi => by
      obtain ⟨cs', h1, h2⟩ := hel i (by omega)
      have hs : SizeOf.sizeOf (D i) < SizeOf.sizeOf d := by
        rw [hd]
        have hmem : D i ∈ (List.range len).map D := List.mem_map.2 ⟨i, List.mem_range.2 hi, rfl⟩
        have := List.sizeOf_lt_of_mem hmem
        simp only [DataW.slice.sizeOf_spec]
        omega
      obtain ⟨r, h3, h4⟩ := he _ hs _ _ _ h2
      exact ⟨cs', r, h1, h3, h4⟩
    have hrow' : ∀ i, ∃ r, i < len → ∃ cs', w.cells? 0 (a.add (i * P.cellsOf e)) (P.cellsOf e) = some cs' ∧ Re (D i) r ∧ Rdg w cs' r := fun i => by
      by_cases hi : i < len
      · obtain ⟨cs', r, h⟩ := hrow i hi
        exact ⟨r, fun _ => ⟨cs', h⟩⟩
      · exact ⟨[], fun h => absurd h hi⟩
    have hch := Classical.axiomOfChoice hrow'
    obtain ⟨f, hf⟩ := hch
    have hget : ∀ i r, ((List.range len).map f)[i]? = some r → i < len ∧ r = f i := fun i r hr => by
      have hi : i < len := by simpa using (List.getElem?_eq_some_iff.1 hr).1
      refine ⟨hi, ?_⟩
      simp [List.getElem?_range, hi] at hr
      exact hr.symm
    refine ⟨(List.range len).map f, (List.range len).map D, (List.range (m - len)).map fun j => D (len + j), rdg_one ?_ rfl, by simp, ?_, ?_, by simp; omega, .inr hd⟩
    · simp only [conc]
      refine ⟨some a, m, by simp, by simpa using hl, hm, ?_⟩
      by_cases h0 : len = 0
      · subst h0
        exact .inl ⟨rfl, fun h => by cases h⟩
      · right
        obtain ⟨b, o, sp⟩ := a
        obtain ⟨cs0, h1, _, h2⟩ := hf 0 (by omega)
        have hz : (⟨b, o, sp⟩ : Addr).add (0 * P.cellsOf e) = ⟨b, o, sp⟩ := by simp [Addr.add]
        rw [hz] at h1
        obtain ⟨k1, k2⟩ := cells?_at h1
        obtain ⟨c0, hc0⟩ : ∃ c, cs0[0]? = some c := ⟨_, List.getElem?_eq_getElem (by omega)⟩
        have hcell := k2 0 c0 hc0
        simp only [Addr.add, if_true] at hcell
        have hsp : sp = none := by
          simp only [World.cell?] at hcell
          split at hcell
          · cases sp with
            | none => rfl
            | some q => simp at hcell
          · cases hcell
        subst hsp
        have hblk : b < w.heap.size := by
          simp only [World.cell?] at hcell
          split at hcell
          · rename_i hh; exact (Array.getElem?_eq_some_iff.1 hh).1
          · cases hcell
        refine ⟨b, o, P.cellsOf e, rfl, hblk, ow0_not b, concRows_of_at fun i r hr => ?_⟩
        obtain ⟨hi, rfl⟩ := hget i r hr
        obtain ⟨cs', h3, _, h4⟩ := hf i hi
        rw [Addr.add_lit] at h3
        obtain ⟨k3, k4⟩ := cells?_at h3
        refine ⟨(rdg_len h4).symm.trans k3, concAt_of h4 fun q v hv => ?_⟩
        have := k4 q v hv
        rwa [Addr.add_lit] at this
    · intro i d' r hd' hr
      obtain ⟨hi, rfl⟩ := hget i r hr
      obtain ⟨_, _, h3, _⟩ := hf i hi
      simp [List.getElem?_range, hi] at hd'
      exact hd' ▸ h3
    · intro r hr
      obtain ⟨i, hi, rfl⟩ := List.mem_map.1 hr
      obtain ⟨cs', h3, _, h4⟩ := hf i (List.mem_range.1 hi)
      obtain ⟨b, o, sp⟩ := a
      have : cs'.length = P.cellsOf e := by
        cases hq : (⟨b, o, sp⟩ : Addr).add (i * P.cellsOf e) with
        | mk b' o' sp' =>
          rw [hq] at h3
          exact (cells?_at h3).1
      exact (rdg_len h4).symm.trans this
/-- A struct, opened. -/
theorem rd_struct {fs : Array Field} (ht : P.underlying t = some (.struct fs)) (h : DataW.trod enc P w 0 (fun _ => true) true fuel t cs = some (d, ps)) :
    cs.length = P.cellsOf t ∧ ∃ n, ∃ xs : List (DataW H × List MemPlace), d = .agg (xs.map (·.1)) ∧ xs.length = fs.size ∧ ∀ (i : Nat) (f : Field), fs[i]? = some f → ∃ d' ps', (xs.map (·.1))[i]? = some d' ∧ DataW.trod enc P w 0 (fun _ => true) true n f.type ((cs.drop f.offset).take (P.cellsOf f.type)) = some (d', ps') := by
  obtain ⟨xs, n, _, hx, hl, hlen, hf⟩ := DataW.trod_struct ht h
  simp only [Prod.mk.injEq] at hx
  refine ⟨hl, n, xs, hx.1, hlen, fun i f hi => ?_⟩
  have hlt : i < fs.size := (Array.getElem?_eq_some_iff.1 hi).1
  have := hf i f hi
  refine ⟨(xs[i]'(by omega)).1, (xs[i]'(by omega)).2, by simp [List.getElem?_map, List.getElem?_eq_getElem (show i < xs.length by omega)], ?_⟩
  rw [this, List.getElem?_eq_getElem (show i < xs.length by omega)]
theorem mapM_cons_some {α β : Type} {g : α → Option β} {a : α} {l : List α} {ys : List β} (h : (a :: l).mapM g = some ys) : ∃ y ys', g a = some y ∧ l.mapM g = some ys' ∧ ys = y :: ys' := by
  simp only [List.mapM_cons, Option.bind_eq_bind, Option.bind_eq_some_iff, Option.pure_def, Option.some.injEq] at h
  obtain ⟨y, h1, ys', h2, rfl⟩ := h
  exact ⟨y, ys', h1, h2, rfl⟩
theorem mapM_nil_some {α β : Type} {g : α → Option β} {ys : List β} (h : [].mapM g = some ys) : ys = [] := by simpa using h.symm
end
/-! ### A call, from what its arguments are -/
theorem calls_of_fun {P : Program} {f : FuncId} {vs : List V} {v : V} (h : Fun P f vs v) {W : World} {xs : List Value} (hx : concL W ow0 vs xs) :
    Calls P f xs.toArray W fun e w' => ∃ x, e = .returned x ∧ conc w' ow0 v x ∧ Below W.heap.size W w' := by
  refine (h [] W xs ⟨by simp [blks], by simp⟩ hx).mono fun e w' ⟨ae, H', h1, _, _, h4, u, hae, hu, hH⟩ => ?_
  subst hae hu hH
  obtain ⟨x, rfl, hx⟩ := h1
  exact ⟨x, rfl, hx, ⟨h4.os, h4.tape, h4.output, h4.size, fun k hk => h4.block k hk (ow0_not k)⟩⟩
section
variable {H : Type} {enc : TypeId × Value → H} {P : Program}
theorem trodAll_below (hl : laidOutB P = true) {W W' : World} (hb : Below W.heap.size W W') {sp : Nat → Bool} : ∀ {ts : List TypeId} {vs : List Value} {ds : List (DataW H)} {p : List MemPlace}, ts.all (fun t => P.readableRec t && decide (t < P.types.size)) = true →
    DataW.TrodAll enc P W 0 (fun _ => true) true ts vs ds p → (∀ x ∈ p, x.block < W.heap.size) → (∀ x ∈ p, sp x.block = true) → DataW.TrodAll enc P W' 0 sp true ts vs ds p
  | [], vs, ds, p, _, h, _, _ => by
    obtain ⟨rfl, rfl, rfl⟩ := trodAll_nil h
    exact trodAll_mk0
  | t :: ts, vs, ds, p, hr, h, hlt, hsp => by
    obtain ⟨v, vs1, d, ds1, a, b, rfl, rfl, rfl, h1, h2⟩ := trodAll_cons h
    simp only [List.all_cons, Bool.and_eq_true, decide_eq_true_eq] at hr
    refine trodAll_cons_mk (WideElems.Trod_stays hl hr.1.1 hr.1.2 h1 (fun x hx => hb.same (hlt x (List.mem_append_left _ hx))) fun x hx => hsp x (List.mem_append_left _ hx)) ?_
    exact trodAll_below hl hb hr.2 h2 (fun x hx => hlt x (List.mem_append_right _ hx)) fun x hx => hsp x (List.mem_append_right _ hx)
/-- A law that returns true and turns nothing. -/
theorem post_true {f : Func} {s : ChangeSpec} {apart fresh handsOn again : Bool} {W W' : World} {args : Array Value} {ds gs : List (DataW H)} {before : List MemPlace} {tb : TypeId}
    (hl : laidOutB P = true) (hrd : f.params.toList.all (fun t => P.readableRec t && decide (t < P.types.size)) = true) (hvars : s.vars = []) (hrt : f.resultTypes = #[tb]) (hub : P.underlying tb = some .bool)
    (hW : DataW.Whole enc P f.params.toList s.vars apart W args.toList ds gs before) (hs : s.fn H (ds ++ gs) = { results := [.lit (.bool true)], args := ds, vars := [] }) (hb : Below W.heap.size W W') :
    s.post enc P f apart fresh handsOn again W args (.bool true) W' := by
  have hlt := hW.lt
  obtain ⟨p, q, hA, hV, hpq, hz, hn⟩ := id hW
  rw [hvars] at hV
  obtain ⟨rfl, rfl⟩ := trodVars_none hV
  rw [List.append_nil] at hpq
  subst hpq
  have hres : ∀ (b : Nat) (sp : Nat → Bool) (hd : Bool), DataW.TrodAll enc P W' b sp hd f.resultTypes.toList ((Value.bool true).resultList f.resultTypes.size) (s.fn H (ds ++ [])).results [] := fun b sp hd => by
    rw [hs, hrt]
    exact trodAll_cons_mk (shut_bool hub true) trodAll_mk0
  have hargs : ∀ sp : Nat → Bool, (∀ x ∈ before, sp x.block = true) → DataW.TrodAll enc P W' 0 sp true f.params.toList args.toList (s.fn H (ds ++ [])).args before := fun sp hsp => by
    rw [hs]
    exact trodAll_below hl hb hrd hA hlt hsp
  have hvr : ∀ sp : Nat → Bool, DataW.TrodVars enc P W' sp s.vars (s.fn H (ds ++ [])).vars [] := fun sp => by
    rw [hs, hvars]
    exact rfl
  have hold : ∀ p ∈ before, (fun b => decide (b < W.heap.size)) p.block = true := fun p hp => by simpa using hlt p hp
  refine ⟨ds, [], before, [], before, [], hW, hres _ _ _, hargs _ hold, hvr _, World.keptBut_mono (fun p hp => ⟨hp, Or.inr (Or.inl hp)⟩) (hb.frame _), fun _ => ?_⟩
  refine ⟨ok_one hrt rfl (okWide_bool_mk hub true), _, _, ([] ++ before) ++ [], ⟨[] ++ before, [], trodAll_append (hargs _ (fun _ _ => rfl)) (hres _ _ _), hvr _, rfl, ?_, ?_⟩, ?_⟩
  · intro b off hp
    have hp' : MemPlace.cell b off ∈ before := by simpa using hp
    rw [hb.frozen (p := ⟨b, off, none⟩) (hlt _ hp')]
    exact hz b off hp'
  · intro ha
    simpa using hn ha
  · intro p hp _
    simpa using hp
end
end Go.AX

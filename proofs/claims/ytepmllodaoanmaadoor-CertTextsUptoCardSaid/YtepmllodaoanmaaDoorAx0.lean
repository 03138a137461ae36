/- AX 23: from the reading of a call's arguments to its contract. -/
import Derived.WalkKit
import Derived.OrdersHeld
import Derived.LoopNIn
import Derived.OrdersIn
import Derived.TacticsIn
import Derived.RangeFuncCalls
import Derived.IntWalk
import Derived.Lib.Strings
import Derived.WalkLawsBesides
import Derived.Laws.OwnMore
import Derived.Laws.StructEq
import Derived.ProofKit
import Derived.OpenShut
import Derived.JoinedCond
import Derived.Deep.Slices
set_option linter.unusedVariables false
namespace Go.AX

/-- Abstract values: `ro` is a slice in memory that nobody writes any more, told by its rows of cells; `rop` a pointer into such memory; `own` a slice whose memory a chunk owns; `vp` a pointer into an element of such a slice. -/
inductive V where
  | raw (v : Value)
  | ro (rows : List (List V))
  | rop (cells : List V) (off : Nat)
  | agg (cells : List V)
  | tup (vs : List V)
  | fn (f : FuncId) (cap : List V)
  | mf (f : FuncId) (first : List V)
  | ifc (t : TypeId) (v : V)
  | own (sv : Value)
  | vp (sv : Value) (sz i off : Nat)

mutual
def conc (w : World) (ow : Nat → Prop) : V → Value → Prop
  | .raw v, x => x = v
  | .ro rows, x => ∃ A c, x = .slice A rows.length c ∧ rows.length ≤ c ∧ c ≤ maxLen ∧
      ((rows = [] ∧ (A = none → c = 0)) ∨ ∃ b o sz, A = some ⟨b, o, none⟩ ∧ b < w.heap.size ∧ ¬ ow b ∧ concRows w ow b sz o rows)
  | .rop cs off, x => ∃ b o, x = .pointer (some ⟨b, o + off, none⟩) ∧ b < w.heap.size ∧ ¬ ow b ∧ concAt w ow b o cs
  | .agg cs, x => ∃ l : List Value, x = .agg l.toArray ∧ concL w ow cs l ∧ ∀ y ∈ l, y.oneCell' = true
  | .tup vs, x => ∃ l : List Value, x = .tuple l.toArray ∧ concL w ow vs l
  | .fn f cap, x => ∃ l : List Value, x = .func (.func f) #[] l.toArray ∧ concL w ow cap l
  | .mf f first, x => ∃ l : List Value, x = .func (.func f) l.toArray #[] ∧ concL w ow first l
  | .ifc t v, x => ∃ y, x = .iface t y ∧ conc w ow v y
  | .own sv, x => x = sv ∧ sv.oneCell' = true
  | .vp sv sz i off, x => ∃ b n c, sv = .slice (some ⟨b, 0, none⟩) n c ∧ x = .pointer (some ⟨b, i * sz + off, none⟩)
def concL (w : World) (ow : Nat → Prop) : List V → List Value → Prop
  | [], l => l = []
  | v :: vs, l => ∃ x xs, l = x :: xs ∧ conc w ow v x ∧ concL w ow vs xs
def concAt (w : World) (ow : Nat → Prop) (b : Nat) : Nat → List V → Prop
  | _, [] => True
  | o, v :: vs => (∃ x, w.cell? ⟨b, o, none⟩ = some x ∧ x.oneCell' = true ∧ conc w ow v x) ∧ concAt w ow b (o + 1) vs
def concRows (w : World) (ow : Nat → Prop) (b sz : Nat) : Nat → List (List V) → Prop
  | _, [] => True
  | o, r :: rs => r.length = sz ∧ concAt w ow b o r ∧ concRows w ow b sz (o + sz) rs
end

/-- What has become of a world: the blocks that stood and were not owned are as they were. -/
structure Evo (ow : Nat → Prop) (w : World) (ow' : Nat → Prop) (w' : World) : Prop where
  os : w'.os = w.os
  tape : w'.tape = w.tape
  output : w'.output = w.output
  size : w.heap.size ≤ w'.heap.size
  block : ∀ b, b < w.heap.size → ¬ ow b → w'.heap[b]? = w.heap[b]?
  grow : ∀ b, ow' b → ow b ∨ w.heap.size ≤ b

theorem Evo.refl (ow : Nat → Prop) (w : World) : Evo ow w ow w := ⟨rfl, rfl, rfl, Nat.le_refl _, fun _ _ _ => rfl, fun _ h => .inl h⟩
theorem Evo.trans {o1 o2 o3 : Nat → Prop} {w1 w2 w3 : World} (h : Evo o1 w1 o2 w2) (k : Evo o2 w2 o3 w3) : Evo o1 w1 o3 w3 where
  os := k.os.trans h.os
  tape := k.tape.trans h.tape
  output := k.output.trans h.output
  size := Nat.le_trans h.size k.size
  block b hb ho := (k.block b (Nat.lt_of_lt_of_le hb h.size) (fun h2 => by
    rcases h.grow b h2 with h3 | h3
    · exact ho h3
    · omega)).trans (h.block b hb ho)
  grow b hb := by
    rcases k.grow b hb with h2 | h2
    · exact h.grow b h2
    · exact .inr (Nat.le_trans h.size h2)
/-- Fewer blocks are owned behind it. -/
theorem Evo.less {o1 o2 o3 : Nat → Prop} {w1 w2 : World} (h : Evo o1 w1 o2 w2) (k : ∀ b, o3 b → o2 b) : Evo o1 w1 o3 w2 :=
  { h with grow := fun b hb => h.grow b (k b hb) }
/-- A frame of blocks that are owned besides. -/
theorem Evo.frame {o1 o2 of : Nat → Prop} {w1 w2 : World} (h : Evo o1 w1 o2 w2) : Evo (fun b => o1 b ∨ of b) w1 (fun b => o2 b ∨ of b) w2 :=
  { h with
    block := fun b hb ho => h.block b hb (fun h1 => ho (.inl h1))
    grow := fun b hb => by
      rcases hb with hb | hb
      · rcases h.grow b hb with h2 | h2
        · exact .inl (.inl h2)
        · exact .inr h2
      · exact .inl (.inr hb) }
theorem Evo.draw (ow : Nat → Prop) (w : World) (n : Nat) : Evo ow w ow { w with drawn := n } := ⟨rfl, rfl, rfl, Nat.le_refl _, fun _ _ _ => rfl, fun _ h => .inl h⟩

/-- How the two sides of a reading hang together. -/
structure Keeps (ow : Nat → Prop) (w : World) (ow' : Nat → Prop) (w' : World) : Prop where
  size : w.heap.size ≤ w'.heap.size
  block : ∀ b, b < w.heap.size → ¬ ow b → w'.heap[b]? = w.heap[b]?
  less : ∀ b, b < w.heap.size → ow' b → ow b
theorem Evo.keeps {ow ow' : Nat → Prop} {w w' : World} (h : Evo ow w ow' w') : Keeps ow w ow' w' :=
  ⟨h.size, h.block, fun b hb ho => by
    rcases h.grow b ho with h2 | h2
    · exact h2
    · omega⟩

mutual
theorem conc_keep {ow ow' : Nat → Prop} {w w' : World} (k : Keeps ow w ow' w') : ∀ (v : V) (x : Value), conc w ow v x → conc w' ow' v x
  | .raw v, x, h => h
  | .ro rows, x, h => by
    simp only [conc] at h ⊢
    obtain ⟨A, c, rfl, h1, h2, h3⟩ := h
    refine ⟨A, c, rfl, h1, h2, ?_⟩
    rcases h3 with h3 | ⟨b, o, sz, rfl, hb, ho, hr⟩
    · exact .inl h3
    · exact .inr ⟨b, o, sz, rfl, Nat.lt_of_lt_of_le hb k.size, fun h4 => ho (k.less b hb h4), concRows_keep k b sz hb ho o rows hr⟩
  | .rop cs off, x, h => by
    simp only [conc] at h ⊢
    obtain ⟨b, o, rfl, hb, ho, hr⟩ := h
    exact ⟨b, o, rfl, Nat.lt_of_lt_of_le hb k.size, fun h4 => ho (k.less b hb h4), concAt_keep k b hb ho o cs hr⟩
  | .agg cs, x, h => by
    simp only [conc] at h ⊢
    obtain ⟨l, rfl, hl, h1⟩ := h
    exact ⟨l, rfl, concL_keep k cs l hl, h1⟩
  | .tup vs, x, h => by
    simp only [conc] at h ⊢
    obtain ⟨l, rfl, hl⟩ := h
    exact ⟨l, rfl, concL_keep k vs l hl⟩
  | .fn f cap, x, h => by
    simp only [conc] at h ⊢
    obtain ⟨l, rfl, hl⟩ := h
    exact ⟨l, rfl, concL_keep k cap l hl⟩
  | .mf f first, x, h => by
    simp only [conc] at h ⊢
    obtain ⟨l, rfl, hl⟩ := h
    exact ⟨l, rfl, concL_keep k first l hl⟩
  | .ifc t v, x, h => by
    simp only [conc] at h ⊢
    obtain ⟨y, rfl, hy⟩ := h
    exact ⟨y, rfl, conc_keep k v y hy⟩
  | .own sv, x, h => h
  | .vp sv sz i off, x, h => h
theorem concL_keep {ow ow' : Nat → Prop} {w w' : World} (k : Keeps ow w ow' w') : ∀ (vs : List V) (l : List Value), concL w ow vs l → concL w' ow' vs l
  | [], l, h => h
  | v :: vs, l, h => by
    simp only [concL] at h ⊢
    obtain ⟨x, xs, rfl, h1, h2⟩ := h
    exact ⟨x, xs, rfl, conc_keep k v x h1, concL_keep k vs xs h2⟩
theorem concAt_keep {ow ow' : Nat → Prop} {w w' : World} (k : Keeps ow w ow' w') (b : Nat) (hb : b < w.heap.size) (ho : ¬ ow b) : ∀ (o : Nat) (vs : List V), concAt w ow b o vs → concAt w' ow' b o vs
  | _, [], h => h
  | o, v :: vs, h => by
    simp only [concAt] at h ⊢
    obtain ⟨⟨x, h1, h2, h3⟩, h4⟩ := h
    exact ⟨⟨x, (World.cell?_of_block (k.block b hb ho)).trans h1, h2, conc_keep k v x h3⟩, concAt_keep k b hb ho (o + 1) vs h4⟩
theorem concRows_keep {ow ow' : Nat → Prop} {w w' : World} (k : Keeps ow w ow' w') (b sz : Nat) (hb : b < w.heap.size) (ho : ¬ ow b) : ∀ (o : Nat) (rs : List (List V)), concRows w ow b sz o rs → concRows w' ow' b sz o rs
  | _, [], h => h
  | o, r :: rs, h => by
    simp only [concRows] at h ⊢
    obtain ⟨h1, h2, h3⟩ := h
    exact ⟨h1, concAt_keep k b hb ho o r h2, concRows_keep k b sz hb ho (o + sz) rs h3⟩
end
theorem conc_evo {ow ow' : Nat → Prop} {w w' : World} (k : Evo ow w ow' w') {v : V} {x : Value} (h : conc w ow v x) : conc w' ow' v x := conc_keep k.keeps v x h
theorem concL_evo {ow ow' : Nat → Prop} {w w' : World} (k : Evo ow w ow' w') {v : List V} {x : List Value} (h : concL w ow v x) : concL w' ow' v x := concL_keep k.keeps v x h
theorem concL_length {ow : Nat → Prop} {w : World} : ∀ {vs : List V} {l : List Value}, concL w ow vs l → l.length = vs.length
  | [], l, h => by simp only [concL] at h; simp [h]
  | v :: vs, l, h => by
    simp only [concL] at h
    obtain ⟨x, xs, rfl, _, h2⟩ := h
    simp [concL_length h2]
theorem concL_append {ow : Nat → Prop} {w : World} : ∀ {vs us : List V} {l m : List Value}, concL w ow vs l → concL w ow us m → concL w ow (vs ++ us) (l ++ m)
  | [], us, l, m, h, k => by simp only [concL] at h; subst h; exact k
  | v :: vs, us, l, m, h, k => by
    simp only [concL] at h
    obtain ⟨x, xs, rfl, h1, h2⟩ := h
    exact ⟨x, xs ++ m, rfl, h1, concL_append h2 k⟩
theorem concL_get {ow : Nat → Prop} {w : World} : ∀ {vs : List V} {l : List Value}, concL w ow vs l → ∀ (i : Nat) (v : V), vs[i]? = some v → ∃ x, l[i]? = some x ∧ conc w ow v x
  | [], l, h, i, v, hv => by simp at hv
  | u :: vs, l, h, i, v, hv => by
    simp only [concL] at h
    obtain ⟨x, xs, rfl, h1, h2⟩ := h
    cases i with
    | zero => simp at hv; subst hv; exact ⟨x, rfl, h1⟩
    | succ i => simpa using concL_get h2 i v (by simpa using hv)
theorem concL_set {ow : Nat → Prop} {w : World} : ∀ {vs : List V} {l : List Value}, concL w ow vs l → ∀ (i : Nat) (v : V) (x : Value), conc w ow v x → concL w ow (vs.set i v) (l.set i x)
  | [], l, h, i, v, x, hv => by simp only [concL] at h; subst h; simp [concL]
  | u :: vs, l, h, i, v, x, hv => by
    simp only [concL] at h
    obtain ⟨y, ys, rfl, h1, h2⟩ := h
    cases i with
    | zero => exact ⟨x, ys, rfl, hv, h2⟩
    | succ i => exact ⟨y, ys.set i x, rfl, h1, concL_set h2 i v x hv⟩
theorem concL_take {ow : Nat → Prop} {w : World} : ∀ {vs : List V} {l : List Value}, concL w ow vs l → ∀ n, concL w ow (vs.take n) (l.take n)
  | [], l, h, n => by simp only [concL] at h; subst h; simp [concL]
  | u :: vs, l, h, n => by
    simp only [concL] at h
    obtain ⟨y, ys, rfl, h1, h2⟩ := h
    cases n with
    | zero => simp [concL]
    | succ n => exact ⟨y, ys.take n, rfl, h1, concL_take h2 n⟩
theorem concL_drop {ow : Nat → Prop} {w : World} : ∀ {vs : List V} {l : List Value}, concL w ow vs l → ∀ n, concL w ow (vs.drop n) (l.drop n)
  | [], l, h, n => by simp only [concL] at h; subst h; simp [concL]
  | u :: vs, l, h, n => by
    simp only [concL] at h
    obtain ⟨y, ys, rfl, h1, h2⟩ := h
    cases n with
    | zero => exact ⟨y, ys, rfl, h1, h2⟩
    | succ n => simpa using concL_drop h2 n

/-- What a function value calls: the function, what stands ahead of its arguments, what stands behind them. -/
def asFn : Option V → Option (FuncId × List V × List V)
  | some (.fn f cap) => some (f, [], cap)
  | some (.mf f first) => some (f, first, [])
  | _ => none
theorem asFn_conc {w : World} {ow : Nat → Prop} {o : Option V} {v : V} {x : Value} {f : FuncId} {b cap : List V} (ho : o = some v) (h : asFn o = some (f, b, cap)) (hc : conc w ow v x) :
    ∃ l m : List Value, x = .func (.func f) l.toArray m.toArray ∧ concL w ow b l ∧ concL w ow cap m := by
  subst ho
  cases v <;> simp only [asFn, Option.some.injEq, Prod.mk.injEq, reduceCtorEq] at h
  · obtain ⟨rfl, rfl, rfl⟩ := h
    simp only [conc] at hc
    obtain ⟨l, rfl, hl⟩ := hc
    exact ⟨[], l, rfl, rfl, hl⟩
  · obtain ⟨rfl, rfl, rfl⟩ := h
    simp only [conc] at hc
    obtain ⟨l, rfl, hl⟩ := hc
    exact ⟨l, [], rfl, hl, rfl⟩
/-! ### Chunks of memory that are owned -/
inductive Ch where
  | box (b : Nat) (T : TypeId) (cells : List V)
  | vec (sv : Value) (E : TypeId) (sz : Nat) (rows : List (List V))
  | obj (b : Nat) (o : Obj)
def Ch.blk : Ch → Option Nat
  | .box b _ _ => some b
  | .vec sv _ _ _ => sv.ownBlock
  | .obj b _ => some b
def blks (H : List Ch) : List Nat := H.filterMap Ch.blk
def own (H : List Ch) (b : Nat) : Prop := b ∈ blks H
def Ch.sat (w : World) (ow : Nat → Prop) : Ch → Prop
  | .box b T cells => ∃ l : List Value, w.heap[b]? = some (.cells l.toArray T (0, 0)) ∧ concL w ow cells l ∧ ∀ y ∈ l, y.oneCell' = true
  | .vec sv E sz rows => ∃ l : List Value, w.ownsRow 0 E sz sv rows.length l ∧ concL w ow rows.flatten l ∧ (∀ y ∈ l, y.oneCell' = true) ∧ ∀ r ∈ rows, r.length = sz
  | .obj b o => w.heap[b]? = some o
structure Hp (ow : Nat → Prop) (H : List Ch) (w : World) : Prop where
  nd : (blks H).Nodup
  sat : ∀ c ∈ H, c.sat w ow
theorem blks_append (H G : List Ch) : blks (H ++ G) = blks H ++ blks G := by simp [blks]
theorem own_append (H G : List Ch) (b : Nat) : own (H ++ G) b ↔ own H b ∨ own G b := by simp [own, blks_append]
theorem own_perm {H G : List Ch} (h : H.Perm G) (b : Nat) : own H b ↔ own G b := (h.filterMap Ch.blk).mem_iff
theorem own_funext {H G : List Ch} (h : H.Perm G) : own H = own G := funext fun b => propext (own_perm h b)
theorem Hp.perm {ow : Nat → Prop} {H G : List Ch} {w : World} (h : Hp ow H w) (p : H.Perm G) : Hp ow G w :=
  ⟨(p.filterMap Ch.blk).nodup_iff.1 h.nd, fun c hc => h.sat c (p.mem_iff.2 hc)⟩
theorem Hp.sub {ow : Nat → Prop} {H G : List Ch} {w : World} (h : Hp ow H w) (p : G.Sublist H) : Hp ow G w :=
  ⟨(p.filterMap Ch.blk).nodup h.nd, fun c hc => h.sat c (p.mem hc)⟩
theorem Ch.blk_lt {w : World} {ow : Nat → Prop} {c : Ch} (h : c.sat w ow) {b : Nat} (hb : c.blk = some b) : b < w.heap.size := by
  cases c with
  | box b' T cells =>
    simp only [Ch.blk, Option.some.injEq] at hb
    subst hb
    obtain ⟨l, hl, _⟩ := h
    exact (Array.getElem?_eq_some_iff.1 hl).1
  | vec sv E sz rows =>
    obtain ⟨l, hl, _⟩ := h
    exact (hl.lt b hb).2
  | obj b' o =>
    simp only [Ch.blk, Option.some.injEq] at hb
    subst hb
    exact (Array.getElem?_eq_some_iff.1 h).1
theorem own_lt {w : World} {ow : Nat → Prop} {H : List Ch} (h : Hp ow H w) {b : Nat} (hb : own H b) : b < w.heap.size := by
  obtain ⟨c, hc, hcb⟩ := List.mem_filterMap.1 hb
  exact Ch.blk_lt (h.sat c hc) hcb
theorem ownsRow_same {w w' : World} {base e size n : Nat} {v : Value} {xs : List Value} (h : w.ownsRow base e size v n xs) (hs : ∀ b, v.ownBlock = some b → w'.heap[b]? = w.heap[b]?) : w'.ownsRow base e size v n xs := by
  refine ⟨h.1, ?_⟩
  rcases h.2 with hn | ⟨g, cap, cur, rfl, hb, hgg, rest⟩
  · exact .inl hn
  · exact .inr ⟨g, cap, cur, rfl, hb, by rw [hs g rfl]; exact hgg, rest⟩
/-- A chunk whose block is as it was. -/
theorem Ch.sat_keep {w w' : World} {ow ow' : Nat → Prop} (k : Keeps ow w ow' w') {c : Ch} (h : c.sat w ow) (hs : ∀ b, c.blk = some b → w'.heap[b]? = w.heap[b]?) : c.sat w' ow' := by
  cases c with
  | box b T cells =>
    obtain ⟨l, h1, h2, h3⟩ := h
    exact ⟨l, (hs b rfl).trans h1, concL_keep k _ _ h2, h3⟩
  | vec sv E sz rows =>
    obtain ⟨l, h1, h2, h3, h4⟩ := h
    exact ⟨l, ownsRow_same h1 hs, concL_keep k _ _ h2, h3, h4⟩
  | obj b o => exact (hs b rfl).trans h
/-- What is owned besides, when something else has been done. -/
theorem Hp.frame {w w' : World} {o1 o2 ow' : Nat → Prop} {G : List Ch} (h : Hp o1 G w) (k : Keeps o1 w ow' w') (e : Evo o2 w ow' w' ∨ ∀ b, own G b → w'.heap[b]? = w.heap[b]?) (d : ∀ b, own G b → ¬ o2 b) : Hp ow' G w' := by
  refine ⟨h.nd, fun c hc => Ch.sat_keep k (h.sat c hc) fun b hb => ?_⟩
  have hob : own G b := List.mem_filterMap.2 ⟨c, hc, hb⟩
  rcases e with e | e
  · exact e.block b (own_lt h hob) (d b hob)
  · exact e b hob

/-! ### Slots -/
abbrev Sl := List (Nat × V)
def Sl.get : Sl → Nat → Option V
  | [], _ => none
  | (j, v) :: r, i => bif Nat.beq i j then some v else Sl.get r i
def Sl.put (s : Sl) (d : Option Nat) (v : V) : Sl :=
  match d with
  | some d => (d, v) :: s
  | none => s
theorem concL_raw {w : World} {ow : Nat → Prop} : ∀ l : List Value, concL w ow (l.map .raw) l
  | [] => rfl
  | x :: l => ⟨x, l, rfl, rfl, concL_raw l⟩
/-- What an operand is. -/
def Sl.ev (s : Sl) : Operand → Option V
  | .tmp t => s.get t
  | .const (.agg l) => bif l.toList.all Value.oneCell' then some (.agg (l.toList.map .raw)) else some (.raw (.agg l))
  | .const v => some (.raw v)
  | .global g => some (.raw (.pointer (some ⟨g, 0, none⟩)))
  | .func f => some (.fn f [])
theorem conc_const {s : Sl} {w : World} {ow : Nat → Prop} (c : Value) {v : V} (h : s.ev (.const c) = some v) : conc w ow v c := by
  cases c with
  | agg l =>
    simp only [Sl.ev] at h
    cases e : l.toList.all Value.oneCell'
    · rw [e] at h
      simp at h
      subst h
      rfl
    · rw [e] at h
      simp at h
      subst h
      exact ⟨l.toList, rfl, concL_raw _, fun y hy => List.all_eq_true.1 e y hy⟩
  | _ =>
    simp only [Sl.ev, Option.some.injEq] at h
    subst h
    rfl
def Sl.evs (s : Sl) : List Operand → Option (List V)
  | [] => some []
  | x :: xs => match s.ev x, s.evs xs with
    | some v, some vs => some (v :: vs)
    | _, _ => none
def SlOk (N : Nat) (s : Sl) (ow : Nat → Prop) (tmps : Array Value) (w : World) : Prop :=
  tmps.size = N ∧ ∀ i v, s.get i = some v → ∃ x, tmps[i]? = some x ∧ conc w ow v x
theorem SlOk.keep {N : Nat} {s : Sl} {ow ow' : Nat → Prop} {t : Array Value} {w w' : World} (h : SlOk N s ow t w) (k : Keeps ow w ow' w') : SlOk N s ow' t w' :=
  ⟨h.1, fun i v hv => let ⟨x, h1, h2⟩ := h.2 i v hv; ⟨x, h1, conc_keep k v x h2⟩⟩
theorem SlOk.put {N : Nat} {s : Sl} {ow : Nat → Prop} {a : Act} {w : World} (h : SlOk N s ow a.tmps w) (d : Option Nat) (v : V) (x : Value) (hx : conc w ow v x) (hd : ∀ i, d = some i → i < N) : SlOk N (s.put d v) ow (a.put d x).tmps w := by
  cases d with
  | none => exact h
  | some d =>
    have hdN := hd d rfl
    refine ⟨by simp [Act.put, h.1], fun i u hu => ?_⟩
    simp only [Sl.put, Sl.get] at hu
    by_cases e : i = d
    · subst e
      simp at hu
      subst hu
      exact ⟨x, by simp [Act.put, h.1, hdN], hx⟩
    · have : Nat.beq i d = false := by
        cases hq : Nat.beq i d
        · rfl
        · exact absurd (Nat.eq_of_beq_eq_true hq) e
      rw [this] at hu
      obtain ⟨y, h1, h2⟩ := h.2 i u hu
      exact ⟨y, by simp [Act.put, Ne.symm e, h1], h2⟩
theorem SlOk.ev {N : Nat} {s : Sl} {ow : Nat → Prop} {a : Act} {w : World} (h : SlOk N s ow a.tmps w) {x : Operand} {v : V} (hv : s.ev x = some v) : conc w ow v (a.eval x) := by
  cases x with
  | tmp t =>
    obtain ⟨y, h1, h2⟩ := h.2 t v hv
    simpa [Act.eval, Array.getD_eq_getD_getElem?, h1] using h2
  | const c => exact conc_const c hv
  | global g => simp only [Sl.ev, Option.some.injEq] at hv; subst hv; simp [conc, Act.eval]
  | func f => simp only [Sl.ev, Option.some.injEq] at hv; subst hv; exact ⟨[], rfl, rfl⟩
theorem SlOk.evs {N : Nat} {s : Sl} {ow : Nat → Prop} {a : Act} {w : World} (h : SlOk N s ow a.tmps w) : ∀ {xs : List Operand} {vs : List V}, s.evs xs = some vs → concL w ow vs (xs.map a.eval)
  | [], vs, hv => by simp only [Sl.evs, Option.some.injEq] at hv; subst hv; rfl
  | x :: xs, vs, hv => by
    simp only [Sl.evs] at hv
    split at hv
    · rename_i v us h1 h2
      simp only [Option.some.injEq] at hv
      subst hv
      exact ⟨_, _, rfl, h.ev h1, h.evs h2⟩
    · cases hv
end Go.AX

set_option linter.unusedVariables false
namespace Go.AX

/-- What stays the same while a function runs: the program, how many temporaries, what is framed, what was owned when it began, and the world then. -/
structure J (P : Program) (N : Nat) where
  F : List Ch
  H0 : Nat → Prop
  w0 : World
  rd : Option Nat := none
  df : List Deferred := []
/-- The fence: the round in which one stands, if any. -/
def J.fence {P : Program} {N : Nat} (j : J P N) : Fence := { Fence.wide with round := j.rd }
variable {P : Program} {N : Nat}
structure St (j : J P N) (s : Sl) (H : List Ch) (a : Act) (w : World) : Prop where
  sl : SlOk N s (own (H ++ j.F)) a.tmps w
  hp : Hp (own (H ++ j.F)) (H ++ j.F) w
  evo : Evo j.H0 j.w0 (own H) w
  df : a.defers = j.df
def lift (j : J P N) (K : Sl → List Ch → Prop) (a : Act) (w : World) : Prop := ∃ s H, St j s H a w ∧ K s H
def liftE (j : J P N) (Q : Exit → Sl → List Ch → Prop) (e : Exit) (a : Act) (w : World) : Prop := ∃ s H, St j s H a w ∧ Q e s H
/-- Nobody leaves by outgrowing the stack. -/
def NoOut (Q : Exit → Sl → List Ch → Prop) : Prop := ∀ s H, ¬ Q .outgrown s H
def AW (j : J P N) (c : Code) (Q : Exit → Sl → List Ch → Prop) (s : Sl) (H : List Ch) : Prop := NoOut Q → ∀ a w, St j s H a w → c.wpIn j.fence 0 P (liftE j Q) a w
def RL (j : J P N) (ops : Array Oper) (l : List Oper) (Q : Exit → Sl → List Ch → Prop) (s : Sl) (H : List Ch) : Prop := ∀ a w, St j s H a w → wpList P ops (liftE j Q) l a w
/-- One operation. -/
def OP (j : J P N) (o : Oper) (K : Sl → List Ch → Prop) (Q : Exit → Sl → List Ch → Prop) (s : Sl) (H : List Ch) : Prop := ∀ a w, St j s H a w → ∀ K' : Act → World → Prop, (∀ a w, lift j K a w → K' a w) → o.wp P a w K' (liftE j Q)
def Then (K : Sl → List Ch → Prop) (Q : Exit → Sl → List Ch → Prop) : Exit → Sl → List Ch → Prop
  | .normal, s, H => K s H
  | e, s, H => Q e s H
def InBlock (id : Nat) (Q : Exit → Sl → List Ch → Prop) : Exit → Sl → List Ch → Prop
  | .exit k, s, H => if k = id then Q .normal s H else Q (.exit k) s H
  | e, s, H => Q e s H
variable {j : J P N} {Q : Exit → Sl → List Ch → Prop} {s : Sl} {H : List Ch}

theorem wpIn_mono' {F : Fence} {n : Nat} {c : Code} {Q Q' : Exit → Act → World → Prop} {a : Act} {w : World} (hq : ∀ e a w, Q e a w → Q' e a w) (h : c.wpIn F n P Q a w) : c.wpIn F n P Q' a w := wpIn_mono h hq
theorem noOut_then {K : Sl → List Ch → Prop} (h : NoOut Q) : NoOut (Then K Q) := fun s H k => h s H k
theorem noOut_in {id : Nat} (h : NoOut Q) : NoOut (InBlock id Q) := fun s H k => h s H k
theorem aw_seq {x y : Code} (h : AW j x (Then (AW j y Q) Q) s H) : AW j (.seq x y) Q s H := fun hq a w st =>
  wpIn_seq (wpIn_mono' (fun e a' w' h' => by
    obtain ⟨s', H', st', hk⟩ := h'
    cases e with
    | normal => exact hk hq a' w' st'
    | _ => exact ⟨s', H', st', hk⟩) (h (noOut_then hq) a w st))
theorem aw_skip (h : Q .normal s H) : AW j .skip Q s H := fun _ a w st => wpIn_skip ⟨s, H, st, h⟩
theorem aw_exit {id : Nat} (h : Q (.exit id) s H) : AW j (.exit id) Q s H := fun _ a w st => wpIn_exit ⟨s, H, st, h⟩
theorem aw_ret (h : Q .ret s H) : AW j .ret Q s H := fun _ a w st => wpIn_ret ⟨s, H, st, h⟩
theorem aw_block {id : Nat} {c : Code} (h : AW j c (InBlock id Q) s H) : AW j (.block id c) Q s H := fun hno a w st =>
  wpIn_block (wpIn_mono' (fun e a' w' h' => by
    obtain ⟨s', H', st', hq⟩ := h'
    cases e with
    | exit k =>
      simp only [InBlock, Exit.inBlock] at hq ⊢
      split
      · rename_i e; rw [if_pos e] at hq; exact ⟨s', H', st', hq⟩
      · rename_i e; rw [if_neg e] at hq; exact ⟨s', H', st', hq⟩
    | _ => exact ⟨s', H', st', hq⟩) (h (noOut_in hno) a w st))
theorem aw_cond {c : Operand} {x y : Code} {t : Bool} (hc : s.ev c = some (.raw (.bool t))) (ht : t = true → AW j x Q s H) (hf : t = false → AW j y Q s H) : AW j (.cond c x y) Q s H := fun hq a w st => by
  have hv : a.eval c = .bool t := by simpa [conc] using st.sl.ev hc
  exact wpIn_cond_split hv (fun e => ht e hq a w st) (fun e => hf e hq a w st)
theorem aw_cond_t {c : Operand} {x y : Code} (hc : s.ev c = some (.raw (.bool true))) (ht : AW j x Q s H) : AW j (.cond c x y) Q s H := aw_cond hc (fun _ => ht) (fun e => by cases e)
theorem aw_cond_f {c : Operand} {x y : Code} (hc : s.ev c = some (.raw (.bool false))) (hf : AW j y Q s H) : AW j (.cond c x y) Q s H := aw_cond hc (fun e => by cases e) (fun _ => hf)
theorem least {T : Nat → Prop} (h : ∃ n, T n) : ∃ n, T n ∧ ∀ m, T m → n ≤ m := by
  obtain ⟨n, hn⟩ := h
  induction n using Nat.strongRecOn with
  | _ n ih =>
    by_cases hs : ∃ m, m < n ∧ T m
    · obtain ⟨m, h1, h2⟩ := hs
      exact ih m h1 h2
    · refine ⟨n, hn, fun m hm => ?_⟩
      rcases Nat.lt_or_ge m n with h1 | h1
      · exact absurd ⟨m, h1, hm⟩ hs
      · exact h1
/-- A loop: an invariant that tells how many rounds are left at most. -/
theorem aw_loop {c : Code} (I : Nat → Sl → List Ch → Prop) (n : Nat) (h0 : I n s H)
    (round : ∀ n s H, I n s H → AW j c (Then (fun s' H' => ∃ m, m < n ∧ I m s' H') Q) s H) : AW j (.loop c) Q s H := fun hno a w st => by
  classical
  let T (a : Act) (w : World) (n : Nat) : Prop := ∃ s H, St j s H a w ∧ I n s H
  let μ (a : Act) (w : World) : Nat := if h : ∃ n, T a w n then Classical.choose (least h) else 0
  refine wpIn_loop (fun a w => ∃ n, T a w n) μ ⟨n, s, H, st, h0⟩ fun a w hI => ?_
  have hμ : μ a w = Classical.choose (least hI) := by simp only [μ, dif_pos hI]
  obtain ⟨s1, H1, st1, hi1⟩ := (Classical.choose_spec (least hI)).1
  refine wpIn_mono' (fun e a' w' h' => ?_) (round _ s1 H1 hi1 (noOut_then hno) a w st1)
  obtain ⟨s', H', st', hq⟩ := h'
  cases e with
  | normal =>
    obtain ⟨m, hm, him⟩ := hq
    have hex : ∃ n, T a' w' n := ⟨m, s', H', st', him⟩
    refine ⟨hex, ?_⟩
    have : μ a' w' ≤ m := by simp only [μ, dif_pos hex]; exact (Classical.choose_spec (least hex)).2 m ⟨s', H', st', him⟩
    rw [hμ]
    omega
  | _ => exact ⟨s', H', st', hq⟩
theorem aw_mono {c : Code} {Q' : Exit → Sl → List Ch → Prop} (h : AW j c Q' s H) (hq : ∀ e s H, Q' e s H → Q e s H) : AW j c Q s H := fun hno a w st =>
  wpIn_mono' (fun e a' w' h' => let ⟨s', H', st', h1⟩ := h'; ⟨s', H', st', hq _ _ _ h1⟩) (h (fun s H k => hno s H (hq _ _ _ k)) a w st)
/-- Any state that says less. -/
theorem aw_weak {c : Code} {s' : Sl} {H' : List Ch} (hw : ∀ a w, St j s H a w → St j s' H' a w) (h : AW j c Q s' H') : AW j c Q s H := fun hno a w st => h hno a w (hw a w st)
def noDefer (o : Oper) : Bool := match o.op with | .defer _ => false | _ => true
theorem noDefer_ne {o : Oper} (h : noDefer o = true) : ∀ c, o.op ≠ .defer c := fun c e => by simp [noDefer, e] at h
theorem noLets {Q : Exit → Sl → List Ch → Prop} (h : NoOut Q) : ¬ LetsOut (liftE j Q) := fun ⟨a, w, s, H, _, k⟩ => h s H k
theorem calls_in {n : Nat} {f : FuncId} {args : Array Value} {w : World} {R : Ending → World → Prop} (h : Calls P f args w R) : CallsIn j.fence n P f args w R := by
  have h' : CallsIn Fence.wide n P f args w R := callsIn_wide.2 h
  unfold J.fence
  cases e : j.rd with
  | none => exact h'
  | some l => exact h'
theorem rows_in {n : Nat} {row : String} {args : Array Value} {w : World} {R : Value → World → Prop} (h : Rows P row args w R) : RowsIn j.fence n P row args w R := fun c cs _ =>
  let ⟨v, w', r, st⟩ := h c cs
  ⟨v, w', r, (stepsIn_wide (P := P)).2 st⟩
/-- An operation that is no defer statement does in a round what it does anywhere. -/
theorem op_in {o : Oper} {a : Act} {w : World} {K : Act → World → Prop} {Q : Exit → Act → World → Prop} (hd : noDefer o = true) (h : o.wp P a w K Q) : o.wpIn j.fence 0 P a w K Q := by
  refine ⟨fun _ _ => trivial, ?_⟩
  rw [Oper.semAt_eq _ _ _ (noDefer_ne hd)]
  unfold Oper.wp at h
  revert h
  have hdep : ¬ (j.fence.depth.isSome = true) := by simp [J.fence, Fence.wide]
  cases (execOp a.eval o).run P w with
  | ok x w1 =>
    cases x <;> intro h
    case value => exact h
    case skip => exact h
    case defer => exact h
    case enter => exact ⟨fun k => absurd k hdep, calls_in h⟩
    case row => exact ⟨fun k => absurd k hdep, rows_in h⟩
    all_goals exact h.elim
  | halt x w1 => intro h; cases x <;> first | exact h | exact h.elim
theorem list_in {ops : Array Oper} : ∀ {l : List Oper} {a : Act} {w : World}, (l.all noDefer = true) → NoOut Q → wpList P ops (liftE j Q) l a w → wpListIn j.fence 0 P ops (liftE j Q) l a w
  | [], _, _, _, _, h => h
  | o :: l, a, w, hd, hq, h => by
    simp only [List.all_cons, Bool.and_eq_true] at hd
    unfold wpList at h
    unfold wpListIn
    by_cases e : Region.wanted o (yielded ops a.tmps) = true
    · rw [if_pos e] at h
      rw [if_pos e]
      rcases h with h | h
      · have h2 : o.wp P a w (wpListIn j.fence 0 P ops (liftE j Q) l) (liftE j Q) := Oper.wp_mono (fun a w k => list_in hd.2 hq k) h
        exact op_in hd.1 h2
      · exact absurd h.2 (noLets hq)
    · rw [if_neg e] at h
      rw [if_neg e]
      exact ⟨fun _ _ => trivial, list_in hd.2 hq h⟩
theorem wpOp_in {ops : Array Oper} {i : Nat} {K : Act → World → Prop} {a : Act} {w : World} (hd : ops.toList.all noDefer = true) (hq : NoOut Q) (h : wpOp P ops (liftE j Q) i K a w) : wpOpIn j.fence 0 P ops (liftE j Q) i K a w := by
  unfold wpOp at h
  unfold wpOpIn
  cases ho : ops[i]? with
  | none => rw [ho] at h; first | exact h | exact h.elim
  | some o =>
    rw [ho] at h
    have hdo : noDefer o = true := List.all_eq_true.1 hd o (by
      rw [← Array.getElem?_toList] at ho
      exact List.mem_of_getElem? ho)
    simp only at h ⊢
    by_cases e : Region.wanted o (yielded ops a.tmps) = true
    · rw [if_pos e] at h
      rw [if_pos e]
      rcases h with h | h
      · exact op_in hdo h
      · exact absurd h.2 (noLets hq)
    · rw [if_neg e] at h
      rw [if_neg e]
      first | exact ⟨fun _ _ => trivial, h⟩ | exact h
theorem any_in {ops : Array Oper} {md : Region.Mode} (hd : ops.toList.all noDefer = true) (hq : NoOut Q) : ∀ (fuel : Nat) {listed : Array Bool} {a : Act} {w : World}, wpAny P md ops (liftE j Q) fuel listed a w → wpAnyIn j.fence 0 P md ops (liftE j Q) fuel listed a w
  | 0, _, _, _, h => h
  | fuel + 1, listed, a, w, h => ⟨h.1, fun i hi => wpOp_in hd hq (wpOp_mono (fun a' w' h' => any_in hd hq fuel h') (h.2 i hi))⟩
theorem aw_region {id : Nat} {l : List Oper} (h : RL j l.toArray l Q s H) (hd : l.all noDefer = true := by decide) : AW j (.region id l.toArray false) Q s H := fun hq a w st => wpIn_region_lit (list_in hd hq (h a w st))
variable {ops : Array Oper} {rest : List Oper}
theorem rl_nil (h : Q .normal s H) : RL j ops [] Q s H := fun a w st => wpList_nil ⟨s, H, st, h⟩
theorem rl_weak {l : List Oper} {s' : Sl} {H' : List Ch} (hw : ∀ a w, St j s H a w → St j s' H' a w) (h : RL j ops l Q s' H') : RL j ops l Q s H := fun a w st => h a w (hw a w st)
theorem rl_op {o : Oper} (hg : o.guard = none) (h : OP j o (RL j ops rest Q) Q s H) : RL j ops (o :: rest) Q s H := fun a w st =>
  wpList_plain hg fun K hK => h a w st K fun a' w' h' => let ⟨s', H', st', hr⟩ := h'; hK _ _ (hr a' w' st')
/-- Operations under a guard: g is the temporary of the operation on which it hangs. -/
theorem yielded_bool {a : Act} {w : World} {g t : Nat} {b : Bool} {og : Oper} (st : St j s H a w) (ho : ops[g]? = some og) (hd : og.dst = some t) (hv : s.get t = some (.raw (.bool b))) : yielded ops a.tmps g = some b := by
  obtain ⟨x, h1, h2⟩ := st.sl.2 t _ hv
  simp only [conc] at h2
  subst h2
  simp [yielded, ho, hd, h1]
theorem St.put {a : Act} {w : World} {d : Option Nat} {v : V} {x : Value} (st : St j s H a w) (hx : conc w (own (H ++ j.F)) v x) (hd : ∀ i, d = some i → i < N) : St j (s.put d v) H (a.put d x) w :=
  ⟨st.sl.put d v x hx hd, st.hp, st.evo, by cases d <;> exact st.df⟩
theorem rl_on {dst : Option Nat} {op : Op} {ty : TypeId} {pos : String} {after : Array Edge} {g t : Nat} {b want : Bool} {og : Oper} (ho : ops[g]? = some og) (hd : og.dst = some t) (hv : s.get t = some (.raw (.bool b)))
    (hN : ∀ i, dst = some i → i < N)
    (h1 : b = want → RL j ops (⟨dst, op, ty, pos, after, none⟩ :: rest) Q s H) (h2 : b = !want → RL j ops rest Q (s.put dst (.raw undef)) H) : RL j ops (⟨dst, op, ty, pos, after, some (g, want)⟩ :: rest) Q s H := fun a w st => by
  have hy := yielded_bool st ho hd hv
  unfold wpList
  by_cases e : b = want
  · subst e
    have := h1 rfl a w st
    unfold wpList at this
    rw [if_pos (by simp [Region.wanted])] at this
    rw [if_pos (by simp [Region.wanted, hy])]
    exact this
  · have e2 : b = !want := by cases b <;> cases want <;> simp_all
    rw [if_neg (by simp [Region.wanted, hy, e])]
    exact h2 e2 _ _ (st.put rfl hN)
end Go.AX

set_option linter.unusedVariables false
set_option linter.unusedSimpArgs false
namespace Go.AX
variable {P : Program} {N : Nat} {j : J P N} {Q : Exit → Sl → List Ch → Prop} {s : Sl} {H : List Ch} {ops : Array Oper} {rest : List Oper}

/-- A type's shape: its description, its cells, its bytes, its zero value. -/
class Ty (P : Program) (T : TypeId) (D : outParam TypeDesc) (sz bytes : outParam Nat) (z : outParam Value) : Prop where
  u : P.underlying T = some D
  i : ∃ i, P.info? T = some i ∧ i.size = sz ∧ i.bytes = bytes ∧ i.zero = some z
/-- Whether a type is a struct or an array. -/
def aggOf : TypeDesc → Bool
  | .struct _ | .array _ _ => true
  | _ => false
theorem Ty.isAgg {T : TypeId} {D : TypeDesc} {sz by_ : Nat} {z : Value} (t : Ty P T D sz by_ z) (w : World) : (Go.isAgg T).run P w = .ok (aggOf D) w := by
  cases D <;> simp [Go.isAgg, run_underlying t.u, aggOf]
theorem Ty.sizeOf {T : TypeId} {D : TypeDesc} {sz by_ : Nat} {z : Value} (t : Ty P T D sz by_ z) (w : World) : (Go.sizeOf T).run P w = .ok sz w := by
  obtain ⟨i, h1, h2, _⟩ := t.i
  simp [Go.sizeOf, typeInfo, h1, h2]
theorem Ty.zeroValue {T : TypeId} {D : TypeDesc} {sz by_ : Nat} {z : Value} (t : Ty P T D sz by_ z) (w : World) : (Go.zeroValue T).run P w = .ok z w := by
  obtain ⟨i, h1, _, _, h2⟩ := t.i
  simp [Go.zeroValue, typeInfo, h1, h2]

/-- In every state that meets the abstract one the operation yields a value, the same in whatever world, that the abstract one stands for. -/
def PureV (j : J P N) (s : Sl) (H : List Ch) (o : Oper) (v : V) : Prop :=
  ∀ a w, St j s H a w → ∃ x, (∀ w', (execOp a.eval o).run P w' = .ok (.value x) w') ∧ conc w (own (H ++ j.F)) v x
theorem op_pure {o : Oper} {v : V} {d : Nat} (hv : PureV j s H o v) (hd : o.dst = some d) (hN : Nat.blt d N = true) {K : Sl → List Ch → Prop} (hk : K ((d, v) :: s) H) : OP j o K Q s H := fun a w st K' hK => by
  obtain ⟨x, hx, hc⟩ := hv a w st
  simp only [Oper.wp, hx w, Oper.upon]
  refine hK _ _ ⟨_, H, ?_, hk⟩
  have := st.put (d := o.dst) hc (fun i hi => by rw [hd] at hi; cases hi; exact Nat.le_of_ble_eq_true hN)
  rwa [hd] at this ⊢
theorem rl_pure {o : Oper} {v : V} {d : Nat} (hv : PureV j s H o v) (hg : o.guard = none) (hd : o.dst = some d) (hN : Nat.blt d N = true) (h : RL j ops rest Q ((d, v) :: s) H) : RL j ops (o :: rest) Q s H :=
  rl_op hg (op_pure hv hd hN h)

section
variable {dst : Option Tmp} {ty : TypeId} {pos : String} {after : Array Edge} {g : Option (Nat × Bool)}
theorem pv_move {x : Operand} {v : V} (h : s.ev x = some v) : PureV j s H ⟨dst, .move x, ty, pos, after, g⟩ v := fun a w st => ⟨a.eval x, fun w' => rfl, st.sl.ev h⟩
theorem pv_assign {x : Operand} {v : V} (h : s.ev x = some v) : PureV j s H ⟨dst, .assign x, ty, pos, after, g⟩ v := fun a w st => ⟨a.eval x, fun w' => rfl, st.sl.ev h⟩
theorem pv_pick_t {c x y : Operand} {b : Bool} {v : V} (hc : s.ev c = some (.raw (.bool b))) (hb : b = true) (h : s.ev x = some v) : PureV j s H ⟨dst, .pick c x y, ty, pos, after, g⟩ v := fun a w st => by
  have h1 := st.sl.ev hc
  simp only [conc] at h1
  exact ⟨a.eval x, fun w' => by simp [execOp, h1, asBool, hb], st.sl.ev h⟩
theorem pv_pick_f {c x y : Operand} {b : Bool} {v : V} (hc : s.ev c = some (.raw (.bool b))) (hb : b = false) (h : s.ev y = some v) : PureV j s H ⟨dst, .pick c x y, ty, pos, after, g⟩ v := fun a w st => by
  have h1 := st.sl.ev hc
  simp only [conc] at h1
  exact ⟨a.eval y, fun w' => by simp [execOp, h1, asBool, hb], st.sl.ev h⟩
/-- The address of a field. -/
class FieldAt (P : Program) (T i : Nat) (off : outParam Nat) : Prop where
  h : ∀ a w, (Instr.fieldAt T (.pointer (some a)) i).run P w = .ok (.pointer (some (a.add off))) w
theorem FieldAt.of {T i : Nat} {fs : Array Field} {f : Field} {D : TypeDesc} {sz by_ : Nat} {z : Value} (hu : P.underlying T = some (.struct fs)) (hf : fs[i]? = some f) (t : Ty P f.type D sz by_ z) (hz : sz ≠ 0) : FieldAt P T i f.offset :=
  ⟨fun a w => by simp [Instr.fieldAt, run_underlying hu, hf, Instr.sureAddr, fieldPlace, t.sizeOf, hz]⟩
theorem pv_fieldAddr {T i off b o : Nat} {x : Operand} [hf : FieldAt P T i off] (h : s.ev x = some (.raw (.pointer (some ⟨b, o, none⟩)))) : PureV j s H ⟨dst, .fieldAddr T x i, ty, pos, after, g⟩ (.raw (.pointer (some ⟨b, o + off, none⟩))) := fun a w st => by
  have h1 := st.sl.ev h
  simp only [conc] at h1
  exact ⟨_, fun w' => by simp [execOp, h1, hf.h, Addr.add_lit], rfl⟩
theorem pv_fieldAddr_ro {T i off o : Nat} {cs : List V} {x : Operand} [hf : FieldAt P T i off] (h : s.ev x = some (.rop cs o)) : PureV j s H ⟨dst, .fieldAddr T x i, ty, pos, after, g⟩ (.rop cs (o + off)) := fun a w st => by
  have h1 := st.sl.ev h
  simp only [conc] at h1
  obtain ⟨b, q, h1, h2, h3, h4⟩ := h1
  refine ⟨.pointer (some ⟨b, q + o + off, none⟩), fun w' => by simp [execOp, h1, hf.h, Addr.add_lit], ?_⟩
  simp only [conc]
  exact ⟨b, q, by rw [Nat.add_assoc], h2, h3, h4⟩
theorem pv_fieldAddr_vp {T i off sz k o : Nat} {sv : Value} {x : Operand} [hf : FieldAt P T i off] (h : s.ev x = some (.vp sv sz k o)) : PureV j s H ⟨dst, .fieldAddr T x i, ty, pos, after, g⟩ (.vp sv sz k (o + off)) := fun a w st => by
  have h1 := st.sl.ev h
  simp only [conc] at h1
  obtain ⟨b, n, c, h0, h1⟩ := h1
  refine ⟨.pointer (some ⟨b, k * sz + o + off, none⟩), fun w' => by simp [execOp, h1, hf.h, Addr.add_lit], ?_⟩
  simp only [conc]
  exact ⟨b, n, c, h0, by rw [Nat.add_assoc]⟩
/-- An operation of two plain values. -/
theorem pv_bin {op : BinOp} {T T' : TypeId} {x y : Operand} {p q r : Value} (hx : s.ev x = some (.raw p)) (hy : s.ev y = some (.raw q))
    (hg : ∀ w, (eqGuard op T x y p q).run P w = .ok () w) (h : ∀ w, (binOp op T p q).run P w = .ok r w) : PureV j s H ⟨dst, .binOp op T x y T', ty, pos, after, g⟩ (.raw r) := fun a w st => by
  have h1 := st.sl.ev hx
  have h2 := st.sl.ev hy
  simp only [conc] at h1 h2
  exact ⟨r, fun w' => by simp [execOp, h1, h2, hg, h], rfl⟩
section
variable {T T' : TypeId} {x y : Operand} {k : IntKind} {m n : Int}
theorem pv_add_in (hx : s.ev x = some (.raw (.int .i64 m))) (hy : s.ev y = some (.raw (.int .i64 n))) (h : -9223372036854775808 ≤ m + n ∧ m + n ≤ 9223372036854775807) : PureV j s H ⟨dst, .binOp .add T x y T', ty, pos, after, g⟩ (.raw (.int .i64 (m + n))) :=
  pv_bin hx hy (fun w => by simp [go_sem]) fun w => by simp [binOp, Op.intArith, IntWalk.i64_in (m + n) (by omega)]
theorem pv_sub_in (hx : s.ev x = some (.raw (.int .i64 m))) (hy : s.ev y = some (.raw (.int .i64 n))) (h : -9223372036854775808 ≤ m - n ∧ m - n ≤ 9223372036854775807) : PureV j s H ⟨dst, .binOp .sub T x y T', ty, pos, after, g⟩ (.raw (.int .i64 (m - n))) :=
  pv_bin hx hy (fun w => by simp [go_sem]) fun w => by simp [binOp, Op.intArith, IntWalk.i64_in (m - n) (by omega)]
theorem pv_mul_in (hx : s.ev x = some (.raw (.int .i64 m))) (hy : s.ev y = some (.raw (.int .i64 n))) (h : -9223372036854775808 ≤ m * n ∧ m * n ≤ 9223372036854775807) : PureV j s H ⟨dst, .binOp .mul T x y T', ty, pos, after, g⟩ (.raw (.int .i64 (m * n))) :=
  pv_bin hx hy (fun w => by simp [go_sem]) fun w => by simp [binOp, Op.intArith, IntWalk.i64_in (m * n) (by omega)]
theorem pv_add (hx : s.ev x = some (.raw (.int k m))) (hy : s.ev y = some (.raw (.int k n))) : PureV j s H ⟨dst, .binOp .add T x y T', ty, pos, after, g⟩ (.raw (.int k (k.wrap (m + n)))) :=
  pv_bin hx hy (fun w => by simp [go_sem]) fun w => by simp [binOp, Op.intArith]
theorem pv_sub (hx : s.ev x = some (.raw (.int k m))) (hy : s.ev y = some (.raw (.int k n))) : PureV j s H ⟨dst, .binOp .sub T x y T', ty, pos, after, g⟩ (.raw (.int k (k.wrap (m - n)))) :=
  pv_bin hx hy (fun w => by simp [go_sem]) fun w => by simp [binOp, Op.intArith]
theorem pv_mul (hx : s.ev x = some (.raw (.int k m))) (hy : s.ev y = some (.raw (.int k n))) : PureV j s H ⟨dst, .binOp .mul T x y T', ty, pos, after, g⟩ (.raw (.int k (k.wrap (m * n)))) :=
  pv_bin hx hy (fun w => by simp [go_sem]) fun w => by simp [binOp, Op.intArith]
theorem pv_quo (hx : s.ev x = some (.raw (.int k m))) (hy : s.ev y = some (.raw (.int k n))) (h : n ≠ 0) : PureV j s H ⟨dst, .binOp .quo T x y T', ty, pos, after, g⟩ (.raw (.int k (k.wrap (m.tdiv n)))) :=
  pv_bin hx hy (fun w => by simp [go_sem]) fun w => by simp [binOp, Op.intDiv, h]
theorem pv_quo_in (hx : s.ev x = some (.raw (.int .i64 m))) (hy : s.ev y = some (.raw (.int .i64 n))) (h : 0 ≤ m ∧ m ≤ 9223372036854775807 ∧ 0 < n) : PureV j s H ⟨dst, .binOp .quo T x y T', ty, pos, after, g⟩ (.raw (.int .i64 (m / n))) :=
  pv_bin hx hy (fun w => by simp [go_sem]) fun w => by
    have h1 : m.tdiv n = m / n := Int.tdiv_eq_ediv_of_nonneg h.1
    have h2 : m / n ≤ m := Int.ediv_le_self n h.1
    have h3 : 0 ≤ m / n := Int.ediv_nonneg h.1 (by omega)
    simp [binOp, Op.intDiv, show n ≠ 0 by omega, h1, IntWalk.i64_in (m / n) (by omega)]
theorem pv_rem (hx : s.ev x = some (.raw (.int k m))) (hy : s.ev y = some (.raw (.int k n))) (h : n ≠ 0) : PureV j s H ⟨dst, .binOp .rem T x y T', ty, pos, after, g⟩ (.raw (.int k (m.tmod n))) :=
  pv_bin hx hy (fun w => by simp [go_sem]) fun w => by simp [binOp, Op.intDiv, h]
theorem pv_rem_in (hx : s.ev x = some (.raw (.int k m))) (hy : s.ev y = some (.raw (.int k n))) (h : 0 ≤ m ∧ 0 < n) : PureV j s H ⟨dst, .binOp .rem T x y T', ty, pos, after, g⟩ (.raw (.int k (m % n))) :=
  pv_bin hx hy (fun w => by simp [go_sem]) fun w => by simp [binOp, Op.intDiv, show n ≠ 0 by omega, Int.tmod_eq_emod_of_nonneg h.1]
theorem pv_eql (hx : s.ev x = some (.raw (.int k m))) (hy : s.ev y = some (.raw (.int k n))) : PureV j s H ⟨dst, .binOp .eql T x y T', ty, pos, after, g⟩ (.raw (.bool (decide (m = n)))) :=
  pv_bin hx hy (fun w => by simp [go_sem]) fun w => by simp [binOp, Op.intCmp]; rfl
theorem pv_neq (hx : s.ev x = some (.raw (.int k m))) (hy : s.ev y = some (.raw (.int k n))) : PureV j s H ⟨dst, .binOp .neq T x y T', ty, pos, after, g⟩ (.raw (.bool (decide (m ≠ n)))) :=
  pv_bin hx hy (fun w => by simp [go_sem]) fun w => by
    simp only [binOp, Op.intCmp]
    by_cases e : m = n <;> simp [e]
theorem pv_lss (hx : s.ev x = some (.raw (.int k m))) (hy : s.ev y = some (.raw (.int k n))) : PureV j s H ⟨dst, .binOp .lss T x y T', ty, pos, after, g⟩ (.raw (.bool (decide (m < n)))) :=
  pv_bin hx hy (fun w => by simp [go_sem]) fun w => by simp [binOp, Op.intCmp]
theorem pv_leq (hx : s.ev x = some (.raw (.int k m))) (hy : s.ev y = some (.raw (.int k n))) : PureV j s H ⟨dst, .binOp .leq T x y T', ty, pos, after, g⟩ (.raw (.bool (decide (m ≤ n)))) :=
  pv_bin hx hy (fun w => by simp [go_sem]) fun w => by simp [binOp, Op.intCmp]
theorem pv_gtr (hx : s.ev x = some (.raw (.int k m))) (hy : s.ev y = some (.raw (.int k n))) : PureV j s H ⟨dst, .binOp .gtr T x y T', ty, pos, after, g⟩ (.raw (.bool (decide (n < m)))) :=
  pv_bin hx hy (fun w => by simp [go_sem]) fun w => by simp [binOp, Op.intCmp]
theorem pv_geq (hx : s.ev x = some (.raw (.int k m))) (hy : s.ev y = some (.raw (.int k n))) : PureV j s H ⟨dst, .binOp .geq T x y T', ty, pos, after, g⟩ (.raw (.bool (decide (n ≤ m)))) :=
  pv_bin hx hy (fun w => by simp [go_sem]) fun w => by simp [binOp, Op.intCmp]
/-- Bits: and, or, xor, shifts, as the model tells them. -/
theorem pv_bits {op : BinOp} {r : Int} (hx : s.ev x = some (.raw (.int k m))) (hy : s.ev y = some (.raw (.int k n))) (h : ∀ w, (Op.intBits op k m n).run P w = .ok (.int k r) w) (ho : (op matches .and | .or | .xor | .andNot) = true) : PureV j s H ⟨dst, .binOp op T x y T', ty, pos, after, g⟩ (.raw (.int k r)) :=
  pv_bin hx hy (fun w => by cases op <;> simp_all [go_sem]) fun w => by cases op <;> simp_all [binOp]
theorem pv_shift {op : BinOp} {k' : IntKind} {r : Value} (hx : s.ev x = some (.raw (.int k m))) (hy : s.ev y = some (.raw (.int k' n))) (h : ∀ w, (Op.shift op k m k' n).run P w = .ok r w) (ho : (op matches .shl | .shr) = true) : PureV j s H ⟨dst, .binOp op T x y T', ty, pos, after, g⟩ (.raw r) :=
  pv_bin hx hy (fun w => by cases op <;> simp_all [go_sem]) fun w => by cases op <;> simp_all [binOp]
end
section
variable {T T' : TypeId} {x y : Operand} {p q : ByteArray}
theorem pv_str_eql (hx : s.ev x = some (.raw (.string p))) (hy : s.ev y = some (.raw (.string q))) : PureV j s H ⟨dst, .binOp .eql T x y T', ty, pos, after, g⟩ (.raw (.bool (decide (p = q)))) :=
  pv_bin hx hy (fun w => by simp [go_sem]) fun w => by
    simp only [binOp, Op.stringOp]
    by_cases e : p = q
    · simp [e]
    · have : ¬ p.toList = q.toList := fun h => e (by
        have h1 : p.data.toList = q.data.toList := by rw [← Lib.toList_data, ← Lib.toList_data]; exact h
        cases p; cases q; congr; exact Array.toList_inj.1 h1)
      simp [e, this]
end
end
end Go.AX

set_option linter.unusedVariables false
set_option linter.unusedSimpArgs false
namespace Go.AX
variable {P : Program} {N : Nat} {j : J P N} {Q : Exit → Sl → List Ch → Prop} {s : Sl} {H : List Ch} {ops : Array Oper} {rest : List Oper}
variable {dst : Option Tmp} {ty : TypeId} {pos : String} {after : Array Edge} {g : Option (Nat × Bool)}
/-- The byte of a string at a place. -/
def bt (p : ByteArray) (i : Int) : Int := ((p.data.toList.getD i.toNat 0).toNat : Int)
theorem bt_eq (p : ByteArray) (i : Int) (h : i.toNat < p.size) : ((p[i.toNat]'h).toNat : Int) = bt p i := by
  have h2 : i.toNat < p.data.size := h
  have : p[i.toNat]'h = p.data.toList.getD i.toNat 0 := by
    simp only [List.getD_eq_getElem?_getD, Array.getElem?_toList]
    rw [Array.getElem?_eq_getElem h2]
    rfl
  rw [this, bt]
theorem bt_range (p : ByteArray) (i : Int) : 0 ≤ bt p i ∧ bt p i ≤ 255 := by
  have := (p.data.toList.getD i.toNat 0).toNat_lt
  simp only [bt]
  omega
section
variable {T T' : TypeId} {x y : Operand} {p q : ByteArray}
theorem ba_toList_inj {p q : ByteArray} (h : p.toList = q.toList) : p = q := by
  have h1 : p.data.toList = q.data.toList := by rw [← Lib.toList_data, ← Lib.toList_data]; exact h
  cases p; cases q; congr; exact Array.toList_inj.1 h1
theorem ba_beq (p q : ByteArray) : (p.toList == q.toList) = decide (p = q) := by
  by_cases e : p = q
  · simp [e]
  · have : ¬ p.toList = q.toList := fun h => e (ba_toList_inj h)
    simp [e, this]
theorem pv_str_neq (hx : s.ev x = some (.raw (.string p))) (hy : s.ev y = some (.raw (.string q))) : PureV j s H ⟨dst, .binOp .neq T x y T', ty, pos, after, g⟩ (.raw (.bool (decide (p ≠ q)))) :=
  pv_bin hx hy (fun w => by simp [go_sem]) fun w => by simp [binOp, Op.stringOp, ba_beq]
theorem pv_str_lss (hx : s.ev x = some (.raw (.string p))) (hy : s.ev y = some (.raw (.string q))) : PureV j s H ⟨dst, .binOp .lss T x y T', ty, pos, after, g⟩ (.raw (.bool (Op.bytesLess p.toList q.toList))) :=
  pv_bin hx hy (fun w => by simp [go_sem]) fun w => by simp [binOp, Op.stringOp]
theorem pv_str_leq (hx : s.ev x = some (.raw (.string p))) (hy : s.ev y = some (.raw (.string q))) : PureV j s H ⟨dst, .binOp .leq T x y T', ty, pos, after, g⟩ (.raw (.bool (Op.bytesLess p.toList q.toList || p.toList == q.toList))) :=
  pv_bin hx hy (fun w => by simp [go_sem]) fun w => by simp [binOp, Op.stringOp]
theorem pv_str_gtr (hx : s.ev x = some (.raw (.string p))) (hy : s.ev y = some (.raw (.string q))) : PureV j s H ⟨dst, .binOp .gtr T x y T', ty, pos, after, g⟩ (.raw (.bool (!(Op.bytesLess p.toList q.toList || p.toList == q.toList)))) :=
  pv_bin hx hy (fun w => by simp [go_sem]) fun w => by simp [binOp, Op.stringOp]
theorem pv_str_add (hx : s.ev x = some (.raw (.string p))) (hy : s.ev y = some (.raw (.string q))) (h : ((p.size + q.size : Nat) : Int) ≤ 9223372036854775807) : PureV j s H ⟨dst, .binOp .add T x y T', ty, pos, after, g⟩ (.raw (.string (p ++ q))) :=
  pv_bin hx hy (fun w => by simp [go_sem]) fun w => by
    have h2 : ¬ (((p.size + q.size : Nat) : Int) > IntKind.i64.max) := by rw [IntKind.max_i64]; omega
    simp only [binOp, Op.stringOp, if_neg h2]
    rfl
theorem pv_bool_eql {sz bs : Nat} {z : Value} {m n : Bool} [t : Ty P T .bool sz bs z] (hx : s.ev x = some (.raw (.bool m))) (hy : s.ev y = some (.raw (.bool n))) : PureV j s H ⟨dst, .binOp .eql T x y T', ty, pos, after, g⟩ (.raw (.bool (m == n))) :=
  pv_bin hx hy (fun w => by simp [go_sem]) fun w => run_eql_bool w T m n t.u
theorem pv_bool_neq {sz bs : Nat} {z : Value} {m n : Bool} [t : Ty P T .bool sz bs z] (hx : s.ev x = some (.raw (.bool m))) (hy : s.ev y = some (.raw (.bool n))) : PureV j s H ⟨dst, .binOp .neq T x y T', ty, pos, after, g⟩ (.raw (.bool (m != n))) :=
  pv_bin hx hy (fun w => by simp [go_sem]) fun w => run_neq_bool w T m n t.u
theorem pv_not {b : Bool} (hx : s.ev x = some (.raw (.bool b))) : PureV j s H ⟨dst, .unOp .not T x, ty, pos, after, g⟩ (.raw (.bool (!b))) := fun a w st => by
  have h1 := st.sl.ev hx
  simp only [conc] at h1
  exact ⟨_, fun w' => by simp [execOp, h1, Op.unary], rfl⟩
theorem pv_neg_in {n : Int} (hx : s.ev x = some (.raw (.int .i64 n))) (h : -9223372036854775807 ≤ n ∧ n ≤ 9223372036854775807) : PureV j s H ⟨dst, .unOp .neg T x, ty, pos, after, g⟩ (.raw (.int .i64 (-n))) := fun a w st => by
  have h1 := st.sl.ev hx
  simp only [conc] at h1
  exact ⟨.int .i64 (-n), fun w' => by simp [execOp, h1, Op.unary, Op.intArith, IntWalk.i64_in (-n) (by omega)], rfl⟩
theorem pv_neg {k : IntKind} {n : Int} (hx : s.ev x = some (.raw (.int k n))) : PureV j s H ⟨dst, .unOp .neg T x, ty, pos, after, g⟩ (.raw (.int k (k.wrap (-n)))) := fun a w st => by
  have h1 := st.sl.ev hx
  simp only [conc] at h1
  exact ⟨.int k (k.wrap (-n)), fun w' => by simp [execOp, h1, Op.unary, Op.intArith], rfl⟩
theorem pv_convert_int {k k' : IntKind} {n : Int} {D : TypeDesc} {sz bs sz' bs' : Nat} {z z' : Value} [ts : Ty P T D sz bs z] [t : Ty P T' (.int k') sz' bs' z'] (hx : s.ev x = some (.raw (.int k n))) : PureV j s H ⟨dst, .convert T T' x, ty, pos, after, g⟩ (.raw (.int k' (k'.wrap n))) := fun a w st => by
  have h1 := st.sl.ev hx
  simp only [conc] at h1
  exact ⟨.int k' (k'.wrap n), fun w' => by simp [execOp, h1, convert, run_underlying ts.u, run_underlying t.u, Conv.intToInt], rfl⟩
theorem pv_convert_in {k k' : IntKind} {n : Int} {D : TypeDesc} {sz bs sz' bs' : Nat} {z z' : Value} [ts : Ty P T D sz bs z] [t : Ty P T' (.int k') sz' bs' z'] (hx : s.ev x = some (.raw (.int k n))) (hw : k'.wrap n = n) : PureV j s H ⟨dst, .convert T T' x, ty, pos, after, g⟩ (.raw (.int k' n)) := fun a w st => by
  have h1 := st.sl.ev hx
  simp only [conc] at h1
  exact ⟨.int k' n, fun w' => by simp [execOp, h1, convert, run_underlying ts.u, run_underlying t.u, Conv.intToInt, hw], rfl⟩
theorem pv_convert_str {sz bs sz' bs' : Nat} {z z' : Value} [ts : Ty P T .string sz bs z] [t : Ty P T' .string sz' bs' z'] (hx : s.ev x = some (.raw (.string p))) : PureV j s H ⟨dst, .convert T T' x, ty, pos, after, g⟩ (.raw (.string p)) := fun a w st => by
  have h1 := st.sl.ev hx
  simp only [conc] at h1
  exact ⟨.string p, fun w' => by simp [execOp, h1, convert, run_underlying ts.u, run_underlying t.u], rfl⟩
theorem pv_index_str {k : IntKind} {i : Int} {sz bs : Nat} {z : Value} [t : Ty P T .string sz bs z] (hx : s.ev x = some (.raw (.string p))) (hy : s.ev y = some (.raw (.int k i))) (h : 0 ≤ i ∧ i < (p.size : Int)) : PureV j s H ⟨dst, .index T x y, ty, pos, after, g⟩ (.raw (.int .u8 (bt p i))) := fun a w st => by
  have h1 := st.sl.ev hx
  have h2 := st.sl.ev hy
  simp only [conc] at h1 h2
  refine ⟨.int .u8 (bt p i), fun w' => ?_, rfl⟩
  simp [execOp, h1, h2, run_index_string w' T p k i t.u, dif_pos h, bt_eq]
theorem pv_len_str {sz bs : Nat} {z : Value} [t : Ty P T .string sz bs z] (hx : s.ev x = some (.raw (.string p))) : PureV j s H ⟨dst, .call { callee := .builtin .len, args := #[x], argTypes := #[T] }, ty, pos, after, g⟩ (.raw (.int .i64 p.size)) := fun a w st => by
  have h1 := st.sl.ev hx
  simp only [conc] at h1
  exact ⟨.int .i64 p.size, fun w' => by simp [execOp, h1, resolve, invoke, builtin, Builtin.len_, run_underlying t.u, goInt], rfl⟩
theorem pv_len_ro {e sz bs : Nat} {z : Value} {rows : List (List V)} [t : Ty P T (.slice e) sz bs z] (hx : s.ev x = some (.ro rows)) : PureV j s H ⟨dst, .call { callee := .builtin .len, args := #[x], argTypes := #[T] }, ty, pos, after, g⟩ (.raw (.int .i64 rows.length)) := fun a w st => by
  have h1 := st.sl.ev hx
  simp only [conc] at h1
  obtain ⟨A, c, h1, _⟩ := h1
  exact ⟨.int .i64 rows.length, fun w' => by simp [execOp, h1, resolve, invoke, builtin, Builtin.len_, run_underlying t.u, goInt], rfl⟩
theorem pv_len_nil {e sz bs n c : Nat} {A : Option Addr} {z : Value} [t : Ty P T (.slice e) sz bs z] (hx : s.ev x = some (.raw (.slice A n c))) : PureV j s H ⟨dst, .call { callee := .builtin .len, args := #[x], argTypes := #[T] }, ty, pos, after, g⟩ (.raw (.int .i64 n)) := fun a w st => by
  have h1 := st.sl.ev hx
  simp only [conc] at h1
  exact ⟨.int .i64 n, fun w' => by simp [execOp, h1, resolve, invoke, builtin, Builtin.len_, run_underlying t.u, goInt], rfl⟩
/-- The form of a slice that a chunk owns. -/
theorem own_form {w : World} {base E size n : Nat} {v : Value} {l : List Value} (h : w.ownsRow base E size v n l) : ∃ A c, v = .slice A n c ∧ n ≤ c ∧ c ≤ maxLen := by
  rcases h.2 with ⟨rfl, rfl⟩ | ⟨g, cap, cur, rfl, _, _, h1, h2, _⟩
  · exact ⟨none, 0, rfl, Nat.le_refl _, Nat.zero_le _⟩
  · exact ⟨_, cap, rfl, h1, h2⟩
theorem pv_len_own {e sz bs E k : Nat} {z sv : Value} {rows : List (List V)} [t : Ty P T (.slice e) sz bs z] (hx : s.ev x = some (.own sv)) (hm : Ch.vec sv E k rows ∈ H ++ j.F) : PureV j s H ⟨dst, .call { callee := .builtin .len, args := #[x], argTypes := #[T] }, ty, pos, after, g⟩ (.raw (.int .i64 rows.length)) := fun a w st => by
  have h1 := st.sl.ev hx
  simp only [conc] at h1
  obtain ⟨l, ho, _⟩ := st.hp.sat _ hm
  obtain ⟨A, c, h2, _⟩ := own_form ho
  exact ⟨.int .i64 rows.length, fun w' => by simp [execOp, h1.1, h2, resolve, invoke, builtin, Builtin.len_, run_underlying t.u, goInt], rfl⟩
end
theorem concRows_get {w : World} {ow : Nat → Prop} {b sz : Nat} : ∀ {o : Nat} {rows : List (List V)}, concRows w ow b sz o rows → ∀ {i : Nat} {r : List V}, rows[i]? = some r → r.length = sz ∧ concAt w ow b (o + i * sz) r
  | o, [], h, i, r, hr => by simp at hr
  | o, q :: rows, h, i, r, hr => by
    simp only [concRows] at h
    obtain ⟨h1, h2, h3⟩ := h
    cases i with
    | zero => simp at hr; subst hr; exact ⟨h1, by simpa using h2⟩
    | succ i =>
      have := concRows_get h3 (i := i) (by simpa using hr)
      rwa [Nat.add_assoc, Nat.add_comm sz, ← Nat.succ_mul] at this
section
variable {T T' : TypeId} {x y : Operand}
theorem pv_indexAddr_ro {e sz bs szT bsT : Nat} {DE : TypeDesc} {z zT : Value} {kd : IntKind} {i : Int} {rows : List (List V)} {r : List V} [t : Ty P T (.slice e) szT bsT zT] [te : Ty P e DE sz bs z]
    (hx : s.ev x = some (.ro rows)) (hy : s.ev y = some (.raw (.int kd i))) (h0 : 0 ≤ i) (hr : rows[i.toNat]? = some r) (hl : r.length = sz) : PureV j s H ⟨dst, .indexAddr T x y, ty, pos, after, g⟩ (.rop r 0) := fun a w st => by
  have h1 := st.sl.ev hx
  have h2 := st.sl.ev hy
  simp only [conc] at h1 h2
  obtain ⟨A, c, h1, hc, _, hA⟩ := h1
  have hlt : i.toNat < rows.length := (List.getElem?_eq_some_iff.1 hr).1
  rcases hA with ⟨hA, _⟩ | ⟨b, o, sz', hA, hb, ho, hR⟩
  · subst hA; simp at hr
  · obtain ⟨e1, e2⟩ := concRows_get hR hr
    have : sz' = sz := e1.symm.trans hl
    subst this
    refine ⟨.pointer (some ⟨b, o + i.toNat * sz', none⟩), fun w' => ?_, ?_⟩
    · subst hA
      have hin : 0 ≤ i ∧ i < (rows.length : Int) := ⟨h0, by omega⟩
      simp [execOp, h1, h2, Instr.indexAt, run_underlying t.u, asIntOf, hin, te.sizeOf, Addr.add_lit]
    · simp only [conc]
      exact ⟨b, _, rfl, hb, ho, e2⟩
theorem pv_indexAddr_own {e E sz bs szT bsT : Nat} {DE : TypeDesc} {z zT sv : Value} {kd : IntKind} {i : Int} {rows : List (List V)} [t : Ty P T (.slice e) szT bsT zT] [te : Ty P e DE sz bs z]
    (hx : s.ev x = some (.own sv)) (hm : Ch.vec sv E sz rows ∈ H ++ j.F) (hy : s.ev y = some (.raw (.int kd i))) (h0 : 0 ≤ i ∧ i < (rows.length : Int)) : PureV j s H ⟨dst, .indexAddr T x y, ty, pos, after, g⟩ (.vp sv sz i.toNat 0) := fun a w st => by
  have h1 := st.sl.ev hx
  have h2 := st.sl.ev hy
  simp only [conc] at h1 h2
  obtain ⟨l, ho, _⟩ := st.hp.sat _ hm
  rcases ho.2 with ⟨_, hn⟩ | ⟨b, cap, cur, hsv, _⟩
  · omega
  · refine ⟨.pointer (some ⟨b, i.toNat * sz, none⟩), fun w' => ?_, ?_⟩
    · simp [execOp, h1.1, h2, hsv, Instr.indexAt, run_underlying t.u, asIntOf, h0, te.sizeOf, Addr.add_lit]
    · simp only [conc]
      exact ⟨b, _, cap, hsv, rfl⟩
/-- An element of an array that lies in a variable. -/
theorem pv_indexAddr_arr {e n b o sz bs szT bsT : Nat} {DE : TypeDesc} {z zT : Value} {kd : IntKind} {i : Int} [t : Ty P T (.array n e) szT bsT zT] [te : Ty P e DE sz bs z]
    (hx : s.ev x = some (.raw (.pointer (some ⟨b, o, none⟩)))) (hy : s.ev y = some (.raw (.int kd i))) (h0 : 0 ≤ i ∧ i < (n : Int)) : PureV j s H ⟨dst, .indexAddr T x y, ty, pos, after, g⟩ (.raw (.pointer (some ⟨b, o + i.toNat * sz, none⟩))) := fun a w st => by
  have h1 := st.sl.ev hx
  have h2 := st.sl.ev hy
  simp only [conc] at h1 h2
  exact ⟨_, fun w' => by simp [execOp, h1, h2, Instr.indexAt, run_underlying t.u, asIntOf, h0, te.sizeOf, Addr.add_lit, Instr.sureAddr], rfl⟩
theorem pv_extract {vs : List V} {i : Nat} {v : V} (hx : s.ev x = some (.tup vs)) (hi : vs[i]? = some v) : PureV j s H ⟨dst, .extract x i, ty, pos, after, g⟩ v := fun a w st => by
  have h1 := st.sl.ev hx
  simp only [conc] at h1
  obtain ⟨l, h1, hl⟩ := h1
  obtain ⟨y, hy, hc⟩ := concL_get hl i v hi
  exact ⟨y, fun w' => by simp [execOp, h1, Instr.extract, hy], hc⟩
theorem pv_makeFunc {f : FuncId} {cap : Array Operand} {vs : List V} (h : s.evs cap.toList = some vs) : PureV j s H ⟨dst, .makeFunc (.func f) #[] cap, ty, pos, after, g⟩ (.fn f vs) := fun a w st => by
  have h1 := st.sl.evs h
  refine ⟨.func (.func f) #[] (cap.map a.eval), fun w' => by simp [execOp, Instr.makeFunc], ?_⟩
  simp only [conc]
  exact ⟨cap.toList.map a.eval, by rw [← Array.toList_map, Array.toArray_toList], h1⟩
theorem pv_makeMethod {f : FuncId} {fst : Array Operand} {vs : List V} (h : s.evs fst.toList = some vs) : PureV j s H ⟨dst, .makeFunc (.func f) fst #[], ty, pos, after, g⟩ (.mf f vs) := fun a w st => by
  have h1 := st.sl.evs h
  refine ⟨.func (.func f) (fst.map a.eval) #[], fun w' => by simp [execOp, Instr.makeFunc], ?_⟩
  simp only [conc]
  exact ⟨fst.toList.map a.eval, by rw [← Array.toList_map, Array.toArray_toList], h1⟩
theorem pv_makeInterface {v : V} (hc : P.concrete T = true) (hx : s.ev x = some v) : PureV j s H ⟨dst, .makeInterface T x, ty, pos, after, g⟩ (.ifc T v) := fun a w st => by
  have h1 := st.sl.ev hx
  exact ⟨.iface T (a.eval x), fun w' => by simp [execOp, run_makeInterface w' T _ hc], _, rfl, h1⟩
end
end Go.AX

set_option linter.unusedVariables false
set_option linter.unusedSimpArgs false
namespace Go.AX
variable {P : Program} {N : Nat} {j : J P N} {Q : Exit → Sl → List Ch → Prop} {s : Sl} {H : List Ch} {ops : Array Oper} {rest : List Oper}

inductive Take : Ch → List Ch → List Ch → Prop
  | here {c : Ch} {l : List Ch} : Take c (c :: l) l
  | there {c d : Ch} {l r : List Ch} : Take c l r → Take c (d :: l) (d :: r)
inductive Pick : List Ch → List Ch → List Ch → Prop
  | nil {l : List Ch} : Pick [] l l
  | cons {c : Ch} {cs l r t : List Ch} : Take c l r → Pick cs r t → Pick (c :: cs) l t
theorem Take.perm {c : Ch} {l r : List Ch} (h : Take c l r) : l.Perm (c :: r) := by
  induction h with
  | here => exact .refl _
  | there _ ih => exact (ih.cons _).trans (List.Perm.swap _ _ _)
theorem Pick.perm {cs l r : List Ch} (h : Pick cs l r) : l.Perm (cs ++ r) := by
  induction h with
  | nil => exact .refl _
  | cons h1 _ ih => exact h1.perm.trans (ih.cons _)
inductive Upd : Ch → Ch → List Ch → List Ch → Prop
  | here {c c' : Ch} {l : List Ch} : Upd c c' (c :: l) (c' :: l)
  | there {c c' d : Ch} {l r : List Ch} : Upd c c' l r → Upd c c' (d :: l) (d :: r)
theorem Upd.split {c c' : Ch} {l r : List Ch} (h : Upd c c' l r) : ∃ t, l.Perm (c :: t) ∧ r.Perm (c' :: t) := by
  induction h with
  | here => exact ⟨_, .refl _, .refl _⟩
  | there _ ih =>
    obtain ⟨t, h1, h2⟩ := ih
    exact ⟨_ :: t, (h1.cons _).trans (List.Perm.swap _ _ _), (h2.cons _).trans (List.Perm.swap _ _ _)⟩
theorem Upd.mem {c c' : Ch} {l r : List Ch} (h : Upd c c' l r) : c ∈ l := by
  obtain ⟨t, h1, _⟩ := h.split
  exact h1.mem_iff.2 (List.mem_cons_self ..)
theorem St.perm {a : Act} {w : World} {G : List Ch} (st : St j s H a w) (p : H.Perm G) : St j s G a w := by
  have hp : (H ++ j.F).Perm (G ++ j.F) := p.append_right _
  exact ⟨own_funext hp ▸ st.sl, (own_funext hp ▸ st.hp).perm hp, own_funext p ▸ st.evo, st.df⟩
/-- What an operation, or a call, does: the chunks Hf have become Hf', nothing else that stood is touched. -/
theorem St.eff {a : Act} {w w' : World} {Hf Hf' Hr : List Ch} (st : St j s H a w) (p : H.Perm (Hf ++ Hr)) (e : Evo (own Hf) w (own Hf') w') (nd : (blks Hf').Nodup)
    (sat : ∀ c ∈ Hf', c.sat w' (own (Hf' ++ Hr ++ j.F))) : St j s (Hf' ++ Hr) a w' ∧ Evo (own H) w (own (Hf' ++ Hr)) w' ∧ Evo (own (H ++ j.F)) w (own (Hf' ++ Hr ++ j.F)) w' := by
  have hpF : (H ++ j.F).Perm (Hf ++ (Hr ++ j.F)) := by rw [← List.append_assoc]; exact p.append_right _
  have hp1 := (own_funext hpF ▸ st.hp).perm hpF
  have eH : Evo (own H) w (own (Hf' ++ Hr)) w' := by
    have := e.frame (of := own Hr)
    have e1 : (fun b => own Hf b ∨ own Hr b) = own H := funext fun b => propext ((own_append _ _ _).symm.trans (own_perm p b).symm)
    have e2 : (fun b => own Hf' b ∨ own Hr b) = own (Hf' ++ Hr) := funext fun b => propext (own_append _ _ _).symm
    rwa [e1, e2] at this
  have eF : Evo (own (H ++ j.F)) w (own (Hf' ++ Hr ++ j.F)) w' := by
    have := eH.frame (of := own j.F)
    have e1 : (fun b => own H b ∨ own j.F b) = own (H ++ j.F) := funext fun b => propext (own_append _ _ _).symm
    have e2 : (fun b => own (Hf' ++ Hr) b ∨ own j.F b) = own (Hf' ++ Hr ++ j.F) := funext fun b => propext (own_append _ _ _).symm
    rwa [e1, e2] at this
  have hnd := hp1.nd
  rw [blks_append] at hnd
  have hdis := (List.nodup_append.1 hnd).2.2
  refine ⟨⟨st.sl.keep eF.keeps, ⟨?_, fun c hc => ?_⟩, st.evo.trans eH, st.df⟩, eH, eF⟩
  · rw [List.append_assoc, blks_append]
    refine List.nodup_append.2 ⟨nd, (List.nodup_append.1 hnd).2.1, fun x hx y hy hxy => ?_⟩
    subst hxy
    rcases e.grow x hx with h1 | h1
    · exact hdis x h1 x hy rfl
    · have : own (Hr ++ j.F) x := hy
      have hlt := own_lt hp1 (b := x) ((own_append _ _ _).2 (.inr this))
      omega
  · rw [List.append_assoc] at hc
    rcases List.mem_append.1 hc with h1 | h1
    · exact sat c h1
    · refine Ch.sat_keep eF.keeps (st.hp.sat c (hpF.mem_iff.2 (List.mem_append_right _ h1))) fun b hb => ?_
      have hob : own (Hr ++ j.F) b := List.mem_filterMap.2 ⟨c, h1, hb⟩
      exact e.block b (own_lt hp1 ((own_append _ _ _).2 (.inr hob))) fun h2 => hdis b h2 b hob rfl
/-- A chunk turned, its block the same. -/
theorem St.upd {a : Act} {w w' : World} {c c' : Ch} {H' : List Ch} (st : St j s H a w) (hu : Upd c c' H H') (hb : c'.blk = c.blk) (e : Evo (own [c]) w (own [c]) w')
    (sat : c'.sat w' (own (H' ++ j.F))) : St j s H' a w' ∧ Evo (own (H ++ j.F)) w (own (H' ++ j.F)) w' := by
  obtain ⟨t, h1, h2⟩ := hu.split
  have eo : own [c'] = own [c] := by
    funext b
    simp only [own, blks, List.filterMap_cons, hb]
  have nd : (blks [c']).Nodup := by
    simp only [blks, List.filterMap_cons, List.filterMap_nil]
    cases c'.blk <;> simp
  have h2F : (H' ++ j.F).Perm ([c'] ++ t ++ j.F) := h2.append_right _
  obtain ⟨k1, k2, k3⟩ := St.eff (Hf := [c]) (Hf' := [c']) (Hr := t) st h1 (by rw [eo]; exact e) nd (fun d hd => by
    simp only [List.mem_singleton] at hd
    subst hd
    rw [← own_funext h2F]
    exact sat)
  exact ⟨k1.perm h2.symm, by rw [own_funext h2F]; exact k3⟩

/-! ### Loads -/
def ValV (j : J P N) (s : Sl) (H : List Ch) (o : Oper) (v : V) : Prop :=
  ∀ a w, St j s H a w → ∃ x, (execOp a.eval o).run P w = .ok (.value x) w ∧ conc w (own (H ++ j.F)) v x
theorem PureV.val {o : Oper} {v : V} (h : PureV j s H o v) : ValV j s H o v := fun a w st => let ⟨x, h1, h2⟩ := h a w st; ⟨x, h1 w, h2⟩
theorem op_val {o : Oper} {v : V} {d : Nat} (hv : ValV j s H o v) (hd : o.dst = some d) (hN : Nat.blt d N = true) {K : Sl → List Ch → Prop} (hk : K ((d, v) :: s) H) : OP j o K Q s H := fun a w st K' hK => by
  obtain ⟨x, hx, hc⟩ := hv a w st
  simp only [Oper.wp, hx, Oper.upon]
  refine hK _ _ ⟨_, H, ?_, hk⟩
  have := st.put (d := o.dst) hc (fun i hi => by rw [hd] at hi; cases hi; exact Nat.le_of_ble_eq_true hN)
  rwa [hd] at this ⊢
theorem rl_val {o : Oper} {v : V} {d : Nat} (hv : ValV j s H o v) (hg : o.guard = none) (hd : o.dst = some d) (hN : Nat.blt d N = true) (h : RL j ops rest Q ((d, v) :: s) H) : RL j ops (o :: rest) Q s H :=
  rl_op hg (op_val hv hd hN h)
theorem addr_add (b o n : Nat) : (⟨b, o, none⟩ : Addr).add n = ⟨b, o + n, none⟩ := Addr.add_lit b o n
theorem run_loadVar_scalar {T : TypeId} {D : TypeDesc} {sz bs : Nat} {z : Value} (t : Ty P T D sz bs z) (hD : aggOf D = false) {w : World} {ad : Addr} {x : Value} (h : w.cell? ad = some x) : (loadVar T ad).run P w = .ok x w := by
  simp [loadVar, t.isAgg, hD, h]
theorem run_loadVar_agg {T : TypeId} {D : TypeDesc} {bs : Nat} {z : Value} {w : World} {ad : Addr} {cs : List Value} (t : Ty P T D cs.length bs z) (hD : aggOf D = true) (h : ∀ i v, cs[i]? = some v → w.cell? (ad.add i) = some v) : (loadVar T ad).run P w = .ok (.agg cs.toArray) w := by
  simp [loadVar, t.isAgg, hD, t.sizeOf, run_loadCells_list w ad cs h]
/-- Cells that lie in a row. -/
theorem concAt_get {w : World} {ow : Nat → Prop} {b : Nat} : ∀ {o : Nat} {cs : List V}, concAt w ow b o cs → ∀ {i : Nat} {v : V}, cs[i]? = some v → ∃ x, w.cell? ⟨b, o + i, none⟩ = some x ∧ x.oneCell' = true ∧ conc w ow v x
  | o, [], h, i, v, hv => by simp at hv
  | o, u :: cs, h, i, v, hv => by
    simp only [concAt] at h
    obtain ⟨h1, h2⟩ := h
    cases i with
    | zero => simp at hv; subst hv; exact h1
    | succ i =>
      have := concAt_get h2 (i := i) (by simpa using hv)
      rwa [Nat.add_assoc, Nat.add_comm 1] at this
theorem concAt_list {w : World} {ow : Nat → Prop} {b : Nat} : ∀ {o : Nat} {cs : List V}, concAt w ow b o cs → ∃ l : List Value, concL w ow cs l ∧ (∀ y ∈ l, y.oneCell' = true) ∧ ∀ i v, l[i]? = some v → w.cell? ⟨b, o + i, none⟩ = some v
  | o, [], h => ⟨[], rfl, by simp, by simp⟩
  | o, u :: cs, h => by
    simp only [concAt] at h
    obtain ⟨⟨x, h1, h2, h3⟩, h4⟩ := h
    obtain ⟨l, k1, k2, k3⟩ := concAt_list h4
    refine ⟨x :: l, ⟨x, l, rfl, h3, k1⟩, fun y hy => ?_, fun i v hv => ?_⟩
    · rcases List.mem_cons.1 hy with rfl | hy
      · exact h2
      · exact k2 y hy
    · cases i with
      | zero => simp at hv; subst hv; exact h1
      | succ i =>
        have := k3 i v (by simpa using hv)
        rwa [Nat.add_assoc, Nat.add_comm 1] at this
theorem concAt_drop {w : World} {ow : Nat → Prop} {b : Nat} : ∀ (n : Nat) {o : Nat} {cs : List V}, concAt w ow b o cs → concAt w ow b (o + n) (cs.drop n)
  | 0, o, cs, h => h
  | n + 1, o, [], h => by simp [concAt]
  | n + 1, o, u :: cs, h => by
    simp only [concAt] at h
    have := concAt_drop n h.2
    rwa [Nat.add_assoc, Nat.add_comm 1] at this
theorem concAt_take {w : World} {ow : Nat → Prop} {b : Nat} : ∀ (n : Nat) {o : Nat} {cs : List V}, concAt w ow b o cs → concAt w ow b o (cs.take n)
  | 0, o, cs, h => by simp [concAt]
  | n + 1, o, [], h => by simp [concAt]
  | n + 1, o, u :: cs, h => by
    simp only [concAt] at h
    exact ⟨h.1, concAt_take n h.2⟩
section
variable {dst : Option Tmp} {ty : TypeId} {pos : String} {after : Array Edge} {g : Option (Nat × Bool)} {T : TypeId} {x y : Operand} {D : TypeDesc} {sz bs : Nat} {z : Value}
/-- The cells of a box. -/
theorem box_cells {a : Act} {w : World} {b : Nat} {E : TypeId} {cells : List V} (st : St j s H a w) (hm : Ch.box b E cells ∈ H ++ j.F) : ∃ l : List Value, w.heap[b]? = some (.cells l.toArray E (0, 0)) ∧ concL w (own (H ++ j.F)) cells l ∧ (∀ y ∈ l, y.oneCell' = true) ∧ ∀ i v, l[i]? = some v → w.cell? ⟨b, i, none⟩ = some v := by
  obtain ⟨l, h1, h2, h3⟩ := st.hp.sat _ hm
  exact ⟨l, h1, h2, h3, fun i v hv => by rw [cell_of_row w b i _ _ _ h1]; simpa using hv⟩
theorem vv_load_box {b o : Nat} {E : TypeId} {cells : List V} {v : V} [t : Ty P T D sz bs z] (hx : s.ev x = some (.raw (.pointer (some ⟨b, o, none⟩)))) (hm : Ch.box b E cells ∈ H ++ j.F) (hD : aggOf D = false) (hc : cells[o]? = some v) :
    ValV j s H ⟨dst, .load T x, ty, pos, after, g⟩ v := fun a w st => by
  have h1 := st.sl.ev hx
  simp only [conc] at h1
  obtain ⟨l, k1, k2, k3, k4⟩ := box_cells st hm
  obtain ⟨y, hy, hc⟩ := concL_get k2 o v hc
  exact ⟨y, by simp [execOp, h1, Instr.loadAt, Instr.sureAddr, run_loadVar_scalar t hD (k4 o y hy)], hc⟩
theorem vv_load_box_agg {b o : Nat} {E : TypeId} {cells cs : List V} [t : Ty P T D sz bs z] (hx : s.ev x = some (.raw (.pointer (some ⟨b, o, none⟩)))) (hm : Ch.box b E cells ∈ H ++ j.F) (hD : aggOf D = true) (hc : (cells.drop o).take sz = cs) (hl : cs.length = sz) :
    ValV j s H ⟨dst, .load T x, ty, pos, after, g⟩ (.agg cs) := fun a w st => by
  have h1 := st.sl.ev hx
  simp only [conc] at h1
  obtain ⟨l, k1, k2, k3, k4⟩ := box_cells st hm
  subst hc
  have hL := concL_take (concL_drop k2 o) sz
  have hlen : ((l.drop o).take sz).length = sz := (concL_length hL).trans hl
  have t' : Ty P T D ((l.drop o).take sz).length bs z := by rw [hlen]; exact t
  refine ⟨.agg ((l.drop o).take sz).toArray, ?_, ?_⟩
  · simp only [execOp, h1, Instr.loadAt, Instr.sureAddr]
    have := run_loadVar_agg (w := w) (ad := ⟨b, o, none⟩) t' hD (fun i v hv => by
      rw [addr_add]
      refine k4 (o + i) v ?_
      rw [List.getElem?_take] at hv
      split at hv
      · simpa using hv
      · cases hv)
    simp [this]
  · simp only [conc]
    exact ⟨_, rfl, hL, fun y hy => k3 y (List.mem_of_mem_drop (List.mem_of_mem_take hy))⟩
theorem vv_load_ro {o : Nat} {cells : List V} {v : V} [t : Ty P T D sz bs z] (hx : s.ev x = some (.rop cells o)) (hD : aggOf D = false) (hc : cells[o]? = some v) :
    ValV j s H ⟨dst, .load T x, ty, pos, after, g⟩ v := fun a w st => by
  have h1 := st.sl.ev hx
  simp only [conc] at h1
  obtain ⟨b, q, h1, _, _, h2⟩ := h1
  obtain ⟨y, hy, _, hc⟩ := concAt_get h2 hc
  exact ⟨y, by simp [execOp, h1, Instr.loadAt, Instr.sureAddr, run_loadVar_scalar t hD hy], hc⟩
theorem vv_load_ro_agg {o : Nat} {cells cs : List V} [t : Ty P T D sz bs z] (hx : s.ev x = some (.rop cells o)) (hD : aggOf D = true) (hc : (cells.drop o).take sz = cs) (hl : cs.length = sz) :
    ValV j s H ⟨dst, .load T x, ty, pos, after, g⟩ (.agg cs) := fun a w st => by
  have h1 := st.sl.ev hx
  simp only [conc] at h1
  obtain ⟨b, q, h1, _, _, h2⟩ := h1
  have h3 := concAt_take sz (concAt_drop o h2)
  rw [hc] at h3
  obtain ⟨l, k1, k2, k3⟩ := concAt_list h3
  have hlen : l.length = sz := (concL_length k1).trans hl
  have t' : Ty P T D l.length bs z := by rw [hlen]; exact t
  refine ⟨.agg l.toArray, ?_, ?_⟩
  · have := run_loadVar_agg (w := w) (ad := ⟨b, q + o, none⟩) t' hD (fun i v hv => by rw [addr_add]; exact k3 i v hv)
    simp [execOp, h1, Instr.loadAt, Instr.sureAddr, this]
  · simp only [conc]
    exact ⟨_, rfl, k1, k2⟩
/-- A row of a slice that a chunk owns: its cells in memory. -/
theorem flatten_at {α : Type} {sz : Nat} : ∀ {rows : List (List α)} (_ : ∀ r ∈ rows, r.length = sz) {i : Nat} {r : List α}, rows[i]? = some r → ∀ k, k < sz → rows.flatten[i * sz + k]? = r[k]?
  | [], _, i, r, hr, k, hk => by simp at hr
  | q :: rows, h, i, r, hr, k, hk => by
    have hq := h q (List.mem_cons_self ..)
    cases i with
    | zero =>
      simp at hr
      subst hr
      rw [List.flatten_cons, Nat.zero_mul, Nat.zero_add, List.getElem?_append_left (by omega)]
    | succ i =>
      have := flatten_at (fun r hr => h r (List.mem_cons_of_mem _ hr)) (i := i) (r := r) (by simpa using hr) k hk
      rw [List.flatten_cons, Nat.succ_mul, List.getElem?_append_right (by omega), ← this]
      congr 1
      omega
theorem vec_row {a : Act} {w : World} {sv : Value} {E k : Nat} {rows : List (List V)} {i : Nat} {r : List V} (st : St j s H a w) (hm : Ch.vec sv E k rows ∈ H ++ j.F) (hr : rows[i]? = some r) :
    ∀ b n c, sv = .slice (some ⟨b, 0, none⟩) n c → concAt w (own (H ++ j.F)) b (i * k) r := by
  intro b n c hsv
  obtain ⟨l, ho, hl, h1, hrows⟩ := st.hp.sat _ hm
  have hrl : r.length = k := hrows r (List.mem_of_getElem? hr)
  have key : ∀ (m : Nat) (q : List V), m + q.length ≤ k → (∀ t v, q[t]? = some v → r[m + t]? = some v) → concAt w (own (H ++ j.F)) b (i * k + m) q := by
    intro m q
    induction q generalizing m with
    | nil => intro _ _; simp [concAt]
    | cons v q ih =>
      intro hm2 hq
      simp only [List.length_cons] at hm2
      refine ⟨?_, ?_⟩
      · have hv : r[m]? = some v := by simpa using hq 0 v rfl
        have hf := (flatten_at hrows hr m (by omega)).trans hv
        obtain ⟨x, hx, hc⟩ := concL_get hl _ v hf
        refine ⟨x, ?_, h1 x (List.mem_of_getElem? hx), hc⟩
        have := ho.cells (g := b) (by rw [hsv]; rfl) _ x hx
        rwa [addr_add, Nat.zero_add] at this
      · have := ih (m + 1) (by omega) (fun t u hu => by
          have := hq (t + 1) u (by simpa using hu)
          rwa [Nat.add_assoc, Nat.add_comm 1])
        rwa [Nat.add_assoc]
  have := key 0 r (by omega) (fun t v h => by simpa using h)
  simpa using this
theorem vv_load_vp {o i E k : Nat} {sv : Value} {rows : List (List V)} {r : List V} {v : V} [t : Ty P T D sz bs z] (hx : s.ev x = some (.vp sv k i o)) (hm : Ch.vec sv E k rows ∈ H ++ j.F) (hr : rows[i]? = some r) (hD : aggOf D = false) (hc : r[o]? = some v) :
    ValV j s H ⟨dst, .load T x, ty, pos, after, g⟩ v := fun a w st => by
  have h1 := st.sl.ev hx
  simp only [conc] at h1
  obtain ⟨b, n, c, hsv, h1⟩ := h1
  obtain ⟨y, hy, _, hc⟩ := concAt_get (vec_row st hm hr b n c hsv) hc
  exact ⟨y, by simp [execOp, h1, Instr.loadAt, Instr.sureAddr, run_loadVar_scalar t hD hy], hc⟩
theorem vv_load_vp_agg {o i E k : Nat} {sv : Value} {rows : List (List V)} {r cs : List V} [t : Ty P T D sz bs z] (hx : s.ev x = some (.vp sv k i o)) (hm : Ch.vec sv E k rows ∈ H ++ j.F) (hr : rows[i]? = some r) (hD : aggOf D = true) (hc : (r.drop o).take sz = cs) (hl : cs.length = sz) :
    ValV j s H ⟨dst, .load T x, ty, pos, after, g⟩ (.agg cs) := fun a w st => by
  have h1 := st.sl.ev hx
  simp only [conc] at h1
  obtain ⟨b, n, c, hsv, h1⟩ := h1
  have h3 := concAt_take sz (concAt_drop o (vec_row st hm hr b n c hsv))
  rw [hc] at h3
  obtain ⟨l, k1, k2, k3⟩ := concAt_list h3
  have hlen : l.length = sz := (concL_length k1).trans hl
  have t' : Ty P T D l.length bs z := by rw [hlen]; exact t
  refine ⟨.agg l.toArray, ?_, ?_⟩
  · have := run_loadVar_agg (w := w) (ad := ⟨b, i * k + o, none⟩) t' hD (fun i v hv => by rw [addr_add]; exact k3 i v hv)
    simp [execOp, h1, Instr.loadAt, Instr.sureAddr, this]
  · simp only [conc]
    exact ⟨_, rfl, k1, k2⟩
end
end Go.AX

set_option linter.unusedVariables false
set_option linter.unusedSimpArgs false
namespace Go.AX
variable {P : Program} {N : Nat} {j : J P N} {Q : Exit → Sl → List Ch → Prop} {s : Sl} {H : List Ch} {ops : Array Oper} {rest : List Oper} {K : Sl → List Ch → Prop}
def V.one : V → Bool
  | .raw v => v.oneCell'
  | .agg _ | .tup _ => false
  | _ => true
def V.cells : V → List V
  | .agg cs => cs
  | v => [v]
theorem conc_one {w : World} {ow : Nat → Prop} {v : V} {x : Value} (h : conc w ow v x) (h1 : v.one = true) : x.oneCell' = true := by
  cases v with
  | raw u => simp only [conc] at h; subst h; exact h1
  | ro rows => simp only [conc] at h; obtain ⟨A, c, rfl, _⟩ := h; rfl
  | rop cs o => simp only [conc] at h; obtain ⟨b, q, rfl, _⟩ := h; rfl
  | agg cs => cases h1
  | tup cs => cases h1
  | fn f c => simp only [conc] at h; obtain ⟨l, rfl, _⟩ := h; rfl
  | mf f c => simp only [conc] at h; obtain ⟨l, rfl, _⟩ := h; rfl
  | ifc t v => simp only [conc] at h; obtain ⟨l, rfl, _⟩ := h; rfl
  | own sv => simp only [conc] at h; rw [h.1]; exact h.2
  | vp sv sz i off => simp only [conc] at h; obtain ⟨b, n, c, _, rfl⟩ := h; rfl
theorem one_cells {x : Value} (h : x.oneCell' = true) : x.cells = #[x] := by cases x <;> first | rfl | cases h
/-- The cells of a value. -/
theorem conc_cells {w : World} {ow : Nat → Prop} {v : V} {x : Value} (h : conc w ow v x) (h1 : v.one = true ∨ ∃ cs, v = .agg cs) : concL w ow v.cells x.cells.toList ∧ ∀ y ∈ x.cells.toList, y.oneCell' = true := by
  rcases h1 with h1 | ⟨cs, rfl⟩
  · have hx := conc_one h h1
    have hv : v.cells = [v] := by cases v <;> first | rfl | cases h1
    rw [one_cells hx, hv]
    exact ⟨⟨x, [], rfl, h, rfl⟩, by simpa using hx⟩
  · simp only [conc] at h
    obtain ⟨l, rfl, hl, h2⟩ := h
    exact ⟨by simpa [V.cells, Value.cells] using hl, by simpa [Value.cells] using h2⟩
/-- One operation whose effect is told. -/
theorem op_eff {o : Oper} {d : Nat} (hd : o.dst = some d) (hN : Nat.blt d N = true)
    (h : ∀ a w, St j s H a w → ∃ x w' v H', (execOp a.eval o).run P w = .ok (.value x) w' ∧ St j s H' a w' ∧ conc w' (own (H' ++ j.F)) v x ∧ K ((d, v) :: s) H') : OP j o K Q s H :=
  fun a w st K' hK => by
    obtain ⟨x, w', v, H', hx, st', hc, hr⟩ := h a w st
    simp only [Oper.wp, hx, Oper.upon]
    refine hK _ _ ⟨_, H', ?_, hr⟩
    have := st'.put (d := o.dst) hc (fun i hi => by rw [hd] at hi; cases hi; exact Nat.le_of_ble_eq_true hN)
    rwa [hd] at this ⊢
theorem op_skip {o : Oper} (hd : o.dst = none)
    (h : ∀ a w, St j s H a w → ∃ w' H', (execOp a.eval o).run P w = .ok .skip w' ∧ St j s H' a w' ∧ K s H') : OP j o K Q s H :=
  fun a w st K' hK => by
    obtain ⟨w', H', hx, st', hr⟩ := h a w st
    simp only [Oper.wp, hx, Oper.upon, hd, Act.put]
    exact hK _ _ ⟨_, H', st', hr⟩
section
variable {d : Nat} {ty : TypeId} {pos : String} {after : Array Edge} {T : TypeId} {x y : Operand} {D : TypeDesc} {sz bs : Nat} {z : Value}
theorem st_new {a : Act} {w : World} (st : St j s H a w) (T : TypeId) (cells : List V) (l : List Value) (hl : concL w (own (H ++ j.F)) cells l) (h1 : ∀ y ∈ l, y.oneCell' = true) :
    St j s (.box w.heap.size T cells :: H) a (w.alloc (.cells l.toArray T)) := by
  have e : Evo (own []) w (own [Ch.box w.heap.size T cells]) (w.alloc (.cells l.toArray T)) :=
    ⟨rfl, rfl, rfl, by simp, fun b hb _ => heap_alloc_old w _ hb, fun b hb => .inr (by simp [own, blks, Ch.blk] at hb; omega)⟩
  have hev : Keeps (own (H ++ j.F)) w (own (Ch.box w.heap.size T cells :: H ++ j.F)) (w.alloc (.cells l.toArray T)) :=
    ⟨by simp, fun b hb _ => heap_alloc_old w _ hb, fun b hb ho => by
      have : b ∈ blks (Ch.box w.heap.size T cells :: (H ++ j.F)) := ho
      simp only [blks, Ch.blk, List.filterMap_cons, List.mem_cons] at this
      rcases this with h | h
      · omega
      · exact h⟩
  refine (St.eff (Hf := []) (Hf' := [.box w.heap.size T cells]) (Hr := H) st (.refl _) e (by simp [blks, Ch.blk]) (fun c hc => ?_)).1
  simp only [List.mem_singleton] at hc
  subst hc
  exact ⟨l, heap_alloc_new w _, concL_keep hev _ _ hl, h1⟩
/-- 'new(T)', a variable in memory: a new box of zero values. -/
theorem op_alloc [t : Ty P T D sz bs z] (hz : ∀ y ∈ z.cells.toList, y.oneCell' = true) (hN : Nat.blt d N = true)
    (h : ∀ b, K ((d, .raw (.pointer (some ⟨b, 0, none⟩))) :: s) (.box b T (z.cells.toList.map .raw) :: H)) : OP j ⟨some d, .alloc T, ty, pos, after, none⟩ K Q s H :=
  op_eff rfl hN fun a w st => by
    have hc : concL w (own (H ++ j.F)) (z.cells.toList.map .raw) z.cells.toList := by
      generalize z.cells.toList = l
      induction l with
      | nil => rfl
      | cons y l ih => exact ⟨y, l, rfl, rfl, ih⟩
    refine ⟨.pointer (some ⟨w.heap.size, 0, none⟩), w.alloc (.cells z.cells T), .raw (.pointer (some ⟨w.heap.size, 0, none⟩)), _, ?_, ?_, rfl, h w.heap.size⟩
    · simp [execOp, Instr.alloc, t.zeroValue, newVar, newRow]
    · have := st_new st T _ _ hc hz
      simpa using this
theorem op_box {v : V} (hx : s.ev x = some v) (h1 : v.one = true ∨ ∃ cs, v = .agg cs) (hN : Nat.blt d N = true)
    (h : ∀ b, K ((d, .raw (.pointer (some ⟨b, 0, none⟩))) :: s) (.box b T v.cells :: H)) : OP j ⟨some d, .box T x, ty, pos, after, none⟩ K Q s H :=
  op_eff rfl hN fun a w st => by
    have hv := st.sl.ev hx
    obtain ⟨k1, k2⟩ := conc_cells hv h1
    refine ⟨.pointer (some ⟨w.heap.size, 0, none⟩), w.alloc (.cells (a.eval x).cells T), .raw (.pointer (some ⟨w.heap.size, 0, none⟩)), _, ?_, ?_, rfl, h w.heap.size⟩
    · simp [execOp, Instr.box, newVar, newRow]
    · have := st_new st T _ _ k1 k2
      simpa using this
/-- Cells set one behind the other. -/
def setAll {α : Type} : List α → Nat → List α → List α
  | cs, _, [] => cs
  | cs, o, v :: vs => setAll (cs.set o v) (o + 1) vs
theorem setAll_length {α : Type} : ∀ (vs cs : List α) (o : Nat), (setAll cs o vs).length = cs.length
  | [], cs, o => rfl
  | v :: vs, cs, o => by rw [setAll, setAll_length vs]; simp
theorem concL_setAll {w : World} {ow : Nat → Prop} : ∀ {vs : List V} {ms : List Value} {cs : List V} {l : List Value} (o : Nat), concL w ow cs l → concL w ow vs ms → concL w ow (setAll cs o vs) (setAll l o ms)
  | [], ms, cs, l, o, h, k => by simp only [concL] at k; subst k; exact h
  | v :: vs, ms, cs, l, o, h, k => by
    simp only [concL] at k
    obtain ⟨x, xs, rfl, k1, k2⟩ := k
    exact concL_setAll (o + 1) (concL_set h o v x k1) k2
theorem setAll_eq {α : Type} : ∀ (vs cs : List α) (o : Nat), o + vs.length ≤ cs.length → setAll cs o vs = cs.take o ++ vs ++ cs.drop (o + vs.length)
  | [], cs, o, h => by simp [setAll]
  | v :: vs, cs, o, h => by
    simp only [List.length_cons] at h
    rw [setAll, setAll_eq vs _ _ (by simp; omega), List.take_set, List.drop_set]
    rw [if_pos (by omega)]
    have : (cs.take (o + 1)).set o v = cs.take o ++ [v] := by
      apply List.ext_getElem?
      intro i
      rcases Nat.lt_trichotomy i o with h1 | h1 | h1
      · rw [List.getElem?_set_ne (by omega), List.getElem?_append_left (by simp; omega), List.getElem?_take, List.getElem?_take, if_pos (by omega), if_pos h1]
      · subst h1
        rw [List.getElem?_set_self (by simp; omega), List.getElem?_append_right (by simp; omega)]
        simp [show min i cs.length = i by omega]
      · rw [List.getElem?_eq_none (by simp; omega), List.getElem?_eq_none (by simp; omega)]
    rw [this]
    simp [Nat.add_assoc, Nat.add_comm 1]
theorem one_setAll : ∀ {ms l : List Value} (o : Nat), (∀ y ∈ l, y.oneCell' = true) → (∀ y ∈ ms, y.oneCell' = true) → ∀ y ∈ setAll l o ms, y.oneCell' = true
  | [], l, o, h, k => h
  | m :: ms, l, o, h, k => by
    refine one_setAll (o + 1) (fun y hy => ?_) (fun y hy => k y (List.mem_cons_of_mem _ hy))
    rcases List.mem_or_eq_of_mem_set hy with h1 | h1
    · exact h y h1
    · exact h1 ▸ k m (List.mem_cons_self ..)
theorem evo_setRow {w : World} {b : Nat} {cs : Array Value} : Evo (fun k => k = b) w (fun k => k = b) (w.setRow b cs) :=
  ⟨rfl, rfl, rfl, by simp [World.setRow], fun k _ hk => setRow_other w b k cs hk, fun k hk => .inl hk⟩
theorem run_storeVar {w : World} {b o : Nat} {E : TypeId} {l : List Value} {v : Value} (t : Ty P T D sz bs z) (hb : w.heap[b]? = some (.cells l.toArray E (0, 0))) (hs : v.cells.size = sz) (hl : o + sz ≤ l.length) (h1 : ∀ y ∈ v.cells.toList, y.oneCell' = true) :
    (storeVar T ⟨b, o, none⟩ v).run P w = .ok () (w.setRow b (setAll l o v.cells.toList).toArray) := by
  have hst := run_storeCells_at P b o E v.cells.toList 0 l.toArray w hb (by simpa [hs] using hl) h1
  have hn : ¬ v.cells.size ≠ sz := by simp [hs]
  simp only [storeVar, Sem.run_bind, t.sizeOf, Result.andThen_ok, if_neg hn]
  rw [setAll_eq _ _ _ (by simpa [hs] using hl)]
  simpa using hst
theorem op_store_box {b o : Nat} {E : TypeId} {cells : List V} {v : V} {H' : List Ch} [t : Ty P T D sz bs z] (hx : s.ev x = some (.raw (.pointer (some ⟨b, o, none⟩)))) (hy : s.ev y = some v) (h1 : v.one = true ∨ ∃ cs, v = .agg cs)
    (hu : Upd (.box b E cells) (.box b E (setAll cells o v.cells)) H H') (hs : v.cells.length = sz) (hl : o + sz ≤ cells.length)
    (h : K s H') : OP j ⟨none, .store T x y, ty, pos, after, none⟩ K Q s H :=
  op_skip rfl fun a w st => by
    have e1 := st.sl.ev hx
    simp only [conc] at e1
    obtain ⟨k1, k2⟩ := conc_cells (st.sl.ev hy) h1
    obtain ⟨l, b1, b2, b3, _⟩ := box_cells st (List.mem_append_left _ hu.mem)
    have hlen : (a.eval y).cells.size = sz := by rw [← Array.length_toList, concL_length k1, hs]
    have ho : own [Ch.box b E cells] = fun k => k = b := by funext k; simp [own, blks, Ch.blk]
    have hst := run_storeVar (P := P) (o := o) t b1 hlen (by rw [concL_length b2]; exact hl) k2
    have ev : Evo (own [Ch.box b E cells]) w (own [Ch.box b E cells]) (w.setRow b (setAll l o (a.eval y).cells.toList).toArray) := by rw [ho]; exact evo_setRow
    have hown : own (H' ++ j.F) = own (H ++ j.F) := by
      obtain ⟨t', p1, p2⟩ := hu.split
      have q1 : own (H ++ j.F) = own (Ch.box b E cells :: t' ++ j.F) := own_funext (p1.append_right _)
      have q2 : own (H' ++ j.F) = own (Ch.box b E (setAll cells o v.cells) :: t' ++ j.F) := own_funext (p2.append_right _)
      rw [q1, q2]
      funext k
      simp [own, blks, Ch.blk]
    have kk : Keeps (own (H ++ j.F)) w (own (H' ++ j.F)) (w.setRow b (setAll l o (a.eval y).cells.toList).toArray) := by
      rw [hown]
      have hob : own (H ++ j.F) b := List.mem_filterMap.2 ⟨_, List.mem_append_left _ hu.mem, rfl⟩
      exact ⟨by simp [World.setRow], fun k _ hk => setRow_other w b k _ (fun e => hk (e ▸ hob)), fun _ _ h => h⟩
    refine ⟨_, H', ?_, (St.upd st hu rfl ev ⟨setAll l o (a.eval y).cells.toList, setRow_heap w b _ _ E _ b1, ?_, one_setAll o b3 k2⟩).1, h⟩
    · simp [execOp, e1, Instr.storeAt, Instr.sureAddr, hst]
    · exact concL_keep kk _ _ (concL_setAll o b2 k1)
end
end Go.AX

set_option linter.unusedVariables false
set_option linter.unusedSimpArgs false
namespace Go.AX
variable {P : Program} {N : Nat} {j : J P N} {Q : Exit → Sl → List Ch → Prop} {s : Sl} {H : List Ch} {ops : Array Oper} {rest : List Oper}

/-! ### Weaker states -/
def V.Le (v v' : V) : Prop := ∀ w ow x, conc w ow v x → conc w ow v' x
theorem le_nil_own : V.Le (.raw (.slice none 0 0)) (.own (.slice none 0 0)) := fun w ow x h => by simp only [conc] at h ⊢; exact ⟨h, by simp [Value.oneCell']⟩
theorem le_nil_ro : V.Le (.raw (.slice none 0 0)) (.ro []) := fun w ow x h => by
  simp only [conc] at h ⊢
  exact ⟨none, 0, h, Nat.le_refl _, Nat.zero_le _, .inl (by simp)⟩
theorem st_slot {a : Act} {w : World} {d : Nat} {v v' : V} (st : St j s H a w) (hv : s.get d = some v) (hle : ∀ x, conc w (own (H ++ j.F)) v x → conc w (own (H ++ j.F)) v' x) : St j ((d, v') :: s) H a w :=
  ⟨⟨st.sl.1, fun i u hu => by
    simp only [Sl.get] at hu
    cases e : Nat.beq i d
    · rw [e] at hu; exact st.sl.2 i u hu
    · rw [e] at hu
      simp at hu
      subst hu
      obtain rfl := Nat.eq_of_beq_eq_true e
      obtain ⟨x, h1, h2⟩ := st.sl.2 i v hv
      exact ⟨x, h1, hle x h2⟩⟩, st.hp, st.evo, st.df⟩
theorem st_forget {a : Act} {w : World} {s' : Sl} (st : St j s H a w) (h : ∀ i v, s'.get i = some v → s.get i = some v) : St j s' H a w :=
  ⟨⟨st.sl.1, fun i u hu => st.sl.2 i u (h i u hu)⟩, st.hp, st.evo, st.df⟩
theorem st_sub {a : Act} {w : World} {G : List Ch} (st : St j s H a w) (h : G.Sublist H) : St j s G a w := by
  have hs : (G ++ j.F).Sublist (H ++ j.F) := h.append_right _
  have hless : ∀ b, own (G ++ j.F) b → own (H ++ j.F) b := fun b hb => (hs.filterMap Ch.blk).mem hb
  have k : Keeps (own (H ++ j.F)) w (own (G ++ j.F)) w := ⟨Nat.le_refl _, fun _ _ _ => rfl, fun b _ h => hless b h⟩
  have hp' := st.hp.sub hs
  exact ⟨st.sl.keep k, ⟨hp'.nd, fun c hc => Ch.sat_keep k (hp'.sat c hc) fun _ _ => rfl⟩, st.evo.less fun b hb => (h.filterMap Ch.blk).mem hb, st.df⟩
theorem Take.sub {c : Ch} {l r : List Ch} (h : Take c l r) : r.Sublist l := by
  induction h with
  | here => exact List.sublist_cons_self _ _
  | there _ ih => exact ih.cons_cons _
theorem Take.mem {c : Ch} {l r : List Ch} (h : Take c l r) : c ∈ l := h.perm.mem_iff.2 (List.mem_cons_self ..)
/-- Nil is an empty slice of one's own. -/
theorem st_vec_nil {a : Act} {w : World} (st : St j s H a w) (E sz : Nat) : St j s (.vec (.slice none 0 0) E sz [] :: H) a w := by
  have hown : own (Ch.vec (.slice none 0 0) E sz [] :: H) = own H := rfl
  have hown2 : own (Ch.vec (.slice none 0 0) E sz [] :: H ++ j.F) = own (H ++ j.F) := rfl
  refine ⟨hown2 ▸ st.sl, ⟨?_, fun c hc => ?_⟩, hown ▸ st.evo, st.df⟩
  · exact st.hp.nd
  · rw [hown2]
    rcases List.mem_cons.1 hc with rfl | hc
    · exact ⟨[], World.ownsRow_nil _ _ _ _, rfl, by simp, by simp⟩
    · exact st.hp.sat c hc
theorem concRows_of {w : World} {ow : Nat → Prop} {b sz : Nat} (l : List Value) (hcell : ∀ i v, l[i]? = some v → w.cell? ⟨b, i, none⟩ = some v) (h1 : ∀ y ∈ l, y.oneCell' = true) : ∀ (rows : List (List V)) (o : Nat), (∀ r ∈ rows, r.length = sz) → concL w ow rows.flatten (l.drop o) → concRows w ow b sz o rows
  | [], o, hr, h => by simp [concRows]
  | r :: rows, o, hr, h => by
    have hrl := hr r (List.mem_cons_self ..)
    have key : ∀ (q : List V) (o : Nat) (rest : List V), concL w ow (q ++ rest) (l.drop o) → concAt w ow b o q ∧ concL w ow rest (l.drop (o + q.length)) := by
      intro q
      induction q with
      | nil => intro o rest h; exact ⟨by simp [concAt], by simpa using h⟩
      | cons v q ih =>
        intro o rest h
        rw [List.cons_append] at h
        simp only [concL] at h
        obtain ⟨x, xs, hx, k1, k2⟩ := h
        have hlo : l[o]? = some x := by
          have := congrArg (fun t => t[0]?) hx
          simpa using this
        have hxs : xs = l.drop (o + 1) := by
          have := congrArg List.tail hx
          simpa using this.symm
        subst hxs
        obtain ⟨m1, m2⟩ := ih (o + 1) rest k2
        exact ⟨⟨⟨x, hcell o x hlo, h1 x (List.mem_of_getElem? hlo), k1⟩, m1⟩, by simpa [Nat.add_assoc, Nat.add_comm 1] using m2⟩
    obtain ⟨m1, m2⟩ := key r o rows.flatten (by simpa using h)
    exact ⟨hrl, m1, concRows_of l hcell h1 rows (o + sz) (fun q hq => hr q (List.mem_cons_of_mem _ hq)) (hrl ▸ m2)⟩
/-- A slice of one's own that nobody will write any more. -/
theorem st_freeze {a : Act} {w : World} {sv : Value} {E sz : Nat} {rows : List (List V)} {H' : List Ch} (st : St j s H a w) (ht : Take (.vec sv E sz rows) H H') :
    St j s H' a w ∧ conc w (own (H' ++ j.F)) (.ro rows) sv := by
  have st' := st_sub st ht.sub
  refine ⟨st', ?_⟩
  have hpm : (H ++ j.F).Perm (Ch.vec sv E sz rows :: (H' ++ j.F)) := ht.perm.append_right _
  have hp := (own_funext hpm ▸ st.hp).perm hpm
  obtain ⟨l, ho, hl, h1, hr⟩ := hp.sat _ (List.mem_cons_self ..)
  simp only [conc]
  have hlen : l.length = rows.length * sz := ho.1
  rcases ho.2 with ⟨rfl, hn⟩ | ⟨g, cap, cur, rfl, _, hg, hc1, hc2, hcs, htk⟩
  · exact ⟨none, 0, by rw [hn], by omega, by omega, .inl ⟨List.eq_nil_of_length_eq_zero hn, fun _ => rfl⟩⟩
  · have hng : ¬ own (H' ++ j.F) g := by
      have := hp.nd
      simp only [blks, Ch.blk, Value.ownBlock, List.filterMap_cons, List.nodup_cons] at this
      exact this.1
    have k : Keeps (own (Ch.vec (.slice (some ⟨g, 0, none⟩) rows.length cap) E sz rows :: (H' ++ j.F))) w (own (H' ++ j.F)) w := ⟨Nat.le_refl _, fun _ _ _ => rfl, fun b _ h => by
      have h2 : b ∈ blks (H' ++ j.F) := h
      show b ∈ blks _
      simp only [blks, List.filterMap_cons, Ch.blk, Value.ownBlock, List.mem_cons]
      exact .inr h2⟩
    refine ⟨some ⟨g, 0, none⟩, cap, rfl, hc1, hc2, .inr ⟨g, 0, sz, rfl, (Array.getElem?_eq_some_iff.1 hg).1, hng, ?_⟩⟩
    refine concRows_of l (fun i v hv => ?_) h1 rows 0 hr (by simpa using concL_keep k _ _ hl)
    rw [cell_of_row w g i _ _ _ hg]
    rw [← htk, List.getElem?_take] at hv
    split at hv
    · simpa using hv
    · cases hv
theorem rl_freeze {l : List Oper} {d : Nat} {sv : Value} {E sz : Nat} {rows : List (List V)} {H' : List Ch} (hv : s.get d = some (.own sv)) (ht : Take (.vec sv E sz rows) H H') (h : RL j ops l Q ((d, .ro rows) :: s) H') : RL j ops l Q s H :=
  fun a w st => by
    obtain ⟨st', hc⟩ := st_freeze st ht
    exact h a w (st_slot st' hv fun x hx => by simp only [conc] at hx; rw [hx.1]; exact hc)
theorem aw_freeze {c : Code} {d : Nat} {sv : Value} {E sz : Nat} {rows : List (List V)} {H' : List Ch} (hv : s.get d = some (.own sv)) (ht : Take (.vec sv E sz rows) H H') (h : AW j c Q ((d, .ro rows) :: s) H') : AW j c Q s H :=
  fun hno a w st => by
    obtain ⟨st', hc⟩ := st_freeze st ht
    exact h hno a w (st_slot st' hv fun x hx => by simp only [conc] at hx; rw [hx.1]; exact hc)
/-- A temporary that holds nil becomes an empty slice of one's own. -/
theorem aw_nil_own {c : Code} (d E sz : Nat) (hv : s.get d = some (.raw (.slice none 0 0))) (h : AW j c Q ((d, .own (.slice none 0 0)) :: s) (.vec (.slice none 0 0) E sz [] :: H)) : AW j c Q s H :=
  fun hno a w st => h hno a w (st_slot (st_vec_nil st E sz) hv fun x hx => le_nil_own _ _ _ hx)
end Go.AX

set_option linter.unusedVariables false
set_option linter.unusedSimpArgs false
namespace Go.AX
variable {P : Program} {N : Nat} {j : J P N} {Q : Exit → Sl → List Ch → Prop} {s : Sl} {H : List Ch} {ops : Array Oper} {rest : List Oper} {K : Sl → List Ch → Prop}
variable {d : Nat} {dst : Option Tmp} {ty : TypeId} {pos : String} {after : Array Edge} {g : Option (Nat × Bool)} {T : TypeId} {x y : Operand} {D : TypeDesc} {sz bs : Nat} {z : Value}

/-! ### Structs -/
def V.okc (v : V) : Bool := v.one || (match v with | .agg _ => true | _ => false)
theorem V.okc_or {v : V} (h : v.okc = true) : v.one = true ∨ ∃ cs, v = .agg cs := by
  cases v <;> simp [V.okc, V.one] at h ⊢ <;> exact h
def fillV (pl : Nat → Option (Nat × Nat)) (L : Nat) : List V → List (Nat × V) → Option (List V)
  | cs, [] => some cs
  | cs, (i, v) :: r => match pl i with
    | none => none
    | some (o, n) => bif v.okc && (Nat.beq v.cells.length n && Nat.ble (o + n) L) then fillV pl L (setAll cs o v.cells) r else none
/-- Parts as values. -/
def Parts (w : World) (ow : Nat → Prop) : List (Nat × V) → List (Nat × Value) → Prop
  | [], l => l = []
  | (i, v) :: r, l => ∃ x xs, l = (i, x) :: xs ∧ conc w ow v x ∧ Parts w ow r xs
theorem foldl_setAll (o : Nat) : ∀ (m : List Value) (k : Nat) (cs : Array Value), (m.zipIdx k).foldl (fun cs (p : Value × Nat) => cs.setIfInBounds (o + p.2) p.1) cs = (setAll cs.toList (o + k) m).toArray
  | [], k, cs => by simp [setAll]
  | v :: m, k, cs => by
    rw [List.zipIdx_cons, List.foldl_cons, foldl_setAll o m (k + 1)]
    simp [setAll, Nat.add_assoc]
theorem fill_of {w : World} {ow : Nat → Prop} {pl : Nat → Option (Nat × Nat)} {L : Nat} : ∀ {ps : List (Nat × V)} {qs : List (Nat × Value)} {cs out : List V} {l : List Value}, fillV pl L cs ps = some out → Parts w ow ps qs → concL w ow cs l → (∀ y ∈ l, y.oneCell' = true) → cs.length = L →
    ∃ r : List Value, Instr.fill pl l.toArray qs = some r.toArray ∧ concL w ow out r ∧ (∀ y ∈ r, y.oneCell' = true) ∧ out.length = L
  | [], qs, cs, out, l, h, hp, hl, h1, hL => by
    simp only [Parts] at hp
    subst hp
    simp only [fillV, Option.some.injEq] at h
    subst h
    exact ⟨l, rfl, hl, h1, hL⟩
  | (i, v) :: ps, qs, cs, out, l, h, hp, hl, h1, hL => by
    simp only [Parts] at hp
    obtain ⟨x, xs, rfl, hx, hps⟩ := hp
    simp only [fillV] at h
    split at h
    · cases h
    · rename_i o n hpl
      cases hb : (v.okc && (Nat.beq v.cells.length n && Nat.ble (o + n) L))
      · rw [hb] at h; cases h
      · rw [hb] at h
        simp only [cond_true] at h
        simp only [Bool.and_eq_true] at hb
        obtain ⟨hok, hn, hle⟩ := hb
        have hn := Nat.eq_of_beq_eq_true hn
        have hle := Nat.le_of_ble_eq_true hle
        obtain ⟨k1, k2⟩ := conc_cells hx (V.okc_or hok)
        have hxs : x.cells.size = n := by rw [← Array.length_toList, concL_length k1, hn]
        have hll : l.length = L := (concL_length hl).trans hL
        have := fill_of h hps (concL_setAll o hl k1) (one_setAll o h1 k2) ((setAll_length ..).trans hL)
        obtain ⟨r, e1, e2⟩ := this
        refine ⟨r, ?_, e2⟩
        rw [← e1]
        simp only [Instr.fill, hpl]
        rw [if_neg (by simp [hxs, hll]; omega)]
        congr 1
        rw [← Array.foldl_toList, Array.toList_zipIdx]
        have := foldl_setAll o x.cells.toList 0 l.toArray
        simpa using this
class BuildT (P : Program) (T : TypeId) (pl : outParam (List (Nat × Nat))) (zc : outParam (List Value)) : Prop where
  h : ∀ w (parts : Array (Nat × Value)) (cells : Array Value), Instr.fill (fun i => pl[i]?) zc.toArray parts.toList = some cells → (Instr.build T parts).run P w = .ok (.agg cells) w
  one : ∀ y ∈ zc, y.oneCell' = true
theorem BuildT.of {T : TypeId} {fs : Array Field} {pl : List (Nat × Nat)} {zc : List Value} (hu : P.underlying T = some (.struct fs)) (hz : ∀ w, (zeroValue T).run P w = .ok (.agg zc.toArray) w)
    (hp : ∀ w, (fs.mapM fun f => do pure (f.offset, ← sizeOf f.type) : Sem (Array (Nat × Nat))).run P w = .ok pl.toArray w) (h1 : zc.all Value.oneCell' = true) : BuildT P T pl zc :=
  ⟨fun w parts cells h => by
    have e : (fun (i : Nat) => pl.toArray[i]?) = (fun (i : Nat) => pl[i]?) := by funext i; simp
    simp only [Instr.build, Sem.run_bind, hz, Result.andThen_ok, run_underlying hu, hp, Value.cells]
    have h' : Instr.fill (fun (i : Nat) => pl.toArray[i]?) zc.toArray parts.toList = some cells := by rw [e]; exact h
    simp [h], fun y hy => List.all_eq_true.1 h1 y hy⟩
def Sl.parts (s : Sl) : List (Nat × Operand) → Option (List (Nat × V))
  | [] => some []
  | (i, x) :: r => match s.ev x, s.parts r with
    | some v, some vs => some ((i, v) :: vs)
    | _, _ => none
theorem SlOk.parts {ow : Nat → Prop} {a : Act} {w : World} (h : SlOk N s ow a.tmps w) : ∀ {ps : List (Nat × Operand)} {vs : List (Nat × V)}, s.parts ps = some vs → Parts w ow vs (ps.map fun (i, x) => (i, a.eval x))
  | [], vs, hv => by simp only [Sl.parts, Option.some.injEq] at hv; subst hv; rfl
  | (i, x) :: ps, vs, hv => by
    simp only [Sl.parts] at hv
    split at hv
    · rename_i v us h1 h2
      simp only [Option.some.injEq] at hv
      subst hv
      exact ⟨_, _, rfl, h.ev h1, h.parts h2⟩
    · cases hv
theorem pv_build {parts : Array (Nat × Operand)} {ps : List (Nat × V)} {pl : List (Nat × Nat)} {zc : List Value} {cs : List V} [bt : BuildT P T pl zc] (hp : s.parts parts.toList = some ps) (hf : fillV (fun i => pl[i]?) zc.length (zc.map .raw) ps = some cs) :
    PureV j s H ⟨dst, .build T parts, ty, pos, after, g⟩ (.agg cs) := fun a w st => by
  obtain ⟨r, e1, e2, e3, _⟩ := fill_of hf (st.sl.parts hp) (concL_raw zc) bt.one (by simp)
  refine ⟨.agg r.toArray, fun w' => ?_, ?_⟩
  · have := bt.h w' (parts.map fun (i, x) => (i, a.eval x)) r.toArray (by simpa using e1)
    simp only [execOp, Sem.run_bind]
    simp [this]
  · simp only [conc]
    exact ⟨r, rfl, e2, e3⟩
/-- A field of a struct that is no variable. -/
class FieldOf (P : Program) (T i : Nat) (off : outParam Nat) (ag : outParam Bool) (sz : outParam Nat) : Prop where
  h : ∀ cs w, (ag = true → (Instr.field T (.agg cs) i).run P w = .ok (.agg (cs.extract off (off + sz))) w) ∧ (ag = false → ∀ v, cs[off]? = some v → (Instr.field T (.agg cs) i).run P w = .ok v w)
theorem FieldOf.of {T i : Nat} {fs : Array Field} {f : Field} {D : TypeDesc} {sz by_ : Nat} {z : Value} (hu : P.underlying T = some (.struct fs)) (hf : fs[i]? = some f) (t : Ty P f.type D sz by_ z) : FieldOf P T i f.offset (aggOf D) sz :=
  ⟨fun cs w => ⟨fun h => by simp [Instr.field, run_underlying hu, hf, asAgg, part, t.isAgg, h, t.sizeOf], fun h v hv => by simp [Instr.field, run_underlying hu, hf, asAgg, part, t.isAgg, h, hv]⟩⟩
theorem pv_field {i off sz : Nat} {cs : List V} {v : V} [hf : FieldOf P T i off false sz] (hx : s.ev x = some (.agg cs)) (hv : cs[off]? = some v) : PureV j s H ⟨dst, .field T x i, ty, pos, after, g⟩ v := fun a w st => by
  have h1 := st.sl.ev hx
  simp only [conc] at h1
  obtain ⟨l, h1, hl, _⟩ := h1
  obtain ⟨u, hu, hc⟩ := concL_get hl off v hv
  exact ⟨u, fun w' => by simp [execOp, h1, (hf.h l.toArray w').2 rfl u (by simpa using hu)], hc⟩
theorem pv_field_agg {i off sz : Nat} {cs ds : List V} [hf : FieldOf P T i off true sz] (hx : s.ev x = some (.agg cs)) (hv : (cs.drop off).take sz = ds) : PureV j s H ⟨dst, .field T x i, ty, pos, after, g⟩ (.agg ds) := fun a w st => by
  have h1 := st.sl.ev hx
  simp only [conc] at h1
  obtain ⟨l, h1, hl, h2⟩ := h1
  refine ⟨.agg ((l.drop off).take sz).toArray, fun w' => ?_, ?_⟩
  · have := (hf.h l.toArray w').1 rfl
    simp [execOp, h1, this]
  · simp only [conc]
    exact ⟨_, rfl, hv ▸ concL_take (concL_drop hl off) sz, fun y hy => h2 y (List.mem_of_mem_drop (List.mem_of_mem_take hy))⟩

/-! ### Slices that are built -/
theorem flat_len {sz : Nat} : ∀ {rows : List (List V)}, (∀ r ∈ rows, r.length = sz) → rows.flatten.length = rows.length * sz
  | [], _ => by simp
  | r :: rows, h => by
    rw [List.flatten_cons, List.length_append, h r (List.mem_cons_self ..), flat_len fun q hq => h q (List.mem_cons_of_mem _ hq), List.length_cons, Nat.succ_mul, Nat.add_comm]
/-- Filling all elements one behind the other. -/
theorem fill_seq {w : World} {ow : Nat → Prop} {sz : Nat} : ∀ {vs : List V} {xs : List Value} {cs : List Value} (k : Nat) (dn : List Value), concL w ow vs xs → (∀ v ∈ vs, v.okc = true ∧ v.cells.length = sz) → dn.length = k * sz → cs.length = vs.length * sz → (∀ y ∈ dn, y.oneCell' = true) →
    ∃ r : List Value, Instr.fill (fun i => some (i * sz, sz)) (dn ++ cs).toArray ((List.range' k vs.length).zip xs) = some (dn ++ r).toArray ∧ concL w ow (vs.map V.cells).flatten r ∧ (∀ y ∈ r, y.oneCell' = true)
  | [], xs, cs, k, dn, h, _, hd, hc, h1 => by
    have : cs = [] := List.eq_nil_of_length_eq_zero (by simpa using hc)
    subst this
    exact ⟨[], by simp [Instr.fill], rfl, by simp⟩
  | v :: vs, xs, cs, k, dn, h, hv, hd, hc, h1 => by
    simp only [concL] at h
    obtain ⟨x, xs, rfl, hx, hxs⟩ := h
    obtain ⟨hok, hn⟩ := hv v (List.mem_cons_self ..)
    obtain ⟨k1, k2⟩ := conc_cells hx (V.okc_or hok)
    have hxl : x.cells.toList.length = sz := (concL_length k1).trans hn
    have hcl : sz ≤ cs.length := by rw [hc, List.length_cons, Nat.succ_mul]; omega
    have hset : setAll (dn ++ cs) (k * sz) x.cells.toList = (dn ++ x.cells.toList) ++ cs.drop sz := by
      rw [setAll_eq _ _ _ (by simp only [List.length_append, hxl, hd]; omega), ← hd, hxl]
      simp
    obtain ⟨r, e1, e2, e3⟩ := fill_seq (vs := vs) (xs := xs) (cs := cs.drop sz) (k + 1) (dn ++ x.cells.toList) hxs (fun u hu => hv u (List.mem_cons_of_mem _ hu))
      (by simp only [List.length_append, hxl, hd, Nat.succ_mul]) (by simp only [List.length_drop, hc, List.length_cons, Nat.succ_mul]; omega)
      (fun y hy => by rcases List.mem_append.1 hy with hy | hy; exact h1 y hy; exact k2 y hy)
    refine ⟨x.cells.toList ++ r, ?_, concL_append k1 e2, fun y hy => by rcases List.mem_append.1 hy with hy | hy; exact k2 y hy; exact e3 y hy⟩
    rw [List.length_cons, List.range'_succ, List.zip_cons_cons]
    simp only [Instr.fill]
    have hxs2 : x.cells.size = sz := by rw [← Array.length_toList, hxl]
    rw [if_neg (by simp only [hxs2, List.size_toArray, List.length_append, hd]; simp; omega)]
    have hf : x.cells.zipIdx.foldl (fun cs (p : Value × Nat) => cs.setIfInBounds (k * sz + p.2) p.1) (dn ++ cs).toArray = (setAll (dn ++ cs) (k * sz) x.cells.toList).toArray := by
      rw [← Array.foldl_toList, Array.toList_zipIdx]
      have := foldl_setAll (k * sz) x.cells.toList 0 (dn ++ cs).toArray
      simpa using this
    rw [← List.append_assoc, ← e1, ← hset, ← hf]
def isSeq : Nat → List (Nat × Operand) → Bool
  | _, [] => true
  | k, (i, _) :: r => Nat.beq i k && isSeq (k + 1) r
theorem isSeq_zip {a : Operand → Value} : ∀ {k : Nat} {ps : List (Nat × Operand)}, isSeq k ps = true → ps.map (fun (i, x) => (i, a x)) = (List.range' k ps.length).zip ((ps.map (·.2)).map a)
  | k, [], h => rfl
  | k, (i, x) :: r, h => by
    simp only [isSeq, Bool.and_eq_true] at h
    obtain rfl := Nat.eq_of_beq_eq_true h.1
    rw [List.map_cons, isSeq_zip h.2, List.length_cons, List.range'_succ, List.map_cons, List.map_cons, List.zip_cons_cons]
def okcs (sz : Nat) : List V → Bool
  | [] => true
  | v :: vs => v.okc && (Nat.beq v.cells.length sz && okcs sz vs)
theorem okcs_mem {sz : Nat} : ∀ {vs : List V}, okcs sz vs = true → ∀ v ∈ vs, v.okc = true ∧ v.cells.length = sz
  | v :: vs, h, u, hu => by
    simp only [okcs, Bool.and_eq_true] at h
    rcases List.mem_cons.1 hu with rfl | hu
    · exact ⟨h.1, Nat.eq_of_beq_eq_true h.2.1⟩
    · exact okcs_mem h.2.2 u hu
theorem evs_length : ∀ {xs : List Operand} {vs : List V}, s.evs xs = some vs → vs.length = xs.length
  | [], vs, h => by simp only [Sl.evs, Option.some.injEq] at h; subst h; rfl
  | x :: xs, vs, h => by
    simp only [Sl.evs] at h
    split at h
    · rename_i v us h1 h2
      simp only [Option.some.injEq] at h
      subst h
      simp [evs_length h2]
    · cases h
/-- '[]T{..}': a new slice of one's own. -/
theorem op_buildSlice {e n : Nat} {DE : TypeDesc} {zs : Value} {szT bsT : Nat} {parts : Array (Nat × Operand)} {vs : List V} [t : Ty P T (.slice e) szT bsT zs] [te : Ty P e DE sz bs z]
    (hq : isSeq 0 parts.toList = true) (hn : parts.toList.length = n) (hv : s.evs (parts.toList.map (·.2)) = some vs) (hok : okcs sz vs = true) (hsz : Nat.blt 0 sz = true) (hsm : Nat.ble (n * sz) 16777216 = true) (hz : z.cells.size = sz) (hN : Nat.blt d N = true)
    (h : ∀ sv, K ((d, .own sv) :: s) (.vec sv e sz (vs.map V.cells) :: H)) : OP j ⟨some d, .buildSlice T n parts, ty, pos, after, none⟩ K Q s H :=
  op_eff rfl hN fun a w st => by
    have hxs := st.sl.evs hv
    have hmem := okcs_mem hok
    have hvl : vs.length = n := by rw [evs_length hv, List.length_map, hn]
    obtain ⟨r, e1, e2, e3⟩ := fill_seq (cs := (List.range (n * sz)).map fun i => z.cells[i % z.cells.size]!) 0 [] hxs hmem (by simp) (by simp [hvl]) (by simp)
    have hrl : r.length = n * sz := by rw [concL_length e2, flat_len (sz := sz) (fun q hq => by obtain ⟨v, hv, rfl⟩ := List.mem_map.1 hq; exact (hmem v hv).2), List.length_map, hvl]
    have hle := Nat.le_of_ble_eq_true hsm
    have hrows : ∀ q ∈ vs.map V.cells, q.length = sz := fun q hq => by obtain ⟨v, hv, rfl⟩ := List.mem_map.1 hq; exact (hmem v hv).2
    have st1 : St j s (.vec (.slice (some ⟨w.heap.size, 0, none⟩) n n) e sz (vs.map V.cells) :: H) a (w.alloc (.cells r.toArray e)) := by
      have ev : Evo (own []) w (own [Ch.vec (.slice (some ⟨w.heap.size, 0, none⟩) n n) e sz (vs.map V.cells)]) (w.alloc (.cells r.toArray e)) :=
        ⟨rfl, rfl, rfl, by simp, fun b hb _ => heap_alloc_old w _ hb, fun b hb => .inr (by simp [own, blks, Ch.blk, Value.ownBlock] at hb; omega)⟩
      have kk : Keeps (own (H ++ j.F)) w (own (Ch.vec (.slice (some ⟨w.heap.size, 0, none⟩) n n) e sz (vs.map V.cells) :: H ++ j.F)) (w.alloc (.cells r.toArray e)) :=
        ⟨by simp, fun b hb _ => heap_alloc_old w _ hb, fun b hb ho => by
          have : b ∈ blks (Ch.vec (.slice (some ⟨w.heap.size, 0, none⟩) n n) e sz (vs.map V.cells) :: (H ++ j.F)) := ho
          simp only [blks, Ch.blk, Value.ownBlock, List.filterMap_cons, List.mem_cons] at this
          rcases this with h | h
          · omega
          · exact h⟩
      refine (St.eff (Hf := []) (Hf' := [.vec (.slice (some ⟨w.heap.size, 0, none⟩) n n) e sz (vs.map V.cells)]) (Hr := H) st (.refl _) ev (by simp [blks, Ch.blk, Value.ownBlock]) (fun c hc => ?_)).1
      simp only [List.mem_singleton] at hc
      subst hc
      refine ⟨r, ⟨by rw [hrl, List.length_map, hvl], .inr ⟨w.heap.size, n, r.toArray, by rw [List.length_map, hvl], Nat.zero_le _, heap_alloc_new w _, by rw [List.length_map, hvl]; exact Nat.le_refl _, ?_, by simpa using hrl, ?_⟩⟩, concL_keep kk _ _ e2, e3, hrows⟩
      · have h0 : 0 < sz := Nat.le_of_ble_eq_true hsz
        have : n ≤ n * sz := Nat.le_mul_of_pos_right _ h0
        simp only [maxLen]
        omega
      · simp only [List.length_map, hvl]
        rw [← hrl]; simp
    refine ⟨.slice (some ⟨w.heap.size, 0, none⟩) n n, _, .own (.slice (some ⟨w.heap.size, 0, none⟩) n n), _, ?_, st1, by simp [conc, Value.oneCell'], h _⟩
    have hparts : (parts.map fun (i, x) => (i, a.eval x)).toList = (List.range' 0 vs.length).zip ((parts.toList.map (·.2)).map a.eval) := by
      rw [Array.toList_map, hvl, ← hn]
      exact isSeq_zip hq
    have hzero : ((Array.range (n * sz)).map fun i => z.cells[i % z.cells.size]!) = ((List.range (n * sz)).map fun i => z.cells[i % z.cells.size]!).toArray := by
      apply Array.toList_inj.1
      rw [Array.toList_map, Array.toList_range]
    have hfill : Instr.fill (fun i => some (i * sz, sz)) ((Array.range (n * sz)).map fun i => z.cells[i % z.cells.size]!) (parts.map fun x => (x.fst, a.eval x.snd)).toList = some r.toArray := by
      rw [hzero, hparts]
      simpa using e1
    have hng : ¬ n * sz > 2 ^ 24 := by omega
    simp only [execOp, Sem.run_bind, Instr.buildSlice, run_underlying t.u, Result.andThen_ok, te.sizeOf, if_neg hng]
    by_cases hzn : n * sz = 0
    · have h0 : ((Array.range (n * sz)).map fun i => (#[] : Array Value)[i % (#[] : Array Value).size]!) = ((Array.range (n * sz)).map fun i => z.cells[i % z.cells.size]!) := by rw [hzn]; simp
      rw [if_pos hzn]
      simp only [Sem.run_bind, Sem.run_pure, Result.andThen_ok]
      rw [h0, hfill]
      simp [newRow]
    · rw [if_neg hzn]
      simp only [Sem.run_bind, te.zeroValue, Sem.run_pure, Result.andThen_ok]
      rw [hfill]
      simp [newRow]
end Go.AX

set_option linter.unusedVariables false
set_option linter.unusedSimpArgs false
namespace Go.AX
variable {P : Program} {N : Nat} {j : J P N} {Q : Exit → Sl → List Ch → Prop} {s : Sl} {H : List Ch} {ops : Array Oper} {rest : List Oper} {K : Sl → List Ch → Prop}
variable {d : Nat} {dst : Option Tmp} {ty : TypeId} {pos : String} {after : Array Edge} {g : Option (Nat × Bool)} {T : TypeId} {x y : Operand} {D : TypeDesc} {sz bs : Nat} {z : Value}

theorem ownsRow_base {w : World} {b0 b1 e size n : Nat} {v : Value} {xs : List Value} (h : w.ownsRow b0 e size v n xs) (hb : b1 ≤ b0) : w.ownsRow b1 e size v n xs := by
  refine ⟨h.1, ?_⟩
  rcases h.2 with hn | ⟨g, cap, cur, h1, h2, h3⟩
  · exact .inl hn
  · exact .inr ⟨g, cap, cur, h1, by omega, h3⟩
/-- Where what came of a row lies: in its block, or in a new one. -/
theorem grown_block {w w' : World} {e size n m : Nat} {v v' : Value} {xs ys : List Value} (h : w.ownsRow 0 e size v n xs) (h' : w'.ownsRow 0 e size v' m ys) (hg : w.grownBy w' v.ownBlock) (hk : v'.ownBlock = v.ownBlock ∨ ∀ b, v'.ownBlock = some b → w.heap.size ≤ b) :
    ∀ b, v'.ownBlock = some b → v.ownBlock = some b ∨ w.heap.size ≤ b := fun b hb => by
  rcases hk with hk | hk
  · exact .inl (hk ▸ hb)
  · exact .inr (hk b hb)
/-- The append law, with where the new row lies. -/
theorem run_append_where (w : World) (t ty e : TypeId) (i : TypeInfo) (zz : Value) (size bytes : Nat) (ht : P.underlying t = some (.slice e)) (hi : P.info? e = some i) (hz : i.zero = some zz)
    (hsize : i.size = size) (hby : i.bytes = bytes) (hzs : zz.cells.size = size) (hsz : 0 < size)
    (v : Value) (n : Nat) (xs : List Value) (hown : w.ownsRow 0 e size v n xs)
    (a : Addr) (m c : Nat) (news : List Value) (hl : news.length = m * size) (hnews : ∀ j u, news[j]? = some u → w.cell? (a.add j) = some u) (h1 : ∀ u ∈ news, u.oneCell' = true)
    (h63 : n + m ≤ maxLen) (hbytes : (n + m) * bytes ≤ 140737488355328) :
    ∃ v' w', (Builtin.append_ #[t, t] ty #[v, .slice (some a) m c]).run P w = .ok v' w' ∧ w'.ownsRow 0 e size v' (n + m) (xs ++ news) ∧ w.grownBy w' v.ownBlock ∧ ∀ b, v'.ownBlock = some b → v.ownBlock = some b ∨ w.heap.size ≤ b := by
  rcases hown.2 with ⟨rfl, rfl⟩ | ⟨gg, cap, cur, rfl, hbg, hgg, hnc, hcm, hcs, htake⟩
  · -- nil: the law with the heap's size for a base
    have hx : xs = [] := List.eq_nil_of_length_eq_zero (by simpa using hown.1)
    subst hx
    obtain ⟨v', w', k1, k2, k3, _⟩ := run_append_own w w.heap.size t ty e i zz size bytes ht hi hz hsize hby hzs hsz (.slice none 0 0) 0 [] (World.ownsRow_nil _ _ _ _) a m c news hl hnews h1 h63 hbytes (Nat.le_refl _)
    exact ⟨v', w', k1, ownsRow_base k2 (Nat.zero_le _), k3, fun b hb => .inr (k2.lt b hb).1⟩
  · by_cases hroom : n + m ≤ cap
    · -- in its place
      have hr := run_append_room (P := P) w t ty e i ht hi gg n cap cur hgg a m c news (by rw [hsize]; exact hl) hnews h1 hroom (by rw [hsize, hl, hcs, ← Nat.add_mul]; exact Nat.mul_le_mul_right _ hroom)
      rw [hsize] at hr
      refine ⟨_, _, hr, ⟨?_, .inr ⟨gg, cap, _, rfl, Nat.zero_le _, setRow_heap w gg cur _ e _ hgg, hroom, hcm, ?_, ?_⟩⟩, ⟨rfl, rfl, rfl, by simp [World.setRow], fun k _ hk => setRow_other w gg k _ (fun e => hk (by simp [Value.ownBlock, e]))⟩, fun b hb => .inl (by simpa [Value.ownBlock] using hb)⟩
      · rw [List.length_append, hown.1, hl, Nat.add_mul]
      · have h2 : n * size + news.length ≤ cur.size := by rw [hl, hcs, ← Nat.add_mul]; exact Nat.mul_le_mul_right _ hroom
        simp only [List.size_toArray, List.length_append, List.length_take, List.length_drop, Array.length_toList]
        omega
      · have h2 : n * size + news.length ≤ cur.size := by rw [hl, hcs, ← Nat.add_mul]; exact Nat.mul_le_mul_right _ hroom
        rw [htake, Nat.add_mul, ← hl, ← hown.1, List.append_assoc, ← List.append_assoc, ← List.length_append, List.take_left' rfl]
    · -- in a new one
      obtain ⟨v', w', k1, k2, k3, _⟩ := run_append_own w 0 t ty e i zz size bytes ht hi hz hsize hby hzs hsz _ n xs hown a m c news hl hnews h1 h63 hbytes (Nat.zero_le _)
      have holds : ∀ q u, xs[q]? = some u → w.cell? ((⟨gg, 0, none⟩ : Addr).add q) = some u := hown.cells rfl
      have hr := run_append_grow (P := P) w t ty e i zz ht hi hz ⟨gg, 0, none⟩ n cap xs (by rw [hsize]; exact hown.1) holds a m c news (by rw [hsize]; exact hl) hnews (by omega) (by simp only [maxLen] at h63; omega) (by rw [hby]; exact growslice_fits (by omega) hbytes)
      rw [k1] at hr
      injection hr with hv _
      subst hv
      refine ⟨_, w', k1, k2, k3, fun b hb => .inr ?_⟩
      simp only [Value.ownBlock, Option.some.injEq] at hb
      omega
/-- Rows of a slice that is read, as a list of cells. -/
theorem rows_list {w : World} {ow : Nat → Prop} {b sz : Nat} : ∀ {rows : List (List V)} {o : Nat}, concRows w ow b sz o rows → ∃ l : List Value, concL w ow rows.flatten l ∧ (∀ y ∈ l, y.oneCell' = true) ∧ (∀ i v, l[i]? = some v → w.cell? ⟨b, o + i, none⟩ = some v) ∧ l.length = rows.length * sz ∧ ∀ r ∈ rows, r.length = sz
  | [], o, h => ⟨[], rfl, by simp, by simp, by simp, by simp⟩
  | r :: rows, o, h => by
    simp only [concRows] at h
    obtain ⟨h1, h2, h3⟩ := h
    obtain ⟨l1, a1, a2, a3⟩ := concAt_list h2
    obtain ⟨l2, b1, b2, b3, b4, b5⟩ := rows_list h3
    have hl1 : l1.length = sz := (concL_length a1).trans h1
    refine ⟨l1 ++ l2, by rw [List.flatten_cons]; exact concL_append a1 b1, fun y hy => ?_, fun i v hv => ?_, ?_, fun q hq => ?_⟩
    · rcases List.mem_append.1 hy with hy | hy
      · exact a2 y hy
      · exact b2 y hy
    · by_cases hi : i < l1.length
      · rw [List.getElem?_append_left hi] at hv
        exact a3 i v hv
      · rw [List.getElem?_append_right (by omega)] at hv
        have := b3 _ v hv
        rwa [show o + sz + (i - l1.length) = o + i by omega] at this
    · rw [List.length_append, hl1, b4, List.length_cons, Nat.succ_mul, Nat.add_comm]
    · rcases List.mem_cons.1 hq with rfl | hq
      · exact h1
      · exact b5 q hq
theorem op_append_gen {e : Nat} {DE : TypeDesc} {zs sv : Value} {szT bsT : Nat} {rows news : List (List V)} {H' : List Ch} [t : Ty P T (.slice e) szT bsT zs] [te : Ty P e DE sz bs z]
    (hx : ∀ a w, St j s H a w → a.eval x = sv) (ht : Take (.vec sv e sz rows) H H') (hy : s.ev y = some (.ro news)) (hsz : Nat.blt 0 sz = true) (hbs : Nat.blt 0 bs = true) (hzs : z.cells.size = sz) (hl : ∀ r ∈ news, r.length = sz) (hb : (rows.length + news.length) * bs ≤ 140737488355328) (hN : Nat.blt d N = true)
    (h : ∀ sv', K ((d, .own sv') :: s) (.vec sv' e sz (rows ++ news) :: H')) : OP j ⟨some d, .call { callee := .builtin .append, args := #[x, y], argTypes := #[T, T] }, ty, pos, after, none⟩ K Q s H :=
  op_eff rfl hN fun a w st => by
    have h1 : a.eval x = sv ∧ True := ⟨hx a w st, trivial⟩
    have h2 := st.sl.ev hy
    simp only [conc] at h2
    have h0 : 0 < sz := Nat.le_of_ble_eq_true hsz
    have h0b : 0 < bs := Nat.le_of_ble_eq_true hbs
    have h63 : rows.length + news.length ≤ maxLen := by
      have : rows.length + news.length ≤ (rows.length + news.length) * bs := Nat.le_mul_of_pos_right _ h0b
      simp only [maxLen]
      omega
    obtain ⟨l, ho, hl1, h1c, hr⟩ := st.hp.sat _ (List.mem_append_left _ ht.mem)
    obtain ⟨A, c, hy2, hc1, hc2, hA⟩ := h2
    obtain ⟨i, hi1, hi2, hi3, hi4⟩ := te.i
    have fin : ∀ (sv' : Value) (w' : World) (nl : List Value), (Builtin.append_ #[T, T] ty #[sv, .slice A news.length c]).run P w = .ok sv' w' → w'.ownsRow 0 e sz sv' (rows.length + news.length) (l ++ nl) → w.grownBy w' sv.ownBlock → (∀ b, sv'.ownBlock = some b → sv.ownBlock = some b ∨ w.heap.size ≤ b) → concL w (own (H ++ j.F)) news.flatten nl → (∀ y ∈ nl, y.oneCell' = true) →
        ∃ x' w'' v H'', (execOp a.eval ⟨some d, .call { callee := .builtin .append, args := #[x, y], argTypes := #[T, T] }, ty, pos, after, none⟩).run P w = .ok (.value x') w'' ∧ St j s H'' a w'' ∧ conc w'' (own (H'' ++ j.F)) v x' ∧ K ((d, v) :: s) H'' := by
      intro sv' w' nl k1 k2 k3 k4 k5 k6
      have ev : Evo (own [Ch.vec sv e sz rows]) w (own [Ch.vec sv' e sz (rows ++ news)]) w' := by
        have e1 : ∀ (sv : Value) rows b, own [Ch.vec sv e sz rows] b ↔ sv.ownBlock = some b := by
          intro sv rows b
          cases hsv : sv.ownBlock <;> simp [own, blks, Ch.blk, hsv, eq_comm]
        exact ⟨k3.os, k3.tape, k3.output, k3.size, fun b hb hn => k3.block b hb (fun e => hn ((e1 _ _ _).2 e.symm)), fun b hb => by
          rcases k4 b ((e1 _ _ _).1 hb) with h | h
          · exact .inl ((e1 _ _ _).2 h)
          · exact .inr h⟩
      have hp1 := ht.perm
      have kk : Keeps (own (H ++ j.F)) w (own (Ch.vec sv' e sz (rows ++ news) :: H' ++ j.F)) w' := by
        have hq : own (H ++ j.F) = own (Ch.vec sv e sz rows :: H' ++ j.F) := own_funext (hp1.append_right _)
        rw [hq]
        have := (ev.frame (of := own (H' ++ j.F))).keeps
        have q1 : (fun b => own [Ch.vec sv e sz rows] b ∨ own (H' ++ j.F) b) = own (Ch.vec sv e sz rows :: H' ++ j.F) := funext fun b => propext (own_append [_] _ b).symm
        have q2 : (fun b => own [Ch.vec sv' e sz (rows ++ news)] b ∨ own (H' ++ j.F) b) = own (Ch.vec sv' e sz (rows ++ news) :: H' ++ j.F) := funext fun b => propext (own_append [_] _ b).symm
        rwa [q1, q2] at this
      have sat' : (Ch.vec sv' e sz (rows ++ news)).sat w' (own (Ch.vec sv' e sz (rows ++ news) :: H' ++ j.F)) := by
        refine ⟨l ++ nl, by rw [List.length_append]; exact k2, ?_, fun y hy => ?_, fun r hr' => ?_⟩
        · rw [List.flatten_append]
          exact concL_keep kk _ _ (concL_append hl1 k5)
        · rcases List.mem_append.1 hy with hy | hy
          · exact h1c y hy
          · exact k6 y hy
        · rcases List.mem_append.1 hr' with hr' | hr'
          · exact hr r hr'
          · exact hl r hr'
      have st' := (St.eff (Hf := [.vec sv e sz rows]) (Hf' := [.vec sv' e sz (rows ++ news)]) (Hr := H') st hp1 ev (by simp only [blks, List.filterMap_cons, List.filterMap_nil, Ch.blk]; cases sv'.ownBlock <;> simp) (fun c hc => by simp only [List.mem_singleton] at hc; subst hc; exact sat')).1
      obtain ⟨A', c', hf', _⟩ := own_form k2
      refine ⟨sv', w', .own sv', _, ?_, st', by simp only [conc]; exact ⟨trivial, by rw [hf']; rfl⟩, h sv'⟩
      simp [execOp, resolve, invoke, builtin, h1.1, hy2, k1]
    rcases hA with ⟨hn, hAc⟩ | ⟨b, o, sz', hA, hb2, ho2, hR⟩
    · subst hn
      cases A with
      | none =>
        have hc0 := hAc rfl
        subst hc0
        have hrun := run_append_owned_none (P := P) w 0 T ty e i sz t.u hi1 sv rows.length l ho
        refine fin sv w [] ?_ ?_ ⟨rfl, rfl, rfl, Nat.le_refl _, fun _ _ _ => rfl⟩ (fun b hb => .inl hb) rfl (by simp)
        · simpa using hrun
        · simpa using ho
      | some ad =>
        obtain ⟨v', w', k1, k2, k3, k4⟩ := run_append_where (P := P) w T ty e i z sz bs t.u hi1 hi4 hi2 hi3 hzs h0 sv rows.length l ho ad 0 c [] (by simp) (by simp) (by simp) (by simpa using h63) (by simpa using hb)
        exact fin v' w' [] (by simpa using k1) (by simpa using k2) k3 k4 rfl (by simp)
    · subst hA
      obtain ⟨nl, b1, b2, b3, b4, b5⟩ := rows_list hR
      cases news with
      | nil =>
        obtain ⟨v', w', k1, k2, k3, k4⟩ := run_append_where (P := P) w T ty e i z sz bs t.u hi1 hi4 hi2 hi3 hzs h0 sv rows.length l ho ⟨b, o, none⟩ 0 c [] (by simp) (by simp) (by simp) (by simpa using h63) (by simpa using hb)
        exact fin v' w' [] (by simpa using k1) (by simpa using k2) k3 k4 rfl (by simp)
      | cons r0 news =>
        have hsz' : sz' = sz := (b5 r0 (List.mem_cons_self ..)).symm.trans (hl r0 (List.mem_cons_self ..))
        subst hsz'
        obtain ⟨v', w', k1, k2, k3, k4⟩ := run_append_where (P := P) w T ty e i z sz' bs t.u hi1 hi4 hi2 hi3 hzs h0 sv rows.length l ho ⟨b, o, none⟩ (r0 :: news).length c nl b4 (fun q u hu => by rw [addr_add]; exact b3 q u hu) b2 h63 hb
        exact fin v' w' nl k1 k2 k3 k4 b1 b2
/-- 'append(own, read...)'. -/
theorem op_append {e : Nat} {DE : TypeDesc} {zs sv : Value} {szT bsT : Nat} {rows news : List (List V)} {H' : List Ch} [t : Ty P T (.slice e) szT bsT zs] [te : Ty P e DE sz bs z]
    (hx : s.ev x = some (.own sv)) (ht : Take (.vec sv e sz rows) H H') (hy : s.ev y = some (.ro news)) (hsz : Nat.blt 0 sz = true) (hbs : Nat.blt 0 bs = true) (hzs : z.cells.size = sz) (hl : ∀ r ∈ news, r.length = sz) (hb : (rows.length + news.length) * bs ≤ 140737488355328) (hN : Nat.blt d N = true)
    (h : ∀ sv', K ((d, .own sv') :: s) (.vec sv' e sz (rows ++ news) :: H')) : OP j ⟨some d, .call { callee := .builtin .append, args := #[x, y], argTypes := #[T, T] }, ty, pos, after, none⟩ K Q s H :=
  op_append_gen (fun a w st => by have := st.sl.ev hx; simp only [conc] at this; exact this.1) ht hy hsz hbs hzs hl hb hN h
/-- 'append(nil, read...)', where a nil slice stands among the chunks. -/
theorem op_append_nil {e : Nat} {DE : TypeDesc} {zs : Value} {szT bsT : Nat} {news : List (List V)} {H' : List Ch} [t : Ty P T (.slice e) szT bsT zs] [te : Ty P e DE sz bs z]
    (hx : s.ev x = some (.raw (.slice none 0 0))) (ht : Take (.vec (.slice none 0 0) e sz []) H H') (hy : s.ev y = some (.ro news)) (hsz : Nat.blt 0 sz = true) (hbs : Nat.blt 0 bs = true) (hzs : z.cells.size = sz) (hl : ∀ r ∈ news, r.length = sz) (hb : (0 + news.length) * bs ≤ 140737488355328) (hN : Nat.blt d N = true)
    (h : ∀ sv', K ((d, .own sv') :: s) (.vec sv' e sz news :: H')) : OP j ⟨some d, .call { callee := .builtin .append, args := #[x, y], argTypes := #[T, T] }, ty, pos, after, none⟩ K Q s H :=
  op_append_gen (fun a w st => by have := st.sl.ev hx; simpa only [conc] using this) ht hy hsz hbs hzs hl hb hN h
end Go.AX

set_option linter.unusedVariables false
set_option linter.unusedSimpArgs false
namespace Go.AX
variable {P : Program} {N : Nat} {j : J P N} {Q : Exit → Sl → List Ch → Prop} {s : Sl} {H : List Ch} {ops : Array Oper} {rest : List Oper} {K : Sl → List Ch → Prop}
variable {d : Nat} {dst : Option Tmp} {ty : TypeId} {pos : String} {after : Array Edge} {g : Option (Nat × Bool)} {T : TypeId} {x y : Operand} {D : TypeDesc} {sz bs : Nat} {z : Value}

theorem flatten_set1 {α : Type} {k : Nat} : ∀ {rows : List (List α)}, (∀ r ∈ rows, r.length = k) → ∀ {i : Nat} {r : List α} {o : Nat} {v : α}, rows[i]? = some r → o < k → (rows.set i (r.set o v)).flatten = rows.flatten.set (i * k + o) v
  | [], _, i, r, o, v, hr, _ => by simp at hr
  | q :: rows, h, i, r, o, v, hr, ho => by
    have hq := h q (List.mem_cons_self ..)
    cases i with
    | zero =>
      simp at hr
      subst hr
      rw [List.set_cons_zero, List.flatten_cons, List.flatten_cons, Nat.zero_mul, Nat.zero_add, List.set_append_left _ _ (by omega)]
    | succ i =>
      rw [List.set_cons_succ, List.flatten_cons, List.flatten_cons, flatten_set1 (fun r hr => h r (List.mem_cons_of_mem _ hr)) (by simpa using hr) ho, Nat.succ_mul, List.set_append_right _ _ (by omega)]
      congr 2
      omega
theorem flatten_setAll {α : Type} {k : Nat} {rows : List (List α)} (h : ∀ r ∈ rows, r.length = k) {i : Nat} : ∀ (cs : List α) {r : List α} {rows : List (List α)} (_ : ∀ r ∈ rows, r.length = k) {o : Nat}, rows[i]? = some r → o + cs.length ≤ k → (rows.set i (setAll r o cs)).flatten = setAll rows.flatten (i * k + o) cs
  | [], r, rows, h, o, hr, ho => by
    have hi := (List.getElem?_eq_some_iff.1 hr)
    obtain ⟨hlt, he⟩ := hi
    simp only [setAll]
    rw [← he, List.set_getElem_self]
  | v :: cs, r, rows, h, o, hr, ho => by
    simp only [List.length_cons] at ho
    have hlt := (List.getElem?_eq_some_iff.1 hr).1
    have hrk : r.length = k := h r (List.mem_of_getElem? hr)
    have h' : ∀ q ∈ rows.set i (r.set o v), q.length = k := fun q hq => by
      rcases List.mem_or_eq_of_mem_set hq with h1 | h1
      · exact h q h1
      · rw [h1, List.length_set, hrk]
    have := flatten_setAll h' cs (r := r.set o v) h' (o := o + 1) (by rw [List.getElem?_set_self hlt]) (by omega)
    simp only [setAll]
    rw [List.set_set] at this
    rw [this, flatten_set1 h hr (by omega), Nat.add_assoc]
theorem take_setAll {α : Type} : ∀ (cs l : List α) (o n : Nat), (setAll l o cs).take n = setAll (l.take n) o cs
  | [], l, o, n => rfl
  | v :: cs, l, o, n => by
    simp only [setAll]
    rw [take_setAll cs, List.take_set]
/-- A store into an element of a slice of one's own. -/
theorem op_store_vp {i o E k : Nat} {sv : Value} {rows : List (List V)} {r : List V} {v : V} {H' : List Ch} [t : Ty P T D sz bs z] (hx : s.ev x = some (.vp sv k i o)) (hy : s.ev y = some v) (h1 : v.one = true ∨ ∃ cs, v = .agg cs)
    (hu : Upd (.vec sv E k rows) (.vec sv E k (rows.set i (setAll r o v.cells))) H H') (hr : rows[i]? = some r) (hs : v.cells.length = sz) (hl : o + sz ≤ k)
    (h : K s H') : OP j ⟨none, .store T x y, ty, pos, after, none⟩ K Q s H :=
  op_skip rfl fun a w st => by
    have e1 := st.sl.ev hx
    simp only [conc] at e1
    obtain ⟨b, n, c, hsv, e1⟩ := e1
    subst hsv
    obtain ⟨k1, k2⟩ := conc_cells (st.sl.ev hy) h1
    obtain ⟨l, ho, hl1, h1c, hrows⟩ := st.hp.sat _ (List.mem_append_left _ hu.mem)
    rcases ho.2 with ⟨hnil, _⟩ | ⟨g0, cap, cur, hsv, _, hg, hc1, hc2, hcs, htk⟩
    · cases hnil
    · injection hsv with hsv1 hsv2 hsv3
      injection hsv1 with hsv1
      injection hsv1 with hsv1
      subst hsv1 hsv2 hsv3
      have hi : i < rows.length := (List.getElem?_eq_some_iff.1 hr).1
      have hrk : r.length = k := hrows r (List.mem_of_getElem? hr)
      have hik : i * k + k ≤ rows.length * k := by rw [← Nat.succ_mul]; exact Nat.mul_le_mul_right _ hi
      have hcur : rows.length * k ≤ cur.size := by rw [hcs]; exact Nat.mul_le_mul_right _ hc1
      have hlen : (a.eval y).cells.size = sz := by rw [← Array.length_toList, concL_length k1, hs]
      have hst := run_storeVar (P := P) (b := b) (o := i * k + o) (l := cur.toList) t (by simpa using hg) hlen (by rw [Array.length_toList]; omega) k2
      have hown : own [Ch.vec (.slice (some ⟨b, 0, none⟩) rows.length c) E k rows] = fun q => q = b := by funext q; simp [own, blks, Ch.blk, Value.ownBlock]
      have ev : Evo (own [Ch.vec (.slice (some ⟨b, 0, none⟩) rows.length c) E k rows]) w (own [Ch.vec (.slice (some ⟨b, 0, none⟩) rows.length c) E k rows]) (w.setRow b (setAll cur.toList (i * k + o) (a.eval y).cells.toList).toArray) := by rw [hown]; exact evo_setRow
      have hsame : own (H' ++ j.F) = own (H ++ j.F) := by
        obtain ⟨t', p1, p2⟩ := hu.split
        rw [own_funext (p1.append_right j.F), own_funext (p2.append_right j.F)]
        rfl
      have kk : Keeps (own (H ++ j.F)) w (own (H' ++ j.F)) (w.setRow b (setAll cur.toList (i * k + o) (a.eval y).cells.toList).toArray) := by
        rw [hsame]
        have hob : own (H ++ j.F) b := List.mem_filterMap.2 ⟨_, List.mem_append_left _ hu.mem, rfl⟩
        exact ⟨by simp [World.setRow], fun q _ hk => setRow_other w b q _ (fun e => hk (e ▸ hob)), fun _ _ h => h⟩
      have hflat : (rows.set i (setAll r o v.cells)).flatten = setAll rows.flatten (i * k + o) v.cells := flatten_setAll hrows v.cells hrows hr (by omega)
      have sat' : (Ch.vec (.slice (some ⟨b, 0, none⟩) rows.length c) E k (rows.set i (setAll r o v.cells))).sat (w.setRow b (setAll cur.toList (i * k + o) (a.eval y).cells.toList).toArray) (own (H' ++ j.F)) := by
        refine ⟨setAll l (i * k + o) (a.eval y).cells.toList, ⟨by rw [setAll_length, ho.1, List.length_set], .inr ⟨b, c, _, by rw [List.length_set], Nat.zero_le _, setRow_heap w b cur _ E _ hg, by rw [List.length_set]; exact hc1, hc2, by simp [setAll_length, hcs], ?_⟩⟩, ?_, one_setAll _ h1c k2, fun q hq => ?_⟩
        · rw [List.length_set]
          show List.take _ (setAll cur.toList _ _) = _
          rw [take_setAll, htk]
        · rw [hflat]
          exact concL_keep kk _ _ (concL_setAll _ hl1 k1)
        · rcases List.mem_or_eq_of_mem_set hq with h1 | h1
          · exact hrows q h1
          · rw [h1, setAll_length, hrk]
      refine ⟨_, H', ?_, (St.upd st hu rfl ev sat').1, h⟩
      simp [execOp, e1, Instr.storeAt, Instr.sureAddr, hst]
end Go.AX

set_option linter.unusedVariables false
set_option linter.unusedSimpArgs false
namespace Go.AX
variable {P : Program} {N : Nat} {j : J P N} {Q : Exit → Sl → List Ch → Prop} {s : Sl} {H : List Ch} {ops : Array Oper} {rest : List Oper} {K : Sl → List Ch → Prop}
variable {d : Nat} {dst : Option Tmp} {ty : TypeId} {pos : String} {after : Array Edge} {g : Option (Nat × Bool)} {T : TypeId} {x y : Operand} {D : TypeDesc} {sz bs : Nat} {z : Value}

inductive AEnd where
  | ret (v : V)
  | pan (chain : List PanicEntry)
def concEnd (w : World) (ow : Nat → Prop) : AEnd → Ending → Prop
  | .ret v, e => ∃ x, e = .returned x ∧ conc w ow v x
  | .pan ch, e => e = .panicked ch
/-- A call with abstract arguments, over the chunks H: how it ends, and what has become of the chunks. -/
def Tri (P : Program) (f : FuncId) (vs : List V) (H : List Ch) (Post : AEnd → List Ch → Prop) : Prop :=
  ∀ (F : List Ch) (w : World) (xs : List Value), Hp (own (H ++ F)) (H ++ F) w → concL w (own (H ++ F)) vs xs →
    Calls P f xs.toArray w fun e w' => ∃ ae H', concEnd w' (own (H' ++ F)) ae e ∧ (blks H').Nodup ∧ (∀ c ∈ H', c.sat w' (own (H' ++ F))) ∧ Evo (own H) w (own H') w' ∧ Post ae H'
/-- It returns. -/
def TriR (P : Program) (f : FuncId) (vs : List V) (H : List Ch) (R : V → List Ch → Prop) : Prop := Tri P f vs H fun ae H' => ∃ v, ae = .ret v ∧ R v H'
/-- A function of its arguments alone. -/
def Fun (P : Program) (f : FuncId) (vs : List V) (v : V) : Prop := TriR P f vs [] fun u H' => u = v ∧ H' = []
theorem Tri.mono {f : FuncId} {vs : List V} {Post Post' : AEnd → List Ch → Prop} (h : Tri P f vs H Post) (hp : ∀ ae H', Post ae H' → Post' ae H') : Tri P f vs H Post' :=
  fun F w xs h1 h2 => (h F w xs h1 h2).mono fun e w' ⟨ae, H', k1, k2, k3, k4, k5⟩ => ⟨ae, H', k1, k2, k3, k4, hp _ _ k5⟩
class Ent (P : Program) (f : FuncId) : Prop where
  h : ∀ args w, (callFunc f args).run P w = .ok (.enter f args) w
theorem op_call {f : FuncId} {fop : Operand} {args : Array Operand} {tys : Array TypeId} {bf cap vs : List V} {Hf Hr : List Ch} {Post : AEnd → List Ch → Prop} [en : Ent P f]
    (hf : asFn (s.ev fop) = some (f, bf, cap)) (ha : s.evs args.toList = some vs) (hp : Pick Hf H Hr) (ht : Tri P f (bf ++ vs ++ cap) Hf Post) (hN : Nat.blt d N = true)
    (hk : ∀ ae H', Post ae H' → match ae with
      | .ret v => K ((d, v) :: s) (H' ++ Hr)
      | .pan ch => Q (.panic ch) s (H' ++ Hr)) : OP j ⟨some d, .call { callee := .value fop, args := args, argTypes := tys }, ty, pos, after, none⟩ K Q s H :=
  fun a w st K' hK => by
    obtain ⟨u, hu⟩ : ∃ u, s.ev fop = some u := by
      cases e : s.ev fop with
      | none => rw [e] at hf; cases hf
      | some u => exact ⟨u, rfl⟩
    obtain ⟨l0, l, h1, hl0, hl⟩ := asFn_conc hu hf (st.sl.ev hu)
    have h2 := st.sl.evs ha
    have hpm := hp.perm
    have hpF : (H ++ j.F).Perm (Hf ++ (Hr ++ j.F)) := by rw [← List.append_assoc]; exact hpm.append_right _
    have hcL : concL w (own (Hf ++ (Hr ++ j.F))) (bf ++ vs ++ cap) (l0 ++ args.toList.map a.eval ++ l) := by
      rw [← own_funext hpF]
      exact concL_append (concL_append hl0 h2) hl
    have hcall := ht (Hr ++ j.F) w _ ((own_funext hpF ▸ st.hp).perm hpF) hcL
    have hrun : (execOp a.eval ⟨some d, .call { callee := .value fop, args := args, argTypes := tys }, ty, pos, after, none⟩).run P w = .ok (.enter f (l0 ++ args.toList.map a.eval ++ l).toArray) w := by
      simp only [execOp, resolve, h1, Deferred.ofValue, Sem.run_bind, Sem.run_pure, Result.andThen_ok, invoke, en.h]
      congr 2
      apply Array.toList_inj.1
      simp
    simp only [Oper.wp, hrun, Oper.upon]
    refine hcall.mono fun e w' ⟨ae, H', k1, k2, k3, k4, k5⟩ => ?_
    have e1 : own (H' ++ (Hr ++ j.F)) = own (H' ++ Hr ++ j.F) := by rw [List.append_assoc]
    obtain ⟨st', _, _⟩ := St.eff (Hf := Hf) (Hf' := H') (Hr := Hr) st hpm k4 k2 (fun c hc => e1 ▸ k3 c hc)
    have hk' := hk ae H' k5
    cases ae with
    | ret v =>
      obtain ⟨x, rfl, hx⟩ := k1
      refine hK _ _ ⟨_, _, ?_, hk'⟩
      have := st'.put (d := some d) (e1 ▸ hx) (fun i hi => by cases hi; exact Nat.le_of_ble_eq_true hN)
      exact this
    | pan ch =>
      simp only [concEnd] at k1
      subst k1
      exact ⟨s, _, st', hk'⟩
theorem op_callR {f : FuncId} {fop : Operand} {args : Array Operand} {tys : Array TypeId} {bf cap vs : List V} {Hf Hr : List Ch} {R : V → List Ch → Prop} [en : Ent P f]
    (hf : asFn (s.ev fop) = some (f, bf, cap)) (ha : s.evs args.toList = some vs) (hp : Pick Hf H Hr) (ht : TriR P f (bf ++ vs ++ cap) Hf R) (hN : Nat.blt d N = true)
    (hk : ∀ v H', R v H' → K ((d, v) :: s) (H' ++ Hr)) : OP j ⟨some d, .call { callee := .value fop, args := args, argTypes := tys }, ty, pos, after, none⟩ K Q s H :=
  op_call hf ha hp ht hN fun ae H' h => by
    obtain ⟨v, rfl, hr⟩ := h
    exact hk v H' hr
theorem op_callF {f : FuncId} {fop : Operand} {args : Array Operand} {tys : Array TypeId} {bf cap vs : List V} {v : V} [en : Ent P f]
    (hf : asFn (s.ev fop) = some (f, bf, cap)) (ha : s.evs args.toList = some vs) (ht : Fun P f (bf ++ vs ++ cap) v) (hN : Nat.blt d N = true)
    (hk : K ((d, v) :: s) H) : OP j ⟨some d, .call { callee := .value fop, args := args, argTypes := tys }, ty, pos, after, none⟩ K Q s H :=
  op_callR hf ha .nil ht hN fun u H' ⟨h1, h2⟩ => by subst h1 h2; exact hk

/-! ### Whole functions -/
def RetOk (j : J P N) (fn : Func) (s : Sl) (H : List Ch) (K : V → List Ch → Prop) : Prop :=
  ∀ a w, St j s H a w → ∃ x v s' H', (results fn a.tmps).run P w = .ok x w ∧ St j s' H' a w ∧ conc w (own (H' ++ j.F)) v x ∧ K v H'
def Ret (j : J P N) (fn : Func) (Post : AEnd → List Ch → Prop) : Exit → Sl → List Ch → Prop
  | .normal, s, H | .ret, s, H => RetOk j fn s H fun v H' => Post (.ret v) H'
  | .panic ch, s, H => Post (.pan ch) H
  | _, _, _ => False
def initS : Nat → List V → Sl
  | _, [] => []
  | k, v :: vs => (k, v) :: initS (k + 1) vs
theorem initS_get {w : World} {ow : Nat → Prop} : ∀ {vs : List V} {xs : List Value} (k : Nat), concL w ow vs xs → ∀ i v, (initS k vs).get i = some v → ∃ m x, i = k + m ∧ xs[m]? = some x ∧ conc w ow v x
  | [], xs, k, h, i, v, hi => by simp [initS, Sl.get] at hi
  | u :: vs, xs, k, h, i, v, hi => by
    simp only [concL] at h
    obtain ⟨x, xs, rfl, h1, h2⟩ := h
    simp only [initS, Sl.get] at hi
    cases e : Nat.beq i k
    · rw [e] at hi
      obtain ⟨m, y, rfl, h3, h4⟩ := initS_get (k + 1) h2 i v hi
      exact ⟨m + 1, y, by omega, by simpa using h3, h4⟩
    · rw [e] at hi
      simp at hi
      subst hi
      obtain rfl := Nat.eq_of_beq_eq_true e
      exact ⟨0, x, rfl, rfl, h1⟩
theorem tri_of {f : FuncId} {fn : Func} {c : Code} {vs : List V} {Post : AEnd → List Ch → Prop} (hf : P.funcs[f]? = some fn) (hb : fn.body = some c) (hN : fn.ntmps = N) (hn0 : Nat.ble vs.length N = true)
    (h : ∀ j : J P N, AW j c (Ret j fn Post) (initS 0 vs) H) : Tri P f vs H Post := fun F w xs hp hv => by
  have hn := Nat.le_of_ble_eq_true hn0
  have hxl := concL_length hv
  refine calls_of_wp hf hb ((wpIn_wide (n := 0)).1 ?_)
  let j : J P N := { F := F, H0 := own H, w0 := w }
  have st : St j (initS 0 vs) H { tmps := xs.toArray ++ Array.replicate (fn.ntmps - xs.toArray.size) undef, defers := [] } w := by
    refine ⟨⟨by simp [hN]; omega, fun i v hi => ?_⟩, hp, Evo.refl _ _, rfl⟩
    obtain ⟨m, x, rfl, h1, h2⟩ := initS_get 0 hv i v hi
    have hm : m < xs.length := (List.getElem?_eq_some_iff.1 h1).1
    refine ⟨x, ?_, h2⟩
    rw [Nat.zero_add, Array.getElem?_append_left (by simpa using hm)]
    simpa using h1
  refine wpIn_mono' (F := j.fence) (fun e a' w' h' => ?_) (h j (fun _ _ k => k) _ w st)
  obtain ⟨s', H', st', hq⟩ := h'
  have fin : RetOk j fn s' H' (fun v H' => Post (.ret v) H') → a'.defers = [] ∧ ∃ v, (results fn a'.tmps).run P w' = .ok v w' ∧ ∃ ae H', concEnd w' (own (H' ++ F)) ae (.returned v) ∧ (blks H').Nodup ∧ (∀ c ∈ H', c.sat w' (own (H' ++ F))) ∧ Evo (own H) w (own H') w' ∧ Post ae H' := fun hq => by
    obtain ⟨x, v, s2, H2, k1, k2, k3, k4⟩ := hq a' w' st'
    have hnd := k2.hp.nd
    rw [blks_append] at hnd
    exact ⟨st'.df, x, k1, .ret v, H2, ⟨x, rfl, k3⟩, (List.nodup_append.1 hnd).1, fun c hc => k2.hp.sat c (List.mem_append_left _ hc), k2.evo, k4⟩
  cases e with
  | normal => exact fin hq
  | ret => exact fin hq
  | panic ch =>
    have hnd := st'.hp.nd
    rw [blks_append] at hnd
    exact ⟨st'.df, .pan ch, H', rfl, (List.nodup_append.1 hnd).1, fun c hc => st'.hp.sat c (List.mem_append_left _ hc), st'.evo, hq⟩
  | exit id => exact hq.elim
  | goto l => exact hq.elim
  | outgrown => exact hq.elim
def rvSem (tmps : Array Value) : ResultVar → Sem Value
  | .tmp t => pure (tmps.getD t undef)
  | .cell a t => do
    let ad ← asAddr (tmps.getD a undef)
    loadVar t ad
theorem results_rv (fn : Func) (tmps : Array Value) : results fn tmps = (do
    let vs ← fn.results.mapM (rvSem tmps)
    pure (if h : vs.size = 1 then vs[0] else .tuple vs)) := by
  have e : rvSem tmps = (fun x => match x with
    | .tmp t => pure (tmps.getD t undef)
    | .cell a t => (asAddr (tmps.getD a undef) >>= fun ad => loadVar t ad)) := by funext x; cases x <;> rfl
  rw [e]
  rfl
/-- What a result is. -/
def ResV (j : J P N) (s : Sl) (H : List Ch) (r : ResultVar) (v : V) : Prop :=
  ∀ a w, St j s H a w → ∃ x, (rvSem a.tmps r).run P w = .ok x w ∧ conc w (own (H ++ j.F)) v x
theorem res_tmp {t : Nat} {v : V} (h : s.get t = some v) : ResV j s H (.tmp t) v := fun a w st => by
  obtain ⟨x, h1, h2⟩ := st.sl.2 t v h
  exact ⟨x, by simp [rvSem, h1], h2⟩
theorem res_cell {ad b o : Nat} {E : TypeId} {cells : List V} {v : V} [t : Ty P T D sz bs z] (hx : s.get ad = some (.raw (.pointer (some ⟨b, o, none⟩)))) (hm : Ch.box b E cells ∈ H) (hD : aggOf D = false) (hc : cells[o]? = some v) : ResV j s H (.cell ad T) v := fun a w st => by
  obtain ⟨x, h1, h2⟩ := st.sl.2 ad _ hx
  simp only [conc] at h2
  obtain ⟨l, k1, k2, k3, k4⟩ := box_cells st (List.mem_append_left _ hm)
  obtain ⟨y, hy, hc⟩ := concL_get k2 o v hc
  exact ⟨y, by simp [rvSem, h1, h2, asAddr, run_loadVar_scalar t hD (k4 o y hy)], hc⟩
theorem res_cell_agg {ad b o : Nat} {E : TypeId} {cells cs : List V} [t : Ty P T D sz bs z] (hx : s.get ad = some (.raw (.pointer (some ⟨b, o, none⟩)))) (hm : Ch.box b E cells ∈ H) (hD : aggOf D = true) (hc : (cells.drop o).take sz = cs) (hl : cs.length = sz) : ResV j s H (.cell ad T) (.agg cs) := fun a w st => by
  have hload := vv_load_box_agg (j := j) (dst := some 0) (ty := 0) (pos := "") (after := #[]) (g := none) (x := .tmp ad) (T := T) hx (List.mem_append_left _ hm) hD hc hl a w st
  obtain ⟨x, h1, h2⟩ := hload
  refine ⟨x, ?_, h2⟩
  obtain ⟨y, h3, h4⟩ := st.sl.2 ad _ hx
  simp only [conc] at h4
  subst h4
  have h5 : a.eval (.tmp ad) = .pointer (some ⟨b, o, none⟩) := by simp [Act.eval, h3]
  simp only [execOp, h5, Instr.loadAt, Instr.sureAddr, Sem.run_bind, Sem.run_pure, Result.andThen_ok] at h1
  simp only [rvSem, h3, Array.getD_eq_getD_getElem?, Option.getD_some, asAddr, Sem.run_bind, Sem.run_pure, Result.andThen_ok]
  cases hr : (loadVar T ⟨b, o, none⟩).run P w with
  | ok u w2 =>
    rw [hr] at h1
    simp only [Result.andThen_ok, Sem.run_pure, Result.ok.injEq, Next.value.injEq] at h1
    obtain ⟨rfl, rfl⟩ := h1
    rfl
  | halt h w2 => rw [hr] at h1; cases h1
section
variable {fn : Func} {K : V → List Ch → Prop}
theorem ret0 (hr : fn.results = #[]) {H' : List Ch} (hs : H'.Sublist H) (hk : K (.tup []) H') : RetOk j fn s H K := fun a w st =>
  ⟨.tuple #[], .tup [], s, H', by simp [results, hr], st_sub st hs, by simp only [conc]; exact ⟨[], rfl, rfl⟩, hk⟩
theorem ret1 {r : ResultVar} {v : V} (hr : fn.results = #[r]) (h1 : ResV j s H r v) {H' : List Ch} (hs : H'.Sublist H) (hk : K v H') : RetOk j fn s H K := fun a w st => by
  obtain ⟨x, k1, k2⟩ := h1 a w st
  have hless : ∀ b, own (H' ++ j.F) b → own (H ++ j.F) b := fun b hb => ((hs.append_right j.F).filterMap Ch.blk).mem hb
  refine ⟨x, v, s, H', ?_, st_sub st hs, conc_keep ⟨Nat.le_refl _, fun _ _ _ => rfl, fun b _ h => hless b h⟩ _ _ k2, hk⟩
  simp [results_rv, hr, k1]
theorem ret2 {r1 r2 : ResultVar} {v1 v2 : V} (hr : fn.results = #[r1, r2]) (h1 : ResV j s H r1 v1) (h2 : ResV j s H r2 v2) {H' : List Ch} (hs : H'.Sublist H) (hk : K (.tup [v1, v2]) H') : RetOk j fn s H K := fun a w st => by
  obtain ⟨x1, k1, k2⟩ := h1 a w st
  obtain ⟨x2, k3, k4⟩ := h2 a w st
  have hless : ∀ b, own (H' ++ j.F) b → own (H ++ j.F) b := fun b hb => ((hs.append_right j.F).filterMap Ch.blk).mem hb
  have kk : Keeps (own (H ++ j.F)) w (own (H' ++ j.F)) w := ⟨Nat.le_refl _, fun _ _ _ => rfl, fun b _ h => hless b h⟩
  refine ⟨.tuple #[x1, x2], .tup [v1, v2], s, H', ?_, st_sub st hs, ?_, hk⟩
  · simp [results_rv, hr, k1, k3]
  · simp only [conc]
    exact ⟨[x1, x2], rfl, x1, [x2], rfl, conc_keep kk _ _ k2, x2, [], rfl, conc_keep kk _ _ k4, rfl⟩
theorem ret3 {r1 r2 r3 : ResultVar} {v1 v2 v3 : V} (hr : fn.results = #[r1, r2, r3]) (h1 : ResV j s H r1 v1) (h2 : ResV j s H r2 v2) (h3 : ResV j s H r3 v3) {H' : List Ch} (hs : H'.Sublist H) (hk : K (.tup [v1, v2, v3]) H') : RetOk j fn s H K := fun a w st => by
  obtain ⟨x1, k1, k2⟩ := h1 a w st
  obtain ⟨x2, k3, k4⟩ := h2 a w st
  obtain ⟨x3, k5, k6⟩ := h3 a w st
  have hless : ∀ b, own (H' ++ j.F) b → own (H ++ j.F) b := fun b hb => ((hs.append_right j.F).filterMap Ch.blk).mem hb
  have kk : Keeps (own (H ++ j.F)) w (own (H' ++ j.F)) w := ⟨Nat.le_refl _, fun _ _ _ => rfl, fun b _ h => hless b h⟩
  refine ⟨.tuple #[x1, x2, x3], .tup [v1, v2, v3], s, H', ?_, st_sub st hs, ?_, hk⟩
  · simp [results_rv, hr, k1, k3, k5]
  · simp only [conc]
    exact ⟨[x1, x2, x3], rfl, x1, [x2, x3], rfl, conc_keep kk _ _ k2, x2, [x3], rfl, conc_keep kk _ _ k4, x3, [], rfl, conc_keep kk _ _ k6, rfl⟩
end
end Go.AX

set_option linter.unusedVariables false
set_option linter.unusedSimpArgs false
namespace Go.AX
variable {P : Program} {N : Nat} {j : J P N} {Q : Exit → Sl → List Ch → Prop} {K : Sl → List Ch → Prop} {s : Sl} {H : List Ch}
variable {dst : Option Tmp} {ty : TypeId} {pos : String} {after : Array Edge} {g : Option (Nat × Bool)} {T : TypeId} {x y : Operand} {D : TypeDesc} {sz bs : Nat} {z : Value}
/-- A case that is known needs no distinction. -/
theorem imp_known {p G : Prop} (h : p) (k : p → G) : p → G := k
theorem then_n (h : K s H) : Then K Q .normal s H := h
theorem then_exit {id : Nat} (h : Q (.exit id) s H) : Then K Q (.exit id) s H := h
theorem then_ret (h : Q .ret s H) : Then K Q .ret s H := h
theorem then_panic {c : List PanicEntry} (h : Q (.panic c) s H) : Then K Q (.panic c) s H := h
theorem in_n {id : Nat} (h : Q .normal s H) : InBlock id Q .normal s H := h
theorem in_ret {id : Nat} (h : Q .ret s H) : InBlock id Q .ret s H := h
theorem in_panic {id : Nat} {c : List PanicEntry} (h : Q (.panic c) s H) : InBlock id Q (.panic c) s H := h
theorem in_exit_eq {id k : Nat} (e : Nat.beq k id = true) (h : Q .normal s H) : InBlock id Q (.exit k) s H := by
  simp only [InBlock, if_pos (Nat.eq_of_beq_eq_true e)]
  exact h
theorem in_exit_ne {id k : Nat} (e : k ≠ id) (h : Q (.exit k) s H) : InBlock id Q (.exit k) s H := by
  simp only [InBlock, if_neg e]
  exact h
theorem pv_len_ro' {e sz bs n : Nat} {z : Value} {rows : List (List V)} [t : Ty P T (.slice e) sz bs z] (hx : s.ev x = some (.ro rows)) (hn : rows.length = n) : PureV j s H ⟨dst, .call { callee := .builtin .len, args := #[x], argTypes := #[T] }, ty, pos, after, g⟩ (.raw (.int .i64 n)) := hn ▸ pv_len_ro hx
theorem pv_len_own' {e sz bs E k n : Nat} {z sv : Value} {rows : List (List V)} [t : Ty P T (.slice e) sz bs z] (hx : s.ev x = some (.own sv)) (hm : Ch.vec sv E k rows ∈ H ++ j.F) (hn : rows.length = n) : PureV j s H ⟨dst, .call { callee := .builtin .len, args := #[x], argTypes := #[T] }, ty, pos, after, g⟩ (.raw (.int .i64 n)) := hn ▸ pv_len_own hx hm
theorem vv_load_box_whole {b : Nat} {E : TypeId} {cells : List V} [t : Ty P T D sz bs z] (hx : s.ev x = some (.raw (.pointer (some ⟨b, 0, none⟩)))) (hm : Ch.box b E cells ∈ H ++ j.F) (hD : aggOf D = true) (hl : cells.length = sz) :
    ValV j s H ⟨dst, .load T x, ty, pos, after, g⟩ (.agg cells) :=
  vv_load_box_agg hx hm hD (by rw [List.drop_zero, List.take_of_length_le (Nat.le_of_eq hl)]) hl
theorem vv_load_ro_whole {cells : List V} [t : Ty P T D sz bs z] (hx : s.ev x = some (.rop cells 0)) (hD : aggOf D = true) (hl : cells.length = sz) :
    ValV j s H ⟨dst, .load T x, ty, pos, after, g⟩ (.agg cells) :=
  vv_load_ro_agg hx hD (by rw [List.drop_zero, List.take_of_length_le (Nat.le_of_eq hl)]) hl
theorem TriR.of {f : FuncId} {vs : List V} {R : V → List Ch → Prop} (h : Tri P f vs H fun ae H' => ∃ v, ae = .ret v ∧ R v H') : TriR P f vs H R := h
theorem Fun.of {f : FuncId} {vs : List V} {v : V} (h : TriR P f vs [] fun u H' => u = v ∧ H' = []) : Fun P f vs v := h
theorem Fun.triR {f : FuncId} {vs : List V} {v : V} (h : Fun P f vs v) : TriR P f vs [] fun u H' => u = v ∧ H' = [] := h
theorem TriR.tri {f : FuncId} {vs : List V} {R : V → List Ch → Prop} (h : TriR P f vs H R) : Tri P f vs H fun ae H' => ∃ v, ae = .ret v ∧ R v H' := h
theorem ret_n {fn : Func} {Post : AEnd → List Ch → Prop} (h : RetOk j fn s H fun v H' => Post (.ret v) H') : Ret j fn Post .normal s H := h
theorem ret_r {fn : Func} {Post : AEnd → List Ch → Prop} (h : RetOk j fn s H fun v H' => Post (.ret v) H') : Ret j fn Post .ret s H := h
theorem aw_cond_yes {c : Operand} {x y : Code} {b : Bool} (hc : s.ev c = some (.raw (.bool b))) (hb : b = true) (ht : AW j x Q s H) : AW j (.cond c x y) Q s H := aw_cond hc (fun _ => ht) (fun e => by rw [hb] at e; cases e)
theorem aw_cond_no {c : Operand} {x y : Code} {b : Bool} (hc : s.ev c = some (.raw (.bool b))) (hb : b = false) (hf : AW j y Q s H) : AW j (.cond c x y) Q s H := aw_cond hc (fun e => by rw [hb] at e; cases e) (fun _ => hf)
/-! ### Weaker states, as a whole -/
def Sl.sub : Sl → Sl → Prop
  | [], _ => True
  | (i, v) :: r, s => s.get i = some v ∧ Sl.sub r s
theorem Sl.sub_get {s : Sl} : ∀ {s' : Sl}, s'.sub s → ∀ i v, s'.get i = some v → s.get i = some v
  | [], _, i, v, h => by simp [Sl.get] at h
  | (k, u) :: r, hs, i, v, h => by
    simp only [Sl.get] at h
    cases e : Nat.beq i k
    · rw [e] at h; exact Sl.sub_get hs.2 i v h
    · rw [e] at h
      simp at h
      subst h
      obtain rfl := Nat.eq_of_beq_eq_true e
      exact hs.1
theorem st_weak {a : Act} {w : World} {s' : Sl} {G : List Ch} (hs : s'.sub s) (hg : G.Sublist H) (st : St j s H a w) : St j s' G a w := st_sub (st_forget st (Sl.sub_get hs)) hg
theorem aw_weaken {c : Code} (s' : Sl) (G : List Ch) (hs : s'.sub s) (hg : G.Sublist H) (h : AW j c Q s' G) : AW j c Q s H := aw_weak (fun a w st => st_weak hs hg st) h
theorem rl_weaken {ops : Array Oper} {l : List Oper} (s' : Sl) (G : List Ch) (hs : s'.sub s) (hg : G.Sublist H) (h : RL j ops l Q s' G) : RL j ops l Q s H := rl_weak (fun a w st => st_weak hs hg st) h
/-- The end of a region, with a state that says less. -/
theorem rl_end {ops : Array Oper} (s' : Sl) (G : List Ch) (hs : s'.sub s) (hg : G.Sublist H) (h : Q .normal s' G) : RL j ops [] Q s H := rl_weaken s' G hs hg (rl_nil h)
theorem aw_perm {c : Code} {G : List Ch} (hp : H.Perm G) (h : AW j c Q s G) : AW j c Q s H := aw_weak (fun a w st => st.perm hp) h
theorem rl_perm {ops : Array Oper} {l : List Oper} {G : List Ch} (hp : H.Perm G) (h : RL j ops l Q s G) : RL j ops l Q s H := rl_weak (fun a w st => st.perm hp) h
variable {ops : Array Oper} {rest : List Oper} {d : Nat}
/-- What can be said of a state after forgetting something. -/
def KW (j : J P N) (K : Sl → List Ch → Prop) (s : Sl) (H : List Ch) : Prop := ∀ a w, St j s H a w → lift j K a w
theorem kw_self (h : K s H) : KW j K s H := fun a w st => ⟨s, H, st, h⟩
theorem kw_weaken (s' : Sl) (G : List Ch) (hs : s'.sub s) (hg : G.Sublist H) (h : K s' G) : KW j K s H := fun a w st => ⟨s', G, st_weak hs hg st, h⟩
theorem kw_freeze {sv : Value} {E k : Nat} {rows : List (List V)} {H' : List Ch} (ht : Take (.vec sv E k rows) H H') (h : K ((d, .ro rows) :: s) H') : KW j K ((d, .own sv) :: s) H := fun a w st => by
  obtain ⟨st', hc⟩ := st_freeze st ht
  refine ⟨_, H', ?_, h⟩
  have st2 := st_slot (d := d) (v := .own sv) (v' := .ro rows) st' (by simp [Sl.get]) (fun x hx => by simp only [conc] at hx; rw [hx.1]; exact hc)
  exact st_forget st2 fun i v hi => by
    simp only [Sl.get] at hi ⊢
    cases e : Nat.beq i d
    · rw [e] at hi; simpa [e] using hi
    · rw [e] at hi; simpa [e] using hi
theorem op_kw {o : Oper} (h : OP j o (KW j K) Q s H) : OP j o K Q s H := fun a w st K' hK => h a w st K' fun a' w' h' => by
  obtain ⟨s', H', st', hk⟩ := h'
  exact hK _ _ (hk a' w' st')
/-- '[]T{..}' that nobody will write. -/
theorem op_buildSlice_ro {e n : Nat} {DE : TypeDesc} {zs : Value} {szT bsT : Nat} {parts : Array (Nat × Operand)} {vs : List V} [t : Ty P T (.slice e) szT bsT zs] [te : Ty P e DE sz bs z]
    (hq : isSeq 0 parts.toList = true) (hn : parts.toList.length = n) (hv : s.evs (parts.toList.map (·.2)) = some vs) (hok : okcs sz vs = true) (hsz : Nat.blt 0 sz = true) (hsm : Nat.ble (n * sz) 16777216 = true) (hz : z.cells.size = sz) (hN : Nat.blt d N = true) {rows : List (List V)} (hrw : vs.map V.cells = rows)
    (h : K ((d, .ro rows) :: s) H) : OP j ⟨some d, .buildSlice T n parts, ty, pos, after, none⟩ K Q s H := by
  subst hrw
  exact op_kw (op_buildSlice hq hn hv hok hsz hsm hz hN fun sv => kw_freeze .here h)
section
variable {op : Op} {gi tt : Nat} {b want : Bool} {og : Oper}
theorem rl_on_yes (ho : ops[gi]? = some og) (hd : og.dst = some tt) (hv : s.get tt = some (.raw (.bool b))) (hb : b = want) (hN : Nat.blt d N = true)
    (h : RL j ops (⟨some d, op, ty, pos, after, none⟩ :: rest) Q s H) : RL j ops (⟨some d, op, ty, pos, after, some (gi, want)⟩ :: rest) Q s H :=
  rl_on ho hd hv (fun i hi => by cases hi; exact Nat.le_of_ble_eq_true hN) (fun _ => h) (fun e => by subst hb; cases b <;> cases e)
theorem rl_off_t (ho : ops[gi]? = some og) (hd : og.dst = some tt) (hv : s.get tt = some (.raw (.bool b))) (hb : b = false) (hN : Nat.blt d N = true)
    (h : RL j ops rest Q ((d, .raw undef) :: s) H) : RL j ops (⟨some d, op, ty, pos, after, some (gi, true)⟩ :: rest) Q s H :=
  rl_on ho hd hv (fun i hi => by cases hi; exact Nat.le_of_ble_eq_true hN) (fun e => by rw [hb] at e; cases e) (fun _ => h)
theorem rl_off_f (ho : ops[gi]? = some og) (hd : og.dst = some tt) (hv : s.get tt = some (.raw (.bool b))) (hb : b = true) (hN : Nat.blt d N = true)
    (h : RL j ops rest Q ((d, .raw undef) :: s) H) : RL j ops (⟨some d, op, ty, pos, after, some (gi, false)⟩ :: rest) Q s H :=
  rl_on ho hd hv (fun i hi => by cases hi; exact Nat.le_of_ble_eq_true hN) (fun e => by rw [hb] at e; cases e) (fun _ => h)
theorem rl_if_t (ho : ops[gi]? = some og) (hd : og.dst = some tt) (hv : s.get tt = some (.raw (.bool b))) (hN : Nat.blt d N = true)
    (h1 : b = true → RL j ops (⟨some d, op, ty, pos, after, none⟩ :: rest) Q s H) (h2 : b = false → RL j ops rest Q ((d, .raw undef) :: s) H) : RL j ops (⟨some d, op, ty, pos, after, some (gi, true)⟩ :: rest) Q s H :=
  rl_on ho hd hv (fun i hi => by cases hi; exact Nat.le_of_ble_eq_true hN) h1 h2
theorem rl_if_f (ho : ops[gi]? = some og) (hd : og.dst = some tt) (hv : s.get tt = some (.raw (.bool b))) (hN : Nat.blt d N = true)
    (h1 : b = false → RL j ops (⟨some d, op, ty, pos, after, none⟩ :: rest) Q s H) (h2 : b = true → RL j ops rest Q ((d, .raw undef) :: s) H) : RL j ops (⟨some d, op, ty, pos, after, some (gi, false)⟩ :: rest) Q s H :=
  rl_on ho hd hv (fun i hi => by cases hi; exact Nat.le_of_ble_eq_true hN) h1 h2
end
/-! ### What stands first -/
section
variable {T' : TypeId} {c : Operand} {i : Nat} {xs ys : Array Operand} {ts : Array TypeId} {ps : Array (Nat × Operand)} {fn : Fn} {op : Op} {b : Bool}
theorem k_move (h : RL j ops (⟨dst, .move x, ty, pos, after, none⟩ :: rest) Q s H) : RL j ops (⟨dst, .move x, ty, pos, after, none⟩ :: rest) Q s H := h
theorem k_assign (h : RL j ops (⟨dst, .assign x, ty, pos, after, none⟩ :: rest) Q s H) : RL j ops (⟨dst, .assign x, ty, pos, after, none⟩ :: rest) Q s H := h
theorem k_load (h : RL j ops (⟨dst, .load T x, ty, pos, after, none⟩ :: rest) Q s H) : RL j ops (⟨dst, .load T x, ty, pos, after, none⟩ :: rest) Q s H := h
theorem k_fieldAddr (h : RL j ops (⟨dst, .fieldAddr T x i, ty, pos, after, none⟩ :: rest) Q s H) : RL j ops (⟨dst, .fieldAddr T x i, ty, pos, after, none⟩ :: rest) Q s H := h
theorem k_store (h : RL j ops (⟨dst, .store T x y, ty, pos, after, none⟩ :: rest) Q s H) : RL j ops (⟨dst, .store T x y, ty, pos, after, none⟩ :: rest) Q s H := h
theorem k_alloc (h : RL j ops (⟨dst, .alloc T, ty, pos, after, none⟩ :: rest) Q s H) : RL j ops (⟨dst, .alloc T, ty, pos, after, none⟩ :: rest) Q s H := h
theorem k_box (h : RL j ops (⟨dst, .box T x, ty, pos, after, none⟩ :: rest) Q s H) : RL j ops (⟨dst, .box T x, ty, pos, after, none⟩ :: rest) Q s H := h
theorem k_extract (h : RL j ops (⟨dst, .extract x i, ty, pos, after, none⟩ :: rest) Q s H) : RL j ops (⟨dst, .extract x i, ty, pos, after, none⟩ :: rest) Q s H := h
theorem k_len (h : RL j ops (⟨dst, .call { callee := .builtin .len, args := xs, argTypes := ts }, ty, pos, after, none⟩ :: rest) Q s H) : RL j ops (⟨dst, .call { callee := .builtin .len, args := xs, argTypes := ts }, ty, pos, after, none⟩ :: rest) Q s H := h
theorem k_indexAddr (h : RL j ops (⟨dst, .indexAddr T x y, ty, pos, after, none⟩ :: rest) Q s H) : RL j ops (⟨dst, .indexAddr T x y, ty, pos, after, none⟩ :: rest) Q s H := h
theorem k_build (h : RL j ops (⟨dst, .build T ps, ty, pos, after, none⟩ :: rest) Q s H) : RL j ops (⟨dst, .build T ps, ty, pos, after, none⟩ :: rest) Q s H := h
theorem k_buildSlice (h : RL j ops (⟨dst, .buildSlice T i ps, ty, pos, after, none⟩ :: rest) Q s H) : RL j ops (⟨dst, .buildSlice T i ps, ty, pos, after, none⟩ :: rest) Q s H := h
theorem k_makeFunc (h : RL j ops (⟨dst, .makeFunc fn xs ys, ty, pos, after, none⟩ :: rest) Q s H) : RL j ops (⟨dst, .makeFunc fn xs ys, ty, pos, after, none⟩ :: rest) Q s H := h
theorem k_field (h : RL j ops (⟨dst, .field T x i, ty, pos, after, none⟩ :: rest) Q s H) : RL j ops (⟨dst, .field T x i, ty, pos, after, none⟩ :: rest) Q s H := h
theorem k_pick (h : RL j ops (⟨dst, .pick c x y, ty, pos, after, none⟩ :: rest) Q s H) : RL j ops (⟨dst, .pick c x y, ty, pos, after, none⟩ :: rest) Q s H := h
theorem k_convert (h : RL j ops (⟨dst, .convert T T' x, ty, pos, after, none⟩ :: rest) Q s H) : RL j ops (⟨dst, .convert T T' x, ty, pos, after, none⟩ :: rest) Q s H := h
theorem k_not (h : RL j ops (⟨dst, .unOp .not T x, ty, pos, after, none⟩ :: rest) Q s H) : RL j ops (⟨dst, .unOp .not T x, ty, pos, after, none⟩ :: rest) Q s H := h
theorem k_neg (h : RL j ops (⟨dst, .unOp .neg T x, ty, pos, after, none⟩ :: rest) Q s H) : RL j ops (⟨dst, .unOp .neg T x, ty, pos, after, none⟩ :: rest) Q s H := h
theorem k_eql (h : RL j ops (⟨dst, .binOp .eql T x y T', ty, pos, after, none⟩ :: rest) Q s H) : RL j ops (⟨dst, .binOp .eql T x y T', ty, pos, after, none⟩ :: rest) Q s H := h
theorem k_neq (h : RL j ops (⟨dst, .binOp .neq T x y T', ty, pos, after, none⟩ :: rest) Q s H) : RL j ops (⟨dst, .binOp .neq T x y T', ty, pos, after, none⟩ :: rest) Q s H := h
theorem k_lss (h : RL j ops (⟨dst, .binOp .lss T x y T', ty, pos, after, none⟩ :: rest) Q s H) : RL j ops (⟨dst, .binOp .lss T x y T', ty, pos, after, none⟩ :: rest) Q s H := h
theorem k_leq (h : RL j ops (⟨dst, .binOp .leq T x y T', ty, pos, after, none⟩ :: rest) Q s H) : RL j ops (⟨dst, .binOp .leq T x y T', ty, pos, after, none⟩ :: rest) Q s H := h
theorem k_gtr (h : RL j ops (⟨dst, .binOp .gtr T x y T', ty, pos, after, none⟩ :: rest) Q s H) : RL j ops (⟨dst, .binOp .gtr T x y T', ty, pos, after, none⟩ :: rest) Q s H := h
theorem k_geq (h : RL j ops (⟨dst, .binOp .geq T x y T', ty, pos, after, none⟩ :: rest) Q s H) : RL j ops (⟨dst, .binOp .geq T x y T', ty, pos, after, none⟩ :: rest) Q s H := h
theorem k_add (h : RL j ops (⟨dst, .binOp .add T x y T', ty, pos, after, none⟩ :: rest) Q s H) : RL j ops (⟨dst, .binOp .add T x y T', ty, pos, after, none⟩ :: rest) Q s H := h
theorem k_sub (h : RL j ops (⟨dst, .binOp .sub T x y T', ty, pos, after, none⟩ :: rest) Q s H) : RL j ops (⟨dst, .binOp .sub T x y T', ty, pos, after, none⟩ :: rest) Q s H := h
theorem k_mul (h : RL j ops (⟨dst, .binOp .mul T x y T', ty, pos, after, none⟩ :: rest) Q s H) : RL j ops (⟨dst, .binOp .mul T x y T', ty, pos, after, none⟩ :: rest) Q s H := h
theorem k_quo (h : RL j ops (⟨dst, .binOp .quo T x y T', ty, pos, after, none⟩ :: rest) Q s H) : RL j ops (⟨dst, .binOp .quo T x y T', ty, pos, after, none⟩ :: rest) Q s H := h
theorem k_rem (h : RL j ops (⟨dst, .binOp .rem T x y T', ty, pos, after, none⟩ :: rest) Q s H) : RL j ops (⟨dst, .binOp .rem T x y T', ty, pos, after, none⟩ :: rest) Q s H := h
theorem k_guard (h : RL j ops (⟨dst, op, ty, pos, after, some (i, b)⟩ :: rest) Q s H) : RL j ops (⟨dst, op, ty, pos, after, some (i, b)⟩ :: rest) Q s H := h
theorem k_cond {p q : Code} (h : AW j (.cond c p q) Q s H) : AW j (.cond c p q) Q s H := h
end
end Go.AX

set_option linter.unusedVariables false
set_option linter.unusedSimpArgs false
namespace Go.AX
variable {P : Program} {N : Nat} {j : J P N} {Q : Exit → Sl → List Ch → Prop} {K : Sl → List Ch → Prop} {s so : Sl} {H E E1 : List Ch} {ops : Array Oper}
variable {d : Nat} {dst : Option Tmp} {ty : TypeId} {pos : String} {after : Array Edge} {g : Option (Nat × Bool)} {T : TypeId} {x y : Operand} {D : TypeDesc} {sz bs : Nat} {z : Value}

theorem wpOp_post {Q1 Q2 : Exit → Act → World → Prop} (hq : ∀ e a w, Q1 e a w → Q2 e a w) {i : Nat} {K1 K2 : Act → World → Prop} (hk : ∀ a w, K1 a w → K2 a w) {a : Act} {w : World} (h : wpOp P ops Q1 i K1 a w) : wpOp P ops Q2 i K2 a w := by
  unfold wpOp at *
  split
  · rename_i hn; simp only [hn] at h; exact hk _ _ h
  · rename_i o ho
    simp only [ho] at h
    split
    · rename_i hw
      rw [if_pos hw] at h
      rcases h with h | ⟨h1, a0, w0, h2⟩
      · left
        unfold Oper.wp at *
        generalize (execOp a.eval o).run P w = r at *
        cases r with
        | ok n w' =>
          cases n <;> simp only [Oper.upon] at h ⊢
          case value u => exact hk _ _ h
          case skip => exact hk _ _ h
          case defer d => exact hk _ _ h
          case enter f args =>
            refine Calls.mono h fun e w'' he => ?_
            cases e with
            | returned v => exact hk _ _ he
            | panicked c => exact hq _ _ _ he
            | outgrown => obtain ⟨a0, w0, he⟩ := he; exact ⟨a0, w0, hq _ _ _ he⟩
          case row row args => exact Rows.mono h fun v w'' he => hk _ _ he
        | halt x w' =>
          cases x <;> simp only [Oper.upon] at h ⊢
          case panic u => exact hq _ _ _ h
      · exact .inr ⟨h1, a0, w0, hq _ _ _ h2⟩
    · rename_i hw
      rw [if_neg hw] at h
      exact hk _ _ h
theorem wpAnyH_post {Q1 Q2 : Exit → Act → World → Prop} (hq : ∀ e a w, Q1 e a w → Q2 e a w) {md : Region.Mode} {S : World → Prop} : ∀ (fuel : Nat) (listed : Array Bool) (a : Act) (w : World), wpAnyH P md ops Q1 S fuel listed a w → wpAnyH P md ops Q2 S fuel listed a w
  | 0, _, _, _, h => ⟨h.1, hq _ _ _ h.2⟩
  | fuel + 1, listed, a, w, h => ⟨fun hr => hq _ _ _ (h.1 hr), fun i hi => wpOp_post hq (fun a w hk => ⟨hk.1, wpAnyH_post hq fuel _ a w hk.2⟩) (h.2 i hi)⟩
/-- What no operation of the region touches: the blocks that stood at its begin, but those of E1. -/
def Stable (j : J P N) (w : World) : Prop := ∀ b, b < j.w0.heap.size → ¬ j.H0 b → w.heap[b]? = j.w0.heap[b]?
structure DrawJ (j : J P N) (Hs F : List Ch) (E1 : List Ch) : Prop where
  f : j.F = Hs ++ F
  h0 : j.H0 = own E1
theorem stable_of {a : Act} {w : World} (st : St j s E a w) : Stable j w := fun b h1 h2 => st.evo.block b h1 h2
/-- An operation that yields the same whenever it comes up. -/
def HV (j : J P N) (s : Sl) (E : List Ch) (o : Oper) (v : V) : Prop :=
  ∀ a, St j s E a j.w0 → ∃ x, (∀ w, Stable j w → (execOp a.eval o).run P w = .ok (.value x) w) ∧ conc j.w0 (own (E ++ j.F)) v x
theorem hv_pure {o : Oper} {v : V} (h : PureV j s E o v) : HV j s E o v := fun a st => let ⟨x, h1, h2⟩ := h a _ st; ⟨x, fun w _ => h1 w, h2⟩
/-- At a panic nothing is said of the temporaries. -/
def NoS (Q : Exit → Sl → List Ch → Prop) : Prop := ∀ c s H, Q (.panic c) s H → Q (.panic c) [] H
theorem nos_ret {fn : Func} {Post : AEnd → List Ch → Prop} : NoS (Ret j fn Post) := fun _ _ _ h => h
theorem nos_then {K : Sl → List Ch → Prop} (h : NoS Q) : NoS (Then K Q) := fun c s H k => h c s H k
theorem nos_in {id : Nat} (h : NoS Q) : NoS (InBlock id Q) := fun c s H k => h c s H k
abbrev Plan := List (Bool × Nat × Option Oper)
/-- Where a plan ends: how many steps are left there, and which operations have come up. -/
abbrev Term := Nat × (Array Bool → Prop)
def Done (ops : Array Oper) : Term := (0, fun l => Region.ready .any ops l = [])
variable {TT : Term}
/-- The order in which the proof takes the operations of a region: (false, i): it yields the same whenever it comes up; (true, i): nothing else may come up then. -/
def Sched (TT : Term) (ops : Array Oper) : Array Bool → Plan → Prop
  | listed, [] => TT.2 listed
  | listed, (false, i, o) :: r => ops[i]? = o ∧ Region.noSelect ops = true ∧ Region.free .any ops listed i = true ∧ (Region.ready .any ops listed).contains i = true ∧ Sched TT ops (listed.setIfInBounds i true) r
  | listed, (true, i, o) :: r => ops[i]? = o ∧ Region.ready .any ops listed = [i] ∧ Sched TT ops (listed.setIfInBounds i true) r
def schedB (ops : Array Oper) : Array Bool → List (Bool × Nat) → Bool
  | listed, [] => (Region.ready .any ops listed).isEmpty
  | listed, (false, i) :: r => Region.noSelect ops && Region.free .any ops listed i && (Region.ready .any ops listed).contains i && schedB ops (listed.setIfInBounds i true) r
  | listed, (true, i) :: r => (Region.ready .any ops listed == [i]) && schedB ops (listed.setIfInBounds i true) r
theorem sched_of : ∀ {sch : List (Bool × Nat)} {listed : Array Bool}, schedB ops listed sch = true → Sched (Done ops) ops listed (sch.map fun p => (p.1, p.2, ops[p.2]?))
  | [], listed, h => by simpa [schedB, Sched, Done] using h
  | (false, i) :: r, listed, h => by
    simp only [schedB, Bool.and_eq_true] at h
    exact ⟨rfl, h.1.1.1, h.1.1.2, h.1.2, sched_of h.2⟩
  | (true, i) :: r, listed, h => by
    simp only [schedB, Bool.and_eq_true, beq_iff_eq] at h
    exact ⟨rfl, h.1, sched_of h.2⟩
/-- A region whose order is drawn. so: what held at the begin, and what was reckoned out of that; s: what holds now; Hs: the chunks that are only read. -/
def DL (TT : Term) (j : J P N) (Hs E1 : List Ch) (ops : Array Oper) (l : Plan) (Q : Exit → Sl → List Ch → Prop) (so s : Sl) (E : List Ch) : Prop :=
  NoS Q → ∀ fuel listed, Sched TT ops listed l → l.length + TT.1 ≤ fuel → ∀ a w, St j so E1 a j.w0 → St j s E a w → wpAnyH P .any ops (liftE j (fun e s E => Q e s (E ++ Hs))) (Stable j) fuel listed a w
theorem evo_frame_own {o1 : Nat → Prop} {w w' : World} {E E1 F : List Ch} (h : Evo o1 w (own E) w') (h1 : o1 = own E1) : Evo (own (E1 ++ F)) w (own (E ++ F)) w' := by
  subst h1
  have := h.frame (of := own F)
  have e1 : (fun b => own E1 b ∨ own F b) = own (E1 ++ F) := funext fun b => propext (own_append _ _ _).symm
  have e2 : (fun b => own E b ∨ own F b) = own (E ++ F) := funext fun b => propext (own_append _ _ _).symm
  rwa [e1, e2] at this
theorem hq_put {o : Oper} {x : Value} (hq : NoS Q) (hd : ∀ i, o.dst = some i → i < N) : ∀ c a w, liftE j Q (.panic c) (a.put o.dst x) w → liftE j Q (.panic c) a w := fun c a w h => by
  obtain ⟨s', H', st, h⟩ := h
  refine ⟨[], H', ⟨⟨?_, fun i v hi => by simp [Sl.get] at hi⟩, st.hp, st.evo, ?_⟩, hq c s' H' h⟩
  · have := st.sl.1
    cases h2 : o.dst with
    | none => rw [h2] at this; exact this
    | some i => rw [h2] at this; simpa [Act.put] using this
  · have := st.df
    cases h2 : o.dst with
    | none => rw [h2] at this; exact this
    | some i => rw [h2] at this; exact this
variable {Hs F : List Ch} {i : Nat} {o : Oper} {v : V} {rest : Plan}
/-- The operation is carried out: it bears no guard, or its guard says yes. -/
def Wants (ops : Array Oper) (s : Sl) (g : Option (Nat × Bool)) : Prop :=
  g = none ∨ ∃ gi want og tt, g = some (gi, want) ∧ ops[gi]? = some og ∧ og.dst = some tt ∧ s.get tt = some (.raw (.bool want))
theorem wants_none : Wants ops s none := .inl rfl
theorem wants_on {gi tt : Nat} {b want : Bool} {og : Oper} (ho : ops[gi]? = some og) (hd : og.dst = some tt) (hv : s.get tt = some (.raw (.bool b))) (hb : b = want) : Wants ops s (some (gi, want)) :=
  .inr ⟨gi, want, og, tt, rfl, ho, hd, hb ▸ hv⟩
theorem Wants.wanted {a : Act} {w : World} {o : Oper} (h : Wants ops s o.guard) (st : St j s E a w) : Region.wanted o (yielded ops a.tmps) = true := by
  rcases h with h | ⟨gi, want, og, tt, h1, h2, h3, h4⟩
  · simp [Region.wanted, h]
  · simp [Region.wanted, h1, yielded_bool st h2 h3 h4]
theorem dl_take (hj : DrawJ j Hs F E1) (hv : HV j so E1 o v) (hw : Wants ops s o.guard) (hd : o.dst = some d) (hN : Nat.blt d N = true)
    (h : DL TT j Hs E1 ops rest Q ((d, v) :: so) ((d, v) :: s) E) : DL TT j Hs E1 ops ((false, i, some o) :: rest) Q so s E := fun hq fuel listed hs hl a w st0 st => by
  obtain ⟨hi, hsel, hf, hr, hs⟩ := hs
  obtain ⟨x, hx, hc⟩ := hv a st0
  have hNd : d < N := Nat.le_of_ble_eq_true hN
  have e := evo_frame_own (F := j.F) st.evo hj.h0
  have st0' := st0.put (d := o.dst) hc (fun i hi => by rw [hd] at hi; cases hi; exact hNd)
  have st' := st.put (d := o.dst) (conc_evo e hc) (fun i hi => by rw [hd] at hi; cases hi; exact hNd)
  obtain ⟨fuel, rfl⟩ : ∃ k, fuel = k + 1 := ⟨fuel - 1, by simp only [List.length_cons] at hl; omega⟩
  refine wpAnyH_take hi hsel hf hr (hq_put (fun c s H k => hq c s _ k) (fun i hi => by rw [hd] at hi; cases hi; exact hNd)) (.inl ⟨hw.wanted st, fun w' hw' => hx w' hw'⟩) (stable_of st) ?_
  rw [hd] at st0' st' ⊢
  exact h hq fuel _ hs (by simp only [List.length_cons] at hl; omega) _ w st0' st'
theorem dl_pure (hj : DrawJ j Hs F E1) (hv : PureV j so E1 o v) (hw : Wants ops s o.guard) (hd : o.dst = some d) (hN : Nat.blt d N = true)
    (h : DL TT j Hs E1 ops rest Q ((d, v) :: so) ((d, v) :: s) E) : DL TT j Hs E1 ops ((false, i, some o) :: rest) Q so s E := dl_take hj (hv_pure hv) hw hd hN h
/-- A guarded operation whose guard says no. -/
theorem dl_off {gi tt : Nat} {b want : Bool} {og : Oper} (hg : o.guard = some (gi, want)) (ho : ops[gi]? = some og) (hgd : og.dst = some tt) (hgv : s.get tt = some (.raw (.bool b))) (hb : b = !want) (hd : o.dst = some d) (hN : Nat.blt d N = true)
    (h : DL TT j Hs E1 ops rest Q ((d, .raw undef) :: so) ((d, .raw undef) :: s) E) : DL TT j Hs E1 ops ((false, i, some o) :: rest) Q so s E := fun hq fuel listed hs hl a w st0 st => by
  obtain ⟨hi, hsel, hf, hr, hs⟩ := hs
  have hNd : d < N := Nat.le_of_ble_eq_true hN
  have st0' := st0.put (d := o.dst) (v := .raw undef) (x := undef) (by simp only [conc]) (fun i hi => by rw [hd] at hi; cases hi; exact hNd)
  have st' := st.put (d := o.dst) (v := .raw undef) (x := undef) (by simp only [conc]) (fun i hi => by rw [hd] at hi; cases hi; exact hNd)
  have hy := yielded_bool st ho hgd hgv
  obtain ⟨fuel, rfl⟩ : ∃ k, fuel = k + 1 := ⟨fuel - 1, by simp only [List.length_cons] at hl; omega⟩
  refine wpAnyH_take hi hsel hf hr (hq_put (fun c s H k => hq c s _ k) (fun i hi => by rw [hd] at hi; cases hi; exact hNd)) (.inr ⟨by simp only [Region.wanted, hg, hy, hb]; cases want <;> rfl, rfl⟩) (stable_of st) ?_
  rw [hd] at st0' st' ⊢
  exact h hq fuel _ hs (by simp only [List.length_cons] at hl; omega) _ w st0' st'
theorem dl_off_eff {gi tt : Nat} {b want : Bool} {og : Oper} (hg : o.guard = some (gi, want)) (ho : ops[gi]? = some og) (hgd : og.dst = some tt) (hgv : s.get tt = some (.raw (.bool b))) (hb : b = !want) (hd : o.dst = some d) (hN : Nat.blt d N = true)
    (h : DL TT j Hs E1 ops rest Q ((d, .raw undef) :: so) ((d, .raw undef) :: s) E) : DL TT j Hs E1 ops ((true, i, some o) :: rest) Q so s E := fun hq fuel listed hs hl a w st0 st => by
  obtain ⟨hi, hr, hs⟩ := hs
  have hNd : d < N := Nat.le_of_ble_eq_true hN
  have st0' := st0.put (d := o.dst) (v := .raw undef) (x := undef) (by simp only [conc]) (fun i hi => by rw [hd] at hi; cases hi; exact hNd)
  have st' := st.put (d := o.dst) (v := .raw undef) (x := undef) (by simp only [conc]) (fun i hi => by rw [hd] at hi; cases hi; exact hNd)
  have hy := yielded_bool st ho hgd hgv
  obtain ⟨fuel, rfl⟩ : ∃ k, fuel = k + 1 := ⟨fuel - 1, by simp only [List.length_cons] at hl; omega⟩
  refine wpAnyH_all hr (by simp) fun k hk => ?_
  simp only [List.mem_singleton] at hk
  subst hk
  unfold wpOp
  have hwn : Region.wanted o (yielded ops a.tmps) = false := by simp only [Region.wanted, hg, hy, hb]; cases want <;> rfl
  simp only [hi, hwn]
  rw [if_neg (by simp)]
  refine ⟨stable_of st', ?_⟩
  rw [hd] at st0' st' ⊢
  exact h hq fuel _ hs (by simp only [List.length_cons] at hl; omega) _ w st0' st'
/-- The begin again, at the world at hand. -/
theorem dl_rebase {a : Act} {w : World} (hj : DrawJ j Hs F E1) (st : St j s E a w) {l : Plan} {fuel : Nat} {listed : Array Bool}
    (h : ∀ j' : J P N, DrawJ j' Hs F E → DL TT j' Hs E ops l Q s s E) (hq : NoS Q) (hs : Sched TT ops listed l) (hl : l.length + TT.1 ≤ fuel) :
    wpAnyH P .any ops (liftE j (fun e s E => Q e s (E ++ Hs))) (Stable j) fuel listed a w := by
  let j' : J P N := { j with H0 := own E, w0 := w }
  have st1 : St j' s E a w := ⟨st.sl, st.hp, Evo.refl _ _, st.df⟩
  have hD := h j' ⟨hj.f, rfl⟩ hq fuel listed hs hl a w st1 st1
  have back : ∀ e a' w', liftE j' (fun e s E => Q e s (E ++ Hs)) e a' w' → liftE j (fun e s E => Q e s (E ++ Hs)) e a' w' := fun e a' w' ⟨s', E', st', hq⟩ =>
    ⟨s', E', ⟨st'.sl, st'.hp, st.evo.trans st'.evo, st'.df⟩, hq⟩
  have hS : ∀ w', Stable j' w' → Stable j w' := fun w' h b h1 h2 => by
    have hb : b < w.heap.size := Nat.lt_of_lt_of_le h1 st.evo.size
    have hn : ¬ own E b := fun hE => by
      rcases st.evo.grow b hE with h3 | h3
      · exact h2 h3
      · omega
    rw [h b hb hn]
    exact st.evo.block b h1 h2
  have mono : ∀ (fuel : Nat) (listed : Array Bool) (a : Act) (w : World), wpAnyH P .any ops (liftE j' (fun e s E => Q e s (E ++ Hs))) (Stable j') fuel listed a w → wpAnyH P .any ops (liftE j (fun e s E => Q e s (E ++ Hs))) (Stable j) fuel listed a w := by
    intro fuel
    induction fuel with
    | zero => intro listed a w h; exact ⟨h.1, back _ _ _ h.2⟩
    | succ fuel ih => intro listed a w h; exact ⟨fun hr => back _ _ _ (h.1 hr), fun i hi => wpOp_post back (fun a w hk => ⟨hS _ hk.1, ih _ a w hk.2⟩) (h.2 i hi)⟩
  exact mono _ _ _ _ hD
theorem wp_guard {op : Op} {dst : Option Tmp} {a : Act} {w : World} {K' : Act → World → Prop} {Q' : Exit → Act → World → Prop} (h : Oper.wp P ⟨dst, op, ty, pos, after, none⟩ a w K' Q') : Oper.wp P ⟨dst, op, ty, pos, after, g⟩ a w K' Q' := by
  have e : execOp a.eval ⟨dst, op, ty, pos, after, g⟩ = execOp a.eval ⟨dst, op, ty, pos, after, none⟩ := by cases op <;> rfl
  unfold Oper.wp at *
  rw [e]
  generalize (execOp a.eval ⟨dst, op, ty, pos, after, none⟩).run P w = r at *
  cases r with
  | ok n w' => cases n <;> exact h
  | halt x w' => cases x <;> exact h
/-- The only one that may come up. -/
theorem dl_op {op : Op} {dst : Option Tmp} (hj : DrawJ j Hs F E1) (hw : Wants ops s g)
    (h : OP j ⟨dst, op, ty, pos, after, none⟩ (fun s' E' => ∀ j' : J P N, DrawJ j' Hs F E' → DL TT j' Hs E' ops rest Q s' s' E') (fun e s E => Q e s (E ++ Hs)) s E) : DL TT j Hs E1 ops ((true, i, some ⟨dst, op, ty, pos, after, g⟩) :: rest) Q so s E := fun hq fuel listed hs hl a w st0 st => by
  obtain ⟨hi, hr, hs⟩ := hs
  obtain ⟨fuel, rfl⟩ : ∃ k, fuel = k + 1 := ⟨fuel - 1, by simp only [List.length_cons] at hl; omega⟩
  refine wpAnyH_all hr (by simp) fun k hk => ?_
  simp only [List.mem_singleton] at hk
  subst hk
  unfold wpOp
  have hwn := hw.wanted (o := ⟨dst, op, ty, pos, after, g⟩) st
  simp only [hi, hwn, if_true]
  refine .inl (wp_guard (h a w st _ fun a' w' hl' => ?_))
  obtain ⟨s', E', st', hD⟩ := hl'
  exact ⟨stable_of st', dl_rebase hj st' hD hq hs (by simp only [List.length_cons] at hl; omega)⟩
theorem dl_nil {G : List Ch} (hG : E ++ Hs = G) (h : Q .normal s G) : DL (Done ops) j Hs E1 ops [] Q so s E := fun hq fuel listed hs _ a w _ st => wpAnyH_done hs ⟨s, E, st, by show Q .normal s (E ++ Hs); rw [hG]; exact h⟩ fuel
/-- The case distinction ahead of a guarded operation. -/
theorem dl_split {l : Plan} (b : Bool) (h1 : b = true → DL TT j Hs E1 ops l Q so s E) (h2 : b = false → DL TT j Hs E1 ops l Q so s E) : DL TT j Hs E1 ops l Q so s E := by
  cases b
  · exact h2 rfl
  · exact h1 rfl
theorem dl_if {gi tt : Nat} {b want : Bool} {og : Oper} {op : Op} {e : Bool} {dst : Option Tmp} (ho : ops[gi]? = some og) (hd : og.dst = some tt) (hv : s.get tt = some (.raw (.bool b)))
    (h1 : b = true → DL TT j Hs E1 ops ((e, i, some ⟨dst, op, ty, pos, after, some (gi, want)⟩) :: rest) Q so s E) (h2 : b = false → DL TT j Hs E1 ops ((e, i, some ⟨dst, op, ty, pos, after, some (gi, want)⟩) :: rest) Q so s E) : DL TT j Hs E1 ops ((e, i, some ⟨dst, op, ty, pos, after, some (gi, want)⟩) :: rest) Q so s E := dl_split b h1 h2
/-- A region whose order is drawn, from where those of L have come up. -/
def DX (j : J P N) (Hs E1 : List Ch) (ops : Array Oper) (L : Array Bool) (n : Nat) (Q : Exit → Sl → List Ch → Prop) (so s : Sl) (E : List Ch) : Prop :=
  NoS Q → ∀ fuel, n ≤ fuel → ∀ a w, St j so E1 a j.w0 → St j s E a w → wpAnyH P .any ops (liftE j (fun e s E => Q e s (E ++ Hs))) (Stable j) fuel L a w
/-- The plan ends where those of L have come up. -/
def Until (n : Nat) (L : Array Bool) : Term := (n, fun l => l = L)
theorem dl_cut {L : Array Bool} {n : Nat} (h : DX j Hs E1 ops L n Q so s E) : DL (Until n L) j Hs E1 ops [] Q so s E := fun hq fuel listed hs hl a w st0 st => by
  obtain rfl : listed = L := hs
  exact h hq fuel (by simpa [Until] using hl) a w st0 st
theorem dx_dl {L : Array Bool} {n : Nat} {l : Plan} (sch : List (Bool × Nat)) (hsc : schedB ops L sch = true) (hlen : sch.length ≤ n) (hl : (sch.map fun p => (p.1, p.2, ops[p.2]?)) = l) (h : DL (Done ops) j Hs E1 ops l Q so s E) : DX j Hs E1 ops L n Q so s E := fun hq fuel hf a w st0 st =>
  h hq fuel L (hl ▸ sched_of hsc) (by rw [← hl]; simp only [List.length_map, Done]; omega) a w st0 st
theorem dx_rebase {a : Act} {w : World} {L : Array Bool} {n fuel : Nat} (hj : DrawJ j Hs F E1) (st : St j s E a w)
    (h : ∀ j' : J P N, DrawJ j' Hs F E → DX j' Hs E ops L n Q s s E) (hq : NoS Q) (hl : n ≤ fuel) :
    wpAnyH P .any ops (liftE j (fun e s E => Q e s (E ++ Hs))) (Stable j) fuel L a w :=
  dl_rebase (TT := Until n L) (l := []) hj st (fun j' hj' => dl_cut (h j' hj')) hq rfl (by simpa [Until] using hl)
theorem dx_arm {L : Array Bool} {n fuel i : Nat} {op : Op} {dst : Option Tmp} {a : Act} {w : World} (hj : DrawJ j Hs F E1) (hi : ops[i]? = some ⟨dst, op, ty, pos, after, g⟩) (hw : Wants ops s g) (hq : NoS Q) (hf : n ≤ fuel) (st : St j s E a w)
    (h : OP j ⟨dst, op, ty, pos, after, none⟩ (fun s' E' => ∀ j' : J P N, DrawJ j' Hs F E' → DX j' Hs E' ops (L.setIfInBounds i true) n Q s' s' E') (fun e s E => Q e s (E ++ Hs)) s E) :
    wpOp P ops (liftE j (fun e s E => Q e s (E ++ Hs))) i (fun a' w' => Stable j w' ∧ wpAnyH P .any ops (liftE j (fun e s E => Q e s (E ++ Hs))) (Stable j) fuel (L.setIfInBounds i true) a' w') a w := by
  unfold wpOp
  have hwn := hw.wanted (o := ⟨dst, op, ty, pos, after, g⟩) st
  simp only [hi, hwn, if_true]
  refine .inl (wp_guard (h a w st _ fun a' w' hl' => ?_))
  obtain ⟨s', E', st', hD⟩ := hl'
  exact ⟨stable_of st', dx_rebase hj st' hD hq hf⟩
/-- Two may come up, in either order. -/
theorem dx_fork {L : Array Bool} {n i k : Nat} {op op' : Op} {dst dst' : Option Tmp} {ty' : TypeId} {pos' : String} {after' : Array Edge} {g' : Option (Nat × Bool)} (hr : Region.ready .any ops L = [i, k]) (hj : DrawJ j Hs F E1)
    (hi : ops[i]? = some ⟨dst, op, ty, pos, after, g⟩) (hk : ops[k]? = some ⟨dst', op', ty', pos', after', g'⟩) (hw : Wants ops s g) (hw' : Wants ops s g')
    (h1 : OP j ⟨dst, op, ty, pos, after, none⟩ (fun s' E' => ∀ j' : J P N, DrawJ j' Hs F E' → DX j' Hs E' ops (L.setIfInBounds i true) n Q s' s' E') (fun e s E => Q e s (E ++ Hs)) s E)
    (h2 : OP j ⟨dst', op', ty', pos', after', none⟩ (fun s' E' => ∀ j' : J P N, DrawJ j' Hs F E' → DX j' Hs E' ops (L.setIfInBounds k true) n Q s' s' E') (fun e s E => Q e s (E ++ Hs)) s E) : DX j Hs E1 ops L (n + 1) Q so s E := fun hq fuel hf a w st0 st => by
  obtain ⟨fuel, rfl⟩ : ∃ m, fuel = m + 1 := ⟨fuel - 1, by omega⟩
  refine wpAnyH_all hr (by simp) fun m hm => ?_
  rcases List.mem_cons.1 hm with rfl | hm
  · exact dx_arm hj hi hw hq (by omega) st h1
  · obtain rfl : m = k := by simpa using hm
    exact dx_arm hj hk hw' hq (by omega) st h2
/-- The begin: the chunks Hs are only read in the region, E1 are what calls and stores may turn. -/
theorem aw_draw {id : Nat} (sch : List (Bool × Nat)) (E1 : List Ch) {l : Plan} (hm : P.follows .mixedOrders = true) (hsc : schedB ops (Array.replicate ops.size false) sch = true) (hlen : sch.length ≤ ops.size) (hl : (sch.map fun p => (p.1, p.2, ops[p.2]?)) = l) (hp : Pick E1 H Hs) (hq : NoS Q)
    (h : ∀ j' : J P N, DrawJ j' Hs j.F E1 → DL (Done ops) j' Hs E1 ops l Q s s E1) (hnd : ops.toList.all noDefer = true := by decide) : AW j (.region id ops true) Q s H := fun hno a w st => by
  let w1 : World := { w with drawn := w.drawn + 1 }
  let j' : J P N := { j with F := Hs ++ j.F, H0 := own E1, w0 := w1 }
  have hpm := hp.perm
  have hpF : (H ++ j.F).Perm (E1 ++ (Hs ++ j.F)) := by rw [← List.append_assoc]; exact hpm.append_right _
  have kk : Keeps (own (H ++ j.F)) w (own (E1 ++ (Hs ++ j.F))) w1 := by
    rw [← own_funext hpF]
    exact ⟨Nat.le_refl _, fun _ _ _ => rfl, fun _ _ h => h⟩
  have hp1 := (own_funext hpF ▸ st.hp).perm hpF
  have st1 : St j' s E1 a w1 := ⟨st.sl.keep kk, ⟨hp1.nd, fun c hc => Ch.sat_keep (w := w) (w' := w1) (ow := own (E1 ++ (Hs ++ j.F))) ⟨Nat.le_refl _, fun _ _ _ => rfl, fun _ _ h => h⟩ (hp1.sat c hc) fun _ _ => rfl⟩, Evo.refl _ _, st.df⟩
  refine wpIn_region_any hm (any_in hnd hno _ (wpAny_of_held (S := Stable j') _ _ _ _ ?_))
  have hD := h j' ⟨rfl, rfl⟩ hq ops.size _ (hl ▸ sched_of hsc) (by rw [← hl]; simpa [Done] using hlen) a w1 st1 st1
  -- the post, back
  have back : ∀ e a' w', liftE j' (fun e s E => Q e s (E ++ Hs)) e a' w' → liftE j Q e a' w' := fun e a' w' ⟨s', E', st', hq⟩ => by
    refine ⟨s', E' ++ Hs, ⟨?_, ?_, ?_, st'.df⟩, hq⟩
    · have := st'.sl
      rwa [show E' ++ j'.F = E' ++ Hs ++ j.F from (List.append_assoc ..).symm] at this
    · have := st'.hp
      rwa [show E' ++ j'.F = E' ++ Hs ++ j.F from (List.append_assoc ..).symm] at this
    · have e1 : Evo (own (E1 ++ Hs)) w1 (own (E' ++ Hs)) w' := evo_frame_own st'.evo rfl
      rw [← own_funext hpm] at e1
      exact (st.evo.trans (Evo.draw _ w _)).trans e1
  exact wpAnyH_post back _ _ _ _ hD
def schedU (L : Array Bool) (ops : Array Oper) : Array Bool → List (Bool × Nat) → Bool
  | listed, [] => listed == L
  | listed, (false, i) :: r => Region.noSelect ops && Region.free .any ops listed i && (Region.ready .any ops listed).contains i && schedU L ops (listed.setIfInBounds i true) r
  | listed, (true, i) :: r => (Region.ready .any ops listed == [i]) && schedU L ops (listed.setIfInBounds i true) r
theorem sched_until {L : Array Bool} (n : Nat) : ∀ {sch : List (Bool × Nat)} {listed : Array Bool}, schedU L ops listed sch = true → Sched (Until n L) ops listed (sch.map fun p => (p.1, p.2, ops[p.2]?))
  | [], listed, h => by simpa [schedU, Sched, Until] using h
  | (false, i) :: r, listed, h => by
    simp only [schedU, Bool.and_eq_true] at h
    exact ⟨rfl, h.1.1.1, h.1.1.2, h.1.2, sched_until n h.2⟩
  | (true, i) :: r, listed, h => by
    simp only [schedU, Bool.and_eq_true, beq_iff_eq] at h
    exact ⟨rfl, h.1, sched_until n h.2⟩
theorem dx_until {L L' : Array Bool} {n m : Nat} {l : Plan} (sch : List (Bool × Nat)) (hsc : schedU L' ops L sch = true) (hlen : sch.length + m ≤ n) (hl : (sch.map fun p => (p.1, p.2, ops[p.2]?)) = l) (h : DL (Until m L') j Hs E1 ops l Q so s E) : DX j Hs E1 ops L n Q so s E := fun hq fuel hf a w st0 st =>
  h hq fuel L (hl ▸ sched_until m hsc) (by rw [← hl]; simp only [List.length_map, Until]; omega) a w st0 st
/-- The begin, where the plan ends at L: two may come up there. -/
theorem aw_drawx {id : Nat} (sch : List (Bool × Nat)) (L : Array Bool) (n : Nat) (E1 : List Ch) {l : Plan} (hm : P.follows .mixedOrders = true) (hsc : schedU L ops (Array.replicate ops.size false) sch = true) (hlen : sch.length + n ≤ ops.size) (hl : (sch.map fun p => (p.1, p.2, ops[p.2]?)) = l) (hp : Pick E1 H Hs) (hq : NoS Q)
    (h : ∀ j' : J P N, DrawJ j' Hs j.F E1 → DL (Until n L) j' Hs E1 ops l Q s s E1) (hnd : ops.toList.all noDefer = true := by decide) : AW j (.region id ops true) Q s H := fun hno a w st => by
  let w1 : World := { w with drawn := w.drawn + 1 }
  let j' : J P N := { j with F := Hs ++ j.F, H0 := own E1, w0 := w1 }
  have hpm := hp.perm
  have hpF : (H ++ j.F).Perm (E1 ++ (Hs ++ j.F)) := by rw [← List.append_assoc]; exact hpm.append_right _
  have kk : Keeps (own (H ++ j.F)) w (own (E1 ++ (Hs ++ j.F))) w1 := by
    rw [← own_funext hpF]
    exact ⟨Nat.le_refl _, fun _ _ _ => rfl, fun _ _ h => h⟩
  have hp1 := (own_funext hpF ▸ st.hp).perm hpF
  have st1 : St j' s E1 a w1 := ⟨st.sl.keep kk, ⟨hp1.nd, fun c hc => Ch.sat_keep (w := w) (w' := w1) (ow := own (E1 ++ (Hs ++ j.F))) ⟨Nat.le_refl _, fun _ _ _ => rfl, fun _ _ h => h⟩ (hp1.sat c hc) fun _ _ => rfl⟩, Evo.refl _ _, st.df⟩
  refine wpIn_region_any hm (any_in hnd hno _ (wpAny_of_held (S := Stable j') _ _ _ _ ?_))
  have hD := h j' ⟨rfl, rfl⟩ hq ops.size _ (hl ▸ sched_until n hsc) (by rw [← hl]; simpa [Until] using hlen) a w1 st1 st1
  -- the post, back
  have back : ∀ e a' w', liftE j' (fun e s E => Q e s (E ++ Hs)) e a' w' → liftE j Q e a' w' := fun e a' w' ⟨s', E', st', hq⟩ => by
    refine ⟨s', E' ++ Hs, ⟨?_, ?_, ?_, st'.df⟩, hq⟩
    · have := st'.sl
      rwa [show E' ++ j'.F = E' ++ Hs ++ j.F from (List.append_assoc ..).symm] at this
    · have := st'.hp
      rwa [show E' ++ j'.F = E' ++ Hs ++ j.F from (List.append_assoc ..).symm] at this
    · have e1 : Evo (own (E1 ++ Hs)) w1 (own (E' ++ Hs)) w' := evo_frame_own st'.evo rfl
      rw [← own_funext hpm] at e1
      exact (st.evo.trans (Evo.draw _ w _)).trans e1
  exact wpAnyH_post back _ _ _ _ hD
/-! ### Loads that yield the same whenever they come up -/
theorem run_hold {w w' : World} {b : Nat} (h : w'.heap[b]? = w.heap[b]?) {p : Addr} (hp : p.block = b) {x : Value} (hx : w.cell? p = some x) : w'.cell? p = some x := by
  subst hp
  exact (World.cell?_of_block h).trans hx
theorem DrawJ.not_own {a : Act} {w : World} (hj : DrawJ j Hs F E1) (st : St j s E1 a w) {c : Ch} (hc : c ∈ Hs) {b : Nat} (hb : c.blk = some b) : ¬ j.H0 b := by
  rw [hj.h0]
  intro h1
  have hnd := st.hp.nd
  rw [blks_append] at hnd
  refine (List.nodup_append.1 hnd).2.2 b h1 b ?_ rfl
  exact List.mem_filterMap.2 ⟨c, by rw [hj.f]; exact List.mem_append_left _ hc, hb⟩
theorem DrawJ.mem (hj : DrawJ j Hs F E1) {c : Ch} (hc : c ∈ Hs) (E : List Ch) : c ∈ E ++ j.F := by
  rw [hj.f]; exact List.mem_append_right _ (List.mem_append_left _ hc)
theorem hv_load_box {b k : Nat} {B : TypeId} {cells : List V} [t : Ty P T D sz bs z] (hj : DrawJ j Hs F E1) (hx : so.ev x = some (.raw (.pointer (some ⟨b, k, none⟩)))) (hm : Ch.box b B cells ∈ Hs) (hD : aggOf D = false) (hc : cells[k]? = some v) :
    HV j so E1 ⟨dst, .load T x, ty, pos, after, g⟩ v := fun a st => by
  have h1 := st.sl.ev hx
  simp only [conc] at h1
  obtain ⟨l, k1, k2, k3, k4⟩ := box_cells st (hj.mem hm E1)
  obtain ⟨y, hy, hc⟩ := concL_get k2 k v hc
  have hlt : b < j.w0.heap.size := (Array.getElem?_eq_some_iff.1 k1).1
  refine ⟨y, fun w hw => ?_, hc⟩
  have := run_hold (hw b hlt (hj.not_own st hm rfl)) rfl (k4 k y hy)
  simp [execOp, h1, Instr.loadAt, Instr.sureAddr, run_loadVar_scalar t hD this]
theorem hv_load_box_agg {b k : Nat} {B : TypeId} {cells cs : List V} [t : Ty P T D sz bs z] (hj : DrawJ j Hs F E1) (hx : so.ev x = some (.raw (.pointer (some ⟨b, k, none⟩)))) (hm : Ch.box b B cells ∈ Hs) (hD : aggOf D = true) (hc : (cells.drop k).take sz = cs) (hl : cs.length = sz) :
    HV j so E1 ⟨dst, .load T x, ty, pos, after, g⟩ (.agg cs) := fun a st => by
  have h1 := st.sl.ev hx
  simp only [conc] at h1
  obtain ⟨l, k1, k2, k3, k4⟩ := box_cells st (hj.mem hm E1)
  subst hc
  have hL := concL_take (concL_drop k2 k) sz
  have hlen : ((l.drop k).take sz).length = sz := (concL_length hL).trans hl
  have t' : Ty P T D ((l.drop k).take sz).length bs z := by rw [hlen]; exact t
  have hlt : b < j.w0.heap.size := (Array.getElem?_eq_some_iff.1 k1).1
  refine ⟨.agg ((l.drop k).take sz).toArray, fun w hw => ?_, ?_⟩
  · simp only [execOp, h1, Instr.loadAt, Instr.sureAddr]
    have := run_loadVar_agg (w := w) (ad := ⟨b, k, none⟩) t' hD (fun i v hv => by
      rw [addr_add]
      refine run_hold (hw b hlt (hj.not_own st hm rfl)) rfl (k4 (k + i) v ?_)
      rw [List.getElem?_take] at hv
      split at hv
      · simpa using hv
      · cases hv)
    simp [this]
  · simp only [conc]
    exact ⟨_, rfl, hL, fun y hy => k3 y (List.mem_of_mem_drop (List.mem_of_mem_take hy))⟩
theorem hv_load_box_whole {b : Nat} {B : TypeId} {cells : List V} [t : Ty P T D sz bs z] (hj : DrawJ j Hs F E1) (hx : so.ev x = some (.raw (.pointer (some ⟨b, 0, none⟩)))) (hm : Ch.box b B cells ∈ Hs) (hD : aggOf D = true) (hl : cells.length = sz) :
    HV j so E1 ⟨dst, .load T x, ty, pos, after, g⟩ (.agg cells) :=
  hv_load_box_agg hj hx hm hD (by rw [List.drop_zero, List.take_of_length_le (Nat.le_of_eq hl)]) hl
theorem DrawJ.ro_own (hj : DrawJ j Hs F E1) {b : Nat} (h : ¬ own (E1 ++ j.F) b) : ¬ j.H0 b := by
  rw [hj.h0]
  exact fun h1 => h ((own_append _ _ _).2 (.inl h1))
theorem hv_load_ro {k : Nat} {cells : List V} [t : Ty P T D sz bs z] (hj : DrawJ j Hs F E1) (hx : so.ev x = some (.rop cells k)) (hD : aggOf D = false) (hc : cells[k]? = some v) :
    HV j so E1 ⟨dst, .load T x, ty, pos, after, g⟩ v := fun a st => by
  have h1 := st.sl.ev hx
  simp only [conc] at h1
  obtain ⟨b, q, h1, hlt, hno, h2⟩ := h1
  obtain ⟨y, hy, _, hc⟩ := concAt_get h2 hc
  refine ⟨y, fun w hw => ?_, hc⟩
  have := run_hold (hw b hlt (hj.ro_own hno)) rfl hy
  simp [execOp, h1, Instr.loadAt, Instr.sureAddr, run_loadVar_scalar t hD this]
theorem hv_load_ro_agg {k : Nat} {cells cs : List V} [t : Ty P T D sz bs z] (hj : DrawJ j Hs F E1) (hx : so.ev x = some (.rop cells k)) (hD : aggOf D = true) (hc : (cells.drop k).take sz = cs) (hl : cs.length = sz) :
    HV j so E1 ⟨dst, .load T x, ty, pos, after, g⟩ (.agg cs) := fun a st => by
  have h1 := st.sl.ev hx
  simp only [conc] at h1
  obtain ⟨b, q, h1, hlt, hno, h2⟩ := h1
  have h3 := concAt_take sz (concAt_drop k h2)
  rw [hc] at h3
  obtain ⟨l, k1, k2, k3⟩ := concAt_list h3
  have hlen : l.length = sz := (concL_length k1).trans hl
  have t' : Ty P T D l.length bs z := by rw [hlen]; exact t
  refine ⟨.agg l.toArray, fun w hw => ?_, ?_⟩
  · have := run_loadVar_agg (w := w) (ad := ⟨b, q + k, none⟩) t' hD (fun i v hv => by rw [addr_add]; exact run_hold (hw b hlt (hj.ro_own hno)) rfl (k3 i v hv))
    simp [execOp, h1, Instr.loadAt, Instr.sureAddr, this]
  · simp only [conc]
    exact ⟨_, rfl, k1, k2⟩
theorem hv_load_ro_whole {cells : List V} [t : Ty P T D sz bs z] (hj : DrawJ j Hs F E1) (hx : so.ev x = some (.rop cells 0)) (hD : aggOf D = true) (hl : cells.length = sz) :
    HV j so E1 ⟨dst, .load T x, ty, pos, after, g⟩ (.agg cells) :=
  hv_load_ro_agg hj hx hD (by rw [List.drop_zero, List.take_of_length_le (Nat.le_of_eq hl)]) hl
theorem hv_load_vp {k i B m : Nat} {sv : Value} {rows : List (List V)} {r : List V} [t : Ty P T D sz bs z] (hj : DrawJ j Hs F E1) (hx : so.ev x = some (.vp sv m i k)) (hm : Ch.vec sv B m rows ∈ Hs) (hr : rows[i]? = some r) (hD : aggOf D = false) (hc : r[k]? = some v) :
    HV j so E1 ⟨dst, .load T x, ty, pos, after, g⟩ v := fun a st => by
  have h1 := st.sl.ev hx
  simp only [conc] at h1
  obtain ⟨b, n, c, hsv, h1⟩ := h1
  have hb : (Ch.vec sv B m rows).blk = some b := by simp [Ch.blk, hsv, Value.ownBlock]
  obtain ⟨y, hy, _, hc⟩ := concAt_get (vec_row st (hj.mem hm E1) hr b n c hsv) hc
  have hlt : b < j.w0.heap.size := Ch.blk_lt (st.hp.sat _ (hj.mem hm E1)) hb
  refine ⟨y, fun w hw => ?_, hc⟩
  have := run_hold (hw b hlt (hj.not_own st hm hb)) rfl hy
  simp [execOp, h1, Instr.loadAt, Instr.sureAddr, run_loadVar_scalar t hD this]
theorem hv_load_vp_agg {k i B m : Nat} {sv : Value} {rows : List (List V)} {r cs : List V} [t : Ty P T D sz bs z] (hj : DrawJ j Hs F E1) (hx : so.ev x = some (.vp sv m i k)) (hm : Ch.vec sv B m rows ∈ Hs) (hr : rows[i]? = some r) (hD : aggOf D = true) (hc : (r.drop k).take sz = cs) (hl : cs.length = sz) :
    HV j so E1 ⟨dst, .load T x, ty, pos, after, g⟩ (.agg cs) := fun a st => by
  have h1 := st.sl.ev hx
  simp only [conc] at h1
  obtain ⟨b, n, c, hsv, h1⟩ := h1
  have hb : (Ch.vec sv B m rows).blk = some b := by simp [Ch.blk, hsv, Value.ownBlock]
  have h3 := concAt_take sz (concAt_drop k (vec_row st (hj.mem hm E1) hr b n c hsv))
  rw [hc] at h3
  obtain ⟨l, k1, k2, k3⟩ := concAt_list h3
  have hlen : l.length = sz := (concL_length k1).trans hl
  have t' : Ty P T D l.length bs z := by rw [hlen]; exact t
  have hlt : b < j.w0.heap.size := Ch.blk_lt (st.hp.sat _ (hj.mem hm E1)) hb
  refine ⟨.agg l.toArray, fun w hw => ?_, ?_⟩
  · have := run_loadVar_agg (w := w) (ad := ⟨b, i * m + k, none⟩) t' hD (fun i v hv => by rw [addr_add]; exact run_hold (hw b hlt (hj.not_own st hm hb)) rfl (k3 i v hv))
    simp [execOp, h1, Instr.loadAt, Instr.sureAddr, this]
  · simp only [conc]
    exact ⟨_, rfl, k1, k2⟩
/-! ### What stands first -/
section
variable {T' : TypeId} {c y : Operand} {xs ys : Array Operand} {ts : Array TypeId} {ps : Array (Nat × Operand)} {fn : Fn} {op : Op} {b e : Bool} {n : Nat}
theorem kd_move (h : DL TT j Hs E1 ops ((e, i, some ⟨dst, .move x, ty, pos, after, g⟩) :: rest) Q so s E) : DL TT j Hs E1 ops ((e, i, some ⟨dst, .move x, ty, pos, after, g⟩) :: rest) Q so s E := h
theorem kd_assign (h : DL TT j Hs E1 ops ((e, i, some ⟨dst, .assign x, ty, pos, after, g⟩) :: rest) Q so s E) : DL TT j Hs E1 ops ((e, i, some ⟨dst, .assign x, ty, pos, after, g⟩) :: rest) Q so s E := h
theorem kd_load (h : DL TT j Hs E1 ops ((e, i, some ⟨dst, .load T x, ty, pos, after, g⟩) :: rest) Q so s E) : DL TT j Hs E1 ops ((e, i, some ⟨dst, .load T x, ty, pos, after, g⟩) :: rest) Q so s E := h
theorem kd_fieldAddr (h : DL TT j Hs E1 ops ((e, i, some ⟨dst, .fieldAddr T x n, ty, pos, after, g⟩) :: rest) Q so s E) : DL TT j Hs E1 ops ((e, i, some ⟨dst, .fieldAddr T x n, ty, pos, after, g⟩) :: rest) Q so s E := h
theorem kd_store (h : DL TT j Hs E1 ops ((e, i, some ⟨dst, .store T x y, ty, pos, after, g⟩) :: rest) Q so s E) : DL TT j Hs E1 ops ((e, i, some ⟨dst, .store T x y, ty, pos, after, g⟩) :: rest) Q so s E := h
theorem kd_alloc (h : DL TT j Hs E1 ops ((e, i, some ⟨dst, .alloc T, ty, pos, after, g⟩) :: rest) Q so s E) : DL TT j Hs E1 ops ((e, i, some ⟨dst, .alloc T, ty, pos, after, g⟩) :: rest) Q so s E := h
theorem kd_box (h : DL TT j Hs E1 ops ((e, i, some ⟨dst, .box T x, ty, pos, after, g⟩) :: rest) Q so s E) : DL TT j Hs E1 ops ((e, i, some ⟨dst, .box T x, ty, pos, after, g⟩) :: rest) Q so s E := h
theorem kd_extract (h : DL TT j Hs E1 ops ((e, i, some ⟨dst, .extract x n, ty, pos, after, g⟩) :: rest) Q so s E) : DL TT j Hs E1 ops ((e, i, some ⟨dst, .extract x n, ty, pos, after, g⟩) :: rest) Q so s E := h
theorem kd_len (h : DL TT j Hs E1 ops ((e, i, some ⟨dst, .call { callee := .builtin .len, args := xs, argTypes := ts }, ty, pos, after, g⟩) :: rest) Q so s E) : DL TT j Hs E1 ops ((e, i, some ⟨dst, .call { callee := .builtin .len, args := xs, argTypes := ts }, ty, pos, after, g⟩) :: rest) Q so s E := h
theorem kd_indexAddr (h : DL TT j Hs E1 ops ((e, i, some ⟨dst, .indexAddr T x y, ty, pos, after, g⟩) :: rest) Q so s E) : DL TT j Hs E1 ops ((e, i, some ⟨dst, .indexAddr T x y, ty, pos, after, g⟩) :: rest) Q so s E := h
theorem kd_build (h : DL TT j Hs E1 ops ((e, i, some ⟨dst, .build T ps, ty, pos, after, g⟩) :: rest) Q so s E) : DL TT j Hs E1 ops ((e, i, some ⟨dst, .build T ps, ty, pos, after, g⟩) :: rest) Q so s E := h
theorem kd_buildSlice (h : DL TT j Hs E1 ops ((e, i, some ⟨dst, .buildSlice T n ps, ty, pos, after, g⟩) :: rest) Q so s E) : DL TT j Hs E1 ops ((e, i, some ⟨dst, .buildSlice T n ps, ty, pos, after, g⟩) :: rest) Q so s E := h
theorem kd_makeFunc (h : DL TT j Hs E1 ops ((e, i, some ⟨dst, .makeFunc fn xs ys, ty, pos, after, g⟩) :: rest) Q so s E) : DL TT j Hs E1 ops ((e, i, some ⟨dst, .makeFunc fn xs ys, ty, pos, after, g⟩) :: rest) Q so s E := h
theorem kd_field (h : DL TT j Hs E1 ops ((e, i, some ⟨dst, .field T x n, ty, pos, after, g⟩) :: rest) Q so s E) : DL TT j Hs E1 ops ((e, i, some ⟨dst, .field T x n, ty, pos, after, g⟩) :: rest) Q so s E := h
theorem kd_pick (h : DL TT j Hs E1 ops ((e, i, some ⟨dst, .pick c x y, ty, pos, after, g⟩) :: rest) Q so s E) : DL TT j Hs E1 ops ((e, i, some ⟨dst, .pick c x y, ty, pos, after, g⟩) :: rest) Q so s E := h
theorem kd_convert (h : DL TT j Hs E1 ops ((e, i, some ⟨dst, .convert T T' x, ty, pos, after, g⟩) :: rest) Q so s E) : DL TT j Hs E1 ops ((e, i, some ⟨dst, .convert T T' x, ty, pos, after, g⟩) :: rest) Q so s E := h
theorem kd_not (h : DL TT j Hs E1 ops ((e, i, some ⟨dst, .unOp .not T x, ty, pos, after, g⟩) :: rest) Q so s E) : DL TT j Hs E1 ops ((e, i, some ⟨dst, .unOp .not T x, ty, pos, after, g⟩) :: rest) Q so s E := h
theorem kd_neg (h : DL TT j Hs E1 ops ((e, i, some ⟨dst, .unOp .neg T x, ty, pos, after, g⟩) :: rest) Q so s E) : DL TT j Hs E1 ops ((e, i, some ⟨dst, .unOp .neg T x, ty, pos, after, g⟩) :: rest) Q so s E := h
theorem kd_eql (h : DL TT j Hs E1 ops ((e, i, some ⟨dst, .binOp .eql T x y T', ty, pos, after, g⟩) :: rest) Q so s E) : DL TT j Hs E1 ops ((e, i, some ⟨dst, .binOp .eql T x y T', ty, pos, after, g⟩) :: rest) Q so s E := h
theorem kd_neq (h : DL TT j Hs E1 ops ((e, i, some ⟨dst, .binOp .neq T x y T', ty, pos, after, g⟩) :: rest) Q so s E) : DL TT j Hs E1 ops ((e, i, some ⟨dst, .binOp .neq T x y T', ty, pos, after, g⟩) :: rest) Q so s E := h
theorem kd_lss (h : DL TT j Hs E1 ops ((e, i, some ⟨dst, .binOp .lss T x y T', ty, pos, after, g⟩) :: rest) Q so s E) : DL TT j Hs E1 ops ((e, i, some ⟨dst, .binOp .lss T x y T', ty, pos, after, g⟩) :: rest) Q so s E := h
theorem kd_leq (h : DL TT j Hs E1 ops ((e, i, some ⟨dst, .binOp .leq T x y T', ty, pos, after, g⟩) :: rest) Q so s E) : DL TT j Hs E1 ops ((e, i, some ⟨dst, .binOp .leq T x y T', ty, pos, after, g⟩) :: rest) Q so s E := h
theorem kd_gtr (h : DL TT j Hs E1 ops ((e, i, some ⟨dst, .binOp .gtr T x y T', ty, pos, after, g⟩) :: rest) Q so s E) : DL TT j Hs E1 ops ((e, i, some ⟨dst, .binOp .gtr T x y T', ty, pos, after, g⟩) :: rest) Q so s E := h
theorem kd_geq (h : DL TT j Hs E1 ops ((e, i, some ⟨dst, .binOp .geq T x y T', ty, pos, after, g⟩) :: rest) Q so s E) : DL TT j Hs E1 ops ((e, i, some ⟨dst, .binOp .geq T x y T', ty, pos, after, g⟩) :: rest) Q so s E := h
theorem kd_add (h : DL TT j Hs E1 ops ((e, i, some ⟨dst, .binOp .add T x y T', ty, pos, after, g⟩) :: rest) Q so s E) : DL TT j Hs E1 ops ((e, i, some ⟨dst, .binOp .add T x y T', ty, pos, after, g⟩) :: rest) Q so s E := h
theorem kd_sub (h : DL TT j Hs E1 ops ((e, i, some ⟨dst, .binOp .sub T x y T', ty, pos, after, g⟩) :: rest) Q so s E) : DL TT j Hs E1 ops ((e, i, some ⟨dst, .binOp .sub T x y T', ty, pos, after, g⟩) :: rest) Q so s E := h
theorem kd_mul (h : DL TT j Hs E1 ops ((e, i, some ⟨dst, .binOp .mul T x y T', ty, pos, after, g⟩) :: rest) Q so s E) : DL TT j Hs E1 ops ((e, i, some ⟨dst, .binOp .mul T x y T', ty, pos, after, g⟩) :: rest) Q so s E := h
theorem kd_quo (h : DL TT j Hs E1 ops ((e, i, some ⟨dst, .binOp .quo T x y T', ty, pos, after, g⟩) :: rest) Q so s E) : DL TT j Hs E1 ops ((e, i, some ⟨dst, .binOp .quo T x y T', ty, pos, after, g⟩) :: rest) Q so s E := h
theorem kd_rem (h : DL TT j Hs E1 ops ((e, i, some ⟨dst, .binOp .rem T x y T', ty, pos, after, g⟩) :: rest) Q so s E) : DL TT j Hs E1 ops ((e, i, some ⟨dst, .binOp .rem T x y T', ty, pos, after, g⟩) :: rest) Q so s E := h
theorem kd_guard (h : DL TT j Hs E1 ops ((e, i, some ⟨dst, op, ty, pos, after, some (n, b)⟩) :: rest) Q so s E) : DL TT j Hs E1 ops ((e, i, some ⟨dst, op, ty, pos, after, some (n, b)⟩) :: rest) Q so s E := h
end
end Go.AX

set_option linter.unusedVariables false
set_option linter.unusedSimpArgs false
namespace Go.AX
variable {P : Program} {N : Nat} {j : J P N} {s : Sl} {H : List Ch}
variable {dst : Option Tmp} {ty : TypeId} {pos : String} {after : Array Edge} {g : Option (Nat × Bool)} {T T' : TypeId} {x y : Operand}
inductive SK where
  | int (k : IntKind)
  | str
  | bool
def SK.desc : SK → TypeDesc
  | .int k => .int k
  | .str => .string
  | .bool => .bool
def eqSc : SK → Value → Value → Option Bool
  | .int _, .int k a, .int k' b => if k = k' then some (decide (a = b)) else none
  | .str, .string a, .string b => some (decide (a = b))
  | .bool, .bool a, .bool b => some (a == b)
  | _, _, _ => none
def eqR (cs ds : List V) : List (Nat × SK) → Option Bool
  | [] => some true
  | (o, k) :: r => match cs[o]?, ds[o]? with
    | some (.raw a), some (.raw b) => match eqSc k a b, eqR cs ds r with
      | some p, some q => some (p && q)
      | _, _ => none
    | _, _ => none
def FlatF (P : Program) : List Field → List (Nat × SK) → Prop
  | [], [] => True
  | f :: fs, (o, k) :: r => f.name ≠ "_" ∧ f.offset = o ∧ P.underlying f.type = some k.desc ∧ FlatF P fs r
  | _, _ => False
theorem flat_nil : FlatF P [] [] := trivial
theorem flat_cons {f : Field} {fs : List Field} {o : Nat} {k : SK} {r : List (Nat × SK)} (h1 : f.name ≠ "_") (ho : f.offset = o) (hu : P.underlying f.type = some k.desc) (h : FlatF P fs r) : FlatF P (f :: fs) ((o, k) :: r) := ⟨h1, ho, hu, h⟩
class FlatEq (P : Program) (T : TypeId) (fl : outParam (List (Nat × SK))) : Prop where
  guard : P.eqGuardType P.depth T = false
  held : P.stoodInHeld T = false
  fs : ∃ fs : Array Field, P.underlying T = some (.struct fs) ∧ FlatF P fs.toList fl
theorem run_eqSc {d : Nat} {t : TypeId} {k : SK} {a b : Value} {p : Bool} (hu : P.underlying t = some k.desc) (h : eqSc k a b = some p) (w : World) : (Op.equalIn (d + 1) t a b).run P w = .ok p w := by
  cases k with
  | int k =>
    cases a <;> cases b <;> simp only [eqSc] at h <;> try contradiction
    split at h
    · rename_i e
      subst e
      simp only [Option.some.injEq] at h
      subst h
      rw [run_equalIn_int w d t _ k _ _ hu]
      rfl
    · cases h
  | str =>
    cases a <;> cases b <;> simp only [eqSc] at h <;> try contradiction
    simp only [Option.some.injEq] at h
    subst h
    rw [run_equalIn_string w d t _ _ hu, ba_beq]
  | bool =>
    cases a <;> cases b <;> simp only [eqSc] at h <;> try contradiction
    simp only [Option.some.injEq] at h
    subst h
    exact run_equalIn_bool' w d t _ _ hu
theorem run_part_sc {t : TypeId} {k : SK} {xs : Array Value} {o : Nat} {a : Value} (hu : P.underlying t = some k.desc) (h : xs[o]? = some a) (w : World) : (part t xs o).run P w = .ok a w := by
  cases k <;> simp [part, Go.isAgg, run_underlying hu, SK.desc, h]
theorem run_eqR {d : Nat} {cs ds : List V} {w0 : World} {ow : Nat → Prop} {xs ys : List Value} (hx : concL w0 ow cs xs) (hy : concL w0 ow ds ys) (w : World) : ∀ {fs : List Field} {fl : List (Nat × SK)} {b : Bool}, FlatF P fs fl → eqR cs ds fl = some b → (Op.eqFields (d + 1) xs.toArray ys.toArray fs).run P w = .ok b w
  | [], [], b, _, h => by simp only [eqR, Option.some.injEq] at h; subst h; simp [Op.eqFields]
  | [], _ :: _, _, h, _ => h.elim
  | _ :: _, [], _, h, _ => h.elim
  | f :: fs, (o, k) :: r, b, hf, h => by
    obtain ⟨h1, h2, h3, h4⟩ := hf
    simp only [eqR] at h
    split at h
    · rename_i a a' e1 e2
      split at h
      · rename_i p q e3 e4
        simp only [Option.some.injEq] at h
        subst h
        obtain ⟨u, hu, hu2⟩ := concL_get hx o _ e1
        obtain ⟨u', hu', hu2'⟩ := concL_get hy o _ e2
        simp only [conc] at hu2 hu2'
        subst hu2 hu2' h2
        have ih := run_eqR (d := d) hx hy w h4 e4
        rw [Op.eqFields]
        simp only [if_pos h1, Sem.run_bind, run_part_sc h3 (show xs.toArray[f.offset]? = some _ by simpa using hu) w, run_part_sc h3 (show ys.toArray[f.offset]? = some _ by simpa using hu') w, run_eqSc h3 e3 w, Result.andThen_ok]
        cases p
        · simp
        · simpa using ih
      · cases h
    · cases h
theorem pv_eql_agg {fl : List (Nat × SK)} {cs ds : List V} {b : Bool} [t : FlatEq P T fl] (hx : s.ev x = some (.agg cs)) (hy : s.ev y = some (.agg ds)) (h : eqR cs ds fl = some b) : PureV j s H ⟨dst, .binOp .eql T x y T', ty, pos, after, g⟩ (.raw (.bool b)) := fun a w st => by
  have h1 := st.sl.ev hx
  have h2 := st.sl.ev hy
  simp only [conc] at h1 h2
  obtain ⟨xs, h1, hL1, _⟩ := h1
  obtain ⟨ys, h2, hL2, _⟩ := h2
  obtain ⟨fs, hu, hf⟩ := t.fs
  have hfs : P.fieldsOf T = fs := by simp [Program.fieldsOf, hu]
  refine ⟨.bool b, fun w' => ?_, rfl⟩
  have e := run_eqR (d := 9998) hL1 hL2 w' hf h
  simp [execOp, h1, h2, run_eqGuard_agg w' _ _ _ _ _ _ t.guard, run_eql_struct, run_equalIn_struct w' 9999 T _ _ (by rw [hfs]; exact hu) t.held, hfs, e]
theorem pv_neq_agg {fl : List (Nat × SK)} {cs ds : List V} {b : Bool} [t : FlatEq P T fl] (hx : s.ev x = some (.agg cs)) (hy : s.ev y = some (.agg ds)) (h : eqR cs ds fl = some b) : PureV j s H ⟨dst, .binOp .neq T x y T', ty, pos, after, g⟩ (.raw (.bool (!b))) := fun a w st => by
  have h1 := st.sl.ev hx
  have h2 := st.sl.ev hy
  simp only [conc] at h1 h2
  obtain ⟨xs, h1, hL1, _⟩ := h1
  obtain ⟨ys, h2, hL2, _⟩ := h2
  obtain ⟨fs, hu, hf⟩ := t.fs
  have hfs : P.fieldsOf T = fs := by simp [Program.fieldsOf, hu]
  refine ⟨.bool (!b), fun w' => ?_, rfl⟩
  have e := run_eqR (d := 9998) hL1 hL2 w' hf h
  simp [execOp, h1, h2, run_eqGuard_agg w' _ _ _ _ _ _ t.guard, run_neq_struct, run_equalIn_struct w' 9999 T _ _ (by rw [hfs]; exact hu) t.held, hfs, e]
end Go.AX

set_option linter.unusedVariables false
set_option linter.unusedSimpArgs false
namespace Go.AX
variable {P : Program} {N : Nat} {j : J P N} {Q : Exit → Sl → List Ch → Prop} {s so : Sl} {H G R : List Ch}
variable {dst : Option Tmp} {ty : TypeId} {pos : String} {after : Array Edge} {g : Option (Nat × Bool)} {T : TypeId} {x : Operand} {D : TypeDesc} {sz bs : Nat} {z : Value}
theorem sub_nil : Sl.sub [] s := trivial
theorem sub_cons {i : Nat} {v : V} {r : Sl} (h : s.get i = some v) (hr : Sl.sub r s) : Sl.sub ((i, v) :: r) s := ⟨h, hr⟩
theorem st_pick {a : Act} {w : World} (st : St j s H a w) (h : Pick G H R) : St j s G a w := st_sub (st.perm h.perm) (List.sublist_append_left _ _)
theorem aw_pick {c : Code} (s' : Sl) (G : List Ch) (hs : s'.sub s) (hp : Pick G H R) (h : AW j c Q s' G) : AW j c Q s H :=
  aw_weak (fun a w st => st_pick (st_forget st (Sl.sub_get hs)) hp) h
theorem rl_pick {ops : Array Oper} {l : List Oper} (s' : Sl) (G : List Ch) (hs : s'.sub s) (hp : Pick G H R) (h : RL j ops l Q s' G) : RL j ops l Q s H :=
  rl_weak (fun a w st => st_pick (st_forget st (Sl.sub_get hs)) hp) h
theorem retok_pick {fn : Func} {K : V → List Ch → Prop} (hp : Pick G H R) (h : RetOk j fn s G K) : RetOk j fn s H K := fun a w st => h a w (st_pick st hp)
/-- What a round must leave behind. -/
def Next {α : Type} (lit : α → Sl) (hl : α → List Ch) (I : α → Prop) (m : α → Nat) (a : α) (s : Sl) (H : List Ch) : Prop := ∃ b R, I b ∧ m b < m a ∧ Sl.sub (lit b) s ∧ Pick (hl b) H R
theorem next_of {α : Type} {lit : α → Sl} {hl : α → List Ch} {I : α → Prop} {m : α → Nat} {a : α} (b : α) (h1 : I b) (h2 : m b < m a) (h3 : Sl.sub (lit b) s) (h4 : Pick (hl b) H R) : Next lit hl I m a s H := ⟨b, R, h1, h2, h3, h4⟩
theorem aw_iter {α : Type} {c : Code} (lit : α → Sl) (hl : α → List Ch) (I : α → Prop) (m : α → Nat) (a0 : α) (h0 : I a0) (hs : Sl.sub (lit a0) s) (hH : Pick (hl a0) H R)
    (round : ∀ a, I a → AW j c (Then (Next lit hl I m a) Q) (lit a) (hl a)) : AW j (.loop c) Q s H :=
  aw_loop (fun n s H => ∃ a R, m a = n ∧ I a ∧ Sl.sub (lit a) s ∧ Pick (hl a) H R) (m a0) ⟨a0, R, rfl, h0, hs, hH⟩ fun n s H ⟨a, R, hm, hI, h1, h2⟩ =>
    aw_pick (lit a) (hl a) h1 h2 (aw_mono (round a hI) fun e s' H' h => by
      cases e with
      | normal =>
        obtain ⟨b, R', k1, k2, k3, k4⟩ := h
        exact ⟨m b, hm ▸ k2, b, R', rfl, k1, k3, k4⟩
      | _ => exact h)
theorem vv_load_vp_whole {i E k : Nat} {sv : Value} {rows : List (List V)} {r : List V} [t : Ty P T D sz bs z] (hx : s.ev x = some (.vp sv k i 0)) (hm : Ch.vec sv E k rows ∈ H ++ j.F) (hr : rows[i]? = some r) (hD : aggOf D = true) (hl : r.length = sz) :
    ValV j s H ⟨dst, .load T x, ty, pos, after, g⟩ (.agg r) :=
  vv_load_vp_agg hx hm hr hD (by rw [List.drop_zero, List.take_of_length_le (Nat.le_of_eq hl)]) hl
theorem hv_load_vp_whole {i B m : Nat} {sv : Value} {rows : List (List V)} {r : List V} {Hs F E1 : List Ch} [t : Ty P T D sz bs z] (hj : DrawJ j Hs F E1) (hx : so.ev x = some (.vp sv m i 0)) (hm : Ch.vec sv B m rows ∈ Hs) (hr : rows[i]? = some r) (hD : aggOf D = true) (hl : r.length = sz) :
    HV j so E1 ⟨dst, .load T x, ty, pos, after, g⟩ (.agg r) :=
  hv_load_vp_agg hj hx hm hr hD (by rw [List.drop_zero, List.take_of_length_le (Nat.le_of_eq hl)]) hl
theorem setAll_whole {α : Type} {vs cs : List α} (h : vs.length = cs.length) : setAll cs 0 vs = vs := by
  rw [setAll_eq vs cs 0 (by omega)]
  simp [h]
/-- A store of a whole variable. -/
theorem op_store_box_whole {b : Nat} {E : TypeId} {cells : List V} {v : V} {H' : List Ch} {y : Operand} {K : Sl → List Ch → Prop} [t : Ty P T D sz bs z] (hx : s.ev x = some (.raw (.pointer (some ⟨b, 0, none⟩)))) (hy : s.ev y = some v) (h1 : v.one = true ∨ ∃ cs, v = .agg cs)
    (hu : Upd (.box b E cells) (.box b E v.cells) H H') (hs : v.cells.length = sz) (hl : cells.length = sz)
    (h : K s H') : OP j ⟨none, .store T x y, ty, pos, after, none⟩ K Q s H :=
  op_store_box hx hy h1 (by rw [setAll_whole (hs.trans hl.symm)]; exact hu) hs (by omega) h
/-- A variable that holds a nil slice becomes one that holds a slice of one's own. -/
theorem st_box_nil {a : Act} {w : World} {b : Nat} {B : TypeId} {H' : List Ch} (E k : Nat) (hu : Upd (.box b B [.raw (.slice none 0 0)]) (.box b B [.own (.slice none 0 0)]) H H') (st : St j s H a w) : St j s (.vec (.slice none 0 0) E k [] :: H') a w := by
  obtain ⟨t, h1, h2⟩ := hu.split
  have st1 := st.perm h1
  have hb : blks (Ch.box b B [V.own (.slice none 0 0)] :: t ++ j.F) = blks (Ch.box b B [V.raw (.slice none 0 0)] :: t ++ j.F) := rfl
  have ho : own (Ch.box b B [V.own (.slice none 0 0)] :: t ++ j.F) = own (Ch.box b B [V.raw (.slice none 0 0)] :: t ++ j.F) := by unfold own; rw [hb]
  have ho' : own (Ch.box b B [V.own (.slice none 0 0)] :: t) = own (Ch.box b B [V.raw (.slice none 0 0)] :: t) := rfl
  have st2 : St j s (Ch.box b B [V.own (.slice none 0 0)] :: t) a w := by
    refine ⟨?_, ⟨?_, fun c hc => ?_⟩, ?_, st1.df⟩
    · rw [ho]; exact st1.sl
    · rw [hb]; exact st1.hp.nd
    · rw [ho]
      rcases List.mem_cons.1 hc with rfl | hc
      · obtain ⟨l, k1, k2, k3⟩ := st1.hp.sat _ (List.mem_cons_self ..)
        refine ⟨l, k1, ?_, k3⟩
        simp only [concL, conc] at k2 ⊢
        obtain ⟨x, xs, rfl, rfl, rfl⟩ := k2
        exact ⟨_, _, rfl, ⟨rfl, by simp [Value.oneCell']⟩, rfl⟩
      · exact st1.hp.sat _ (List.mem_cons_of_mem _ hc)
    · rw [ho']; exact st1.evo
  exact st_vec_nil (st2.perm h2.symm) E k
theorem rl_box_nil {ops : Array Oper} {l : List Oper} {b : Nat} {B : TypeId} {H' : List Ch} (E k : Nat) (hu : Upd (.box b B [.raw (.slice none 0 0)]) (.box b B [.own (.slice none 0 0)]) H H') (h : RL j ops l Q s (.vec (.slice none 0 0) E k [] :: H')) : RL j ops l Q s H :=
  rl_weak (fun a w st => st_box_nil E k hu st) h
theorem aw_box_nil {c : Code} {b : Nat} {B : TypeId} {H' : List Ch} (E k : Nat) (hu : Upd (.box b B [.raw (.slice none 0 0)]) (.box b B [.own (.slice none 0 0)]) H H') (h : AW j c Q s (.vec (.slice none 0 0) E k [] :: H')) : AW j c Q s H :=
  aw_weak (fun a w st => st_box_nil E k hu st) h
theorem rl_nil_own {ops : Array Oper} {l : List Oper} (d E sz : Nat) (hv : s.get d = some (.raw (.slice none 0 0))) (h : RL j ops l Q ((d, .own (.slice none 0 0)) :: s) (.vec (.slice none 0 0) E sz [] :: H)) : RL j ops l Q s H :=
  rl_weak (fun a w st => st_vec_nil (st_slot st hv fun x hx => le_nil_own w _ x hx) E sz) h
theorem rl_nil_ro {ops : Array Oper} {l : List Oper} (d : Nat) (hv : s.get d = some (.raw (.slice none 0 0))) (h : RL j ops l Q ((d, .ro []) :: s) H) : RL j ops l Q s H :=
  rl_weak (fun a w st => st_slot st hv fun x hx => le_nil_ro w _ x hx) h
theorem aw_nil_ro {c : Code} (d : Nat) (hv : s.get d = some (.raw (.slice none 0 0))) (h : AW j c Q ((d, .ro []) :: s) H) : AW j c Q s H :=
  aw_weak (fun a w st => st_slot st hv fun x hx => le_nil_ro w _ x hx) h
/-- No slice is longer than that. -/
theorem aw_len_own {c : Code} {sv : Value} {E k : Nat} {rows : List (List V)} (hm : Ch.vec sv E k rows ∈ H ++ j.F) (h : rows.length ≤ 9223372036854775807 → AW j c Q s H) : AW j c Q s H := fun hno a w st => by
  obtain ⟨l, h1, _⟩ := st.hp.sat _ hm
  obtain ⟨A, c, _, h2, h3⟩ := own_form h1
  exact h (Nat.le_trans (Nat.le_trans h2 h3) (by decide)) hno a w st
theorem aw_len_ro {c : Code} {d : Nat} {rows : List (List V)} (hv : s.get d = some (.ro rows)) (h : rows.length ≤ 9223372036854775807 → AW j c Q s H) : AW j c Q s H := fun hno a w st => by
  obtain ⟨x, _, h2⟩ := st.sl.2 d _ hv
  simp only [conc] at h2
  obtain ⟨A, c, _, h3, h4, _⟩ := h2
  exact h (Nat.le_trans (Nat.le_trans h3 h4) (by decide)) hno a w st
end Go.AX

set_option linter.unusedVariables false
set_option linter.unusedSimpArgs false
namespace Go.AX
variable {P : Program} {N : Nat} {j : J P N} {Q : Exit → Sl → List Ch → Prop} {s so : Sl} {H G R : List Ch}
def LeL (vs us : List V) : Prop := ∀ w ow l, concL w ow vs l → concL w ow us l
theorem le_refl (v : V) : V.Le v v := fun _ _ _ h => h
theorem leL_nil : LeL [] [] := fun _ _ _ h => h
theorem leL_cons {v u : V} {vs us : List V} (h : V.Le v u) (k : LeL vs us) : LeL (v :: vs) (u :: us) := fun w ow l hl => by
  simp only [concL] at hl ⊢
  obtain ⟨x, xs, rfl, h1, h2⟩ := hl
  exact ⟨x, xs, rfl, h _ _ _ h1, k _ _ _ h2⟩
theorem le_agg {cs ds : List V} (h : LeL cs ds) : V.Le (.agg cs) (.agg ds) := fun w ow x hx => by
  simp only [conc] at hx ⊢
  obtain ⟨l, rfl, h1, h2⟩ := hx
  exact ⟨l, rfl, h _ _ _ h1, h2⟩
theorem rl_le {ops : Array Oper} {l : List Oper} (d : Nat) {v v' : V} (hv : s.get d = some v) (hle : V.Le v v') (h : RL j ops l Q ((d, v') :: s) H) : RL j ops l Q s H :=
  rl_weak (fun a w st => st_slot st hv fun x hx => hle w _ x hx) h
theorem aw_le {c : Code} (d : Nat) {v v' : V} (hv : s.get d = some v) (hle : V.Le v v') (h : AW j c Q ((d, v') :: s) H) : AW j c Q s H :=
  aw_weak (fun a w st => st_slot st hv fun x hx => hle w _ x hx) h
theorem Tri.le {f : FuncId} {vs us : List V} {Post : AEnd → List Ch → Prop} (hle : LeL vs us) (h : Tri P f us H Post) : Tri P f vs H Post := fun F w xs h1 h2 => h F w xs h1 (hle _ _ _ h2)
theorem TriR.le {f : FuncId} {vs us : List V} {Rr : V → List Ch → Prop} (hle : LeL vs us) (h : TriR P f us H Rr) : TriR P f vs H Rr := Tri.le hle h
theorem TriR.mono {f : FuncId} {vs : List V} {Rr R' : V → List Ch → Prop} (h : TriR P f vs H Rr) (hr : ∀ v H', Rr v H' → R' v H') : TriR P f vs H R' :=
  Tri.mono h fun ae H' ⟨v, e, k⟩ => ⟨v, e, hr v H' k⟩
theorem rl_vec_nil {ops : Array Oper} {l : List Oper} (E k : Nat) (h : RL j ops l Q s (.vec (.slice none 0 0) E k [] :: H)) : RL j ops l Q s H := rl_weak (fun a w st => st_vec_nil st E k) h
inductive LeP : List V → List V → Prop
  | nil : LeP [] []
  | cons {v u : V} {vs us : List V} (h : V.Le v u) (t : LeP vs us) : LeP (v :: vs) (u :: us)
theorem LeP.refl : ∀ vs : List V, LeP vs vs
  | [] => .nil
  | v :: vs => .cons (le_refl v) (LeP.refl vs)
theorem LeP.leL {vs us : List V} (h : LeP vs us) : LeL vs us := by
  induction h with
  | nil => exact leL_nil
  | cons h _ ih => exact leL_cons h ih
theorem LeP.len {vs us : List V} (h : LeP vs us) : us.length = vs.length := by
  induction h with
  | nil => rfl
  | cons h _ ih => simp [ih]
theorem LeP.concAt {vs us : List V} (h : LeP vs us) {w : World} {ow : Nat → Prop} {b : Nat} : ∀ {o : Nat}, AX.concAt w ow b o vs → AX.concAt w ow b o us := by
  induction h with
  | nil => intro o h; simp [AX.concAt]
  | cons h _ ih =>
    intro o hc
    simp only [AX.concAt] at hc ⊢
    obtain ⟨⟨x, h1, h2, h3⟩, h4⟩ := hc
    exact ⟨⟨x, h1, h2, h _ _ _ h3⟩, ih h4⟩
inductive LeR : List (List V) → List (List V) → Prop
  | nil : LeR [] []
  | cons {v u : List V} {vs us : List (List V)} (h : LeP v u) (t : LeR vs us) : LeR (v :: vs) (u :: us)
theorem LeR.len {vs us : List (List V)} (h : LeR vs us) : us.length = vs.length := by
  induction h with
  | nil => rfl
  | cons h _ ih => simp [ih]
theorem LeR.concRows {vs us : List (List V)} (h : LeR vs us) {w : World} {ow : Nat → Prop} {b sz : Nat} : ∀ {o : Nat}, AX.concRows w ow b sz o vs → AX.concRows w ow b sz o us := by
  induction h with
  | nil => intro o h; simp [AX.concRows]
  | cons h _ ih =>
    intro o hc
    simp only [AX.concRows] at hc ⊢
    exact ⟨h.len.trans hc.1, h.concAt hc.2.1, ih hc.2.2⟩
theorem le_ro {vs us : List (List V)} (h : LeR vs us) : V.Le (.ro vs) (.ro us) := fun w ow x hx => by
  simp only [conc] at hx ⊢
  obtain ⟨A, c, rfl, h1, h2, h3⟩ := hx
  refine ⟨A, c, by rw [h.len], by rw [h.len]; exact h1, h2, ?_⟩
  rcases h3 with ⟨h3, h4⟩ | ⟨b, o, sz, rfl, hb, ho, hr⟩
  · subst h3; cases h; exact .inl ⟨rfl, h4⟩
  · exact .inr ⟨b, o, sz, rfl, hb, ho, h.concRows hr⟩
theorem le_aggP {cs ds : List V} (h : LeP cs ds) : V.Le (.agg cs) (.agg ds) := le_agg h.leL
end Go.AX

set_option linter.unusedVariables false
set_option linter.unusedSimpArgs false
namespace Go.AX
open Go.ChangeShapes Go.WideShapes Go.ChangeAt Go.RowKit
/-- Nothing is owned. -/
abbrev ow0 : Nat → Prop := own []
theorem ow0_not (b : Nat) : ¬ ow0 b := by simp [own, blks]
/-- Cells that stand for abstract ones. -/
def Rdg (w : World) (cs : List Value) (vs : List V) : Prop := concL w ow0 vs cs ∧ ∀ y ∈ cs, y.oneCell' = true
section
variable {H : Type} {enc : TypeId × Value → H} {P : Program} {w : World} {t e : TypeId} {fuel : Nat} {cs : List Value} {d : DataW H} {ps : List MemPlace}
theorem rdg_one {x : Value} {v : V} (h : conc w ow0 v x) (h1 : x.oneCell' = true) : Rdg w [x] [v] := ⟨⟨x, [], rfl, h, rfl⟩, fun y hy => by rw [List.mem_singleton.1 hy]; exact h1⟩
theorem rdg_nil : Rdg w [] [] := ⟨rfl, by simp⟩
theorem rdg_append {cs cs' : List Value} {vs vs' : List V} (h : Rdg w cs vs) (h' : Rdg w cs' vs') : Rdg w (cs ++ cs') (vs ++ vs') := ⟨concL_append h.1 h'.1, fun y hy => by
  rcases List.mem_append.1 hy with hy | hy
  · exact h.2 y hy
  · exact h'.2 y hy⟩
theorem rdg_cons {x : Value} {cs : List Value} {v : V} {vs : List V} (h : Rdg w [x] [v]) (h' : Rdg w cs vs) : Rdg w (x :: cs) (v :: vs) := rdg_append h h'
theorem rdg_len {cs : List Value} {vs : List V} (h : Rdg w cs vs) : cs.length = vs.length := concL_length h.1
theorem rd_int {k : IntKind} (ht : P.underlying t = some (.int k)) (h : DataW.trod enc P w 0 (fun _ => true) true fuel t cs = some (d, ps)) : ∃ n, (Lit.int k n).wf = true ∧ d = .lit (.int k n) ∧ Rdg w cs [.raw (.int k n)] := by
  obtain ⟨n, rfl, hx, hw⟩ := DataW.trod_int ht h
  simp only [Prod.mk.injEq] at hx
  exact ⟨n, hw, hx.1, rdg_one rfl rfl⟩
theorem rd_bool (ht : P.underlying t = some .bool) (h : DataW.trod enc P w 0 (fun _ => true) true fuel t cs = some (d, ps)) : ∃ b, d = .lit (.bool b) ∧ Rdg w cs [.raw (.bool b)] := by
  obtain ⟨b, rfl, hx⟩ := DataW.trod_bool ht h
  simp only [Prod.mk.injEq] at hx
  exact ⟨b, hx.1, rdg_one rfl rfl⟩
theorem rd_string (ht : P.underlying t = some .string) (h : DataW.trod enc P w 0 (fun _ => true) true fuel t cs = some (d, ps)) : ∃ s : ByteArray, s.size ≤ maxLen ∧ d = .lit (.string s.data.toList) ∧ Rdg w cs [.raw (.string s)] := by
  obtain ⟨s, rfl, hx, hs⟩ := DataW.trod_string ht h
  simp only [Prod.mk.injEq] at hx
  exact ⟨s, hs, hx.1, rdg_one rfl rfl⟩
/-- A row of n cells. -/
theorem cells?_at {b o : Nat} {sp : Option Nat} : ∀ {n : Nat} {cs : List Value}, w.cells? 0 ⟨b, o, sp⟩ n = some cs → cs.length = n ∧ ∀ i v, cs[i]? = some v → w.cell? ((⟨b, o, sp⟩ : Addr).add i) = some v := by
  intro n cs h
  simp only [World.cells?, Nat.zero_le, if_true] at h
  have key : ∀ (l : List Nat) (cs : List Value), l.mapM (fun i => w.cell? ((⟨b, o, sp⟩ : Addr).add i)) = some cs → cs.length = l.length ∧ ∀ (i : Nat) (k : Nat) (v : Value), l[i]? = some k → cs[i]? = some v → w.cell? ((⟨b, o, sp⟩ : Addr).add k) = some v := by
    intro l
    induction l with
    | nil => intro cs h; simp at h; subst h; simp
    | cons a l ih =>
      intro cs h
      simp only [List.mapM_cons, Option.bind_eq_bind, Option.bind_eq_some_iff, Option.pure_def, Option.some.injEq] at h
      obtain ⟨x, h1, xs, h2, rfl⟩ := h
      obtain ⟨k1, k2⟩ := ih xs h2
      refine ⟨by simp [k1], fun i k v hi hv => ?_⟩
      cases i with
      | zero => simp at hi hv; subst hi hv; exact h1
      | succ i => exact k2 i k v (by simpa using hi) (by simpa using hv)
  obtain ⟨h1, h2⟩ := key _ _ h
  simp only [List.length_range] at h1
  refine ⟨h1, fun i v hv => h2 i i v ?_ hv⟩
  have : i < n := by rw [← h1]; exact (List.getElem?_eq_some_iff.1 hv).1
  simp [List.getElem?_range, this]
theorem concAt_of {b : Nat} : ∀ {vs : List V} {cs : List Value} {o : Nat}, Rdg w cs vs → (∀ i v, cs[i]? = some v → w.cell? ⟨b, o + i, none⟩ = some v) → concAt w ow0 b o vs
  | [], cs, o, h, _ => by simp [concAt]
  | v :: vs, cs, o, h, hc => by
    obtain ⟨h1, h2⟩ := h
    simp only [concL] at h1
    obtain ⟨x, xs, rfl, h3, h4⟩ := h1
    refine ⟨⟨x, by simpa using hc 0 x rfl, h2 x (List.mem_cons_self ..), h3⟩, concAt_of (cs := xs) ⟨h4, fun y hy => h2 y (List.mem_cons_of_mem _ hy)⟩ fun i v hv => ?_⟩
    have := hc (i + 1) v (by simpa using hv)
    rwa [show o + 1 + i = o + (i + 1) by omega]
theorem concRows_of_at {b sz : Nat} : ∀ {rows : List (List V)} {o : Nat}, (∀ (i : Nat) (r : List V), rows[i]? = some r → r.length = sz ∧ concAt w ow0 b (o + i * sz) r) → concRows w ow0 b sz o rows
  | [], o, _ => by simp [concRows]
  | r :: rs, o, h => by
    have h0 := h 0 r rfl
    refine ⟨h0.1, by simpa using h0.2, concRows_of_at fun i r' hr => ?_⟩
    have := h (i + 1) r' (by simpa using hr)
    refine ⟨this.1, ?_⟩
    rw [show o + sz + i * sz = o + (i + 1) * sz by rw [Nat.succ_mul]; omega]
    exact this.2
/-- A slice, opened: its elements are parts of the reading. -/
theorem rd_slice {Re : DataW H → List V → Prop} (ht : P.underlying t = some (.slice e)) (hc : 0 < P.cellsOf e) (h : DataW.trod enc P w 0 (fun _ => true) true fuel t cs = some (d, ps))
    (he : ∀ d', SizeOf.sizeOf d' < SizeOf.sizeOf d → ∀ fuel cs ps, DataW.trod enc P w 0 (fun _ => true) true fuel e cs = some (d', ps) → ∃ vs, Re d' vs ∧ Rdg w cs vs) :
    ∃ (rows : List (List V)) (ds spare : List (DataW H)), Rdg w cs [.ro rows] ∧ ds.length = rows.length ∧ (∀ (i : Nat) (d : DataW H) (r : List V), ds[i]? = some d → rows[i]? = some r → Re d r) ∧ (∀ r ∈ rows, r.length = P.cellsOf e) ∧ rows.length ≤ maxLen ∧ ((d = .nil ∧ rows = []) ∨ d = .slice ds spare) := by
  rcases Go.Deep.open_slice ht h with ⟨rfl, hx⟩ | ⟨a, len, cap, m, n, D, Pl, rfl, _, hl, hm, hmm, hx, hel⟩
  · simp only [Prod.mk.injEq] at hx
    exact ⟨[], [], [], rdg_one (le_nil_ro w ow0 _ rfl) rfl, rfl, by simp, by simp, by simp [maxLen], .inl ⟨hx.1, rfl⟩⟩
  · simp only [if_true] at hmm
    subst hmm
    simp only [Prod.mk.injEq] at hx
    obtain ⟨hd, _⟩ := hx
    have hrow : ∀ i, i < len → ∃ cs' r, w.cells? 0 (a.add (i * P.cellsOf e)) (P.cellsOf e) = some cs' ∧ Re (D i) r ∧ Rdg w cs' r := fun i hi => by
      obtain ⟨cs', h1, h2⟩ := hel i (by omega)
      have hs : SizeOf.sizeOf (D i) < SizeOf.sizeOf d := by
        rw [hd]
        have hmem : D i ∈ (List.range len).map D := List.mem_map.2 ⟨i, List.mem_range.2 hi, rfl⟩
        have := List.sizeOf_lt_of_mem hmem
        simp only [DataW.slice.sizeOf_spec]
        omega
      obtain ⟨r, h3, h4⟩ := he _ hs _ _ _ h2
      exact ⟨cs', r, h1, h3, h4⟩
    have hrow' : ∀ i, ∃ r, i < len → ∃ cs', w.cells? 0 (a.add (i * P.cellsOf e)) (P.cellsOf e) = some cs' ∧ Re (D i) r ∧ Rdg w cs' r := fun i => by
      by_cases hi : i < len
      · obtain ⟨cs', r, h⟩ := hrow i hi
        exact ⟨r, fun _ => ⟨cs', h⟩⟩
      · exact ⟨[], fun h => absurd h hi⟩
    have hch := Classical.axiomOfChoice hrow'
    obtain ⟨f, hf⟩ := hch
    have hget : ∀ i r, ((List.range len).map f)[i]? = some r → i < len ∧ r = f i := fun i r hr => by
      have hi : i < len := by simpa using (List.getElem?_eq_some_iff.1 hr).1
      refine ⟨hi, ?_⟩
      simp [List.getElem?_range, hi] at hr
      exact hr.symm
    refine ⟨(List.range len).map f, (List.range len).map D, (List.range (m - len)).map fun j => D (len + j), rdg_one ?_ rfl, by simp, ?_, ?_, by simp; omega, .inr hd⟩
    · simp only [conc]
      refine ⟨some a, m, by simp, by simpa using hl, hm, ?_⟩
      by_cases h0 : len = 0
      · subst h0
        exact .inl ⟨rfl, fun h => by cases h⟩
      · right
        obtain ⟨b, o, sp⟩ := a
        obtain ⟨cs0, h1, _, h2⟩ := hf 0 (by omega)
        have hz : (⟨b, o, sp⟩ : Addr).add (0 * P.cellsOf e) = ⟨b, o, sp⟩ := by simp [Addr.add]
        rw [hz] at h1
        obtain ⟨k1, k2⟩ := cells?_at h1
        obtain ⟨c0, hc0⟩ : ∃ c, cs0[0]? = some c := ⟨_, List.getElem?_eq_getElem (by omega)⟩
        have hcell := k2 0 c0 hc0
        simp only [Addr.add, if_true] at hcell
        have hsp : sp = none := by
          simp only [World.cell?] at hcell
          split at hcell
          · cases sp with
            | none => rfl
            | some q => simp at hcell
          · cases hcell
        subst hsp
        have hblk : b < w.heap.size := by
          simp only [World.cell?] at hcell
          split at hcell
          · rename_i hh; exact (Array.getElem?_eq_some_iff.1 hh).1
          · cases hcell
        refine ⟨b, o, P.cellsOf e, rfl, hblk, ow0_not b, concRows_of_at fun i r hr => ?_⟩
        obtain ⟨hi, rfl⟩ := hget i r hr
        obtain ⟨cs', h3, _, h4⟩ := hf i hi
        rw [Addr.add_lit] at h3
        obtain ⟨k3, k4⟩ := cells?_at h3
        refine ⟨(rdg_len h4).symm.trans k3, concAt_of h4 fun q v hv => ?_⟩
        have := k4 q v hv
        rwa [Addr.add_lit] at this
    · intro i d' r hd' hr
      obtain ⟨hi, rfl⟩ := hget i r hr
      obtain ⟨_, _, h3, _⟩ := hf i hi
      simp [List.getElem?_range, hi] at hd'
      exact hd' ▸ h3
    · intro r hr
      obtain ⟨i, hi, rfl⟩ := List.mem_map.1 hr
      obtain ⟨cs', h3, _, h4⟩ := hf i (List.mem_range.1 hi)
      obtain ⟨b, o, sp⟩ := a
      have : cs'.length = P.cellsOf e := by
        cases hq : (⟨b, o, sp⟩ : Addr).add (i * P.cellsOf e) with
        | mk b' o' sp' =>
          rw [hq] at h3
          exact (cells?_at h3).1
      exact (rdg_len h4).symm.trans this
/-- A struct, opened. -/
theorem rd_struct {fs : Array Field} (ht : P.underlying t = some (.struct fs)) (h : DataW.trod enc P w 0 (fun _ => true) true fuel t cs = some (d, ps)) :
    cs.length = P.cellsOf t ∧ ∃ n, ∃ xs : List (DataW H × List MemPlace), d = .agg (xs.map (·.1)) ∧ xs.length = fs.size ∧ ∀ (i : Nat) (f : Field), fs[i]? = some f → ∃ d' ps', (xs.map (·.1))[i]? = some d' ∧ DataW.trod enc P w 0 (fun _ => true) true n f.type ((cs.drop f.offset).take (P.cellsOf f.type)) = some (d', ps') := by
  obtain ⟨xs, n, _, hx, hl, hlen, hf⟩ := DataW.trod_struct ht h
  simp only [Prod.mk.injEq] at hx
  refine ⟨hl, n, xs, hx.1, hlen, fun i f hi => ?_⟩
  have hlt : i < fs.size := (Array.getElem?_eq_some_iff.1 hi).1
  have := hf i f hi
  refine ⟨(xs[i]'(by omega)).1, (xs[i]'(by omega)).2, by simp [List.getElem?_map, List.getElem?_eq_getElem (show i < xs.length by omega)], ?_⟩
  rw [this, List.getElem?_eq_getElem (show i < xs.length by omega)]
theorem mapM_cons_some {α β : Type} {g : α → Option β} {a : α} {l : List α} {ys : List β} (h : (a :: l).mapM g = some ys) : ∃ y ys', g a = some y ∧ l.mapM g = some ys' ∧ ys = y :: ys' := by
  simp only [List.mapM_cons, Option.bind_eq_bind, Option.bind_eq_some_iff, Option.pure_def, Option.some.injEq] at h
  obtain ⟨y, h1, ys', h2, rfl⟩ := h
  exact ⟨y, ys', h1, h2, rfl⟩
theorem mapM_nil_some {α β : Type} {g : α → Option β} {ys : List β} (h : [].mapM g = some ys) : ys = [] := by simpa using h.symm
end
/-! ### A call, from what its arguments are -/
theorem calls_of_fun {P : Program} {f : FuncId} {vs : List V} {v : V} (h : Fun P f vs v) {W : World} {xs : List Value} (hx : concL W ow0 vs xs) :
    Calls P f xs.toArray W fun e w' => ∃ x, e = .returned x ∧ conc w' ow0 v x ∧ Below W.heap.size W w' := by
  refine (h [] W xs ⟨by simp [blks], by simp⟩ hx).mono fun e w' ⟨ae, H', h1, _, _, h4, u, hae, hu, hH⟩ => ?_
  subst hae hu hH
  obtain ⟨x, rfl, hx⟩ := h1
  exact ⟨x, rfl, hx, ⟨h4.os, h4.tape, h4.output, h4.size, fun k hk => h4.block k hk (ow0_not k)⟩⟩
section
variable {H : Type} {enc : TypeId × Value → H} {P : Program}
theorem trodAll_below (hl : laidOutB P = true) {W W' : World} (hb : Below W.heap.size W W') {sp : Nat → Bool} : ∀ {ts : List TypeId} {vs : List Value} {ds : List (DataW H)} {p : List MemPlace}, ts.all (fun t => P.readableRec t && decide (t < P.types.size)) = true →
    DataW.TrodAll enc P W 0 (fun _ => true) true ts vs ds p → (∀ x ∈ p, x.block < W.heap.size) → (∀ x ∈ p, sp x.block = true) → DataW.TrodAll enc P W' 0 sp true ts vs ds p
  | [], vs, ds, p, _, h, _, _ => by
    obtain ⟨rfl, rfl, rfl⟩ := trodAll_nil h
    exact trodAll_mk0
  | t :: ts, vs, ds, p, hr, h, hlt, hsp => by
    obtain ⟨v, vs1, d, ds1, a, b, rfl, rfl, rfl, h1, h2⟩ := trodAll_cons h
    simp only [List.all_cons, Bool.and_eq_true, decide_eq_true_eq] at hr
    refine trodAll_cons_mk (WideElems.Trod_stays hl hr.1.1 hr.1.2 h1 (fun x hx => hb.same (hlt x (List.mem_append_left _ hx))) fun x hx => hsp x (List.mem_append_left _ hx)) ?_
    exact trodAll_below hl hb hr.2 h2 (fun x hx => hlt x (List.mem_append_right _ hx)) fun x hx => hsp x (List.mem_append_right _ hx)
/-- A law that returns true and turns nothing. -/
theorem post_true {f : Func} {s : ChangeSpec} {apart fresh handsOn again : Bool} {W W' : World} {args : Array Value} {ds gs : List (DataW H)} {before : List MemPlace} {tb : TypeId}
    (hl : laidOutB P = true) (hrd : f.params.toList.all (fun t => P.readableRec t && decide (t < P.types.size)) = true) (hvars : s.vars = []) (hrt : f.resultTypes = #[tb]) (hub : P.underlying tb = some .bool)
    (hW : DataW.Whole enc P f.params.toList s.vars apart W args.toList ds gs before) (hs : s.fn H (ds ++ gs) = { results := [.lit (.bool true)], args := ds, vars := [] }) (hb : Below W.heap.size W W') :
    s.post enc P f apart fresh handsOn again W args (.bool true) W' := by
  have hlt := hW.lt
  obtain ⟨p, q, hA, hV, hpq, hz, hn⟩ := id hW
  rw [hvars] at hV
  obtain ⟨rfl, rfl⟩ := trodVars_none hV
  rw [List.append_nil] at hpq
  subst hpq
  have hres : ∀ (b : Nat) (sp : Nat → Bool) (hd : Bool), DataW.TrodAll enc P W' b sp hd f.resultTypes.toList ((Value.bool true).resultList f.resultTypes.size) (s.fn H (ds ++ [])).results [] := fun b sp hd => by
    rw [hs, hrt]
    exact trodAll_cons_mk (shut_bool hub true) trodAll_mk0
  have hargs : ∀ sp : Nat → Bool, (∀ x ∈ before, sp x.block = true) → DataW.TrodAll enc P W' 0 sp true f.params.toList args.toList (s.fn H (ds ++ [])).args before := fun sp hsp => by
    rw [hs]
    exact trodAll_below hl hb hrd hA hlt hsp
  have hvr : ∀ sp : Nat → Bool, DataW.TrodVars enc P W' sp s.vars (s.fn H (ds ++ [])).vars [] := fun sp => by
    rw [hs, hvars]
    exact rfl
  have hold : ∀ p ∈ before, (fun b => decide (b < W.heap.size)) p.block = true := fun p hp => by simpa using hlt p hp
  refine ⟨ds, [], before, [], before, [], hW, hres _ _ _, hargs _ hold, hvr _, World.keptBut_mono (fun p hp => ⟨hp, Or.inr (Or.inl hp)⟩) (hb.frame _), fun _ => ?_⟩
  refine ⟨ok_one hrt rfl (okWide_bool_mk hub true), _, _, ([] ++ before) ++ [], ⟨[] ++ before, [], trodAll_append (hargs _ (fun _ _ => rfl)) (hres _ _ _), hvr _, rfl, ?_, ?_⟩, ?_⟩
  · intro b off hp
    have hp' : MemPlace.cell b off ∈ before := by simpa using hp
    rw [hb.frozen (p := ⟨b, off, none⟩) (hlt _ hp')]
    exact hz b off hp'
  · intro ha
    simpa using hn ha
  · intro p hp _
    simpa using hp
end
end Go.AX

set_option linter.unusedVariables false
set_option linter.unusedSimpArgs false
namespace Go.AX
open Go.ChangeShapes Go.WideShapes Go.ChangeAt Go.RowKit
section
variable {H : Type} {enc : TypeId × Value → H} {P : Program} {w : World} {t e : TypeId} {v : Value} {u : V} {r : Reach} {b : Nat}
theorem rdg_arg (h1 : v.oneCell' = true) (h : Rdg w v.cells.toList [u]) : conc w ow0 u v := by
  rw [one_cells h1] at h
  obtain ⟨x, xs, hx, h2, h3⟩ := h.1
  simp only [List.cons.injEq] at hx
  rw [hx.1]
  exact h2
theorem arg_slice (ht : P.underlying t = some (.slice e)) (hval : Value.okWide P w r b t v) (h : Rdg w v.cells.toList [u]) : conc w ow0 u v := by
  obtain ⟨a, l, c, rfl⟩ := okWide_slice ht hval
  exact rdg_arg rfl h
theorem arg_string (ht : P.underlying t = some .string) (hval : Value.okWide P w r b t v) (h : Rdg w v.cells.toList [u]) : conc w ow0 u v := by
  obtain ⟨a, rfl⟩ := okWide_string ht hval
  exact rdg_arg rfl h
theorem arg_int {k : IntKind} (ht : P.underlying t = some (.int k)) (hval : Value.okWide P w r b t v) (h : Rdg w v.cells.toList [u]) : conc w ow0 u v := by
  obtain ⟨a, rfl⟩ := okWide_int ht hval
  exact rdg_arg rfl h
theorem arg_bool (ht : P.underlying t = some .bool) (hval : Value.okWide P w r b t v) (h : Rdg w v.cells.toList [u]) : conc w ow0 u v := by
  obtain ⟨a, rfl⟩ := okWide_bool ht hval
  exact rdg_arg rfl h
theorem arg_struct {fs : Array Field} {us : List V} (ht : P.underlying t = some (.struct fs)) (hval : Value.okWide P w r b t v) (h : Rdg w v.cells.toList us) : conc w ow0 (.agg us) v := by
  obtain ⟨cs, rfl, _⟩ : ∃ cs, v = .agg cs ∧ cs.size = P.cellsOf t ∧ Row.okWide P w r b t cs := by
    simpa only [Value.okWide, ht] using hval
  exact ⟨cs.toList, by simp, h.1, h.2⟩
end
/-- The contract of a law, from what its arguments stand for. -/
theorem law_contract {P : Program} {f : FuncId} {fn : Func} {s : ChangeSpec} {tb : TypeId}
    (hl : laidOutB P = true) (hrd : fn.params.toList.all (fun t => P.readableRec t && decide (t < P.types.size)) = true) (hvars : s.vars = []) (hrt : fn.resultTypes = #[tb]) (hub : P.underlying tb = some .bool)
    {H : Type} {enc : TypeId × Value → H} {W : World} {args : Array Value} {ds gs : List (DataW H)} {before : List MemPlace}
    (hW : DataW.Whole enc P fn.params.toList s.vars false W args.toList ds gs before)
    (rd : ∀ p, DataW.TrodAll enc P W 0 (fun _ => true) true fn.params.toList args.toList ds p → gs = [] → s.fn H (ds ++ gs) = { results := [.lit (.bool true)], args := ds, vars := [] } ∧ ∃ vs, concL W ow0 vs args.toList ∧ Fun P f vs (.raw (.bool true))) :
    Calls P f args W fun e W' => ∃ v, e = .returned v ∧ s.post enc P fn false true false false W args v W' := by
  have hW' := hW
  obtain ⟨p, q, hA0, hV, rfl, hfz, hnd⟩ := hW
  rw [hvars] at hV
  obtain ⟨rfl, rfl⟩ := trodVars_none hV
  obtain ⟨hs, vs, hc, hf⟩ := rd p hA0 rfl
  have hcall := calls_of_fun hf (W := W) hc
  refine (show Calls P f args W _ from hcall).mono fun e W' ⟨x, he, hx, hb⟩ => ?_
  simp only [conc] at hx
  subst hx
  exact ⟨_, he, post_true hl hrd hvars hrt hub hW' hs hb⟩
end Go.AX


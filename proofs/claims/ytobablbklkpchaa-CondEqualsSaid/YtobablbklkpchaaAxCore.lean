/- AX 1: abstract values, what they stand for in a world, abstract heaps. -/
import Derived.WalkKit
import Derived.OrdersHeld
set_option linter.unusedVariables false
namespace Go.AX

/-- Abstract values: `ro` is a slice in memory that nobody writes any more, told by its rows of cells; `rop` a pointer into such memory; `own` a slice whose memory a chunk owns; `vp` a pointer into an element of such a slice. -/
inductive V where
  | raw (v : Value)
  | ro (rows : List (List V))
  | rop (cells : List V) (off : Nat)
  | agg (cells : List V)
  | tup (vs : List V)
  | fn (f : FuncId) (cap : List V)
  | ifc (t : TypeId) (v : V)
  | own (sv : Value)
  | vp (sv : Value) (sz i off : Nat)

mutual
def conc (w : World) (ow : Nat → Prop) : V → Value → Prop
  | .raw v, x => x = v
  | .ro rows, x => ∃ A c, x = .slice A rows.length c ∧ rows.length ≤ c ∧ c ≤ maxLen ∧
      ((rows = [] ∧ (A = none → c = 0)) ∨ ∃ b o sz, A = some ⟨b, o, none⟩ ∧ b < w.heap.size ∧ ¬ ow b ∧ concRows w ow b sz o rows)
  | .rop cs off, x => ∃ b o, x = .pointer (some ⟨b, o + off, none⟩) ∧ b < w.heap.size ∧ ¬ ow b ∧ concAt w ow b o cs
  | .agg cs, x => ∃ l : List Value, x = .agg l.toArray ∧ concL w ow cs l ∧ ∀ y ∈ l, y.oneCell' = true
  | .tup vs, x => ∃ l : List Value, x = .tuple l.toArray ∧ concL w ow vs l
  | .fn f cap, x => ∃ l : List Value, x = .func (.func f) #[] l.toArray ∧ concL w ow cap l
  | .ifc t v, x => ∃ y, x = .iface t y ∧ conc w ow v y
  | .own sv, x => x = sv ∧ sv.oneCell' = true
  | .vp sv sz i off, x => ∃ b n c, sv = .slice (some ⟨b, 0, none⟩) n c ∧ x = .pointer (some ⟨b, i * sz + off, none⟩)
def concL (w : World) (ow : Nat → Prop) : List V → List Value → Prop
  | [], l => l = []
  | v :: vs, l => ∃ x xs, l = x :: xs ∧ conc w ow v x ∧ concL w ow vs xs
def concAt (w : World) (ow : Nat → Prop) (b : Nat) : Nat → List V → Prop
  | _, [] => True
  | o, v :: vs => (∃ x, w.cell? ⟨b, o, none⟩ = some x ∧ x.oneCell' = true ∧ conc w ow v x) ∧ concAt w ow b (o + 1) vs
def concRows (w : World) (ow : Nat → Prop) (b sz : Nat) : Nat → List (List V) → Prop
  | _, [] => True
  | o, r :: rs => r.length = sz ∧ concAt w ow b o r ∧ concRows w ow b sz (o + sz) rs
end

/-- What has become of a world: the blocks that stood and were not owned are as they were. -/
structure Evo (ow : Nat → Prop) (w : World) (ow' : Nat → Prop) (w' : World) : Prop where
  os : w'.os = w.os
  tape : w'.tape = w.tape
  output : w'.output = w.output
  size : w.heap.size ≤ w'.heap.size
  block : ∀ b, b < w.heap.size → ¬ ow b → w'.heap[b]? = w.heap[b]?
  grow : ∀ b, ow' b → ow b ∨ w.heap.size ≤ b

theorem Evo.refl (ow : Nat → Prop) (w : World) : Evo ow w ow w := ⟨rfl, rfl, rfl, Nat.le_refl _, fun _ _ _ => rfl, fun _ h => .inl h⟩
theorem Evo.trans {o1 o2 o3 : Nat → Prop} {w1 w2 w3 : World} (h : Evo o1 w1 o2 w2) (k : Evo o2 w2 o3 w3) : Evo o1 w1 o3 w3 where
  os := k.os.trans h.os
  tape := k.tape.trans h.tape
  output := k.output.trans h.output
  size := Nat.le_trans h.size k.size
  block b hb ho := (k.block b (Nat.lt_of_lt_of_le hb h.size) (fun h2 => by
    rcases h.grow b h2 with h3 | h3
    · exact ho h3
    · omega)).trans (h.block b hb ho)
  grow b hb := by
    rcases k.grow b hb with h2 | h2
    · exact h.grow b h2
    · exact .inr (Nat.le_trans h.size h2)
/-- Fewer blocks are owned behind it. -/
theorem Evo.less {o1 o2 o3 : Nat → Prop} {w1 w2 : World} (h : Evo o1 w1 o2 w2) (k : ∀ b, o3 b → o2 b) : Evo o1 w1 o3 w2 :=
  { h with grow := fun b hb => h.grow b (k b hb) }
/-- A frame of blocks that are owned besides. -/
theorem Evo.frame {o1 o2 of : Nat → Prop} {w1 w2 : World} (h : Evo o1 w1 o2 w2) : Evo (fun b => o1 b ∨ of b) w1 (fun b => o2 b ∨ of b) w2 :=
  { h with
    block := fun b hb ho => h.block b hb (fun h1 => ho (.inl h1))
    grow := fun b hb => by
      rcases hb with hb | hb
      · rcases h.grow b hb with h2 | h2
        · exact .inl (.inl h2)
        · exact .inr h2
      · exact .inl (.inr hb) }
theorem Evo.draw (ow : Nat → Prop) (w : World) (n : Nat) : Evo ow w ow { w with drawn := n } := ⟨rfl, rfl, rfl, Nat.le_refl _, fun _ _ _ => rfl, fun _ h => .inl h⟩

/-- How the two sides of a reading hang together. -/
structure Keeps (ow : Nat → Prop) (w : World) (ow' : Nat → Prop) (w' : World) : Prop where
  size : w.heap.size ≤ w'.heap.size
  block : ∀ b, b < w.heap.size → ¬ ow b → w'.heap[b]? = w.heap[b]?
  less : ∀ b, b < w.heap.size → ow' b → ow b
theorem Evo.keeps {ow ow' : Nat → Prop} {w w' : World} (h : Evo ow w ow' w') : Keeps ow w ow' w' :=
  ⟨h.size, h.block, fun b hb ho => by
    rcases h.grow b ho with h2 | h2
    · exact h2
    · omega⟩

mutual
theorem conc_keep {ow ow' : Nat → Prop} {w w' : World} (k : Keeps ow w ow' w') : ∀ (v : V) (x : Value), conc w ow v x → conc w' ow' v x
  | .raw v, x, h => h
  | .ro rows, x, h => by
    simp only [conc] at h ⊢
    obtain ⟨A, c, rfl, h1, h2, h3⟩ := h
    refine ⟨A, c, rfl, h1, h2, ?_⟩
    rcases h3 with h3 | ⟨b, o, sz, rfl, hb, ho, hr⟩
    · exact .inl h3
    · exact .inr ⟨b, o, sz, rfl, Nat.lt_of_lt_of_le hb k.size, fun h4 => ho (k.less b hb h4), concRows_keep k b sz hb ho o rows hr⟩
  | .rop cs off, x, h => by
    simp only [conc] at h ⊢
    obtain ⟨b, o, rfl, hb, ho, hr⟩ := h
    exact ⟨b, o, rfl, Nat.lt_of_lt_of_le hb k.size, fun h4 => ho (k.less b hb h4), concAt_keep k b hb ho o cs hr⟩
  | .agg cs, x, h => by
    simp only [conc] at h ⊢
    obtain ⟨l, rfl, hl, h1⟩ := h
    exact ⟨l, rfl, concL_keep k cs l hl, h1⟩
  | .tup vs, x, h => by
    simp only [conc] at h ⊢
    obtain ⟨l, rfl, hl⟩ := h
    exact ⟨l, rfl, concL_keep k vs l hl⟩
  | .fn f cap, x, h => by
    simp only [conc] at h ⊢
    obtain ⟨l, rfl, hl⟩ := h
    exact ⟨l, rfl, concL_keep k cap l hl⟩
  | .ifc t v, x, h => by
    simp only [conc] at h ⊢
    obtain ⟨y, rfl, hy⟩ := h
    exact ⟨y, rfl, conc_keep k v y hy⟩
  | .own sv, x, h => h
  | .vp sv sz i off, x, h => h
theorem concL_keep {ow ow' : Nat → Prop} {w w' : World} (k : Keeps ow w ow' w') : ∀ (vs : List V) (l : List Value), concL w ow vs l → concL w' ow' vs l
  | [], l, h => h
  | v :: vs, l, h => by
    simp only [concL] at h ⊢
    obtain ⟨x, xs, rfl, h1, h2⟩ := h
    exact ⟨x, xs, rfl, conc_keep k v x h1, concL_keep k vs xs h2⟩
theorem concAt_keep {ow ow' : Nat → Prop} {w w' : World} (k : Keeps ow w ow' w') (b : Nat) (hb : b < w.heap.size) (ho : ¬ ow b) : ∀ (o : Nat) (vs : List V), concAt w ow b o vs → concAt w' ow' b o vs
  | _, [], h => h
  | o, v :: vs, h => by
    simp only [concAt] at h ⊢
    obtain ⟨⟨x, h1, h2, h3⟩, h4⟩ := h
    exact ⟨⟨x, (World.cell?_of_block (k.block b hb ho)).trans h1, h2, conc_keep k v x h3⟩, concAt_keep k b hb ho (o + 1) vs h4⟩
theorem concRows_keep {ow ow' : Nat → Prop} {w w' : World} (k : Keeps ow w ow' w') (b sz : Nat) (hb : b < w.heap.size) (ho : ¬ ow b) : ∀ (o : Nat) (rs : List (List V)), concRows w ow b sz o rs → concRows w' ow' b sz o rs
  | _, [], h => h
  | o, r :: rs, h => by
    simp only [concRows] at h ⊢
    obtain ⟨h1, h2, h3⟩ := h
    exact ⟨h1, concAt_keep k b hb ho o r h2, concRows_keep k b sz hb ho (o + sz) rs h3⟩
end
theorem conc_evo {ow ow' : Nat → Prop} {w w' : World} (k : Evo ow w ow' w') {v : V} {x : Value} (h : conc w ow v x) : conc w' ow' v x := conc_keep k.keeps v x h
theorem concL_evo {ow ow' : Nat → Prop} {w w' : World} (k : Evo ow w ow' w') {v : List V} {x : List Value} (h : concL w ow v x) : concL w' ow' v x := concL_keep k.keeps v x h
theorem concL_length {ow : Nat → Prop} {w : World} : ∀ {vs : List V} {l : List Value}, concL w ow vs l → l.length = vs.length
  | [], l, h => by simp only [concL] at h; simp [h]
  | v :: vs, l, h => by
    simp only [concL] at h
    obtain ⟨x, xs, rfl, _, h2⟩ := h
    simp [concL_length h2]
theorem concL_append {ow : Nat → Prop} {w : World} : ∀ {vs us : List V} {l m : List Value}, concL w ow vs l → concL w ow us m → concL w ow (vs ++ us) (l ++ m)
  | [], us, l, m, h, k => by simp only [concL] at h; subst h; exact k
  | v :: vs, us, l, m, h, k => by
    simp only [concL] at h
    obtain ⟨x, xs, rfl, h1, h2⟩ := h
    exact ⟨x, xs ++ m, rfl, h1, concL_append h2 k⟩
theorem concL_get {ow : Nat → Prop} {w : World} : ∀ {vs : List V} {l : List Value}, concL w ow vs l → ∀ (i : Nat) (v : V), vs[i]? = some v → ∃ x, l[i]? = some x ∧ conc w ow v x
  | [], l, h, i, v, hv => by simp at hv
  | u :: vs, l, h, i, v, hv => by
    simp only [concL] at h
    obtain ⟨x, xs, rfl, h1, h2⟩ := h
    cases i with
    | zero => simp at hv; subst hv; exact ⟨x, rfl, h1⟩
    | succ i => simpa using concL_get h2 i v (by simpa using hv)
theorem concL_set {ow : Nat → Prop} {w : World} : ∀ {vs : List V} {l : List Value}, concL w ow vs l → ∀ (i : Nat) (v : V) (x : Value), conc w ow v x → concL w ow (vs.set i v) (l.set i x)
  | [], l, h, i, v, x, hv => by simp only [concL] at h; subst h; simp [concL]
  | u :: vs, l, h, i, v, x, hv => by
    simp only [concL] at h
    obtain ⟨y, ys, rfl, h1, h2⟩ := h
    cases i with
    | zero => exact ⟨x, ys, rfl, hv, h2⟩
    | succ i => exact ⟨y, ys.set i x, rfl, h1, concL_set h2 i v x hv⟩
theorem concL_take {ow : Nat → Prop} {w : World} : ∀ {vs : List V} {l : List Value}, concL w ow vs l → ∀ n, concL w ow (vs.take n) (l.take n)
  | [], l, h, n => by simp only [concL] at h; subst h; simp [concL]
  | u :: vs, l, h, n => by
    simp only [concL] at h
    obtain ⟨y, ys, rfl, h1, h2⟩ := h
    cases n with
    | zero => simp [concL]
    | succ n => exact ⟨y, ys.take n, rfl, h1, concL_take h2 n⟩
theorem concL_drop {ow : Nat → Prop} {w : World} : ∀ {vs : List V} {l : List Value}, concL w ow vs l → ∀ n, concL w ow (vs.drop n) (l.drop n)
  | [], l, h, n => by simp only [concL] at h; subst h; simp [concL]
  | u :: vs, l, h, n => by
    simp only [concL] at h
    obtain ⟨y, ys, rfl, h1, h2⟩ := h
    cases n with
    | zero => exact ⟨y, ys, rfl, h1, h2⟩
    | succ n => simpa using concL_drop h2 n

/-! ### Chunks of memory that are owned -/
inductive Ch where
  | box (b : Nat) (T : TypeId) (cells : List V)
  | vec (sv : Value) (E : TypeId) (sz : Nat) (rows : List (List V))
  | obj (b : Nat) (o : Obj)
def Ch.blk : Ch → Option Nat
  | .box b _ _ => some b
  | .vec sv _ _ _ => sv.ownBlock
  | .obj b _ => some b
def blks (H : List Ch) : List Nat := H.filterMap Ch.blk
def own (H : List Ch) (b : Nat) : Prop := b ∈ blks H
def Ch.sat (w : World) (ow : Nat → Prop) : Ch → Prop
  | .box b T cells => ∃ l : List Value, w.heap[b]? = some (.cells l.toArray T (0, 0)) ∧ concL w ow cells l ∧ ∀ y ∈ l, y.oneCell' = true
  | .vec sv E sz rows => ∃ l : List Value, w.ownsRow 0 E sz sv rows.length l ∧ concL w ow rows.flatten l ∧ (∀ y ∈ l, y.oneCell' = true) ∧ ∀ r ∈ rows, r.length = sz
  | .obj b o => w.heap[b]? = some o
structure Hp (ow : Nat → Prop) (H : List Ch) (w : World) : Prop where
  nd : (blks H).Nodup
  sat : ∀ c ∈ H, c.sat w ow
theorem blks_append (H G : List Ch) : blks (H ++ G) = blks H ++ blks G := by simp [blks]
theorem own_append (H G : List Ch) (b : Nat) : own (H ++ G) b ↔ own H b ∨ own G b := by simp [own, blks_append]
theorem own_perm {H G : List Ch} (h : H.Perm G) (b : Nat) : own H b ↔ own G b := (h.filterMap Ch.blk).mem_iff
theorem own_funext {H G : List Ch} (h : H.Perm G) : own H = own G := funext fun b => propext (own_perm h b)
theorem Hp.perm {ow : Nat → Prop} {H G : List Ch} {w : World} (h : Hp ow H w) (p : H.Perm G) : Hp ow G w :=
  ⟨(p.filterMap Ch.blk).nodup_iff.1 h.nd, fun c hc => h.sat c (p.mem_iff.2 hc)⟩
theorem Hp.sub {ow : Nat → Prop} {H G : List Ch} {w : World} (h : Hp ow H w) (p : G.Sublist H) : Hp ow G w :=
  ⟨(p.filterMap Ch.blk).nodup h.nd, fun c hc => h.sat c (p.mem hc)⟩
theorem Ch.blk_lt {w : World} {ow : Nat → Prop} {c : Ch} (h : c.sat w ow) {b : Nat} (hb : c.blk = some b) : b < w.heap.size := by
  cases c with
  | box b' T cells =>
    simp only [Ch.blk, Option.some.injEq] at hb
    subst hb
    obtain ⟨l, hl, _⟩ := h
    exact (Array.getElem?_eq_some_iff.1 hl).1
  | vec sv E sz rows =>
    obtain ⟨l, hl, _⟩ := h
    exact (hl.lt b hb).2
  | obj b' o =>
    simp only [Ch.blk, Option.some.injEq] at hb
    subst hb
    exact (Array.getElem?_eq_some_iff.1 h).1
theorem own_lt {w : World} {ow : Nat → Prop} {H : List Ch} (h : Hp ow H w) {b : Nat} (hb : own H b) : b < w.heap.size := by
  obtain ⟨c, hc, hcb⟩ := List.mem_filterMap.1 hb
  exact Ch.blk_lt (h.sat c hc) hcb
theorem ownsRow_same {w w' : World} {base e size n : Nat} {v : Value} {xs : List Value} (h : w.ownsRow base e size v n xs) (hs : ∀ b, v.ownBlock = some b → w'.heap[b]? = w.heap[b]?) : w'.ownsRow base e size v n xs := by
  refine ⟨h.1, ?_⟩
  rcases h.2 with hn | ⟨g, cap, cur, rfl, hb, hgg, rest⟩
  · exact .inl hn
  · exact .inr ⟨g, cap, cur, rfl, hb, by rw [hs g rfl]; exact hgg, rest⟩
/-- A chunk whose block is as it was. -/
theorem Ch.sat_keep {w w' : World} {ow ow' : Nat → Prop} (k : Keeps ow w ow' w') {c : Ch} (h : c.sat w ow) (hs : ∀ b, c.blk = some b → w'.heap[b]? = w.heap[b]?) : c.sat w' ow' := by
  cases c with
  | box b T cells =>
    obtain ⟨l, h1, h2, h3⟩ := h
    exact ⟨l, (hs b rfl).trans h1, concL_keep k _ _ h2, h3⟩
  | vec sv E sz rows =>
    obtain ⟨l, h1, h2, h3, h4⟩ := h
    exact ⟨l, ownsRow_same h1 hs, concL_keep k _ _ h2, h3, h4⟩
  | obj b o => exact (hs b rfl).trans h
/-- What is owned besides, when something else has been done. -/
theorem Hp.frame {w w' : World} {o1 o2 ow' : Nat → Prop} {G : List Ch} (h : Hp o1 G w) (k : Keeps o1 w ow' w') (e : Evo o2 w ow' w' ∨ ∀ b, own G b → w'.heap[b]? = w.heap[b]?) (d : ∀ b, own G b → ¬ o2 b) : Hp ow' G w' := by
  refine ⟨h.nd, fun c hc => Ch.sat_keep k (h.sat c hc) fun b hb => ?_⟩
  have hob : own G b := List.mem_filterMap.2 ⟨c, hc, hb⟩
  rcases e with e | e
  · exact e.block b (own_lt h hob) (d b hob)
  · exact e b hob

/-! ### Slots -/
abbrev Sl := List (Nat × V)
def Sl.get : Sl → Nat → Option V
  | [], _ => none
  | (j, v) :: r, i => bif Nat.beq i j then some v else Sl.get r i
def Sl.put (s : Sl) (d : Option Nat) (v : V) : Sl :=
  match d with
  | some d => (d, v) :: s
  | none => s
/-- What an operand is. -/
def Sl.ev (s : Sl) : Operand → Option V
  | .tmp t => s.get t
  | .const v => some (.raw v)
  | .global g => some (.raw (.pointer (some ⟨g, 0, none⟩)))
  | .func f => some (.fn f [])
def Sl.evs (s : Sl) : List Operand → Option (List V)
  | [] => some []
  | x :: xs => match s.ev x, s.evs xs with
    | some v, some vs => some (v :: vs)
    | _, _ => none
def SlOk (N : Nat) (s : Sl) (ow : Nat → Prop) (tmps : Array Value) (w : World) : Prop :=
  tmps.size = N ∧ ∀ i v, s.get i = some v → ∃ x, tmps[i]? = some x ∧ conc w ow v x
theorem SlOk.keep {N : Nat} {s : Sl} {ow ow' : Nat → Prop} {t : Array Value} {w w' : World} (h : SlOk N s ow t w) (k : Keeps ow w ow' w') : SlOk N s ow' t w' :=
  ⟨h.1, fun i v hv => let ⟨x, h1, h2⟩ := h.2 i v hv; ⟨x, h1, conc_keep k v x h2⟩⟩
theorem SlOk.put {N : Nat} {s : Sl} {ow : Nat → Prop} {a : Act} {w : World} (h : SlOk N s ow a.tmps w) (d : Option Nat) (v : V) (x : Value) (hx : conc w ow v x) (hd : ∀ i, d = some i → i < N) : SlOk N (s.put d v) ow (a.put d x).tmps w := by
  cases d with
  | none => exact h
  | some d =>
    have hdN := hd d rfl
    refine ⟨by simp [Act.put, h.1], fun i u hu => ?_⟩
    simp only [Sl.put, Sl.get] at hu
    by_cases e : i = d
    · subst e
      simp at hu
      subst hu
      exact ⟨x, by simp [Act.put, h.1, hdN], hx⟩
    · have : Nat.beq i d = false := by
        cases hq : Nat.beq i d
        · rfl
        · exact absurd (Nat.eq_of_beq_eq_true hq) e
      rw [this] at hu
      obtain ⟨y, h1, h2⟩ := h.2 i u hu
      exact ⟨y, by simp [Act.put, Ne.symm e, h1], h2⟩
theorem SlOk.ev {N : Nat} {s : Sl} {ow : Nat → Prop} {a : Act} {w : World} (h : SlOk N s ow a.tmps w) {x : Operand} {v : V} (hv : s.ev x = some v) : conc w ow v (a.eval x) := by
  cases x with
  | tmp t =>
    obtain ⟨y, h1, h2⟩ := h.2 t v hv
    simpa [Act.eval, Array.getD_eq_getD_getElem?, h1] using h2
  | const c => simp only [Sl.ev, Option.some.injEq] at hv; subst hv; simp [conc, Act.eval]
  | global g => simp only [Sl.ev, Option.some.injEq] at hv; subst hv; simp [conc, Act.eval]
  | func f => simp only [Sl.ev, Option.some.injEq] at hv; subst hv; exact ⟨[], rfl, rfl⟩
theorem SlOk.evs {N : Nat} {s : Sl} {ow : Nat → Prop} {a : Act} {w : World} (h : SlOk N s ow a.tmps w) : ∀ {xs : List Operand} {vs : List V}, s.evs xs = some vs → concL w ow vs (xs.map a.eval)
  | [], vs, hv => by simp only [Sl.evs, Option.some.injEq] at hv; subst hv; rfl
  | x :: xs, vs, hv => by
    simp only [Sl.evs] at hv
    split at hv
    · rename_i v us h1 h2
      simp only [Option.some.injEq] at hv
      subst hv
      exact ⟨_, _, rfl, h.ev h1, h.evs h2⟩
    · cases hv
end Go.AX

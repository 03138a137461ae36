/- AX 20: maps whose keys are whole numbers, strings or Bools and whose values take one cell. -/
import Derived.Test.YtobablbklkpchaaAxOps
import Derived.MapKept
set_option linter.unusedVariables false
set_option linter.unusedSimpArgs false
namespace Go.AX
variable {P : Program} {N : Nat} {j : J P N} {Q : Exit → Sl → List Ch → Prop} {K : Sl → List Ch → Prop} {s so : Sl} {H : List Ch}
variable {d : Nat} {dst : Option Tmp} {ty : TypeId} {pos : String} {after : Array Edge} {g : Option (Nat × Bool)} {T T' : TypeId} {x y u : Operand} {D : TypeDesc} {sz bs : Nat} {z : Value}
def KeyOf (kk : SK) (v : Value) : Prop := match kk with
  | .int k => ∃ n, v = .int k n
  | .str => ∃ p, v = .string p
  | .bool => ∃ b, v = .bool b
/-- Equal keys. -/
def keyB : Value → Value → Bool
  | .int k a, .int k' b => decide (k = k') && decide (a = b)
  | .string a, .string b => decide (a = b)
  | .bool a, .bool b => a == b
  | _, _ => false
theorem keyB_iff {kk : SK} {a b : Value} (ha : KeyOf kk a) : keyB a b = true ↔ a = b := by
  cases kk with
  | int k => obtain ⟨m, rfl⟩ := ha; cases b <;> simp [keyB]
  | str => obtain ⟨m, rfl⟩ := ha; cases b <;> simp [keyB]
  | bool => obtain ⟨m, rfl⟩ := ha; cases b <;> simp [keyB]
theorem run_getM {w : World} {r : Nat} {o : Obj} (hb : w.heap[r]? = some o) (hk : ∀ c t f, o ≠ .cells c t f) : (getObj r).run P w = .ok o w := by
  cases o <;> first | exact absurd rfl (hk _ _ _) | simp [getObj, Sem.run, hb]
theorem run_setM {w : World} {r : Nat} {o : Obj} (o' : Obj) (hb : w.heap[r]? = some o) (hk : ∀ c t f, o ≠ .cells c t f) : (setObj r o').run P w = .ok () { w with heap := w.heap.setIfInBounds r o' } := by
  cases o <;> first | exact absurd rfl (hk _ _ _) | simp [setObj, Sem.run, hb]
theorem same_key {kk : SK} {a b : Value} (ha : KeyOf kk a) (hb : KeyOf kk b) : Instr.sameNow kk.desc a b = some (keyB a b) := by
  cases kk with
  | int k =>
    obtain ⟨m, rfl⟩ := ha
    obtain ⟨n, rfl⟩ := hb
    simp [SK.desc, Instr.sameNow, keyB]
    rw [Bool.eq_iff_iff]
    simp
  | str =>
    obtain ⟨m, rfl⟩ := ha
    obtain ⟨n, rfl⟩ := hb
    simp only [SK.desc, Instr.sameNow, Option.some.injEq, beq_toListBytes, ba_beq, keyB]
  | bool =>
    obtain ⟨m, rfl⟩ := ha
    obtain ⟨n, rfl⟩ := hb
    simp [SK.desc, Instr.sameNow, keyB]
/-- What a map gives for a key. -/
def entry (l : List MapEntry) (k : Value) : Option Value := (l.find? fun e => keyB k e.key).map (·.val)
def AllKeys (kk : SK) (l : List MapEntry) : Prop := ∀ e ∈ l, KeyOf kk e.key
theorem findNow_spec {kk : SK} {k : Value} (hk : KeyOf kk k) : ∀ {l : List MapEntry} (i : Nat), AllKeys kk l →
    ∃ r, Instr.findNow kk.desc k l i = some r ∧ ((r = none ∧ entry l k = none) ∨ ∃ q e, r = some (i + q, e.val) ∧ l[q]? = some e ∧ e.key = k ∧ entry l k = some e.val ∧ ∀ p e', p < q → l[p]? = some e' → e'.key ≠ k)
  | [], i, _ => ⟨none, rfl, .inl ⟨rfl, rfl⟩⟩
  | e :: l, i, h => by
    have he := h e (List.mem_cons_self ..)
    have hs := same_key hk he
    cases hke : keyB k e.key with
    | true =>
      have := (keyB_iff hk).1 hke
      exact ⟨some (i, e.val), by simp only [Instr.findNow, hs, hke], .inr ⟨0, e, rfl, rfl, this.symm, by simp [entry, hke], fun p e' hp => by omega⟩⟩
    | false =>
      have hne : k ≠ e.key := fun h => by rw [(keyB_iff hk).2 h] at hke; cases hke
      obtain ⟨r, h1, h2⟩ := findNow_spec hk (i + 1) (l := l) (fun e he => h e (List.mem_cons_of_mem _ he))
      refine ⟨r, by simp only [Instr.findNow, hs, hke, h1], ?_⟩
      rcases h2 with ⟨rfl, h2⟩ | ⟨q, e', rfl, h3, h4, h5, h6⟩
      · refine .inl ⟨rfl, ?_⟩
        simp only [entry, List.find?_cons, hke] at h2 ⊢
        exact h2
      · refine .inr ⟨q + 1, e', by rw [Nat.add_assoc, Nat.add_comm 1], by simpa using h3, h4, ?_, fun p e'' hp hpe => ?_⟩
        · simp only [entry, List.find?_cons, hke] at h5 ⊢
          exact h5
        · cases p with
          | zero => simp at hpe; subst hpe; exact fun h => hne h.symm
          | succ p => exact h6 p e'' (by omega) (by simpa using hpe)
theorem entry_set {kk : SK} {k v : Value} {k' : Value} (hk' : KeyOf kk k') : ∀ {l : List MapEntry} {q : Nat} {e : MapEntry}, l[q]? = some e → e.key = k → (∀ p e', p < q → l[p]? = some e' → e'.key ≠ k) → entry (l.set q { e with key := k, val := v }) k' = if keyB k' k then some v else entry l k'
  | [], q, e, h, _, _ => by simp at h
  | e0 :: l, 0, e, h, hk, _ => by
    simp at h
    subst h
    simp only [List.set_cons_zero, entry, List.find?_cons, hk]
    cases keyB k' k <;> simp
  | e0 :: l, q + 1, e, h, hk, hp => by
    have h0 : e0.key ≠ k := hp 0 e0 (by omega) rfl
    have ih := entry_set hk' (v := v) (l := l) (q := q) (by simpa using h) hk (fun p e' hpq hpe => hp (p + 1) e' (by omega) (by simpa using hpe))
    simp only [List.set_cons_succ, entry, List.find?_cons] at ih ⊢
    cases hq : keyB k' e0.key with
    | true =>
      have e1 := (keyB_iff hk').1 hq
      have : keyB k' k = false := by
        cases h2 : keyB k' k
        · rfl
        · exact absurd (e1.symm.trans ((keyB_iff hk').1 h2)) h0
      simp [this]
    | false => exact ih
theorem entry_push {kk : SK} {k v : Value} {b : Nat} {k' : Value} (hk : KeyOf kk k) (hk' : KeyOf kk k') : ∀ {l : List MapEntry}, entry l k = none → entry (l ++ [⟨k, v, b⟩]) k' = if keyB k' k then some v else entry l k'
  | [], _ => by
    simp only [List.nil_append, entry, List.find?_cons, List.find?_nil]
    cases keyB k' k <;> simp
  | e0 :: l, h => by
    simp only [entry, List.find?_cons] at h
    cases h0 : keyB k e0.key with
    | true => simp [h0] at h
    | false =>
      simp only [h0] at h
      have ih := entry_push hk hk' (v := v) (b := b) (l := l) h
      simp only [List.cons_append, entry, List.find?_cons] at ih ⊢
      cases hq : keyB k' e0.key with
      | true =>
        have e1 := (keyB_iff hk').1 hq
        have : keyB k' k = false := by
          cases h2 : keyB k' k
          · rfl
          · have e2 := (keyB_iff hk').1 h2
            rw [← e2, hq] at h0
            cases h0
        simp [this]
      | false => exact ih
/-- A map, told by what it gives. -/
structure MapOf (kk : SK) (es : Array MapEntry) (f : Value → Option Value) : Prop where
  keys : AllKeys kk es.toList
  gets : ∀ k, KeyOf kk k → entry es.toList k = f k
  one : ∀ k v, f k = some v → v.oneCell' = true
def mput (f : Value → Option Value) (k v : Value) : Value → Option Value := fun k' => if keyB k' k then some v else f k'
theorem mapOf_empty {kk : SK} : MapOf kk #[] fun _ => none := ⟨fun e h => by simp at h, fun k _ => rfl, fun k v h => by cases h⟩
theorem run_checkKey {kk : SK} {t : TypeId} (ht : P.underlying t = some kk.desc) {k : Value} (hk : KeyOf kk k) (e : Bool) (n : Nat) (w : World) : (Instr.checkKey e (n + 1) t k).run P w = .ok () w := by
  unfold Instr.checkKey
  cases kk with
  | int q => obtain ⟨m, rfl⟩ := hk; simp [run_underlying ht, SK.desc]
  | str => obtain ⟨m, rfl⟩ := hk; simp [run_underlying ht, SK.desc]
  | bool => obtain ⟨m, rfl⟩ := hk; simp [run_underlying ht, SK.desc]
theorem same_bits {kk : SK} {k : Value} (hk : KeyOf kk k) : Instr.sameBits 10000 k k = true := by
  cases kk with
  | int q => obtain ⟨n, rfl⟩ := hk; simp [Instr.sameBits]
  | str => obtain ⟨n, rfl⟩ := hk; simp only [Instr.sameBits, beq_toListBytes]; simp
  | bool => obtain ⟨n, rfl⟩ := hk; simp [Instr.sameBits]
theorem run_keyStays {kk : SK} {k : Value} (hk : KeyOf kk k) (w : World) : (Instr.keyThatStays k k).run P w = .ok k w := by
  simp [Instr.keyThatStays, same_bits hk]
class KeyT (P : Program) (t : TypeId) (kk : outParam SK) : Prop where
  u : P.underlying t = some kk.desc
/-- A lookup. -/
theorem pv_lookup {kt et : TypeId} {kk : SK} {b : Nat} {es : Array MapEntry} {clock : Nat} {f : Value → Option Value} {k : Value} {DE : TypeDesc} {zM : Value} {sM bM : Nat} [t : Ty P T (.map kt et) sM bM zM] [tk : KeyT P kt kk] [te : Ty P et DE sz bs z]
    (hx : s.ev x = some (.raw (.map (some b)))) (hy : s.ev y = some (.raw k)) (hk : KeyOf kk k) (hm : Ch.obj b (.map es clock) ∈ H ++ j.F) (hM : MapOf kk es f) :
    ValV j s H ⟨dst, .lookup T x y false, ty, pos, after, g⟩ (.raw ((f k).getD z)) := fun a w st => by
  have h1 := st.sl.ev hx
  have h2 := st.sl.ev hy
  simp only [conc] at h1 h2
  have hb : w.heap[b]? = some (.map es clock) := st.hp.sat _ hm
  obtain ⟨r, k1, k2⟩ := findNow_spec hk (l := es.toList) 0 hM.keys
  have hf := hM.gets k hk
  have hfind : (Instr.findKey kt k es.toList).run P w = .ok r w := by simp [Instr.findKey, run_underlying tk.u, k1]
  refine ⟨(f k).getD z, ?_, rfl⟩
  simp only [execOp, h1, h2, Instr.lookup, Sem.run_bind, run_underlying t.u, Result.andThen_ok, run_getM hb (by intros; simp), Sem.run_pure, run_checkKey tk.u hk _ 9999, hfind]
  rcases k2 with ⟨rfl, k3⟩ | ⟨q, e, rfl, _, _, k3, _⟩
  · rw [← hf, k3]
    simp [te.zeroValue]
  · rw [← hf, k3]
    simp
theorem pv_lookup_ok {kt et : TypeId} {kk : SK} {b : Nat} {es : Array MapEntry} {clock : Nat} {f : Value → Option Value} {k : Value} {DE : TypeDesc} {zM : Value} {sM bM : Nat} [t : Ty P T (.map kt et) sM bM zM] [tk : KeyT P kt kk] [te : Ty P et DE sz bs z]
    (hx : s.ev x = some (.raw (.map (some b)))) (hy : s.ev y = some (.raw k)) (hk : KeyOf kk k) (hm : Ch.obj b (.map es clock) ∈ H ++ j.F) (hM : MapOf kk es f) :
    ValV j s H ⟨dst, .lookup T x y true, ty, pos, after, g⟩ (.tup [.raw ((f k).getD z), .raw (.bool (f k).isSome)]) := fun a w st => by
  have h1 := st.sl.ev hx
  have h2 := st.sl.ev hy
  simp only [conc] at h1 h2
  have hb : w.heap[b]? = some (.map es clock) := st.hp.sat _ hm
  obtain ⟨r, k1, k2⟩ := findNow_spec hk (l := es.toList) 0 hM.keys
  have hf := hM.gets k hk
  have hfind : (Instr.findKey kt k es.toList).run P w = .ok r w := by simp [Instr.findKey, run_underlying tk.u, k1]
  refine ⟨.tuple #[(f k).getD z, .bool (f k).isSome], ?_, ⟨[_, _], rfl, _, _, rfl, rfl, _, _, rfl, rfl, rfl⟩⟩
  simp only [execOp, h1, h2, Instr.lookup, Sem.run_bind, run_underlying t.u, Result.andThen_ok, run_getM hb (by intros; simp), Sem.run_pure, run_checkKey tk.u hk _ 9999, hfind]
  rcases k2 with ⟨rfl, k3⟩ | ⟨q, e, rfl, _, _, k3, _⟩
  · rw [← hf, k3]
    simp [te.zeroValue]
  · rw [← hf, k3]
    simp
theorem evo_setObj {w : World} {b : Nat} {o o' : Obj} : Evo (own [Ch.obj b o]) w (own [Ch.obj b o]) { w with heap := w.heap.setIfInBounds b o' } :=
  ⟨rfl, rfl, rfl, by simp, fun k _ hk => by
    have : b ≠ k := fun h => hk (by simp [own, blks, Ch.blk, h])
    simp [Array.getElem?_setIfInBounds, this], fun k hk => .inl hk⟩
theorem st_setObj {a : Act} {w : World} {b : Nat} {o o' : Obj} {H' : List Ch} (st : St j s H a w) (hu : Upd (.obj b o) (.obj b o') H H') : St j s H' a { w with heap := w.heap.setIfInBounds b o' } := by
  have hb : w.heap[b]? = some o := st.hp.sat _ (List.mem_append_left _ hu.mem)
  have hlt := (Array.getElem?_eq_some_iff.1 hb).1
  exact (St.upd st hu rfl evo_setObj (by show _ = _; simp [Array.getElem?_setIfInBounds, hlt])).1
/-- What an update leaves in the map. -/
theorem run_update {kk : SK} {kt et : TypeId} {b : Nat} {es : Array MapEntry} {clock : Nat} {f : Value → Option Value} {k v : Value} {zM : Value} {sM bM : Nat} (t : Ty P T (.map kt et) sM bM zM) (tk : KeyT P kt kk) (hk : KeyOf kk k) (hv : v.oneCell' = true) {w : World}
    (hb : w.heap[b]? = some (.map es clock)) (hM : MapOf kk es f) : ∃ es' clock', (Instr.mapUpdate T (.map (some b)) k v).run P w = .ok () { w with heap := w.heap.setIfInBounds b (.map es' clock') } ∧ MapOf kk es' (mput f k v) := by
  obtain ⟨r, k1, k2⟩ := findNow_spec hk (l := es.toList) 0 hM.keys
  have hfind : (Instr.findKey kt k es.toList).run P w = .ok r w := by simp [Instr.findKey, run_underlying tk.u, k1]
  have one : ∀ k' u, mput f k v k' = some u → u.oneCell' = true := fun k' u h => by
    simp only [mput] at h
    split at h
    · cases h; exact hv
    · exact hM.one k' u h
  rcases k2 with ⟨rfl, k3⟩ | ⟨q, e, rfl, h3, h4, h5, h6⟩
  · refine ⟨es.push ⟨k, v, clock⟩, clock + 1, ?_, ⟨fun e he => ?_, fun k' hk' => ?_, one⟩⟩
    · simp [Instr.mapUpdate, run_underlying t.u, run_getM hb (by intros; simp), run_checkKey tk.u hk _ 9999, hfind, run_setM _ hb (by intros; simp)]
    · simp only [Array.toList_push, List.mem_append, List.mem_singleton] at he
      rcases he with he | rfl
      · exact hM.keys e he
      · exact hk
    · rw [Array.toList_push, entry_push hk hk' k3]
      simp only [mput, hM.gets k' hk']
  · have hq : es[q]? = some e := by simpa using h3
    have hlt := (Array.getElem?_eq_some_iff.1 hq).1
    have hm : (es.modify q fun e => { e with key := k, val := v }).toList = es.toList.set q { e with key := k, val := v } := by
      apply List.ext_getElem?
      intro i
      rw [Array.getElem?_toList, Array.getElem?_modify, List.getElem?_set]
      by_cases hi : q = i
      · subst hi
        simp [hlt, (Array.getElem?_eq_some_iff.1 hq).2]
      · simp [hi]
    refine ⟨es.modify q fun e => { e with key := k, val := v }, clock, ?_, ⟨fun e' he => ?_, fun k' hk' => ?_, one⟩⟩
    · simp [Instr.mapUpdate, run_underlying t.u, run_getM hb (by intros; simp), run_checkKey tk.u hk _ 9999, hfind, run_setM _ hb (by intros; simp), hq, h4, run_keyStays hk]
    · rw [hm] at he
      rcases List.mem_or_eq_of_mem_set he with he | rfl
      · exact hM.keys e' he
      · exact hk
    · rw [hm, entry_set hk' h3 h4 h6]
      simp only [mput, hM.gets k' hk']
theorem op_mapUpdate {kt et : TypeId} {kk : SK} {b : Nat} {es : Array MapEntry} {clock : Nat} {f : Value → Option Value} {k v : Value} {zM : Value} {sM bM : Nat} [t : Ty P T (.map kt et) sM bM zM] [tk : KeyT P kt kk]
    (hx : s.ev x = some (.raw (.map (some b)))) (hy : s.ev y = some (.raw k)) (hu : s.ev u = some (.raw v)) (hk : KeyOf kk k) (hv : v.oneCell' = true) (hM : MapOf kk es f) (H' : Array MapEntry → Nat → List Ch) (hup : ∀ es' c', Upd (.obj b (.map es clock)) (.obj b (.map es' c')) H (H' es' c'))
    (h : ∀ es' c', MapOf kk es' (mput f k v) → K s (H' es' c')) : OP j ⟨none, .mapUpdate T x y u, ty, pos, after, none⟩ K Q s H :=
  op_skip rfl fun a w st => by
    have h1 := st.sl.ev hx
    have h2 := st.sl.ev hy
    have h3 := st.sl.ev hu
    simp only [conc] at h1 h2 h3
    have hb : w.heap[b]? = some (.map es clock) := st.hp.sat _ (List.mem_append_left _ (hup es clock).mem)
    obtain ⟨es', c', hr, hM'⟩ := run_update (P := P) t tk hk hv hb hM
    exact ⟨_, _, by simp [execOp, h1, h2, h3, hr], st_setObj st (hup es' c'), h es' c' hM'⟩
theorem op_insert {kt et : TypeId} {kk : SK} {b : Nat} {es : Array MapEntry} {clock : Nat} {f : Value → Option Value} {k v : Value} {zM : Value} {sM bM : Nat} [t : Ty P T (.map kt et) sM bM zM] [tk : KeyT P kt kk]
    (hx : s.ev x = some (.raw (.map (some b)))) (hy : s.ev y = some (.raw k)) (hu : s.ev u = some (.raw v)) (hk : KeyOf kk k) (hv : v.oneCell' = true) (hM : MapOf kk es f) (H' : Array MapEntry → Nat → List Ch) (hup : ∀ es' c', Upd (.obj b (.map es clock)) (.obj b (.map es' c')) H (H' es' c'))
    (h : ∀ es' c', MapOf kk es' (mput f k v) → K s (H' es' c')) : OP j ⟨none, .insert T x y u, ty, pos, after, none⟩ K Q s H :=
  op_skip rfl fun a w st => by
    have h1 := st.sl.ev hx
    have h2 := st.sl.ev hy
    have h3 := st.sl.ev hu
    simp only [conc] at h1 h2 h3
    have hb : w.heap[b]? = some (.map es clock) := st.hp.sat _ (List.mem_append_left _ (hup es clock).mem)
    obtain ⟨es', c', hr, hM'⟩ := run_update (P := P) t tk hk hv hb hM
    exact ⟨_, _, by simp [execOp, h1, h2, h3, hr], st_setObj st (hup es' c'), h es' c' hM'⟩
theorem op_makeMap (hN : Nat.blt d N = true) (h : ∀ b, K ((d, .raw (.map (some b))) :: s) (.obj b (.map #[] 0) :: H)) : OP j ⟨some d, .makeMap T none, ty, pos, after, none⟩ K Q s H :=
  op_eff rfl hN fun a w st => by
    have e : Evo (own []) w (own [Ch.obj w.heap.size (.map #[] 0)]) (w.alloc (.map #[] 0)) :=
      ⟨rfl, rfl, rfl, by simp, fun b hb _ => heap_alloc_old w _ hb, fun b hb => .inr (by simp [own, blks, Ch.blk] at hb; omega)⟩
    refine ⟨.map (some w.heap.size), w.alloc (.map #[] 0), .raw (.map (some w.heap.size)), _, by simp [execOp, Instr.makeMap], ?_, rfl, h w.heap.size⟩
    refine (St.eff (Hf := []) (Hf' := [.obj w.heap.size (.map #[] 0)]) (Hr := H) st (.refl _) e (by simp [blks, Ch.blk]) (fun c hc => ?_)).1
    rw [List.mem_singleton.1 hc]
    exact heap_alloc_new w _
/-- '[n]T{..}' -/
theorem pv_build_arr {parts : Array (Nat × Operand)} {ps : List (Nat × V)} {zc : List Value} {cs : List V} {e n szT bsT : Nat} {DE : TypeDesc} [t : Ty P T (.array n e) szT bsT (.agg zc.toArray)] [te : Ty P e DE sz bs z] (hp : s.parts parts.toList = some ps) (hf : fillV (fun i => some (i * sz, sz)) zc.length (zc.map .raw) ps = some cs) (h1 : zc.all Value.oneCell' = true) :
    PureV j s H ⟨dst, .build T parts, ty, pos, after, g⟩ (.agg cs) := fun a w st => by
  obtain ⟨r, e1, e2, e3, _⟩ := fill_of hf (st.sl.parts hp) (concL_raw zc) (fun y hy => List.all_eq_true.1 h1 y hy) (by simp)
  refine ⟨.agg r.toArray, fun w' => ?_, ?_⟩
  · have e1' : Instr.fill (fun i => some (i * sz, sz)) zc.toArray (parts.map fun (i, x) => (i, a.eval x)).toList = some r.toArray := by simpa using e1
    simp only [execOp, Instr.build, Sem.run_bind, t.zeroValue, Result.andThen_ok, run_underlying t.u, te.sizeOf, Value.cells]
    simp only [e1', Sem.run_pure, Result.andThen_ok]
  · simp only [conc]
    exact ⟨r, rfl, e2, e3⟩
end Go.AX

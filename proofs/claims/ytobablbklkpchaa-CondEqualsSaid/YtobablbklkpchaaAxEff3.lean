/- AX 8: structs and slices that are built; appends; stores into slices; new slices. -/
import Derived.Test.YtobablbklkpchaaAxEff2
set_option linter.unusedVariables false
set_option linter.unusedSimpArgs false
namespace Go.AX
variable {P : Program} {N : Nat} {j : J P N} {Q : Exit → Sl → List Ch → Prop} {s : Sl} {H : List Ch} {ops : Array Oper} {rest : List Oper} {K : Sl → List Ch → Prop}
variable {d : Nat} {dst : Option Tmp} {ty : TypeId} {pos : String} {after : Array Edge} {g : Option (Nat × Bool)} {T : TypeId} {x y : Operand} {D : TypeDesc} {sz bs : Nat} {z : Value}

/-! ### Structs -/
def V.okc (v : V) : Bool := v.one || (match v with | .agg _ => true | _ => false)
theorem V.okc_or {v : V} (h : v.okc = true) : v.one = true ∨ ∃ cs, v = .agg cs := by
  cases v <;> simp [V.okc, V.one] at h ⊢ <;> exact h
def fillV (pl : Nat → Option (Nat × Nat)) (L : Nat) : List V → List (Nat × V) → Option (List V)
  | cs, [] => some cs
  | cs, (i, v) :: r => match pl i with
    | none => none
    | some (o, n) => bif v.okc && (Nat.beq v.cells.length n && Nat.ble (o + n) L) then fillV pl L (setAll cs o v.cells) r else none
/-- Parts as values. -/
def Parts (w : World) (ow : Nat → Prop) : List (Nat × V) → List (Nat × Value) → Prop
  | [], l => l = []
  | (i, v) :: r, l => ∃ x xs, l = (i, x) :: xs ∧ conc w ow v x ∧ Parts w ow r xs
theorem foldl_setAll (o : Nat) : ∀ (m : List Value) (k : Nat) (cs : Array Value), (m.zipIdx k).foldl (fun cs (p : Value × Nat) => cs.setIfInBounds (o + p.2) p.1) cs = (setAll cs.toList (o + k) m).toArray
  | [], k, cs => by simp [setAll]
  | v :: m, k, cs => by
    rw [List.zipIdx_cons, List.foldl_cons, foldl_setAll o m (k + 1)]
    simp [setAll, Nat.add_assoc]
theorem fill_of {w : World} {ow : Nat → Prop} {pl : Nat → Option (Nat × Nat)} {L : Nat} : ∀ {ps : List (Nat × V)} {qs : List (Nat × Value)} {cs out : List V} {l : List Value}, fillV pl L cs ps = some out → Parts w ow ps qs → concL w ow cs l → (∀ y ∈ l, y.oneCell' = true) → cs.length = L →
    ∃ r : List Value, Instr.fill pl l.toArray qs = some r.toArray ∧ concL w ow out r ∧ (∀ y ∈ r, y.oneCell' = true) ∧ out.length = L
  | [], qs, cs, out, l, h, hp, hl, h1, hL => by
    simp only [Parts] at hp
    subst hp
    simp only [fillV, Option.some.injEq] at h
    subst h
    exact ⟨l, rfl, hl, h1, hL⟩
  | (i, v) :: ps, qs, cs, out, l, h, hp, hl, h1, hL => by
    simp only [Parts] at hp
    obtain ⟨x, xs, rfl, hx, hps⟩ := hp
    simp only [fillV] at h
    split at h
    · cases h
    · rename_i o n hpl
      cases hb : (v.okc && (Nat.beq v.cells.length n && Nat.ble (o + n) L))
      · rw [hb] at h; cases h
      · rw [hb] at h
        simp only [cond_true] at h
        simp only [Bool.and_eq_true] at hb
        obtain ⟨hok, hn, hle⟩ := hb
        have hn := Nat.eq_of_beq_eq_true hn
        have hle := Nat.le_of_ble_eq_true hle
        obtain ⟨k1, k2⟩ := conc_cells hx (V.okc_or hok)
        have hxs : x.cells.size = n := by rw [← Array.length_toList, concL_length k1, hn]
        have hll : l.length = L := (concL_length hl).trans hL
        have := fill_of h hps (concL_setAll o hl k1) (one_setAll o h1 k2) ((setAll_length ..).trans hL)
        obtain ⟨r, e1, e2⟩ := this
        refine ⟨r, ?_, e2⟩
        rw [← e1]
        simp only [Instr.fill, hpl]
        rw [if_neg (by simp [hxs, hll]; omega)]
        congr 1
        rw [← Array.foldl_toList, Array.toList_zipIdx]
        have := foldl_setAll o x.cells.toList 0 l.toArray
        simpa using this
class BuildT (P : Program) (T : TypeId) (pl : outParam (List (Nat × Nat))) (zc : outParam (List Value)) : Prop where
  h : ∀ w (parts : Array (Nat × Value)) (cells : Array Value), Instr.fill (fun i => pl[i]?) zc.toArray parts.toList = some cells → (Instr.build T parts).run P w = .ok (.agg cells) w
  one : ∀ y ∈ zc, y.oneCell' = true
theorem BuildT.of {T : TypeId} {fs : Array Field} {pl : List (Nat × Nat)} {zc : List Value} (hu : P.underlying T = some (.struct fs)) (hz : ∀ w, (zeroValue T).run P w = .ok (.agg zc.toArray) w)
    (hp : ∀ w, (fs.mapM fun f => do pure (f.offset, ← sizeOf f.type) : Sem (Array (Nat × Nat))).run P w = .ok pl.toArray w) (h1 : zc.all Value.oneCell' = true) : BuildT P T pl zc :=
  ⟨fun w parts cells h => by
    have e : (fun (i : Nat) => pl.toArray[i]?) = (fun (i : Nat) => pl[i]?) := by funext i; simp
    simp only [Instr.build, Sem.run_bind, hz, Result.andThen_ok, run_underlying hu, hp, Value.cells]
    have h' : Instr.fill (fun (i : Nat) => pl.toArray[i]?) zc.toArray parts.toList = some cells := by rw [e]; exact h
    simp [h], fun y hy => List.all_eq_true.1 h1 y hy⟩
def Sl.parts (s : Sl) : List (Nat × Operand) → Option (List (Nat × V))
  | [] => some []
  | (i, x) :: r => match s.ev x, s.parts r with
    | some v, some vs => some ((i, v) :: vs)
    | _, _ => none
theorem SlOk.parts {ow : Nat → Prop} {a : Act} {w : World} (h : SlOk N s ow a.tmps w) : ∀ {ps : List (Nat × Operand)} {vs : List (Nat × V)}, s.parts ps = some vs → Parts w ow vs (ps.map fun (i, x) => (i, a.eval x))
  | [], vs, hv => by simp only [Sl.parts, Option.some.injEq] at hv; subst hv; rfl
  | (i, x) :: ps, vs, hv => by
    simp only [Sl.parts] at hv
    split at hv
    · rename_i v us h1 h2
      simp only [Option.some.injEq] at hv
      subst hv
      exact ⟨_, _, rfl, h.ev h1, h.parts h2⟩
    · cases hv
theorem concL_raw {w : World} {ow : Nat → Prop} : ∀ (l : List Value), concL w ow (l.map .raw) l
  | [] => rfl
  | y :: l => ⟨y, l, rfl, rfl, concL_raw l⟩
theorem pv_build {parts : Array (Nat × Operand)} {ps : List (Nat × V)} {pl : List (Nat × Nat)} {zc : List Value} {cs : List V} [bt : BuildT P T pl zc] (hp : s.parts parts.toList = some ps) (hf : fillV (fun i => pl[i]?) zc.length (zc.map .raw) ps = some cs) :
    PureV j s H ⟨dst, .build T parts, ty, pos, after, g⟩ (.agg cs) := fun a w st => by
  obtain ⟨r, e1, e2, e3, _⟩ := fill_of hf (st.sl.parts hp) (concL_raw zc) bt.one (by simp)
  refine ⟨.agg r.toArray, fun w' => ?_, ?_⟩
  · have := bt.h w' (parts.map fun (i, x) => (i, a.eval x)) r.toArray (by simpa using e1)
    simp only [execOp, Sem.run_bind]
    simp [this]
  · simp only [conc]
    exact ⟨r, rfl, e2, e3⟩
/-- A field of a struct that is no variable. -/
class FieldOf (P : Program) (T i : Nat) (off : outParam Nat) (ag : outParam Bool) (sz : outParam Nat) : Prop where
  h : ∀ cs w, (ag = true → (Instr.field T (.agg cs) i).run P w = .ok (.agg (cs.extract off (off + sz))) w) ∧ (ag = false → ∀ v, cs[off]? = some v → (Instr.field T (.agg cs) i).run P w = .ok v w)
theorem FieldOf.of {T i : Nat} {fs : Array Field} {f : Field} {D : TypeDesc} {sz by_ : Nat} {z : Value} (hu : P.underlying T = some (.struct fs)) (hf : fs[i]? = some f) (t : Ty P f.type D sz by_ z) : FieldOf P T i f.offset (aggOf D) sz :=
  ⟨fun cs w => ⟨fun h => by simp [Instr.field, run_underlying hu, hf, asAgg, part, t.isAgg, h, t.sizeOf], fun h v hv => by simp [Instr.field, run_underlying hu, hf, asAgg, part, t.isAgg, h, hv]⟩⟩
theorem pv_field {i off sz : Nat} {cs : List V} {v : V} [hf : FieldOf P T i off false sz] (hx : s.ev x = some (.agg cs)) (hv : cs[off]? = some v) : PureV j s H ⟨dst, .field T x i, ty, pos, after, g⟩ v := fun a w st => by
  have h1 := st.sl.ev hx
  simp only [conc] at h1
  obtain ⟨l, h1, hl, _⟩ := h1
  obtain ⟨u, hu, hc⟩ := concL_get hl off v hv
  exact ⟨u, fun w' => by simp [execOp, h1, (hf.h l.toArray w').2 rfl u (by simpa using hu)], hc⟩
theorem pv_field_agg {i off sz : Nat} {cs ds : List V} [hf : FieldOf P T i off true sz] (hx : s.ev x = some (.agg cs)) (hv : (cs.drop off).take sz = ds) : PureV j s H ⟨dst, .field T x i, ty, pos, after, g⟩ (.agg ds) := fun a w st => by
  have h1 := st.sl.ev hx
  simp only [conc] at h1
  obtain ⟨l, h1, hl, h2⟩ := h1
  refine ⟨.agg ((l.drop off).take sz).toArray, fun w' => ?_, ?_⟩
  · have := (hf.h l.toArray w').1 rfl
    simp [execOp, h1, this]
  · simp only [conc]
    exact ⟨_, rfl, hv ▸ concL_take (concL_drop hl off) sz, fun y hy => h2 y (List.mem_of_mem_drop (List.mem_of_mem_take hy))⟩

/-! ### Slices that are built -/
theorem flat_len {sz : Nat} : ∀ {rows : List (List V)}, (∀ r ∈ rows, r.length = sz) → rows.flatten.length = rows.length * sz
  | [], _ => by simp
  | r :: rows, h => by
    rw [List.flatten_cons, List.length_append, h r (List.mem_cons_self ..), flat_len fun q hq => h q (List.mem_cons_of_mem _ hq), List.length_cons, Nat.succ_mul, Nat.add_comm]
/-- Filling all elements one behind the other. -/
theorem fill_seq {w : World} {ow : Nat → Prop} {sz : Nat} : ∀ {vs : List V} {xs : List Value} {cs : List Value} (k : Nat) (dn : List Value), concL w ow vs xs → (∀ v ∈ vs, v.okc = true ∧ v.cells.length = sz) → dn.length = k * sz → cs.length = vs.length * sz → (∀ y ∈ dn, y.oneCell' = true) →
    ∃ r : List Value, Instr.fill (fun i => some (i * sz, sz)) (dn ++ cs).toArray ((List.range' k vs.length).zip xs) = some (dn ++ r).toArray ∧ concL w ow (vs.map V.cells).flatten r ∧ (∀ y ∈ r, y.oneCell' = true)
  | [], xs, cs, k, dn, h, _, hd, hc, h1 => by
    have : cs = [] := List.eq_nil_of_length_eq_zero (by simpa using hc)
    subst this
    exact ⟨[], by simp [Instr.fill], rfl, by simp⟩
  | v :: vs, xs, cs, k, dn, h, hv, hd, hc, h1 => by
    simp only [concL] at h
    obtain ⟨x, xs, rfl, hx, hxs⟩ := h
    obtain ⟨hok, hn⟩ := hv v (List.mem_cons_self ..)
    obtain ⟨k1, k2⟩ := conc_cells hx (V.okc_or hok)
    have hxl : x.cells.toList.length = sz := (concL_length k1).trans hn
    have hcl : sz ≤ cs.length := by rw [hc, List.length_cons, Nat.succ_mul]; omega
    have hset : setAll (dn ++ cs) (k * sz) x.cells.toList = (dn ++ x.cells.toList) ++ cs.drop sz := by
      rw [setAll_eq _ _ _ (by simp only [List.length_append, hxl, hd]; omega), ← hd, hxl]
      simp
    obtain ⟨r, e1, e2, e3⟩ := fill_seq (vs := vs) (xs := xs) (cs := cs.drop sz) (k + 1) (dn ++ x.cells.toList) hxs (fun u hu => hv u (List.mem_cons_of_mem _ hu))
      (by simp only [List.length_append, hxl, hd, Nat.succ_mul]) (by simp only [List.length_drop, hc, List.length_cons, Nat.succ_mul]; omega)
      (fun y hy => by rcases List.mem_append.1 hy with hy | hy; exact h1 y hy; exact k2 y hy)
    refine ⟨x.cells.toList ++ r, ?_, concL_append k1 e2, fun y hy => by rcases List.mem_append.1 hy with hy | hy; exact k2 y hy; exact e3 y hy⟩
    rw [List.length_cons, List.range'_succ, List.zip_cons_cons]
    simp only [Instr.fill]
    have hxs2 : x.cells.size = sz := by rw [← Array.length_toList, hxl]
    rw [if_neg (by simp only [hxs2, List.size_toArray, List.length_append, hd]; simp; omega)]
    have hf : x.cells.zipIdx.foldl (fun cs (p : Value × Nat) => cs.setIfInBounds (k * sz + p.2) p.1) (dn ++ cs).toArray = (setAll (dn ++ cs) (k * sz) x.cells.toList).toArray := by
      rw [← Array.foldl_toList, Array.toList_zipIdx]
      have := foldl_setAll (k * sz) x.cells.toList 0 (dn ++ cs).toArray
      simpa using this
    rw [← List.append_assoc, ← e1, ← hset, ← hf]
def isSeq : Nat → List (Nat × Operand) → Bool
  | _, [] => true
  | k, (i, _) :: r => Nat.beq i k && isSeq (k + 1) r
theorem isSeq_zip {a : Operand → Value} : ∀ {k : Nat} {ps : List (Nat × Operand)}, isSeq k ps = true → ps.map (fun (i, x) => (i, a x)) = (List.range' k ps.length).zip ((ps.map (·.2)).map a)
  | k, [], h => rfl
  | k, (i, x) :: r, h => by
    simp only [isSeq, Bool.and_eq_true] at h
    obtain rfl := Nat.eq_of_beq_eq_true h.1
    rw [List.map_cons, isSeq_zip h.2, List.length_cons, List.range'_succ, List.map_cons, List.map_cons, List.zip_cons_cons]
def okcs (sz : Nat) : List V → Bool
  | [] => true
  | v :: vs => v.okc && (Nat.beq v.cells.length sz && okcs sz vs)
theorem okcs_mem {sz : Nat} : ∀ {vs : List V}, okcs sz vs = true → ∀ v ∈ vs, v.okc = true ∧ v.cells.length = sz
  | v :: vs, h, u, hu => by
    simp only [okcs, Bool.and_eq_true] at h
    rcases List.mem_cons.1 hu with rfl | hu
    · exact ⟨h.1, Nat.eq_of_beq_eq_true h.2.1⟩
    · exact okcs_mem h.2.2 u hu
theorem evs_length : ∀ {xs : List Operand} {vs : List V}, s.evs xs = some vs → vs.length = xs.length
  | [], vs, h => by simp only [Sl.evs, Option.some.injEq] at h; subst h; rfl
  | x :: xs, vs, h => by
    simp only [Sl.evs] at h
    split at h
    · rename_i v us h1 h2
      simp only [Option.some.injEq] at h
      subst h
      simp [evs_length h2]
    · cases h
/-- '[]T{..}': a new slice of one's own. -/
theorem op_buildSlice {e n : Nat} {DE : TypeDesc} {zs : Value} {szT bsT : Nat} {parts : Array (Nat × Operand)} {vs : List V} [t : Ty P T (.slice e) szT bsT zs] [te : Ty P e DE sz bs z]
    (hq : isSeq 0 parts.toList = true) (hn : parts.toList.length = n) (hv : s.evs (parts.toList.map (·.2)) = some vs) (hok : okcs sz vs = true) (hsz : Nat.blt 0 sz = true) (hsm : Nat.ble (n * sz) 16777216 = true) (hz : z.cells.size = sz) (hN : Nat.blt d N = true)
    (h : ∀ sv, K ((d, .own sv) :: s) (.vec sv e sz (vs.map V.cells) :: H)) : OP j ⟨some d, .buildSlice T n parts, ty, pos, after, none⟩ K Q s H :=
  op_eff rfl hN fun a w st => by
    have hxs := st.sl.evs hv
    have hmem := okcs_mem hok
    have hvl : vs.length = n := by rw [evs_length hv, List.length_map, hn]
    obtain ⟨r, e1, e2, e3⟩ := fill_seq (cs := (List.range (n * sz)).map fun i => z.cells[i % z.cells.size]!) 0 [] hxs hmem (by simp) (by simp [hvl]) (by simp)
    have hrl : r.length = n * sz := by rw [concL_length e2, flat_len (sz := sz) (fun q hq => by obtain ⟨v, hv, rfl⟩ := List.mem_map.1 hq; exact (hmem v hv).2), List.length_map, hvl]
    have hle := Nat.le_of_ble_eq_true hsm
    have hrows : ∀ q ∈ vs.map V.cells, q.length = sz := fun q hq => by obtain ⟨v, hv, rfl⟩ := List.mem_map.1 hq; exact (hmem v hv).2
    have st1 : St j s (.vec (.slice (some ⟨w.heap.size, 0, none⟩) n n) e sz (vs.map V.cells) :: H) a (w.alloc (.cells r.toArray e)) := by
      have ev : Evo (own []) w (own [Ch.vec (.slice (some ⟨w.heap.size, 0, none⟩) n n) e sz (vs.map V.cells)]) (w.alloc (.cells r.toArray e)) :=
        ⟨rfl, rfl, rfl, by simp, fun b hb _ => heap_alloc_old w _ hb, fun b hb => .inr (by simp [own, blks, Ch.blk, Value.ownBlock] at hb; omega)⟩
      have kk : Keeps (own (H ++ j.F)) w (own (Ch.vec (.slice (some ⟨w.heap.size, 0, none⟩) n n) e sz (vs.map V.cells) :: H ++ j.F)) (w.alloc (.cells r.toArray e)) :=
        ⟨by simp, fun b hb _ => heap_alloc_old w _ hb, fun b hb ho => by
          have : b ∈ blks (Ch.vec (.slice (some ⟨w.heap.size, 0, none⟩) n n) e sz (vs.map V.cells) :: (H ++ j.F)) := ho
          simp only [blks, Ch.blk, Value.ownBlock, List.filterMap_cons, List.mem_cons] at this
          rcases this with h | h
          · omega
          · exact h⟩
      refine (St.eff (Hf := []) (Hf' := [.vec (.slice (some ⟨w.heap.size, 0, none⟩) n n) e sz (vs.map V.cells)]) (Hr := H) st (.refl _) ev (by simp [blks, Ch.blk, Value.ownBlock]) (fun c hc => ?_)).1
      simp only [List.mem_singleton] at hc
      subst hc
      refine ⟨r, ⟨by rw [hrl, List.length_map, hvl], .inr ⟨w.heap.size, n, r.toArray, by rw [List.length_map, hvl], Nat.zero_le _, heap_alloc_new w _, by rw [List.length_map, hvl]; exact Nat.le_refl _, ?_, by simpa using hrl, ?_⟩⟩, concL_keep kk _ _ e2, e3, hrows⟩
      · have h0 : 0 < sz := Nat.le_of_ble_eq_true hsz
        have : n ≤ n * sz := Nat.le_mul_of_pos_right _ h0
        simp only [maxLen]
        omega
      · simp only [List.length_map, hvl]
        rw [← hrl]; simp
    refine ⟨.slice (some ⟨w.heap.size, 0, none⟩) n n, _, .own (.slice (some ⟨w.heap.size, 0, none⟩) n n), _, ?_, st1, by simp [conc, Value.oneCell'], h _⟩
    have hparts : (parts.map fun (i, x) => (i, a.eval x)).toList = (List.range' 0 vs.length).zip ((parts.toList.map (·.2)).map a.eval) := by
      rw [Array.toList_map, hvl, ← hn]
      exact isSeq_zip hq
    have hzero : ((Array.range (n * sz)).map fun i => z.cells[i % z.cells.size]!) = ((List.range (n * sz)).map fun i => z.cells[i % z.cells.size]!).toArray := by
      apply Array.toList_inj.1
      rw [Array.toList_map, Array.toList_range]
    have hfill : Instr.fill (fun i => some (i * sz, sz)) ((Array.range (n * sz)).map fun i => z.cells[i % z.cells.size]!) (parts.map fun x => (x.fst, a.eval x.snd)).toList = some r.toArray := by
      rw [hzero, hparts]
      simpa using e1
    have hng : ¬ n * sz > 2 ^ 24 := by omega
    simp only [execOp, Sem.run_bind, Instr.buildSlice, run_underlying t.u, Result.andThen_ok, te.sizeOf, if_neg hng]
    by_cases hzn : n * sz = 0
    · have h0 : ((Array.range (n * sz)).map fun i => (#[] : Array Value)[i % (#[] : Array Value).size]!) = ((Array.range (n * sz)).map fun i => z.cells[i % z.cells.size]!) := by rw [hzn]; simp
      rw [if_pos hzn]
      simp only [Sem.run_bind, Sem.run_pure, Result.andThen_ok]
      rw [h0, hfill]
      simp [newRow]
    · rw [if_neg hzn]
      simp only [Sem.run_bind, te.zeroValue, Sem.run_pure, Result.andThen_ok]
      rw [hfill]
      simp [newRow]
end Go.AX

/- AX 22: arrays in slices; arrays that are equal; results that say less. -/
import Derived.Test.YtobablbklkpchaaAxMap2
import Derived.ChangeKeysEq
set_option linter.unusedVariables false
set_option linter.unusedSimpArgs false
namespace Go.AX
variable {P : Program} {N : Nat} {j : J P N} {Q : Exit → Sl → List Ch → Prop} {K : Sl → List Ch → Prop} {s so : Sl} {H H' : List Ch}
variable {dst : Option Tmp} {ty : TypeId} {pos : String} {after : Array Edge} {g : Option (Nat × Bool)} {T T' : TypeId} {x y : Operand} {D : TypeDesc} {sz bs : Nat} {z : Value}
theorem res_le {r : ResultVar} {v v' : V} (h : ResV j s H r v) (hle : V.Le v v') : ResV j s H r v' := fun a w st => let ⟨x, h1, h2⟩ := h a w st; ⟨x, h1, hle _ _ _ h2⟩
theorem pv_indexAddr_arr_vp {e n sz bs szT bsT k q o : Nat} {sv : Value} {DE : TypeDesc} {z zT : Value} {kd : IntKind} {i : Int} [t : Ty P T (.array n e) szT bsT zT] [te : Ty P e DE sz bs z]
    (hx : s.ev x = some (.vp sv k q o)) (hy : s.ev y = some (.raw (.int kd i))) (h0 : 0 ≤ i ∧ i < (n : Int)) : PureV j s H ⟨dst, .indexAddr T x y, ty, pos, after, g⟩ (.vp sv k q (o + i.toNat * sz)) := fun a w st => by
  have h1 := st.sl.ev hx
  have h2 := st.sl.ev hy
  simp only [conc] at h1 h2
  obtain ⟨b, n', c, h0', h1⟩ := h1
  refine ⟨.pointer (some ⟨b, q * k + o + i.toNat * sz, none⟩), fun w' => by simp [execOp, h1, h2, Instr.indexAt, run_underlying t.u, asIntOf, h0, te.sizeOf, Addr.add_lit, Instr.sureAddr], ?_⟩
  simp only [conc]
  exact ⟨b, n', c, h0', by rw [Nat.add_assoc]⟩
theorem pv_indexAddr_arr_ro {e n sz bs szT bsT o : Nat} {cs : List V} {DE : TypeDesc} {z zT : Value} {kd : IntKind} {i : Int} [t : Ty P T (.array n e) szT bsT zT] [te : Ty P e DE sz bs z]
    (hx : s.ev x = some (.rop cs o)) (hy : s.ev y = some (.raw (.int kd i))) (h0 : 0 ≤ i ∧ i < (n : Int)) : PureV j s H ⟨dst, .indexAddr T x y, ty, pos, after, g⟩ (.rop cs (o + i.toNat * sz)) := fun a w st => by
  have h1 := st.sl.ev hx
  have h2 := st.sl.ev hy
  simp only [conc] at h1 h2
  obtain ⟨b, q, h1, h3, h4, h5⟩ := h1
  refine ⟨.pointer (some ⟨b, q + o + i.toNat * sz, none⟩), fun w' => by simp [execOp, h1, h2, Instr.indexAt, run_underlying t.u, asIntOf, h0, te.sizeOf, Addr.add_lit, Instr.sureAddr], ?_⟩
  simp only [conc]
  exact ⟨b, q, by rw [Nat.add_assoc], h3, h4, h5⟩
/-- Arrays of plain values. -/
class ArrEq (P : Program) (T : TypeId) (n : outParam Nat) (k : outParam SK) : Prop where
  guard : P.eqGuardType P.depth T = false
  fs : ∃ e i, P.underlying T = some (.array n e) ∧ P.info? e = some i ∧ P.cellsOf e = 1 ∧ P.underlying e = some k.desc
theorem run_eqI {d : Nat} {cs ds : List V} {w0 : World} {ow : Nat → Prop} {xs ys : List Value} {e : TypeId} {k : SK} (hu : P.underlying e = some k.desc) (hx : concL w0 ow cs xs) (hy : concL w0 ow ds ys) (w : World) : ∀ {is : List Nat} {b : Bool}, eqR cs ds (is.map fun i => (i, k)) = some b → (Op.eqItems (d + 1) e 1 xs.toArray ys.toArray is).run P w = .ok b w
  | [], b, h => by simp only [List.map_nil, eqR, Option.some.injEq] at h; subst h; simp [Op.eqItems]
  | i :: is, b, h => by
    simp only [List.map_cons, eqR] at h
    split at h
    · rename_i a a' e1 e2
      split at h
      · rename_i p q e3 e4
        simp only [Option.some.injEq] at h
        subst h
        obtain ⟨u, hu1, hu2⟩ := concL_get hx _ _ e1
        obtain ⟨u', hu1', hu2'⟩ := concL_get hy _ _ e2
        simp only [conc] at hu2 hu2'
        subst hu2 hu2'
        have ih := run_eqI (d := d) hu hx hy w e4
        rw [Op.eqItems]
        simp only [Sem.run_bind, run_part_sc hu (show xs.toArray[i * 1]? = some _ by simpa using hu1) w, run_part_sc hu (show ys.toArray[i * 1]? = some _ by simpa using hu1') w, run_eqSc hu e3 w, Result.andThen_ok]
        cases p
        · simp
        · simpa using ih
      · cases h
    · cases h
theorem pv_eql_arr {n : Nat} {k : SK} {cs ds : List V} {b : Bool} [t : ArrEq P T n k] (hx : s.ev x = some (.agg cs)) (hy : s.ev y = some (.agg ds)) (h : eqR cs ds ((List.range n).map fun i => (i, k)) = some b) : PureV j s H ⟨dst, .binOp .eql T x y T', ty, pos, after, g⟩ (.raw (.bool b)) := fun a w st => by
  have h1 := st.sl.ev hx
  have h2 := st.sl.ev hy
  simp only [conc] at h1 h2
  obtain ⟨xs, h1, hL1, _⟩ := h1
  obtain ⟨ys, h2, hL2, _⟩ := h2
  obtain ⟨e, i, hu, hi, hc, hk⟩ := t.fs
  refine ⟨.bool b, fun w' => ?_, rfl⟩
  have e2 := run_eqI (d := 9998) hk hL1 hL2 w' h
  simp [execOp, h1, h2, run_eqGuard_agg w' _ _ _ _ _ _ t.guard, run_eql_struct, run_equalIn_array w' 9999 _ _ hu hi, hc, e2]
theorem pv_neq_arr {n : Nat} {k : SK} {cs ds : List V} {b : Bool} [t : ArrEq P T n k] (hx : s.ev x = some (.agg cs)) (hy : s.ev y = some (.agg ds)) (h : eqR cs ds ((List.range n).map fun i => (i, k)) = some b) : PureV j s H ⟨dst, .binOp .neq T x y T', ty, pos, after, g⟩ (.raw (.bool (!b))) := fun a w st => by
  have h1 := st.sl.ev hx
  have h2 := st.sl.ev hy
  simp only [conc] at h1 h2
  obtain ⟨xs, h1, hL1, _⟩ := h1
  obtain ⟨ys, h2, hL2, _⟩ := h2
  obtain ⟨e, i, hu, hi, hc, hk⟩ := t.fs
  refine ⟨.bool (!b), fun w' => ?_, rfl⟩
  have e2 := run_eqI (d := 9998) hk hL1 hL2 w' h
  simp [execOp, h1, h2, run_eqGuard_agg w' _ _ _ _ _ _ t.guard, run_neq_struct, run_equalIn_array w' 9999 _ _ hu hi, hc, e2]
theorem mput_int {f : Value → Option Value} {k : IntKind} {m n : Int} {v : Value} : mput f (.int k m) v (.int k n) = if n = m then some v else f (.int k n) := by
  simp only [mput, keyB]
  by_cases e : n = m <;> simp [e]
theorem mput_str {f : Value → Option Value} {p q : ByteArray} {v : Value} : mput f (.string p) v (.string q) = if q = p then some v else f (.string q) := by
  simp only [mput, keyB]
  by_cases e : q = p <;> simp [e]
section
variable {kt et : TypeId} {kk : SK} {b clock : Nat} {es : Array MapEntry} {f : Value → Option Value} {k r : Value} {DE : TypeDesc} {zM : Value} {sM bM : Nat}
/-- A lookup whose answer is known. -/
theorem pv_lookup_is [t : Ty P T (.map kt et) sM bM zM] [tk : KeyT P kt kk] [te : Ty P et DE sz bs z]
    (hx : s.ev x = some (.raw (.map (some b)))) (hy : s.ev y = some (.raw k)) (hk : KeyOf kk k) (hm : Ch.obj b (.map es clock) ∈ H ++ j.F) (hM : MapOf kk es f) (hf : (f k).getD z = r) :
    ValV j s H ⟨dst, .lookup T x y false, ty, pos, after, g⟩ (.raw r) := hf ▸ pv_lookup hx hy hk hm hM
theorem pv_lookup_ok_is {q : Option Value} [t : Ty P T (.map kt et) sM bM zM] [tk : KeyT P kt kk] [te : Ty P et DE sz bs z]
    (hx : s.ev x = some (.raw (.map (some b)))) (hy : s.ev y = some (.raw k)) (hk : KeyOf kk k) (hm : Ch.obj b (.map es clock) ∈ H ++ j.F) (hM : MapOf kk es f) (hf : f k = q) :
    ValV j s H ⟨dst, .lookup T x y true, ty, pos, after, g⟩ (.tup [.raw (q.getD z), .raw (.bool q.isSome)]) := hf ▸ pv_lookup_ok hx hy hk hm hM
end
end Go.AX

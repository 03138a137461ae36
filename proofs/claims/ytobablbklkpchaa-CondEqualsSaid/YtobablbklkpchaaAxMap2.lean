/- AX 21: a map made empty. -/
import Derived.Test.YtobablbklkpchaaAxMap
set_option linter.unusedVariables false
set_option linter.unusedSimpArgs false
namespace Go.AX
variable {P : Program} {N : Nat} {j : J P N} {Q : Exit → Sl → List Ch → Prop} {K : Sl → List Ch → Prop} {s so : Sl} {H H' : List Ch}
variable {ty : TypeId} {pos : String} {after : Array Edge} {T : TypeId} {x : Operand}
theorem op_clear {kt et : TypeId} {b : Nat} {es : Array MapEntry} {clock : Nat} {zM : Value} {sM bM : Nat} [t : Ty P T (.map kt et) sM bM zM]
    (hx : s.ev x = some (.raw (.map (some b)))) (hu : Upd (.obj b (.map es clock)) (.obj b (.map #[] clock)) H H') (h : K s H') : OP j ⟨none, .call { callee := .builtin .clear, args := #[x], argTypes := #[T] }, ty, pos, after, none⟩ K Q s H := fun a w st K' hK => by
  have h1 := st.sl.ev hx
  simp only [conc] at h1
  have hb : w.heap[b]? = some (.map es clock) := st.hp.sat _ (List.mem_append_left _ hu.mem)
  have hrun : (execOp a.eval ⟨none, .call { callee := .builtin .clear, args := #[x], argTypes := #[T] }, ty, pos, after, none⟩).run P w = .ok (.value (.tuple #[])) { w with heap := w.heap.setIfInBounds b (.map #[] clock) } := by
    simp [execOp, resolve, invoke, builtin, h1, Builtin.clear_, run_underlying t.u, run_getM hb (by intros; simp), run_setM _ hb (by intros; simp)]
  simp only [Oper.wp, hrun, Oper.upon, Act.put]
  exact hK _ _ ⟨s, H', st_setObj st hu, h⟩
theorem upd_set {c c' : Ch} : ∀ {i : Nat} {l : List Ch}, l[i]? = some c → Upd c c' l (l.set i c')
  | _, [], h => by simp at h
  | 0, d :: l, h => by simp at h; subst h; exact .here
  | i + 1, d :: l, h => .there (upd_set (by simpa using h))
section
variable {y u : Operand} {kt et : TypeId} {kk : SK} {b i clock : Nat} {es : Array MapEntry} {f : Value → Option Value} {k v : Value} {zM : Value} {sM bM : Nat}
theorem op_mapUpdate_at (i : Nat) [t : Ty P T (.map kt et) sM bM zM] [tk : KeyT P kt kk]
    (hx : s.ev x = some (.raw (.map (some b)))) (hy : s.ev y = some (.raw k)) (hu : s.ev u = some (.raw v)) (hi : H[i]? = some (.obj b (.map es clock))) (hM : MapOf kk es f) (hk : KeyOf kk k) (hv : v.oneCell' = true)
    (h : ∀ es' c', MapOf kk es' (mput f k v) → K s (H.set i (.obj b (.map es' c')))) : OP j ⟨none, .mapUpdate T x y u, ty, pos, after, none⟩ K Q s H :=
  op_mapUpdate hx hy hu hk hv hM (fun es' c' => H.set i (.obj b (.map es' c'))) (fun _ _ => upd_set hi) h
theorem op_insert_at (i : Nat) [t : Ty P T (.map kt et) sM bM zM] [tk : KeyT P kt kk]
    (hx : s.ev x = some (.raw (.map (some b)))) (hy : s.ev y = some (.raw k)) (hu : s.ev u = some (.raw v)) (hi : H[i]? = some (.obj b (.map es clock))) (hM : MapOf kk es f) (hk : KeyOf kk k) (hv : v.oneCell' = true)
    (h : ∀ es' c', MapOf kk es' (mput f k v) → K s (H.set i (.obj b (.map es' c')))) : OP j ⟨none, .insert T x y u, ty, pos, after, none⟩ K Q s H :=
  op_insert hx hy hu hk hv hM (fun es' c' => H.set i (.obj b (.map es' c'))) (fun _ _ => upd_set hi) h
end
end Go.AX

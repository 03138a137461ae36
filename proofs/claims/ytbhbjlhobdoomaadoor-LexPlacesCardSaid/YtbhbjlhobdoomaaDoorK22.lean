import Derived.Test.YtbhbjlhobdoomaaDoorK21
set_option linter.unusedVariables false
set_option linter.unusedSimpArgs false
namespace Go.Proofs.YtbhbjlhobdoomaaDoor
open Go Go.AX
set_option maxHeartbeats 4000000
set_option maxRecDepth 20000
def zc60 : List Value := .string ⟨#[]⟩ :: .int .i64 0 :: (List.replicate 256 (.int .i64 0) ++ [.slice none 0 0])
abbrev pl60 : List (Nat × Nat) := [(0, 1), (1, 1), (2, 256), (258, 1)]
instance bt60 : BuildT Tryd.prog 60 pl60 zc60 := BuildT.of Tryd.underlying60 (fun w => (Tryd.zeroValue60 w).trans (by rw [show Tryd.zeroCells60 = zc60.toArray by kernel_rfl])) (fun w => by kernel_rfl) (by decide +kernel)
theorem setAll_cons {α : Type} (a : α) : ∀ (vs cs : List α) (o : Nat), setAll (a :: cs) (o + 1) vs = a :: setAll cs o vs
  | [], cs, o => rfl
  | v :: vs, cs, o => by
    rw [setAll, setAll, List.set_cons_succ, setAll_cons a vs]
theorem setAll_mid {α : Type} : ∀ (vs bs cs : List α), bs.length = vs.length → setAll (bs ++ cs) 0 vs = vs ++ cs
  | [], [], cs, _ => rfl
  | v :: vs, b :: bs, cs, h => by
    rw [setAll, List.cons_append, List.set_cons_zero, setAll_cons, setAll_mid vs bs cs (by simpa using h)]
    rfl
theorem setAll_last {α : Type} : ∀ (bs : List α) (c v : α), setAll (bs ++ [c]) bs.length [v] = bs ++ [v]
  | [], c, v => rfl
  | b :: bs, c, v => by
    rw [List.cons_append, List.length_cons, setAll_cons, setAll_last bs c v]
    rfl
theorem fill60 {s : ByteArray} {l : List V} {r : V} (hl : l.length = 256) (hr : V.okc r = true) (hr1 : r.cells = [r]) :
    fillV (fun (i : Nat) => pl60[i]?) zc60.length (zc60.map .raw) [(0, str s), (2, .agg l), (3, r)] = some (str s :: int 0 :: (l ++ [r])) := by
  have hL : zc60.length = 259 := by decide +kernel
  have hz : zc60.map V.raw = str ⟨#[]⟩ :: int 0 :: (List.replicate 256 (int 0) ++ [.raw (.slice none 0 0)]) := by
    unfold zc60
    rw [List.map_cons, List.map_cons, List.map_append, List.map_replicate]
    rfl
  rw [hL, hz]
  have h1 : setAll (str ⟨#[]⟩ :: int 0 :: (List.replicate 256 (int 0) ++ [V.raw (.slice none 0 0)])) 0 (V.cells (str s)) = str s :: int 0 :: (List.replicate 256 (int 0) ++ [.raw (.slice none 0 0)]) := rfl
  have h2 : setAll (str s :: int 0 :: (List.replicate 256 (int 0) ++ [V.raw (.slice none 0 0)])) 2 l = str s :: int 0 :: (l ++ [.raw (.slice none 0 0)]) := by
    rw [show (2 : Nat) = 0 + 1 + 1 from rfl, setAll_cons, setAll_cons, setAll_mid _ _ _ (by rw [List.length_replicate, hl])]
  have h3 : setAll (str s :: int 0 :: (l ++ [V.raw (.slice none 0 0)])) 258 r.cells = str s :: int 0 :: (l ++ [r]) := by
    rw [hr1, show (258 : Nat) = l.length + 1 + 1 by rw [hl], setAll_cons, setAll_cons, setAll_last]
  have e0 : pl60[0]? = some (0, 1) := rfl
  have e2 : pl60[2]? = some (2, 256) := rfl
  have e3 : pl60[3]? = some (258, 1) := rfl
  unfold fillV
  rw [e0]
  dsimp only
  rw [show (V.okc (str s) && (Nat.beq (V.cells (str s)).length 1 && Nat.ble (0 + 1) 259)) = true from rfl, cond_true, h1]
  unfold fillV
  rw [e2]
  dsimp only
  rw [show (V.okc (.agg l) && (Nat.beq (V.cells (.agg l)).length 256 && Nat.ble (2 + 256) 259)) = true by show (true && (Nat.beq l.length 256 && true)) = true; rw [hl]; rfl, cond_true]
  rw [show (V.agg l).cells = l from rfl, h2]
  unfold fillV
  rw [e3]
  dsimp only
  rw [show (V.okc r && (Nat.beq (V.cells r).length 1 && Nat.ble (258 + 1) 259)) = true by rw [hr, hr1]; rfl, cond_true, h3]
  rfl
attribute [local irreducible] AW RL OP PureV ValV HV DL Tri TriR Fun RetOk ResV
theorem newScanner27 (s : ByteArray) : TriR Tryd.prog 27 [str s] (ks.map kbox) fun v H' => ∃ p R, v = ptr p ∧ H' = sc p s 0 R :: ks.map kbox ∧ Cls R ∧ Sgs R sigs := by
  obtain ⟨l, h41, hl1, hl2⟩ := classes41
  refine TriR.of (tri_of Tryd.func27 rfl Tryd.ntmps27 rfl fun j => ?_)
  repeat' (first | (with_reducible first | refine aw_seq ?_ | refine rl_nil ?_ | refine aw_region ?_ | refine then_n ?_ | refine aw_block ?_ | refine then_exit ?_ | refine then_ret ?_ | refine in_n ?_ | refine in_ret ?_ | refine aw_exit ?_ | refine aw_ret ?_ | refine aw_skip ?_ | refine in_exit_eq rfl ?_ | refine awr_succ ?_) | ((with_reducible refine k_move ?_); refine rl_pure (pv_move rfl) rfl rfl rfl ?_) | ((with_reducible refine k_assign ?_); refine rl_pure (pv_assign rfl) rfl rfl rfl ?_) | ((with_reducible refine k_callv ?_); refine rl_op rfl (op_callF rfl rfl (h41) rfl ?_)))
  (first | refine rl_op rfl (op_callR rfl rfl (.cons .here .nil) signs42 rfl ?_) | refine dl_op (by assumption) by_wants (op_callR rfl rfl (.cons .here .nil) signs42 rfl ?_))
  rintro _ _ ⟨rfl, rfl⟩
  repeat' (fail)
  refine rl_pure (pv_build (bt := bt60) rfl (fill60 (s := s) (l := l) (r := .ro (rowS sigs)) hl1 rfl rfl)) rfl rfl rfl ?_
  repeat' (first | (with_reducible first | refine aw_seq ?_ | refine rl_nil ?_ | refine aw_region ?_ | refine then_n ?_ | refine aw_block ?_ | refine then_exit ?_ | refine then_ret ?_ | refine in_n ?_ | refine in_ret ?_ | refine aw_exit ?_ | refine aw_ret ?_ | refine aw_skip ?_ | refine in_exit_eq rfl ?_ | refine awr_succ ?_) | ((with_reducible refine k_assign ?_); refine rl_pure (pv_assign rfl) rfl rfl rfl ?_) | ((with_reducible refine k_box ?_); refine rl_op rfl (op_box rfl (V.okc_or (by rfl)) rfl fun b => ?_)))
  refine ret_r (ret1 rfl by_res (H' := sc b s 0 (l ++ [.ro (rowS sigs)]) :: ks.map kbox) ?_ ⟨_, rfl, b, l ++ [.ro (rowS sigs)], rfl, rfl, fun x h0 h1 => ?_, ?_, by rw [sigs_len]; decide⟩)
  · rw [List.map_nil, List.append_nil]; exact List.Sublist.refl _
  · rw [List.getElem?_append_left (by omega)]; exact hl2 x h0 h1
  · rw [List.getElem?_append_right (by omega), hl1]; rfl
end Go.Proofs.YtbhbjlhobdoomaaDoor

import Derived.Test.YtbhbjlhobdoomaaDoorK23
set_option linter.unusedVariables false
set_option linter.unusedSimpArgs false
namespace Go.Proofs.YtbhbjlhobdoomaaDoor
open Go Go.AX
set_option maxHeartbeats 4000000
set_option maxRecDepth 20000
section
variable {P : Program} {N : Nat} {j : J P N} {s : Sl} {H G : List Ch}
theorem triR_permH {f : FuncId} {vs : List V} {R : V → List Ch → Prop} (hp : H.Perm G) (h : TriR P f vs G R) : TriR P f vs H R := fun F w xs hh hv => by
  have hpF : (H ++ F).Perm (G ++ F) := hp.append_right _
  have := h F w xs ((own_funext hpF ▸ hh).perm hpF) (own_funext hpF ▸ hv)
  rw [← own_funext hp] at this
  exact this
theorem triR_permR {f : FuncId} {vs : List V} {R R' : V → List Ch → Prop} (h : TriR P f vs H R) (hr : ∀ v H', R v H' → ∃ G', H'.Perm G' ∧ R' v G') : TriR P f vs H R' := fun F w xs hh hv =>
  Calls.mono (h F w xs hh hv) fun e w' ⟨ae, H', k1, k2, k3, k4, v, hae, hR⟩ => by
    obtain ⟨G', hp, hR'⟩ := hr v H' hR
    have hpF : (H' ++ F).Perm (G' ++ F) := hp.append_right _
    have e1 := own_funext hpF
    refine ⟨ae, G', e1 ▸ k1, (hp.filterMap _).nodup_iff.1 k2, fun c hc => e1 ▸ k3 c (hp.mem_iff.2 hc), own_funext hp ▸ k4, v, hae, hR'⟩
theorem retok_weak {fn : Func} {K : V → List Ch → Prop} {s' : Sl} {H' : List Ch} (hw : ∀ a w, St j s H a w → St j s' H' a w) (h : RetOk j fn s' H' K) : RetOk j fn s H K := fun a w st => h a w (hw a w st)
theorem perm_bk (ol bc sc oD : Ch) (R1 L Hr : List Ch) (h : R1.Perm L) : (ol :: ((bc :: sc :: R1) ++ (oD :: Hr))).Perm (oD :: (L ++ (ol :: bc :: sc :: Hr))) := by
  have h1 : (R1 ++ (oD :: Hr)).Perm (oD :: (R1 ++ Hr)) := List.perm_middle
  have h2 : ([ol, bc, sc] ++ (R1 ++ (oD :: Hr))).Perm ([ol, bc, sc] ++ (oD :: (R1 ++ Hr))) := h1.append_left _
  have h3 : ([ol, bc, sc] ++ (oD :: (R1 ++ Hr))).Perm (oD :: ([ol, bc, sc] ++ (R1 ++ Hr))) := List.perm_middle
  have h4 : ([ol, bc, sc] ++ (R1 ++ Hr)).Perm (R1 ++ ([ol, bc, sc] ++ Hr)) := List.perm_append_comm_assoc ..
  exact h2.trans (h3.trans ((h4.trans (h.append_right _)).cons _))
end
theorem sub_bk (x y z K : Ch) (J : List Ch) : ∀ A : List Ch, (A ++ [K]).Sublist (A ++ (J ++ [x, y, z, K]))
  | [] => ((((List.Sublist.refl [K]).cons z).cons y).cons x).trans (List.sublist_append_right J _)
  | a :: A => (sub_bk x y z K J A).cons_cons a
theorem awg_weak {P : Program} {N : Nat} {j : J P N} {s s' : Sl} {H H' : List Ch} {c : Code} {QQ : Exit → Act → World → Prop} (hw : ∀ a w, St j s H a w → St j s' H' a w) (h : AWG j c QQ s' H') : AWG j c QQ s H := fun a w st => h a w (hw a w st)
theorem awg_app {P : Program} {N : Nat} {j : J P N} {s : Sl} {H : List Ch} {c : Code} {QQ : Exit → Act → World → Prop} (h : AWG j c QQ s H) {a : Act} {w : World} (st : St j s H a w) : c.wpIn j.fence 0 P QQ a w := h a w st
def SemN {P : Program} {N : Nat} (j : J P N) (QQ : Exit → Act → World → Prop) (e : Exit) (s : Sl) (H : List Ch) : Prop := AX.Sem j QQ e s H ∧ ∀ c, e ≠ .panic c
theorem awg_awN {P : Program} {N : Nat} {j : J P N} {s : Sl} {H : List Ch} {c : Code} {QQ : Exit → Act → World → Prop} (h : NoS (SemN j QQ) → AW j c (SemN j QQ) s H) : AWG j c QQ s H :=
  awg_aw (aw_mono (h fun c s H k => absurd rfl (k.2 c)) fun e s H k => k.1)
theorem slok_raws {N : Nat} {sr : List (Nat × Value)} {tmps : Array Value} (hN : tmps.size = N) (h : ∀ q ∈ sr, tmps[q.1]? = some q.2) (ow : Nat → Prop) (w : World) : SlOk N (sr.map fun q => (q.1, V.raw q.2)) ow tmps w := by
  refine ⟨hN, fun i v hi => ?_⟩
  induction sr with
  | nil => simp [Sl.get] at hi
  | cons q sr ih =>
    simp only [List.map_cons, Sl.get] at hi
    cases e : Nat.beq i q.1
    · rw [e] at hi
      exact ih (fun q' hq => h q' (List.mem_cons_of_mem _ hq)) hi
    · rw [e] at hi
      obtain rfl := Nat.eq_of_beq_eq_true e
      obtain rfl : V.raw q.2 = v := by simpa using hi
      exact ⟨q.2, h q (List.mem_cons_self ..), rfl⟩
attribute [local irreducible] AW RL RLI OP PureV ValV HV DL Tri TriR Fun RetOk ResV AWG
/-- What the loop of Lex owns: the tokens so far, its results. -/
abbrev outL (b b2 b3 b4 : Nat) (sv : Value) (acc : List Tok) (x e : Int) (J : List Ch) : List Ch := .box b 23 [.own sv] :: .vec sv 33 4 (acc.map Tok.row) :: .box b2 23 [.raw (.slice none 0 0)] :: .box b3 3 [int x] :: .box b4 24 [int e] :: J
theorem lex9 (s : ByteArray) : TriR Tryd.prog 9 [str s] (ks.map kbox) fun v H' => V.Le v (lexV s) ∧ H' = ks.map kbox := by
  refine TriR.of (tri_ofM Tryd.func9 rfl Tryd.ntmps9 rfl fun j hrd hdf => ?_)
  refine awg_seq ?_
  repeat' (first | (with_reducible first | refine aw_seq ?_ | refine rl_nil ?_ | refine aw_region ?_ | refine then_n ?_ | refine aw_block ?_ | refine then_exit ?_ | refine then_ret ?_ | refine in_n ?_ | refine in_ret ?_ | refine aw_exit ?_ | refine aw_ret ?_ | refine aw_skip ?_ | refine in_exit_eq rfl ?_ | refine awr_succ ?_) | ((with_reducible refine k_alloc ?_); refine rl_op rfl (op_alloc (by decide) rfl fun b => ?_)))
  rename_i b2 b3
  refine awg_seq ?_
  repeat' (first | (with_reducible first | refine aw_seq ?_ | refine rl_nil ?_ | refine aw_region ?_ | refine then_n ?_ | refine aw_block ?_ | refine then_exit ?_ | refine then_ret ?_ | refine in_n ?_ | refine in_ret ?_ | refine aw_exit ?_ | refine aw_ret ?_ | refine aw_skip ?_ | refine in_exit_eq rfl ?_ | refine awr_succ ?_) | ((with_reducible refine k_move ?_); refine rl_pure (pv_move rfl) rfl rfl rfl ?_) | ((with_reducible refine k_store ?_); refine rl_op rfl (op_store_box_whole (by rfl) (by rfl) (V.okc_or (by rfl)) by_upd (by first | rfl) (by first | rfl) ?_)) | ((with_reducible refine k_gtr ?_); refine rl_pure (pv_gtr rfl rfl) rfl rfl rfl ?_) | ((with_reducible refine k_len ?_); refine rl_pure (pv_len_str rfl) rfl rfl rfl ?_) | (((with_reducible refine k_cond ?_); refine aw_cond rfl ?_ ?_) <;> ((fail_if_success (refine imp_known (by assumption) ?_)); (intro hb <;> (have hc := hb) <;> (try simp only [decide_eq_true_eq, decide_eq_false_iff_not, Int.not_lt, Int.not_le, ne_eq, Bool.not_eq_true, Bool.not_eq_false, Decidable.not_not] at hc) <;> (try (exfalso; omega)) <;> (try (exfalso; simp only [Bool.not_eq_eq_eq_not, Bool.not_true, Bool.not_false, decide_eq_true_eq, decide_eq_false_iff_not, ne_eq, Decidable.not_not, Int.not_lt, Int.not_le] at hc; omega)) <;> (try (first | contradiction | (cases hc; done))) <;> (try (first | exact absurd (hb.symm.trans (by assumption) : true = false) (by decide) | exact absurd (hb.symm.trans (by assumption) : false = true) (by decide)))))))
  · have hV : lexV s = .tup [.ro [], int 0, int 3] := by unfold lexV; rw [if_pos (by omega)]
    refine sem_ret0 hdf (ret3 rfl by_res by_res by_res (H' := ks.map kbox) ((((List.Sublist.refl _).cons _).cons _).cons _) ⟨_, rfl, ?_, rfl⟩)
    rw [hV]
    exact le_nil3 _ _
  · have hs : s.size ≤ 100000 := by omega
    refine awg_seq ?_
    repeat' (first | (with_reducible first | refine aw_seq ?_ | refine rl_nil ?_ | refine aw_region ?_ | refine then_n ?_ | refine aw_block ?_ | refine then_exit ?_ | refine then_ret ?_ | refine in_n ?_ | refine in_ret ?_ | refine aw_exit ?_ | refine aw_ret ?_ | refine aw_skip ?_ | refine in_exit_eq rfl ?_ | refine awr_succ ?_) | ((with_reducible refine k_alloc ?_); refine rl_op rfl (op_alloc (by decide) rfl fun b => ?_)))
    rename_i b4
    refine awg_seq_in ?_
    refine awg_seq ?_
    repeat' (first | (with_reducible first | refine aw_seq ?_ | refine rl_nil ?_ | refine aw_region ?_ | refine then_n ?_ | refine aw_block ?_ | refine then_exit ?_ | refine then_ret ?_ | refine in_n ?_ | refine in_ret ?_ | refine aw_exit ?_ | refine aw_ret ?_ | refine aw_skip ?_ | refine in_exit_eq rfl ?_ | refine awr_succ ?_) | ((with_reducible refine k_move ?_); refine rl_pure (pv_move rfl) rfl rfl rfl ?_))
    (first | refine rl_op rfl (op_callR rfl rfl (.cons (.there (.there (.there (.there .here)))) .nil) (newScanner27 s) rfl ?_) | refine dl_op (by assumption) by_wants (op_callR rfl rfl (.cons (.there (.there (.there (.there .here)))) .nil) (newScanner27 s) rfl ?_))
    rintro _ _ ⟨p, R, rfl, rfl, hR, hL⟩
    repeat' (fail)
    (first | refine rl_op rfl (op_callR rfl rfl .nil (tokens28 p) rfl ?_) | refine dl_op (by assumption) by_wants (op_callR rfl rfl .nil (tokens28 p) rfl ?_))
    rintro _ _ ⟨c, rfl, rfl⟩
    repeat' (with_reducible first | refine aw_seq ?_ | refine rl_nil ?_ | refine aw_region ?_ | refine then_n ?_ | refine aw_block ?_ | refine then_exit ?_ | refine then_ret ?_ | refine in_n ?_ | refine in_ret ?_ | refine aw_exit ?_ | refine aw_ret ?_ | refine aw_skip ?_ | refine in_exit_eq rfl ?_ | refine awr_succ ?_)
    refine awg_block ?_
    change AWG j _ _ _ [.box c 43 [ptr p], sc p s 0 R, kbox (lays157_ren.g 0, 94, spaceV), .box b 23 [.raw (.slice none 0 0)], .box b4 24 [int 0], .box b3 3 [int 0], .box b2 23 [.raw (.slice none 0 0)]]
    refine awg_weak (fun a w st => st_box_nil 33 4 (H' := [.box c 43 [ptr p], sc p s 0 R, kbox (lays157_ren.g 0, 94, spaceV), .box b 23 [.own (.slice none 0 0)], .box b4 24 [int 0], .box b3 3 [int 0], .box b2 23 [.raw (.slice none 0 0)]]) by_upd st) ?_
    refine awg_rangeFunc (f := 43) (cap := [ptr c]) (Hf := [.box c 43 [ptr p], sc p s 0 R, .box b 23 [.own (.slice none 0 0)], .vec (.slice none 0 0) 33 4 [], .box b2 23 [.raw (.slice none 0 0)], .box b3 3 [int 0], .box b4 24 [int 0]]) (Hr := [kbox (lays157_ren.g 0, 94, spaceV)])
      (KN := fun R2 => ∃ k' sv J R1, R2 = .box c 43 [ptr p] :: sc p s k' R :: R1 ∧ R1.Perm (outL b b2 b3 b4 sv (lxq s (skip s false 0)).1 0 0 J) ∧ (lxq s (skip s false 0)).2 = none)
      (KR := fun R2 => ∃ k' x sv acc J R1, R2 = .box c 43 [ptr p] :: sc p s k' R :: R1 ∧ R1.Perm (outL b b2 b3 b4 sv acc (x : Nat) 2 J) ∧ (lxq s (skip s false 0)).2 = some x)
      hrd hdf rfl (.cons (.there .here) (.cons (.there .here) (.cons (.there (.there .here)) (.cons .here (.cons (.there (.there (.there .here))) (.cons (.there (.there .here)) (.cons (.there .here) .nil))))))) (fun D l fn tmps htn hraw => ?_) (fun D l o R2 hK a w st => ?_) (fun D l o R2 hK a w st => ?_)
    · have hsl : ∀ (ow : Nat → Prop) (w : World), SlOk 30 [(2, ptr b2), (3, ptr b3), (4, ptr b4), (5, ptr b)] ow tmps w :=
        slok_raws (sr := [(2, .pointer (some ⟨b2, 0, none⟩)), (3, .pointer (some ⟨b3, 0, none⟩)), (4, .pointer (some ⟨b4, 0, none⟩)), (5, .pointer (some ⟨b, 0, none⟩))]) htn fun q hq => by
          simp only [List.mem_cons, List.not_mem_nil, or_false] at hq
          rcases hq with rfl | rfl | rfl | rfl <;> exact hraw _ _ rfl
      clear hraw
      generalize hr : Loop.mk _ _ _ _ _ _ _ _ = r
      have hst : r.state = .ready := by rw [← hr]
      have hpn : r.pending = none := by rw [← hr]
      refine triR_permR (triR_permH (G := .box c 43 [ptr p] :: sc p s 0 R :: .obj l (.loop r) :: outL b b2 b3 b4 (.slice none 0 0) [] 0 0 []) ((List.Perm.swap ..).trans ((List.Perm.swap ..).cons _))
        (iter43 p c s hs R hR hL l (fun acc X => ∃ sv J R1, X = .obj l (.loop r) :: R1 ∧ R1.Perm (outL b b2 b3 b4 sv acc 0 0 J)) (fun x X => ∃ sv acc J R1, X = .obj l (.loop { r with state := .done, pending := some .ret }) :: R1 ∧ R1.Perm (outL b b2 b3 b4 sv acc x 2 J)) ?_ ?_ _ ⟨_, _, _, rfl, List.Perm.refl _⟩)) ?_
      · rintro acc X ⟨kd, n, x, tt⟩ hal ⟨sv, J, R1, rfl, hpm⟩
        suffices h : ∀ Post : Bool → List Ch → Prop, (∀ sv J R1, R1.Perm (outL b b2 b3 b4 sv (acc ++ [⟨kd, n, x, tt⟩]) 0 0 J) → Post true (.obj l (.loop { r with state := .ready, pending := none }) :: R1)) → YTri Tryd.prog l [tokC kd n x tt, bool true] (.obj l (.loop r) :: R1) Post from
          h _ fun sv J R1 hp => ⟨rfl, sv, J, R1, by rw [← hst, ← hpn], hp⟩
        intro Post hPost
        refine ytri_of (sr := [(2, ptr b2), (3, ptr b3), (4, ptr b4), (5, ptr b)]) hst (by rw [← hr]; exact hsl) (by rw [← hr]; rfl) (by rw [← hr]; exact (by decide : ∀ q ∈ ([14, 15] : List Nat), q < 30)) fun jb hjb => ?_
        subst hr
        refine aw_perm (hpm.cons _) ?_
        have hsm : ((acc.map Tok.row).length + 1) * 4 ≤ 140737488355328 := by rw [List.length_map]; omega
        repeat' (first | (with_reducible first | refine aw_seq ?_ | refine rl_nil ?_ | refine aw_region ?_ | refine then_n ?_ | refine aw_block ?_ | refine then_exit ?_ | refine then_ret ?_ | refine in_n ?_ | refine in_ret ?_ | refine aw_exit ?_ | refine aw_ret ?_ | refine aw_skip ?_ | refine in_exit_eq rfl ?_ | refine awr_succ ?_) | ((with_reducible refine k_assign ?_); refine rl_pure (pv_assign rfl) rfl rfl rfl ?_) | ((with_reducible refine k_store ?_); refine rl_op rfl (op_store_box_whole (by rfl) (by rfl) (V.okc_or (by rfl)) by_upd (by first | rfl) (by first | rfl) ?_)) | ((with_reducible refine k_alloc ?_); refine rl_op rfl (op_alloc (by decide) rfl fun b => ?_)))
        refine ⟨_, .there .here, ?_⟩
        repeat' (first | (with_reducible first | refine aw_seq ?_ | refine rl_nil ?_ | refine aw_region ?_ | refine then_n ?_ | refine aw_block ?_ | refine then_exit ?_ | refine then_ret ?_ | refine in_n ?_ | refine in_ret ?_ | refine aw_exit ?_ | refine aw_ret ?_ | refine aw_skip ?_ | refine in_exit_eq rfl ?_ | refine awr_succ ?_) | ((with_reducible refine k_move ?_); refine rl_pure (pv_move rfl) rfl rfl rfl ?_) | ((with_reducible refine k_load ?_); (first | refine rl_val (vv_load_box (by rfl) by_memb (by rfl) by_bd) rfl rfl rfl ?_ | refine rl_val (vv_load_box_whole (by rfl) by_memb (by rfl) (by first | rfl)) rfl rfl rfl ?_)) | ((with_reducible refine k_not ?_); refine rl_pure (pv_not rfl) rfl rfl rfl ?_) | ((with_reducible refine k_buildSlice ?_); refine rl_op rfl (op_buildSlice_ro rfl rfl rfl (by rfl) (by rfl) (by rfl) (by rfl) rfl by_rows ?_)) | ((with_reducible refine k_cond ?_); refine aw_cond_f rfl ?_))
        (first | refine rl_op rfl (op_append rfl (.there (.there (.there .here))) rfl rfl rfl rfl (by first | (intro r hr; obtain ⟨_, _, rfl⟩ := List.mem_map.1 hr; rfl) | (simp; done) | (simp [V.cells]; done)) by_small rfl fun sv' => ?_) | (refine dl_op (by assumption) by_wants (op_append rfl (.there (.there (.there .here))) rfl rfl rfl rfl (by first | (intro r hr; obtain ⟨_, _, rfl⟩ := List.mem_map.1 hr; rfl) | (simp; done) | (simp [V.cells]; done)) by_small rfl fun sv' => ?_); intro jd hjd))
        repeat' (first | (with_reducible first | refine aw_seq ?_ | refine rl_nil ?_ | refine aw_region ?_ | refine then_n ?_ | refine aw_block ?_ | refine then_exit ?_ | refine then_ret ?_ | refine in_n ?_ | refine in_ret ?_ | refine aw_exit ?_ | refine aw_ret ?_ | refine aw_skip ?_ | refine in_exit_eq rfl ?_ | refine awr_succ ?_) | ((with_reducible refine k_store ?_); refine rl_op rfl (op_store_box_whole (by rfl) (by rfl) (V.okc_or (by rfl)) by_upd (by first | rfl) (by first | rfl) ?_)))
        refine ⟨_, .there .here, hPost sv' (.box b 33 (tokC kd n x tt).cells :: J) _ ?_⟩
        unfold outL
        rw [List.map_append]
        exact Pick.perm (.cons (.there (.there .here)) (.cons .here (.cons (.there .here) (.cons (.there .here) (.cons (.there .here) .nil)))))
      · rintro acc X kd n x t ⟨sv, J, R1, rfl, hpm⟩
        suffices h : ∀ Post : Bool → List Ch → Prop, (∀ sv acc J R1, R1.Perm (outL b b2 b3 b4 sv acc x 2 J) → Post false (.obj l (.loop { r with state := .done, pending := some .ret }) :: R1)) → YTri Tryd.prog l [tokC kd n x t, bool false] (.obj l (.loop r) :: R1) Post from
          h _ fun sv acc J R1 hp => ⟨rfl, sv, acc, J, R1, rfl, hp⟩
        intro Post hPost
        have hnos : NoS (RoundQ l r Post) := fun c s H h => h.elim
        refine ytri_of (sr := [(2, ptr b2), (3, ptr b3), (4, ptr b4), (5, ptr b)]) hst (by rw [← hr]; exact hsl) (by rw [← hr]; rfl) (by rw [← hr]; exact (by decide : ∀ q ∈ ([14, 15] : List Nat), q < 30)) fun jb hjb => ?_
        subst hr
        refine aw_perm (hpm.cons _) ?_
        repeat' (first | (with_reducible first | refine aw_seq ?_ | refine rl_nil ?_ | refine aw_region ?_ | refine then_n ?_ | refine aw_block ?_ | refine then_exit ?_ | refine then_ret ?_ | refine in_n ?_ | refine in_ret ?_ | refine aw_exit ?_ | refine aw_ret ?_ | refine aw_skip ?_ | refine in_exit_eq rfl ?_ | refine awr_succ ?_) | ((with_reducible refine k_assign ?_); refine rl_pure (pv_assign rfl) rfl rfl rfl ?_) | ((with_reducible refine k_store ?_); refine rl_op rfl (op_store_box_whole (by rfl) (by rfl) (V.okc_or (by rfl)) by_upd (by first | rfl) (by first | rfl) ?_)) | ((with_reducible refine k_alloc ?_); refine rl_op rfl (op_alloc (by decide) rfl fun b => ?_)))
        refine ⟨_, .there .here, ?_⟩
        repeat' (first | (with_reducible first | refine aw_seq ?_ | refine rl_nil ?_ | refine aw_region ?_ | refine then_n ?_ | refine aw_block ?_ | refine then_exit ?_ | refine then_ret ?_ | refine in_n ?_ | refine in_ret ?_ | refine aw_exit ?_ | refine aw_ret ?_ | refine aw_skip ?_ | refine in_exit_eq rfl ?_ | refine awr_succ ?_) | ((with_reducible refine k_move ?_); refine rl_pure (pv_move rfl) rfl rfl rfl ?_) | ((with_reducible refine k_not ?_); refine rl_pure (pv_not rfl) rfl rfl rfl ?_) | ((with_reducible refine k_cond ?_); refine aw_cond_t rfl ?_))
        refine aw_draw (id := 8) [(false, 0), (false, 1), (true, 2), (true, 3), (true, 4)] _ (by kernel_rfl) (by decide +kernel) (by decide) by_lit (.cons (.there (.there (.there (.there .here)))) (.cons (.there (.there (.there (.there .here)))) (.cons (.there (.there (.there (.there .here)))) .nil))) by_nos fun jd hjd => ?_
        repeat' (first | (with_reducible first | refine aw_seq ?_ | refine rl_nil ?_ | refine aw_region ?_ | refine then_n ?_ | refine aw_block ?_ | refine then_exit ?_ | refine then_ret ?_ | refine in_n ?_ | refine in_ret ?_ | refine aw_exit ?_ | refine aw_ret ?_ | refine aw_skip ?_ | refine in_exit_eq rfl ?_ | refine awr_succ ?_) | (with_reducible refine dl_nil by_app ?_) | ((with_reducible refine kd_fieldAddr ?_); refine dl_pure (by assumption) (pv_fieldAddr rfl) by_wants rfl rfl ?_) | ((with_reducible refine kd_store ?_); (refine dl_op (by assumption) by_wants (op_store_box_whole (by rfl) (by rfl) (V.okc_or (by rfl)) by_upd (by first | rfl) (by first | rfl) ?_); intro jd hjd)) | ((with_reducible refine kd_load ?_); refine dl_take (by assumption) (hv_load_box (by assumption) (by rfl) by_mem0 (by rfl) by_bd) by_wants rfl rfl ?_))
        refine ⟨_, .there (.there (.there .here)), hPost sv acc (.box b 33 (tokC kd n x t).cells :: J) _ ?_⟩
        exact Pick.perm (.cons (.there (.there (.there (.there .here)))) (.cons (.there (.there (.there (.there .here)))) (.cons .here (.cons .here (.cons .here .nil)))))
      · rintro v H' ⟨k', X, rfl, ⟨hx, sv, J, R1, rfl, hpm⟩ | ⟨x, hx, sv, acc, J, R1, rfl, hpm⟩⟩
        · exact ⟨.obj l (.loop r) :: .box c 43 [ptr p] :: sc p s k' R :: R1, ((List.Perm.swap ..).cons _).trans (List.Perm.swap ..), r, _, rfl, by rw [hst]; decide, .inl ⟨hpn, k', sv, J, R1, rfl, hpm, hx⟩⟩
        · exact ⟨.obj l (.loop { r with state := .done, pending := some .ret }) :: .box c 43 [ptr p] :: sc p s k' R :: R1, ((List.Perm.swap ..).cons _).trans (List.Perm.swap ..), _, _, rfl, (by intro h; cases h), .inr ⟨rfl, k', x, sv, acc, J, R1, rfl, hpm, hx⟩⟩
    · obtain ⟨k', sv, J, R1, rfl, hpm, hx⟩ := hK
      have st1 := st_sub (st.perm (perm_bk _ _ _ _ _ _ _ hpm)) (G := [.obj D (.deferred (some [])), .box b 23 [.own sv], .vec sv 33 4 ((lxq s (skip s false 0)).1.map Tok.row), .box b2 23 [.raw (.slice none 0 0)], .box b3 3 [int 0], .box b4 24 [int 0], kbox (lays157_ren.g 0, 94, spaceV)])
        (sub_bk _ _ _ _ J [_, _, _, _, _, _])
      revert st1
      generalize a = a1
      refine fun st1 => awg_app (j := { j with df := AX.mark D }) (awg_awN fun hnos => ?_) st1
      have hcs := lexV_cases s
      rcases hl : lxq s (skip s false 0) with ⟨ts, q⟩
      rw [hl] at hx hcs
      dsimp only at hx ⊢
      subst hx
      repeat' (first | (with_reducible first | refine aw_seq ?_ | refine rl_nil ?_ | refine aw_region ?_ | refine then_n ?_ | refine aw_block ?_ | refine then_exit ?_ | refine then_ret ?_ | refine in_n ?_ | refine in_ret ?_ | refine aw_exit ?_ | refine aw_ret ?_ | refine aw_skip ?_ | refine in_exit_eq rfl ?_ | refine awr_succ ?_) | ((with_reducible refine k_load ?_); refine rl_val (vv_load_box (by rfl) by_memb (by rfl) by_bd) rfl rfl rfl ?_) | ((with_reducible refine k_store ?_); refine rl_op rfl (op_store_box_whole (by rfl) (by rfl) (V.okc_or (by rfl)) by_upd (by first | rfl) (by first | rfl) ?_)) | ((with_reducible refine k_gtr ?_); refine rl_pure (pv_gtr rfl rfl) rfl rfl rfl ?_) | ((with_reducible refine k_len ?_); refine rl_pure (pv_len_own' (by rfl) by_memb by_len) rfl rfl rfl ?_) | (with_reducible refine dl_nil by_app ?_) | ((with_reducible refine kd_store ?_); (refine dl_op (by assumption) by_wants (op_store_box_whole (by rfl) (by rfl) (V.okc_or (by rfl)) by_upd (by first | rfl) (by first | rfl) ?_); intro jd hjd)) | ((with_reducible refine kd_len ?_); refine dl_pure (by assumption) (pv_len_own' (by rfl) by_memj by_len) by_wants rfl rfl ?_) | ((with_reducible refine kd_load ?_); refine dl_take (by assumption) (hv_load_box (by assumption) (by rfl) by_mem0 (by rfl) by_bd) by_wants rfl rfl ?_) | (refine aw_draw (id := 12) [(false, 0), (false, 1), (false, 2), (true, 3), (true, 4), (true, 5)] _ (by kernel_rfl) (by decide +kernel) (by decide) by_lit (.cons (.there (.there (.there .here))) (.cons (.there (.there (.there .here))) (.cons (.there (.there (.there .here))) .nil))) by_nos fun jd hjd => ?_) | (((with_reducible refine k_cond ?_); refine aw_cond rfl ?_ ?_) <;> ((fail_if_success (refine imp_known (by assumption) ?_)); (intro hb <;> (have hc := hb) <;> (try simp only [decide_eq_true_eq, decide_eq_false_iff_not, Int.not_lt, Int.not_le, ne_eq, Bool.not_eq_true, Bool.not_eq_false, Decidable.not_not] at hc) <;> (try (exfalso; omega)) <;> (try (exfalso; simp only [Bool.not_eq_eq_eq_not, Bool.not_true, Bool.not_false, decide_eq_true_eq, decide_eq_false_iff_not, ne_eq, Decidable.not_not, Int.not_lt, Int.not_le] at hc; omega)) <;> (try (first | contradiction | (cases hc; done))) <;> (try (first | exact absurd (hb.symm.trans (by assumption) : true = false) (by decide) | exact absurd (hb.symm.trans (by assumption) : false = true) (by decide)))))))
      · have hV : lexV s = .tup [.ro [], int 0, int 3] := by
          rcases hcs with ⟨h, _⟩ | ⟨h, ⟨ts', h1, h2, h3⟩ | ⟨ts', h1, h2, h3⟩ | ⟨a', h1, h2⟩⟩
          · omega
          · exact h3
          · cases h1; omega
          · cases h1
        refine ⟨sem_retM rfl rfl rfl rfl .here (ret3 rfl by_res by_res by_res (H' := ks.map kbox) ?_ ⟨_, rfl, ?_, rfl⟩), fun c h => by cases h⟩
        · exact ((((((List.Sublist.refl _).cons _).cons _).cons _).cons _).cons _).cons _
        · rw [hV]
          exact le_nil3 _ _
      · have hV : lexV s = .tup [.ro (ts.map Tok.row), int (ts.length : Nat), int 0] := by
          rcases hcs with ⟨h, _⟩ | ⟨h, ⟨ts', h1, h2, h3⟩ | ⟨ts', h1, h2, h3⟩ | ⟨a', h1, h2⟩⟩
          · omega
          · cases h1; omega
          · cases h1; exact h3
          · cases h1
        refine ⟨sem_retM rfl rfl rfl rfl (.there (.there (.there .here))) (retok_weak (fun a w st => st_box_freeze (i := 0) (.there (.there (.there (.there (.there .here))))) rfl (.there .here) st) (ret3 rfl by_res by_res by_res (H' := ks.map kbox) ?_ ⟨_, rfl, ?_, rfl⟩)), fun c h => by cases h⟩
        · exact ((((((List.Sublist.refl _).cons _).cons _).cons _).cons _).cons _)
        · rw [hV]
          exact le_refl _
    · obtain ⟨k', x, sv, acc, J, R1, rfl, hpm, hx⟩ := hK
      have hV : lexV s = .tup [.ro [], int (x : Nat), int 2] := by
        rcases lexV_cases s with ⟨h, _⟩ | ⟨h, ⟨ts', h1, h2, h3⟩ | ⟨ts', h1, h2, h3⟩ | ⟨a', h1, h2⟩⟩
        · omega
        · rw [h1] at hx; cases hx
        · rw [h1] at hx; cases hx
        · rw [h1] at hx; cases hx; exact h2
      have st1 := st_sub (st.perm (perm_bk _ _ _ _ _ _ _ hpm)) (G := [.obj D (.deferred (some [])), .box b 23 [.own sv], .vec sv 33 4 (acc.map Tok.row), .box b2 23 [.raw (.slice none 0 0)], .box b3 3 [int x], .box b4 24 [int 2], kbox (lays157_ren.g 0, 94, spaceV)])
        (sub_bk _ _ _ _ J [_, _, _, _, _, _])
      refine (show AX.Sem ({ j with df := AX.mark D } : AX.J Tryd.prog 30) (bodyPostM Fence.wide 0 Tryd.prog Tryd.f9 (RF j fun ae H' => ∃ v, ae = AEnd.ret v ∧ V.Le v (lexV s) ∧ H' = ks.map kbox)) Exit.ret _ _ from ?_).2 a w st1
      refine sem_retM rfl rfl rfl rfl .here (ret3 rfl by_res by_res by_res (H' := ks.map kbox) ?_ ⟨_, rfl, ?_, rfl⟩)
      · exact ((((((List.Sublist.refl _).cons _).cons _).cons _).cons _).cons _).cons _
      · rw [hV]
        exact le_nil3 _ _
end Go.Proofs.YtbhbjlhobdoomaaDoor

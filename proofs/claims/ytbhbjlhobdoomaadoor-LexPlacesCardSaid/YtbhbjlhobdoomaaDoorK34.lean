import Derived.Test.YtbhbjlhobdoomaaDoorK32
set_option linter.unusedVariables false
set_option linter.unusedSimpArgs false
namespace Go.Proofs.YtbhbjlhobdoomaaDoor
open Go Go.AX
set_option maxHeartbeats 4000000
set_option maxRecDepth 20000
abbrev U8 (L : List Int) : Prop := ∀ v ∈ L, 0 ≤ v ∧ v ≤ 255
theorem strOf_size (L : List Int) : (strOfNums L).size = L.length := strOfNums_size L
theorem bt_strOf {L : List Int} (h : U8 L) {i : Nat} {v : Int} (hv : L[i]? = some v) : bt (strOfNums L) i = v := by
  have hn := nums_strOf L h
  have hi : i < L.length := (List.getElem?_eq_some_iff.1 hv).1
  have := nums_get (s := strOfNums L) (i := i) (by rw [strOf_size]; exact hi)
  rw [hn, hv] at this
  exact (Option.some.inj this).symm
theorem ba_strOf {L : List Int} (h : U8 L) {i : Nat} {v : Int} (hv : L[i]? = some v) : ba (strOfNums L) i = v := by
  rw [ba_in (by rw [strOf_size]; exact (List.getElem?_eq_some_iff.1 hv).1), bt_strOf h hv]
theorem strOf_nums (s : ByteArray) : strOfNums (nums s) = s := by
  refine byteArray_ext_bt (by rw [strOf_size, nums_len]) fun i hi => ?_
  rw [strOf_size, nums_len] at hi
  exact bt_strOf (nums_range s) (nums_get hi)
theorem hxd_dgo (n : Int) (h0 : 0 ≤ n) (h1 : n < 16) : dgo (hxd n) = n := by
  unfold hxd dgo
  split <;> (repeat' split) <;> omega
theorem get_mid (pre : List Int) (x : Int) (r : List Int) : (pre ++ x :: r)[pre.length]? = some x := by
  rw [List.getElem?_append_right (Nat.le_refl _), Nat.sub_self]; rfl
theorem get_mid1 (pre : List Int) (x y : Int) (r : List Int) : (pre ++ x :: y :: r)[pre.length + 1]? = some y := by
  rw [List.getElem?_append_right (by omega), show pre.length + 1 - pre.length = 1 by omega]; rfl
theorem get_mid2 (pre : List Int) (x y z : Int) (r : List Int) : (pre ++ x :: y :: z :: r)[pre.length + 2]? = some z := by
  rw [List.getElem?_append_right (by omega), show pre.length + 2 - pre.length = 2 by omega]; rfl
theorem get_mid3 (pre : List Int) (x y z u : Int) (r : List Int) : (pre ++ x :: y :: z :: u :: r)[pre.length + 3]? = some u := by
  rw [List.getElem?_append_right (by omega), show pre.length + 3 - pre.length = 3 by omega]; rfl
/-- What is between quotes reads as the text. -/
theorem tx_quoted : ∀ (m pre : List Int), U8 m → U8 pre → tx (strOfNums (pre ++ (m.flatMap enc ++ [34]))) pre.length = some (m, (pre ++ (m.flatMap enc ++ [34])).length)
  | [], pre, hm, hp => by
    have hU : U8 (pre ++ (List.flatMap enc [] ++ [34])) := fun v hv => by
      rcases List.mem_append.1 hv with hv | hv
      · exact hp v hv
      · simp at hv; omega
    have hb := bt_strOf hU (get_mid pre 34 [])
    rw [tx_quote (by rw [strOf_size]; simp) hb]
    simp
  | c :: m, pre, hm, hp => by
    have hc := hm c (List.mem_cons_self ..)
    have hm' : U8 m := fun v hv => hm v (List.mem_cons_of_mem _ hv)
    have hU : U8 (pre ++ (List.flatMap enc (c :: m) ++ [34])) := fun v hv => by
      rcases List.mem_append.1 hv with hv | hv
      · exact hp v hv
      · rcases List.mem_append.1 hv with hv | hv
        · obtain ⟨x, hx, hv⟩ := List.mem_flatMap.1 hv
          have := hm x hx
          exact enc_range this.1 this.2 v hv
        · rw [List.mem_singleton.1 hv]; omega
    have hup : ∀ e : List Int, U8 e → U8 (pre ++ e) := fun e he v hv => by
      rcases List.mem_append.1 hv with hv | hv
      · exact hp v hv
      · exact he v hv
    by_cases h1 : c = 34 ∨ c = 92
    · have he : enc c = [92, c] := by unfold enc; rw [if_pos h1]
      have ih := tx_quoted m (pre ++ [92, c]) hm' (hup _ (by rw [← he]; exact enc_range hc.1 hc.2))
      have eL : pre ++ (List.flatMap enc (c :: m) ++ [34]) = pre ++ 92 :: c :: (m.flatMap enc ++ [34]) := by rw [List.flatMap_cons, he]; rfl
      rw [eL] at hU ⊢
      rw [List.append_assoc] at ih
      have hk : pre.length < (strOfNums (pre ++ 92 :: c :: (m.flatMap enc ++ [34]))).size := by rw [strOf_size]; simp
      have hesc : esc (strOfNums (pre ++ 92 :: c :: (m.flatMap enc ++ [34]))) (pre.length + 1) = some (c, pre.length + 2) := by
        unfold esc
        rw [ba_strOf hU (get_mid1 pre 92 c (m.flatMap enc ++ [34])), if_pos h1]
      rw [tx_esc1 hk (bt_strOf hU (get_mid pre 92 _)) hesc]
      rw [show (pre ++ [92, c]).length = pre.length + 2 by simp] at ih
      have ih2 : tx (strOfNums (pre ++ 92 :: c :: (m.flatMap enc ++ [34]))) (pre.length + 2) = some (m, (pre ++ 92 :: c :: (m.flatMap enc ++ [34])).length) := ih
      rw [ih2]
      rfl
    · by_cases h2 : c = 10
      · have he : enc c = [92, 110] := by unfold enc; rw [if_neg h1, if_pos h2]
        have ih := tx_quoted m (pre ++ [92, 110]) hm' (hup _ (by rw [← he]; exact enc_range hc.1 hc.2))
        have eL : pre ++ (List.flatMap enc (c :: m) ++ [34]) = pre ++ 92 :: 110 :: (m.flatMap enc ++ [34]) := by rw [List.flatMap_cons, he]; rfl
        rw [eL] at hU ⊢
        rw [List.append_assoc] at ih
        have hk : pre.length < (strOfNums (pre ++ 92 :: 110 :: (m.flatMap enc ++ [34]))).size := by rw [strOf_size]; simp
        have hesc : esc (strOfNums (pre ++ 92 :: 110 :: (m.flatMap enc ++ [34]))) (pre.length + 1) = some (10, pre.length + 2) := by
          unfold esc
          rw [ba_strOf hU (get_mid1 pre 92 110 _), if_neg (by decide), if_pos (show (110 : Int) = 110 from rfl)]
        rw [tx_esc1 hk (bt_strOf hU (get_mid pre 92 _)) hesc]
        rw [show (pre ++ ([92, 110] : List Int)).length = pre.length + 2 by simp] at ih
        have ih2 : tx (strOfNums (pre ++ 92 :: 110 :: (m.flatMap enc ++ [34]))) (pre.length + 2) = some (m, (pre ++ 92 :: 110 :: (m.flatMap enc ++ [34])).length) := ih
        rw [ih2, h2]
        rfl
      · by_cases h3 : c < 32 ∨ 126 < c
        · have he : enc c = [92, 120, hxd (c / 16), hxd (c % 16)] := by unfold enc; rw [if_neg h1, if_neg h2, if_pos h3]
          have ih := tx_quoted m (pre ++ [92, 120, hxd (c / 16), hxd (c % 16)]) hm' (hup _ (by rw [← he]; exact enc_range hc.1 hc.2))
          have eL : pre ++ (List.flatMap enc (c :: m) ++ [34]) = pre ++ 92 :: 120 :: hxd (c / 16) :: hxd (c % 16) :: (m.flatMap enc ++ [34]) := by rw [List.flatMap_cons, he]; rfl
          rw [eL] at hU ⊢
          rw [List.append_assoc] at ih
          have hk : pre.length < (strOfNums (pre ++ 92 :: 120 :: hxd (c / 16) :: hxd (c % 16) :: (m.flatMap enc ++ [34]))).size := by rw [strOf_size]; simp
          have d1 := hxd_dgo (c / 16) (by omega) (by omega)
          have d2 := hxd_dgo (c % 16) (by omega) (by omega)
          have hesc : esc (strOfNums (pre ++ 92 :: 120 :: hxd (c / 16) :: hxd (c % 16) :: (m.flatMap enc ++ [34]))) (pre.length + 1) = some (c, pre.length + 4) := by
            unfold esc
            rw [ba_strOf hU (get_mid1 pre 92 120 _), show pre.length + 1 + 1 = pre.length + 2 from rfl, show pre.length + 1 + 2 = pre.length + 3 from rfl, ba_strOf hU (get_mid2 pre 92 120 _ _), ba_strOf hU (get_mid3 pre 92 120 _ _ _), d1, d2, if_neg (by decide), if_neg (by decide), if_pos ⟨rfl, by omega, by omega⟩]
            rw [show 16 * (c / 16) + c % 16 = c by omega]
          rw [tx_esc1 hk (bt_strOf hU (get_mid pre 92 _)) hesc]
          rw [show (pre ++ [92, 120, hxd (c / 16), hxd (c % 16)]).length = pre.length + 4 by simp] at ih
          have ih2 : tx (strOfNums (pre ++ 92 :: 120 :: hxd (c / 16) :: hxd (c % 16) :: (m.flatMap enc ++ [34]))) (pre.length + 4) = some (m, (pre ++ 92 :: 120 :: hxd (c / 16) :: hxd (c % 16) :: (m.flatMap enc ++ [34])).length) := ih
          rw [ih2]
          rfl
        · have he : enc c = [c] := by unfold enc; rw [if_neg h1, if_neg h2, if_neg h3]
          have ih := tx_quoted m (pre ++ [c]) hm' (hup _ (by rw [← he]; exact enc_range hc.1 hc.2))
          have eL : pre ++ (List.flatMap enc (c :: m) ++ [34]) = pre ++ c :: (m.flatMap enc ++ [34]) := by rw [List.flatMap_cons, he]; rfl
          rw [eL] at hU ⊢
          rw [List.append_assoc] at ih
          have hk : pre.length < (strOfNums (pre ++ c :: (m.flatMap enc ++ [34]))).size := by rw [strOf_size]; simp
          have hb := bt_strOf hU (get_mid pre c _)
          have hcls : ¬ cls c = 0 := fun q => (cls0 c).1 q (by omega)
          rw [tx_byte hk (by rw [hb]; omega) (by rw [hb]; exact fun q => q.elim h2 hcls) (by rw [hb]; omega), hb]
          rw [show (pre ++ [c]).length = pre.length + 1 by simp] at ih
          have ih2 : tx (strOfNums (pre ++ c :: (m.flatMap enc ++ [34]))) (pre.length + 1) = some (m, (pre ++ c :: (m.flatMap enc ++ [34])).length) := ih
          rw [ih2]
          rfl
theorem flat_len (m : List Int) : (m.flatMap enc).length ≤ 4 * m.length := by
  induction m with
  | nil => decide
  | cons a m ih =>
    have := enc_len a
    rw [List.flatMap_cons, List.length_append, List.length_cons]
    omega
/-- What is between quotes is one token, the text. -/
theorem lexV_quoted (s : ByteArray) (hs : s.size ≤ 200) : lexV (strOfNums (qtd s)) = .tup [.ro ([⟨2, 0, 0, s⟩].map Tok.row), int ((1 : Nat) : Int), int 0] := by
  have eq : qtd s = [34] ++ ((nums s).flatMap enc ++ [34]) := rfl
  have hU := qtd_range s
  have hb0 : bt (strOfNums (qtd s)) (0 : Nat) = 34 := bt_strOf hU rfl
  have hsz : (strOfNums (qtd s)).size = (qtd s).length := strOf_size _
  have hlen : (qtd s).length ≤ 802 := by
    have h1 := flat_len (nums s)
    rw [nums_len] at h1
    rw [eq]
    simp only [List.length_append, List.length_singleton]
    omega
  have hpos : 0 < (strOfNums (qtd s)).size := by rw [hsz, eq]; simp
  have htx : tx (strOfNums (qtd s)) (0 + 1) = some (nums s, (qtd s).length) := tx_quoted (nums s) [34] (nums_range s) (by intro v hv; rw [List.mem_singleton.1 hv]; omega)
  have hsk : skip (strOfNums (qtd s)) false 0 = (0, true) := skip_done hpos (by rw [hb0]; decide) (fun q => by rw [ba_in hpos, hb0] at q; exact absurd q.1 (by decide))
  have htk : tk sigs (strOfNums (qtd s)) 0 = ⟨2, 0, s, (qtd s).length, true⟩ := by
    unfold tk
    rw [hb0, if_neg (by decide), if_neg (by decide), if_pos rfl]
    unfold txO txR
    rw [htx]
    dsimp only
    rw [decide_eq_true (by rw [nums_len]; exact hs), Option.getD_some, strOf_nums]
  have hlx : lxq (strOfNums (qtd s)) (skip (strOfNums (qtd s)) false 0) = ([⟨2, 0, 0, s⟩], none) := by
    rw [hsk, lxq_tok hpos (by rw [htk]), htk]
    dsimp only
    rw [skip_end (by rw [hsz]; exact Nat.lt_irrefl _), lxq_end (by rw [hsz]; exact Nat.lt_irrefl _)]
  unfold lexV
  rw [if_neg (by rw [hsz]; omega), hlx]
  rfl
/-- Whether a text is a word. -/
def isW (s : ByteArray) : Bool := decide (0 < s.size ∧ isLt (bt s (0 : Nat)) ∧ wordEnd s 1 = s.size ∧ s.size ≤ 16)
theorem extract_self (s : ByteArray) : s.extract 0 s.size = s := by
  refine byteArray_ext_bt (by rw [ByteArray.size_extract]; omega) fun i hi => ?_
  rw [ByteArray.size_extract] at hi
  rw [bt_extract (by omega), Nat.zero_add]
theorem lxq_word {s : ByteArray} (h : isW s = true) : lxq s (skip s false 0) = ([⟨0, 0, 0, s⟩], none) := by
  obtain ⟨h1, h2, h3, h4⟩ := of_decide_eq_true h
  have hsk : skip s false 0 = (0, true) := skip_done h1 (fun q => by rw [cls1] at q; unfold isLt at h2; omega) (fun q => by rw [ba_in h1] at q; unfold isLt at h2; omega)
  have hw : wordEnd s 0 = s.size := by rw [wordEnd_pt (s := s) (k := 0) (by rw [ba_in h1]; exact .inl h2)]; exact h3
  have htk : tk sigs s 0 = ⟨0, 0, s, s.size, true⟩ := by
    unfold tk
    rw [if_pos h2, hw, extract_self, decide_eq_true (by omega)]
  rw [hsk, lxq_tok h1 (by rw [htk]), htk]
  dsimp only
  rw [skip_end (Nat.lt_irrefl _), lxq_end (Nat.lt_irrefl _)]
theorem word_lxq {s : ByteArray} {t : Tok} (h : lxq s (skip s false 0) = ([t], none)) (hk : t.kd = 0) (ht : t.t = s) : isW s = true := by
  have hge := skip_ge (s := s) _ 0 false (Nat.le_refl _) (Nat.zero_le _)
  rcases hr : skip s false 0 with ⟨r, ok⟩
  rw [hr] at h hge
  dsimp only at hge
  cases ok with
  | false => rw [lxq_wrong] at h; cases h
  | true =>
    rcases Nat.lt_or_ge r s.size with hlt | hlt
    · cases hok : (tk sigs s r).ok with
      | false => rw [lxq_bad hlt hok] at h; cases h
      | true =>
        have hgt := tk_gt hlt hok
        rw [lxq_tok hlt hok] at h
        injection h with h1 h2
        injection h1 with h3 h4
        subst h3
        dsimp only at hk ht
        unfold tk at hk ht hok hgt
        by_cases c1 : isLt (bt s r)
        · rw [if_pos c1] at hk ht hok hgt
          dsimp only at hk ht hok hgt
          have hsz := congrArg ByteArray.size ht
          rw [ByteArray.size_extract] at hsz
          obtain rfl : r = 0 := by omega
          have hw : wordEnd s 0 = wordEnd s 1 := wordEnd_pt (s := s) (k := 0) (by rw [ba_in hlt]; exact .inl c1)
          have := of_decide_eq_true hok
          exact decide_eq_true ⟨hlt, c1, by omega, by omega⟩
        · rw [if_neg c1] at hk
          split at hk
          · exact absurd (show (1 : Int) = 0 from hk) (by decide)
          · split at hk
            · exact absurd (show (2 : Int) = 0 from hk) (by decide)
            · exact absurd (show (3 : Int) = 0 from hk) (by decide)
    · obtain rfl : r = s.size := by omega
      rw [lxq_end (Nat.lt_irrefl _)] at h
      cases h
end Go.Proofs.YtbhbjlhobdoomaaDoor

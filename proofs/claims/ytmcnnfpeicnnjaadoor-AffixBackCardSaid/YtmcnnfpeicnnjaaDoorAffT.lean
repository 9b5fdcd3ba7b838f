/- affix: texts of lines; the example; AffixWrong. affix: the text of what was read is read as that (plain). affix: rules the same by their texts, pairs the same; the document's sameness. affix.Text; files by numbers; AffixBack. AffixBack. -/
import Derived.Test.YtmcnnfpeicnnjaaDoorAffF
import Derived.Test.YtmcnnfpeicnnjaaDoorPlace
import Derived.Test.YtmcnnfpeicnnjaaDoorRulG
namespace Go.Proofs.YtmcnnfpeicnnjaaDoor
open Go.RowKit Go.Deep Go.Own
set_option linter.unusedVariables false
def lnOk (l : List UInt8) : Prop := ∀ x ∈ l, x ≠ 10
def linesT : List (List UInt8) → List UInt8
  | [] => []
  | l :: t => l ++ 10 :: linesT t
theorem linesT_app : ∀ (a b : List (List UInt8)), linesT (a ++ b) = linesT a ++ linesT b
  | [], b => rfl
  | l :: t, b => by simp [linesT, linesT_app t b]
theorem cut_line : ∀ (l t : List UInt8), lnOk l → cutL 10 (l ++ 10 :: t) = l :: cutL 10 t
  | [], t, h => by simp [cutL]
  | x :: l, t, h => by
    have ih := cut_line l t (fun y hy => h y (List.mem_cons_of_mem _ hy))
    rw [List.cons_append, cutL, if_neg (h x List.mem_cons_self), ih]
    rfl
theorem cut_last : ∀ (l : List UInt8), lnOk l → cutL 10 l = [l]
  | [], h => rfl
  | x :: l, h => by
    have ih := cut_last l (fun y hy => h y (List.mem_cons_of_mem _ hy))
    rw [cutL, if_neg (h x List.mem_cons_self), ih]
    rfl
theorem cut_lines : ∀ (ls : List (List UInt8)) (w : List UInt8), (∀ l ∈ ls, lnOk l) → lnOk w → cutL 10 (linesT ls ++ w) = ls ++ [w]
  | [], w, h, hw => cut_last w hw
  | l :: t, w, h, hw => by
    have ih := cut_lines t w (fun y hy => h y (List.mem_cons_of_mem _ hy)) hw
    rw [linesT, List.append_assoc, List.cons_append, cut_line l _ (h l List.mem_cons_self), ih]
    rfl
theorem trim_none {l : List UInt8} (h : l.getLast? ≠ some 10) : Lib.trimSuffix l [10] = l := by
  unfold Lib.trimSuffix
  rw [if_neg]
  intro hs
  unfold Lib.hasSuffix at hs
  obtain ⟨t, rfl⟩ := List.isSuffixOf_iff_suffix.1 hs
  exact h (by simp)
theorem trim_one (l : List UInt8) : Lib.trimSuffix (l ++ [10]) [10] = l := by
  unfold Lib.trimSuffix
  rw [if_pos]
  · simp
  · unfold Lib.hasSuffix
    simp
theorem rows_last {s : ByteArray} (ls : List (List UInt8)) (w : List UInt8) (hs : s.data.toList = linesT ls ++ w) (h : ∀ l ∈ ls, lnOk l) (hw : lnOk w) (hne : w ≠ []) : rowsB s = (ls ++ [w]).map mkB := by
  unfold rowsB cutB trimN
  rw [mk_list, hs, trim_none, cut_lines ls w h hw]
  intro he
  rw [List.getLast?_append] at he
  cases hg : w.getLast? with
  | none => exact hne (List.getLast?_eq_none_iff.1 hg)
  | some x =>
    rw [hg] at he
    have hx : x = 10 := by simpa using he
    exact hw x (List.mem_of_getLast? hg) hx
theorem linesT_end : ∀ (ls : List (List UInt8)) (l : List UInt8), linesT (ls ++ [l]) = (linesT ls ++ l) ++ [10] := fun ls l => by
  rw [linesT_app]
  simp [linesT]
theorem rows_lines {s : ByteArray} (ls : List (List UInt8)) (hs : s.data.toList = linesT ls) (h : ∀ l ∈ ls, lnOk l) (hne : ls ≠ []) : rowsB s = ls.map mkB := by
  obtain ⟨a, l, rfl⟩ : ∃ a l, ls = a ++ [l] := ⟨ls.dropLast, ls.getLast hne, (List.dropLast_concat_getLast hne).symm⟩
  unfold rowsB cutB trimN
  rw [mk_list, hs, linesT_end, trim_one, cut_lines a l (fun x hx => h x (List.mem_append_left _ hx)) (h l (by simp))]
theorem aex1 : aFile ⟨#[]⟩ = ⟨[], [], 0, 0⟩ := by decide +kernel
theorem aex2 : (aFile ⟨#[83, 70, 88, 32, 83, 32, 89, 32, 48, 32, 115, 32, 46, 10, 67, 65, 83, 69, 32, 195, 150, 195, 182, 10]⟩).rules.length = 1 ∧ (aFile ⟨#[83, 70, 88, 32, 83, 32, 89, 32, 48, 32, 115, 32, 46, 10, 67, 65, 83, 69, 32, 195, 150, 195, 182, 10]⟩).pairs.length = 1 ∧ (aFile ⟨#[83, 70, 88, 32, 83, 32, 89, 32, 48, 32, 115, 32, 46, 10, 67, 65, 83, 69, 32, 195, 150, 195, 182, 10]⟩).err = 0 := by decide +kernel
theorem aex3 : aFile ⟨#[10, 104, 111, 112, 10]⟩ = ⟨[], [], 2, 5⟩ := by decide +kernel
theorem aparse_small (s : ByteArray) (a : AffR) (w : World) (hs : s.size ≤ 1000000000) (hT : TabsL w) (ha : aFile s = a) : Calls Tryd.prog 12 #[.string s] w (APost w a) := ha ▸ aparse_calls s w hs hT
set_option maxRecDepth 100000 in
set_option maxHeartbeats 8000000 in
theorem awake11_calls (w : World) (hT : TabsL w) : Calls Tryd.prog 13 #[] w fun e w' => e = .returned (.bool true) ∧ Below w.heap.size w w' := by
  have HT := Lib.hid hT
  have C1 := Lib.hid (aparse_small ⟨#[]⟩ _ w (by decide) hT aex1)
  unfold APost at C1
  have C2 := Lib.hid (fun w2 (hb : Below w.heap.size w w2) => aparse_calls ⟨#[83, 70, 88, 32, 83, 32, 89, 32, 48, 32, 115, 32, 46, 10, 67, 65, 83, 69, 32, 195, 150, 195, 182, 10]⟩ w2 (by decide) (HT.out.below hb))
  unfold APost at C2
  have C3 := Lib.hid (fun w2 (hb : Below w.heap.size w w2) => aparse_small ⟨#[10, 104, 111, 112, 10]⟩ _ w2 (by decide) (HT.out.below hb) aex3)
  unfold APost at C3
  obtain ⟨a2, ha2⟩ : ∃ a, a = aFile ⟨#[83, 70, 88, 32, 83, 32, 89, 32, 48, 32, 115, 32, 46, 10, 67, 65, 83, 69, 32, 195, 150, 195, 182, 10]⟩ := ⟨_, rfl⟩
  have hx := aex2
  rw [← ha2] at hx C2
  obtain ⟨h1, h2, h3⟩ := hx
  have H2 := Lib.hid (And.intro h1 (And.intro h2 h3))
  rw [h3] at C2
  clear hT ha2 h1 h2 h3
  go_enter Tryd.func13, Tryd.ntmps13
  go_wp2_with (fail)
  refine C1.out.mono ?_
  rintro e w1 ⟨⟨cs, rfl, g1⟩, b1⟩
  obtain ⟨A1, c1, B1x, d1, hcs, _⟩ := g1.out
  subst hcs
  obtain ⟨w2, hw2⟩ : ∃ w2, w2 = w1.alloc (.cells #[.slice A1 0 c1, .slice B1x 0 d1] 29) := ⟨_, rfl⟩
  obtain ⟨M, hM⟩ : ∃ M, M = w1.heap.size := ⟨_, rfl⟩
  have b2 : Below w1.heap.size w1 w2 := by rw [hw2]; exact (Below.refl _ _).alloc (Nat.le_refl _) _
  have m2 : w2.heap[M]? = some (.cells #[.slice A1 0 c1, .slice B1x 0 d1] 29 (0, 0)) := by rw [hw2, hM]; exact blk_alloc_new _ _
  have B2 := Lib.hid (b1.trans (b2.mono b1.size))
  have HM := Lib.hid (fun wx (hb : Below w2.heap.size w2 wx) => (hb.block _ (Array.getElem?_eq_some_iff.1 m2).1).trans m2)
  have HW2 := Lib.hid (And.intro hw2 hM)
  clear C1 b1 g1 hw2 hM b2 m2
  simp only [List.length_nil]
  go_upto_region 2 with (fail)
  rw [← HW2.out.1, ← HW2.out.2]
  clear HW2
  go_wp2_with (fail)
  refine (C2.out _ B2.out).mono ?_
  rintro e w3 ⟨⟨cs, rfl, g3⟩, b3⟩
  obtain ⟨A3, c3, B3x, d3, hcs, _⟩ := g3.out
  rw [H2.out.1, H2.out.2.1] at hcs
  subst hcs
  obtain ⟨w4, hw4⟩ : ∃ w4, w4 = w3.alloc (.cells #[.slice A3 1 c3, .slice B3x 1 d3] 29) := ⟨_, rfl⟩
  obtain ⟨N, hN⟩ : ∃ N, N = w3.heap.size := ⟨_, rfl⟩
  have b4 : Below w3.heap.size w3 w4 := by rw [hw4]; exact (Below.refl _ _).alloc (Nat.le_refl _) _
  have n4 : w4.heap[N]? = some (.cells #[.slice A3 1 c3, .slice B3x 1 d3] 29 (0, 0)) := by rw [hw4, hN]; exact blk_alloc_new _ _
  have B24 := Lib.hid (b3.trans (b4.mono b3.size))
  have B4 := Lib.hid (B2.out.trans (B24.out.mono B2.out.size))
  have HN := Lib.hid (fun wx (hb : Below w4.heap.size w4 wx) => (hb.block _ (Array.getElem?_eq_some_iff.1 n4).1).trans n4)
  have HW4 := Lib.hid (And.intro hw4 hN)
  clear C2 b3 g3 hw4 hN b4 n4 H2
  go_upto_region 3 with (fail)
  rw [← HW4.out.1, ← HW4.out.2]
  clear HW4
  go_wp2_with (fail)
  refine (C3.out _ B4.out).mono ?_
  rintro e w5 ⟨⟨cs, rfl, g5⟩, b5⟩
  obtain ⟨A5, c5, B5x, d5, hcs, _⟩ := g5.out
  subst hcs
  obtain ⟨w6, hw6⟩ : ∃ w6, w6 = w5.alloc (.cells #[.slice A5 0 c5, .slice B5x 0 d5] 29) := ⟨_, rfl⟩
  have b6 : Below w5.heap.size w5 w6 := by rw [hw6]; exact (Below.refl _ _).alloc (Nat.le_refl _) _
  have B46 := Lib.hid (b5.trans (b6.mono b5.size))
  have B6 := Lib.hid (B4.out.trans (B46.out.mono B4.out.size))
  obtain ⟨m0, m1⟩ := pcell2 (HM.out w6 (B24.out.trans (B46.out.mono B24.out.size)))
  obtain ⟨n0, n1⟩ := pcell2 (HN.out w6 B46.out)
  have HW6 := Lib.hid hw6
  clear C3 b5 g5 hw6 b6
  simp only [List.length_nil]
  go_upto_region 4 with (fail)
  rw [← HW6.out]
  go_wp2_with (fail)
  go_ret
  exact ⟨rfl, B6.out⟩
def awP (i : Nat) : List UInt8 := if i % 3 = 0 then [83, 70, 88, 32, 83, 32, 89, 32, 48, 32, 115, 32, 46] else if i % 3 = 1 then [] else [35, 32, 119, 111, 114, 100, 115]
def awL (n : Nat) : List (List UInt8) := (List.range n).map awP
def awT : Nat → ByteArray
  | 0 => ⟨#[]⟩
  | n + 1 => awT n ++ mkB (awP n ++ [10])
theorem awT_data : ∀ n, (awT n).data.toList = linesT (awL n)
  | 0 => rfl
  | n + 1 => by
    have ih := awT_data n
    have e : awL (n + 1) = awL n ++ [awP n] := by unfold awL; rw [List.range_succ, List.map_append]; rfl
    rw [e, linesT_end, awT, ByteArray.data_append, Array.toList_append, ih, mk_list, List.append_assoc]
theorem awP_ok (i : Nat) : lnOk (awP i) := by
  unfold awP lnOk
  split
  · decide
  · split <;> decide
theorem awL_ok (n : Nat) : ∀ l ∈ awL n, lnOk l := fun l hl => by
  unfold awL at hl
  obtain ⟨i, _, rfl⟩ := List.mem_map.1 hl
  exact awP_ok i
theorem awP_size (i : Nat) : (awP i).length ≤ 13 := by
  unfold awP
  split
  · decide
  · split <;> decide
theorem awT_size : ∀ n, (awT n).size ≤ 14 * n
  | 0 => by decide
  | n + 1 => by
    have ih := awT_size n
    have h := awP_size n
    rw [awT, ByteArray.size_append, mk_size, List.length_append, List.length_singleton]
    omega
def awS : RuP := (ruleV (mkB [83, 70, 88, 32, 83, 32, 89, 32, 48, 32, 115, 32, 46])).getD zeroR
def awQ : RuP := (ruleV (mkB [80, 70, 88, 32, 83, 32, 89, 32, 48, 32, 115, 32, 46])).getD zeroR
theorem aw_s : ruleV (mkB [83, 70, 88, 32, 83, 32, 89, 32, 48, 32, 115, 32, 46]) = some awS ∧ (mkB [83, 70, 88, 32, 83, 32, 89, 32, 48, 32, 115, 32, 46]).size ≠ 0 ∧ uB (mkB [83, 70, 88, 32, 83, 32, 89, 32, 48, 32, 115, 32, 46]) 0 ≠ 35 := by decide +kernel
theorem aw_q : ruleV (mkB [80, 70, 88, 32, 83, 32, 89, 32, 48, 32, 115, 32, 46]) = some awQ ∧ (mkB [80, 70, 88, 32, 83, 32, 89, 32, 48, 32, 115, 32, 46]).size ≠ 0 ∧ uB (mkB [80, 70, 88, 32, 83, 32, 89, 32, 48, 32, 115, 32, 46]) 0 ≠ 35 := by decide +kernel
theorem aw_hit : hitR awS awS = false ∧ hitR awQ awS = true := by decide +kernel
theorem aw_skip : uB (mkB [35, 32, 119, 111, 114, 100, 115]) 0 = 35 := by decide +kernel
theorem step_skip {f : FileP} {i : Nat} {s : ByteArray} (h : s.size = 0 ∨ uB s 0 = 35) : stepF f i s = f := if_pos h
theorem step_rule {f : FileP} {i : Nat} {s : ByteArray} {r : RuP} (h : ruleV s = some r) (h1 : s.size ≠ 0) (h2 : uB s 0 ≠ 35) : stepF f i s = ⟨f.rules ++ [r], f.pairs, f.rows ++ [(i : Int) + 1], f.bad⟩ := by
  unfold stepF
  rw [if_neg (fun e => e.elim h1 h2), h]
theorem step_pair {f : FileP} {i : Nat} {s : ByteArray} {p : Int × Int} (h : ruleV s = none) (hp : pairV f.pairs s = some p) (h1 : s.size ≠ 0) (h2 : uB s 0 ≠ 35) : stepF f i s = ⟨f.rules, f.pairs ++ [p], f.rows, f.bad⟩ := by
  unfold stepF
  rw [if_neg (fun e => e.elim h1 h2), h]
  simp only [hp]
theorem step_bad {f : FileP} {i : Nat} {s : ByteArray} (h : ruleV s = none) (hp : pairV f.pairs s = none) (h1 : s.size ≠ 0) (h2 : uB s 0 ≠ 35) : stepF f i s = ⟨f.rules, f.pairs, f.rows, if f.bad = 0 then i + 1 else f.bad⟩ := by
  unfold stepF
  rw [if_neg (fun e => e.elim h1 h2), h]
  simp only [hp]
/-- the lines ahead -/
theorem aw_fold : ∀ n, ∃ rr : List Int, rr.length = (n + 2) / 3 ∧ foldF zeroF 0 ((awL n).map mkB) = ⟨List.replicate ((n + 2) / 3) awS, [], rr, 0⟩
  | 0 => ⟨[], rfl, rfl⟩
  | n + 1 => by
    obtain ⟨rr, h1, h2⟩ := aw_fold n
    have e : awL (n + 1) = awL n ++ [awP n] := by unfold awL; rw [List.range_succ, List.map_append]; rfl
    rw [e, List.map_append, foldF_app, h2, Nat.zero_add]
    have hl : ((awL n).map mkB).length = n := by simp [awL]
    rw [hl]
    show ∃ rr : List Int, rr.length = (n + 1 + 2) / 3 ∧ stepF _ n (mkB (awP n)) = _
    have h3 : n % 3 = 0 ∨ n % 3 = 1 ∨ n % 3 = 2 := by omega
    rcases h3 with h3 | h3 | h3
    · have ep : awP n = [83, 70, 88, 32, 83, 32, 89, 32, 48, 32, 115, 32, 46] := if_pos h3
      rw [ep, step_rule aw_s.1 aw_s.2.1 aw_s.2.2]
      refine ⟨rr ++ [(n : Int) + 1], ?_, ?_⟩
      · rw [List.length_append, List.length_singleton, h1]; omega
      · rw [show (n + 1 + 2) / 3 = (n + 2) / 3 + 1 by omega, List.replicate_succ']
    · have ep : awP n = [] := by unfold awP; rw [if_neg (by omega), if_pos h3]
      rw [ep, step_skip (.inl rfl), show (n + 1 + 2) / 3 = (n + 2) / 3 by omega]
      exact ⟨rr, h1, rfl⟩
    · have ep : awP n = [35, 32, 119, 111, 114, 100, 115] := by unfold awP; rw [if_neg (by omega), if_neg (by omega)]
      rw [ep, step_skip (.inr aw_skip), show (n + 1 + 2) / 3 = (n + 2) / 3 by omega]
      exact ⟨rr, h1, rfl⟩
/-- a line that is none -/
structure NoneL (w : List UInt8) : Prop where
  rule : ruleV (mkB w) = none
  pair : pairV [] (mkB w) = none
  ne : (mkB w).size ≠ 0
  n35 : uB (mkB w) 0 ≠ 35
  ok : lnOk w
  len : w.length ≤ 20
theorem none_ne {w : List UInt8} (h : NoneL w) : w ≠ [] := fun e => h.ne (by rw [e]; rfl)
def hopL : List UInt8 := [104, 111, 112]
theorem aw_rows1 (n : Nat) (w : List UInt8) (h : lnOk w) (hne : w ≠ []) : rowsB (awT n ++ mkB w) = (awL n).map mkB ++ [mkB w] := by
  rw [rows_last (awL n) w (by rw [ByteArray.data_append, Array.toList_append, awT_data, mk_list]) (awL_ok n) h hne, List.map_append]
  rfl
theorem aw_rows2 (n : Nat) (w : List UInt8) (h : lnOk w) : rowsB (awT n ++ mkB w ++ mkB (10 :: hopL)) = (awL n).map mkB ++ [mkB w, mkB hopL] := by
  rw [rows_last (awL n ++ [w]) hopL (by
    rw [ByteArray.data_append, ByteArray.data_append, Array.toList_append, Array.toList_append, awT_data, mk_list, mk_list, linesT_app]
    simp [linesT]) (fun l hl => by
      rcases List.mem_append.1 hl with hl | hl
      · exact awL_ok n l hl
      · obtain rfl := List.mem_singleton.1 hl
        exact h) (by unfold lnOk hopL; decide) (by decide), List.map_append, List.map_append, List.append_assoc]
  rfl
theorem hop_none : NoneL hopL := ⟨by decide +kernel, by decide +kernel, by decide, by decide +kernel, by unfold lnOk; decide, by decide⟩
theorem aw_bad1 (n : Nat) (hn : n < 20) (w : List UInt8) (h : NoneL w) : aFile (awT n ++ mkB w) = ⟨[], [], (n : Int) + 1, 5⟩ := by
  obtain ⟨rr, h1, h2⟩ := aw_fold n
  have hz := awT_size n
  have hl := h.len
  have hw : ((awL n).map mkB).length = n := by simp [awL]
  unfold aFile fileV
  rw [if_neg (by rw [ByteArray.size_append, mk_size]; omega), aw_rows1 n w h.ok (none_ne h), foldF_app, h2, hw, Nat.zero_add]
  show doneV (stepF _ n (mkB w)) = _
  rw [step_bad h.rule h.pair h.ne h.n35]
  unfold doneV
  simp only [List.length_replicate, List.length_nil, if_true]
  rw [if_neg (by omega), if_pos (by omega)]
  rfl
theorem aw_bad2 (n : Nat) (hn : n < 20) (w : List UInt8) (h : NoneL w) : aFile (awT n ++ mkB w ++ mkB (10 :: hopL)) = ⟨[], [], (n : Int) + 1, 5⟩ := by
  obtain ⟨rr, h1, h2⟩ := aw_fold n
  have hz := awT_size n
  have hl := h.len
  have hw : ((awL n).map mkB).length = n := by simp [awL]
  unfold aFile fileV
  rw [if_neg (by rw [ByteArray.size_append, ByteArray.size_append, mk_size, mk_size]; show ¬ 65536 < (awT n).size + w.length + 4; omega), aw_rows2 n w h.ok, foldF_app, h2, hw, Nat.zero_add]
  show doneV (stepF (stepF _ n (mkB w)) (n + 1) (mkB hopL)) = _
  rw [step_bad h.rule h.pair h.ne h.n35, step_bad hop_none.rule hop_none.pair hop_none.ne hop_none.n35]
  unfold doneV
  simp only [List.length_replicate, List.length_nil, if_true]
  rw [if_neg (Nat.succ_ne_zero n), if_neg (by omega), if_pos (by omega)]
  rfl
theorem any_rep (m : Nat) (b : Bool) (p : RuP → Bool) (h : p awS = b) : (List.replicate m awS).any p = (decide (0 < m) && b) := by
  induction m with
  | zero => rfl
  | succ m ih =>
    rw [List.replicate_succ, List.any_cons, ih, h]
    cases b <;> simp
theorem clash_rep (m i : Nat) (hi : i < m) : clashV (List.replicate m awS ++ [awQ]) i = false := by
  unfold clashV
  rw [List.getElem?_append_left (by rw [List.length_replicate]; exact hi), List.getElem?_replicate, if_pos hi]
  simp only
  rw [List.take_append_of_le_length (by rw [List.length_replicate]; omega), List.take_replicate, any_rep _ false _ aw_hit.1]
  simp
theorem clash_last (m : Nat) : clashV (List.replicate m awS ++ [awQ]) m = decide (0 < m) := by
  unfold clashV
  rw [List.getElem?_append_right (by rw [List.length_replicate]; exact Nat.le_refl _), List.length_replicate, Nat.sub_self]
  simp only [List.getElem?_cons_zero]
  rw [List.take_append_of_le_length (by rw [List.length_replicate]; exact Nat.le_refl _), List.take_of_length_le (by rw [List.length_replicate]; exact Nat.le_refl _), any_rep _ true _ aw_hit.2]
  simp
theorem aw_last1 (n : Nat) (hn : n < 20) : (aFile (awT n ++ mkB [80, 70, 88, 32, 83, 32, 89, 32, 48, 32, 115, 32, 46])).err = (if n = 0 then 0 else 6) ∧ (aFile (awT n ++ mkB [80, 70, 88, 32, 83, 32, 89, 32, 48, 32, 115, 32, 46])).line = (if n = 0 then 0 else (n : Int) + 1) := by
  obtain ⟨rr, h1, h2⟩ := aw_fold n
  have hz := awT_size n
  have hw : ((awL n).map mkB).length = n := by simp [awL]
  unfold aFile fileV
  rw [if_neg (by rw [ByteArray.size_append, mk_size]; show ¬ 65536 < (awT n).size + 13; omega), aw_rows1 n [80, 70, 88, 32, 83, 32, 89, 32, 48, 32, 115, 32, 46] (by unfold lnOk; decide) (by decide), foldF_app, h2, hw, Nat.zero_add]
  show (doneV (stepF _ n (mkB [80, 70, 88, 32, 83, 32, 89, 32, 48, 32, 115, 32, 46]))).err = _ ∧ (doneV (stepF _ n (mkB [80, 70, 88, 32, 83, 32, 89, 32, 48, 32, 115, 32, 46]))).line = _
  rw [step_rule aw_q.1 aw_q.2.1 aw_q.2.2]
  unfold doneV
  simp only [List.length_append, List.length_replicate, List.length_nil, List.length_singleton]
  rw [if_neg (by omega), if_neg (by omega)]
  by_cases h0 : n = 0
  · subst h0
    have hb : bothV2 (List.replicate ((0 + 2) / 3) awS ++ [awQ]) (rr ++ [((0 : Nat) : Int) + 1]) = 0 := by
      unfold bothV2
      rw [find_none]
      intro i hi
      have hi' : i = 0 := by simp at hi; omega
      subst hi'
      exact clash_last 0
    rw [hb]
    exact ⟨rfl, rfl⟩
  · have hm : 0 < (n + 2) / 3 := by omega
    have hb : bothV2 (List.replicate ((n + 2) / 3) awS ++ [awQ]) (rr ++ [(n : Int) + 1]) = (n : Int) + 1 := by
      unfold bothV2
      rw [find_some (i := (n + 2) / 3) (by simp) (fun j hj => clash_rep _ j hj) (by rw [clash_last]; exact decide_eq_true hm)]
      simp only
      rw [List.getD_eq_getElem?_getD, List.getElem?_append_right (by rw [h1]; exact Nat.le_refl _), h1, Nat.sub_self]
      rfl
    rw [hb, if_pos (by omega), if_neg h0, if_neg h0]
    exact ⟨rfl, rfl⟩
theorem aw_last2 (n : Nat) (hn : n < 20) : aFile (awT n ++ mkB [80, 70, 88, 32, 83, 32, 89, 32, 48, 32, 115, 32, 46] ++ mkB (10 :: hopL)) = ⟨[], [], (n : Int) + 2, 5⟩ := by
  obtain ⟨rr, h1, h2⟩ := aw_fold n
  have hz := awT_size n
  have hw : ((awL n).map mkB).length = n := by simp [awL]
  unfold aFile fileV
  rw [if_neg (by rw [ByteArray.size_append, ByteArray.size_append, mk_size, mk_size]; show ¬ 65536 < (awT n).size + 13 + 4; omega), aw_rows2 n [80, 70, 88, 32, 83, 32, 89, 32, 48, 32, 115, 32, 46] (by unfold lnOk; decide), foldF_app, h2, hw, Nat.zero_add]
  show doneV (stepF (stepF _ n (mkB [80, 70, 88, 32, 83, 32, 89, 32, 48, 32, 115, 32, 46])) (n + 1) (mkB hopL)) = _
  rw [step_rule aw_q.1 aw_q.2.1 aw_q.2.2, step_bad hop_none.rule hop_none.pair hop_none.ne hop_none.n35]
  unfold doneV
  simp only [List.length_append, List.length_replicate, List.length_nil, List.length_singleton, if_true]
  rw [if_neg (by omega), if_pos (by omega)]
  simp only [AffR.mk.injEq, true_and, and_true]
  omega
def apA : Array Value := #[.string ⟨#[83, 70, 88, 32, 83, 32, 89, 32, 48, 32, 115, 32, 46, 10]⟩, .string ⟨#[10]⟩, .string ⟨#[35, 32, 119, 111, 114, 100, 115, 10]⟩]
set_option maxRecDepth 100000 in
theorem ap_index (j : Nat) : ∀ w : World, (Instr.index 23 (.agg apA) (.int .i64 ((j : Int) % 3))).run Tryd.prog w = .ok (.string (mkB (awP j ++ [10]))) w := by
  have h : j % 3 = 0 ∨ j % 3 = 1 ∨ j % 3 = 2 := by omega
  unfold awP
  rcases h with h | h | h
  · rw [show (j : Int) % 3 = 0 by omega, if_pos h]; exact fun w => by kernel_rfl
  · rw [show (j : Int) % 3 = 1 by omega, if_neg (by omega), if_pos h]; exact fun w => by kernel_rfl
  · rw [show (j : Int) % 3 = 2 by omega, if_neg (by omega), if_neg (by omega)]; exact fun w => by kernel_rfl
def awA : Array Value := #[.string ⟨#[104, 111, 112]⟩, .string ⟨#[83, 70, 88, 32, 83, 32, 89, 32, 48, 32, 115]⟩, .string ⟨#[83, 70, 88, 32, 83, 32, 89, 32, 48, 32, 115, 32, 46, 32, 46]⟩, .string ⟨#[83, 70, 88, 32, 49, 32, 89, 32, 48, 32, 115, 32, 46]⟩, .string ⟨#[83, 70, 88, 32, 83, 32, 88, 32, 48, 32, 115, 32, 46]⟩, .string ⟨#[83, 70, 88, 32, 83, 32, 89, 32, 32, 115, 32, 46]⟩, .string ⟨#[83, 70, 88, 32, 83, 32, 89, 32, 48, 32, 115, 32, 91]⟩, .string ⟨#[83, 70, 88, 32, 83, 32, 89, 32, 48, 32, 115, 32, 91, 93]⟩, .string ⟨#[67, 65, 83, 69, 32, 195, 137]⟩, .string ⟨#[67, 65, 83, 69, 32, 195, 137, 195, 137]⟩, .string ⟨#[67, 65, 83, 69, 32, 65, 195, 169]⟩, .string ⟨#[32, 83, 70, 88, 32, 83, 32, 89, 32, 48, 32, 115, 32, 46]⟩, .string ⟨#[80, 70, 88, 32, 83, 83, 32, 89, 32, 48, 32, 115, 32, 46]⟩, .string ⟨#[80, 70, 88, 32, 83, 32, 89, 32, 48, 32, 115, 32, 46]⟩]
set_option maxRecDepth 100000 in
theorem aw_index (i : Nat) (h : i < 13) : ∃ w0, NoneL w0 ∧ ∀ w : World, (Instr.index 24 (.agg awA) (.int .i64 (i : Nat))).run Tryd.prog w = .ok (.string (mkB w0)) w := by
  have h : i = 0 ∨ i = 1 ∨ i = 2 ∨ i = 3 ∨ i = 4 ∨ i = 5 ∨ i = 6 ∨ i = 7 ∨ i = 8 ∨ i = 9 ∨ i = 10 ∨ i = 11 ∨ i = 12 := by omega
  rcases h with rfl | rfl | rfl | rfl | rfl | rfl | rfl | rfl | rfl | rfl | rfl | rfl | rfl
  · exact ⟨[104, 111, 112], ⟨by decide +kernel, by decide +kernel, by decide, by decide +kernel, by unfold lnOk; decide, by decide⟩, fun w => by kernel_rfl⟩
  · exact ⟨[83, 70, 88, 32, 83, 32, 89, 32, 48, 32, 115], ⟨by decide +kernel, by decide +kernel, by decide, by decide +kernel, by unfold lnOk; decide, by decide⟩, fun w => by kernel_rfl⟩
  · exact ⟨[83, 70, 88, 32, 83, 32, 89, 32, 48, 32, 115, 32, 46, 32, 46], ⟨by decide +kernel, by decide +kernel, by decide, by decide +kernel, by unfold lnOk; decide, by decide⟩, fun w => by kernel_rfl⟩
  · exact ⟨[83, 70, 88, 32, 49, 32, 89, 32, 48, 32, 115, 32, 46], ⟨by decide +kernel, by decide +kernel, by decide, by decide +kernel, by unfold lnOk; decide, by decide⟩, fun w => by kernel_rfl⟩
  · exact ⟨[83, 70, 88, 32, 83, 32, 88, 32, 48, 32, 115, 32, 46], ⟨by decide +kernel, by decide +kernel, by decide, by decide +kernel, by unfold lnOk; decide, by decide⟩, fun w => by kernel_rfl⟩
  · exact ⟨[83, 70, 88, 32, 83, 32, 89, 32, 32, 115, 32, 46], ⟨by decide +kernel, by decide +kernel, by decide, by decide +kernel, by unfold lnOk; decide, by decide⟩, fun w => by kernel_rfl⟩
  · exact ⟨[83, 70, 88, 32, 83, 32, 89, 32, 48, 32, 115, 32, 91], ⟨by decide +kernel, by decide +kernel, by decide, by decide +kernel, by unfold lnOk; decide, by decide⟩, fun w => by kernel_rfl⟩
  · exact ⟨[83, 70, 88, 32, 83, 32, 89, 32, 48, 32, 115, 32, 91, 93], ⟨by decide +kernel, by decide +kernel, by decide, by decide +kernel, by unfold lnOk; decide, by decide⟩, fun w => by kernel_rfl⟩
  · exact ⟨[67, 65, 83, 69, 32, 195, 137], ⟨by decide +kernel, by decide +kernel, by decide, by decide +kernel, by unfold lnOk; decide, by decide⟩, fun w => by kernel_rfl⟩
  · exact ⟨[67, 65, 83, 69, 32, 195, 137, 195, 137], ⟨by decide +kernel, by decide +kernel, by decide, by decide +kernel, by unfold lnOk; decide, by decide⟩, fun w => by kernel_rfl⟩
  · exact ⟨[67, 65, 83, 69, 32, 65, 195, 169], ⟨by decide +kernel, by decide +kernel, by decide, by decide +kernel, by unfold lnOk; decide, by decide⟩, fun w => by kernel_rfl⟩
  · exact ⟨[32, 83, 70, 88, 32, 83, 32, 89, 32, 48, 32, 115, 32, 46], ⟨by decide +kernel, by decide +kernel, by decide, by decide +kernel, by unfold lnOk; decide, by decide⟩, fun w => by kernel_rfl⟩
  · exact ⟨[80, 70, 88, 32, 83, 83, 32, 89, 32, 48, 32, 115, 32, 46], ⟨by decide +kernel, by decide +kernel, by decide, by decide +kernel, by unfold lnOk; decide, by decide⟩, fun w => by kernel_rfl⟩
set_option maxRecDepth 100000 in
theorem aw_index13 : ∀ w : World, (Instr.index 24 (.agg awA) (.int .i64 13)).run Tryd.prog w = .ok (.string (mkB [80, 70, 88, 32, 83, 32, 89, 32, 48, 32, 115, 32, 46])) w := fun w => by kernel_rfl
end Go.Proofs.YtmcnnfpeicnnjaaDoor
namespace Go.Proofs.YtmcnnfpeicnnjaaDoor
open Go.RowKit Go.Deep Go.Own
set_option linter.unusedVariables false
theorem size_list0 (s : ByteArray) : s.data.toList.length = s.size := by simp
theorem list_snoc {α : Type} {P : List α → Prop} (nil : P []) (snoc : ∀ (l : List α) (a : α), P l → P (l ++ [a])) (l : List α) : P l := by
  have h : ∀ m : List α, P m.reverse := fun m => by
    induction m with
    | nil => exact nil
    | cons a m ih => rw [List.reverse_cons]; exact snoc _ _ ih
  have := h l.reverse
  rwa [List.reverse_reverse] at this
theorem aff_mem {w s : ByteArray} {P : UInt8 → Prop} (h : affV w = some s) (hw : ∀ x ∈ w.data.toList, P x) : ∀ x ∈ s.data.toList, P x := by
  unfold affV at h
  split at h
  · cases h
    intro x hx
    cases hx
  · split at h
    · cases h
      exact hw
    · cases h
theorem cond_no10 {f : ByteArray} {l : List ItP} (h : condV f = some l) (hf : lnOk f.data.toList) : ∀ x ∈ l, ∀ c ∈ x.set, c ≠ 10 := by
  unfold condV at h
  have h4 := parseC_sub 10 [] _ l (fun c => c ≠ 10) f.size h (fun x hx => absurd hx List.not_mem_nil) (fun c hc e => by
    subst e
    exact hf 10 ((byte_code (x := 10) (by decide)).2 hc) rfl) (codes_count f)
  exact fun x hx => (h4 x hx).1
theorem text_no10 {l : List ItP} (h : ∀ x ∈ l, ValI x) (h2 : ∀ x ∈ l, ∀ c ∈ x.set, c ≠ 10) : lnOk (textIs l) := by
  intro x hx e
  subst e
  have h3 : (10 : UInt8) ∈ (mkB (textIs l)).data.toList := by rw [mk_list]; exact hx
  have h4 := (byte_code (x := 10) (by decide)).1 h3
  rw [codes_textIs h] at h4
  obtain ⟨y, hy, hcy⟩ := List.mem_flatMap.1 h4
  unfold itemC at hcy
  have h5 := h2 y hy 10
  split at hcy
  · simp at hcy
  · split at hcy
    · simp at hcy; exact h5 hcy rfl
    · split at hcy
      · exact h5 hcy rfl
      · simp at hcy; exact h5 hcy rfl
theorem or0_ok {s : ByteArray} (h : lnOk s.data.toList) : lnOk (or0 s).data.toList := by
  unfold or0
  split
  · unfold lnOk; decide
  · exact h
theorem lnOk_app {a b : List UInt8} (ha : lnOk a) (hb : lnOk b) : lnOk (a ++ b) := fun x hx => (List.mem_append.1 hx).elim (ha x) (hb x)
theorem lnOk_cons {a : UInt8} {b : List UInt8} (ha : a ≠ 10) (hb : lnOk b) : lnOk (a :: b) := fun x hx => by
  rcases List.mem_cons.1 hx with rfl | hx
  · exact ha
  · exact hb x hx
/-- a rule as it was read of a line -/
structure GoodR (r : RuP) : Prop where
  fit : FitR r
  ok : lnOk (lineT r).data.toList
theorem line_first (r : RuP) : (lineT r).size ≠ 0 ∧ uB (lineT r) 0 ≠ 35 := by
  have h : ∃ t, (lineT r).data.toList = (if r.pfx = true then 80 else 83) :: t := by
    rw [lnT, mk_list]
    unfold lnP
    cases r.pfx
    · exact ⟨_, rfl⟩
    · exact ⟨_, rfl⟩
  obtain ⟨t, h⟩ := h
  constructor
  · intro e
    have := size_list0 (lineT r)
    rw [h, e] at this
    simp at this
  · rw [uB_list, h]
    cases r.pfx <;> simp
theorem rule_good {x : ByteArray} {r : RuP} (h : ruleV x = some r) (hx : lnOk x.data.toList) (hs : x.size ≤ 1000) : GoodR r ∧ (lineT r).size ≤ 84 + 32 * x.size := by
  have hf := fit_read h hs
  have hv := hf.val
  have hb : ∃ a b c d e f, cutB 32 x = [a, b, c, d, e, f] ∧ affV d = some r.strip ∧ affV e = some r.add ∧ condV f = some r.cond := by
    unfold ruleV at h
    split at h
    · rename_i a b c d e f hc
      unfold fieldsV at h
      split at h
      · cases hd : affV d with
        | none => rw [hd] at h; cases h
        | some s1 =>
          cases he : affV e with
          | none => rw [hd, he] at h; cases h
          | some s2 =>
            cases hcf : condV f with
            | none => rw [hd, he, hcf] at h; cases h
            | some l =>
              rw [hd, he, hcf] at h
              cases h
              exact ⟨a, b, c, d, e, f, hc, hd, he, hcf⟩
      · cases h
    · cases h
  obtain ⟨a, b, c, d, e, f, hc, hd, he, hcf⟩ := hb
  have hm : ∀ p ∈ [a, b, c, d, e, f], lnOk p.data.toList := fun p hp => by
    have hp2 : p ∈ cutB 32 x := by rw [hc]; exact hp
    unfold cutB at hp2
    obtain ⟨l, hl, rfl⟩ := List.mem_map.1 hp2
    rw [mk_list]
    exact fun y hy => hx y (cutL_mem hl y hy).2
  have hz : f.size ≤ x.size := cutB_size (c := 32) (by rw [hc]; simp)
  obtain ⟨c1, c2, c3, c4⟩ := cond_read hcf
  have htx := condT_val hv.cond hv.ne hv.len
  refine ⟨⟨hf, ?_⟩, ?_⟩
  · rw [lnT, mk_list, htx, mk_list]
    have hu := let_byte hv.flag
    have o1 : lnOk (lnP r.pfx).data.toList := by unfold lnP lnOk; cases r.pfx <;> decide
    have o2 : lnOk (⟨#[r.flag.toUInt8]⟩ : ByteArray).data.toList := fun y hy e => by
      obtain rfl := List.mem_singleton.1 (show y ∈ [r.flag.toUInt8] from hy)
      have h1 := hu.2.2
      rw [e] at h1
      have h2 := hv.flag
      unfold letU at h2
      simp at h2
      have h3 : (10 : UInt8).toNat = 10 := rfl
      omega
    have o3 : lnOk (lnX r.cross).data.toList := by unfold lnX lnOk; cases r.cross <;> decide
    have o4 := or0_ok (aff_mem hd (hm d (by simp)))
    have o5 := or0_ok (aff_mem he (hm e (by simp)))
    have o6 := text_no10 hv.cond (cond_no10 hcf (hm f (by simp)))
    exact lnOk_app o1 (lnOk_cons (by decide) (lnOk_app o2 (lnOk_cons (by decide) (lnOk_app o3 (lnOk_cons (by decide) (lnOk_app o4 (lnOk_cons (by decide) (lnOk_app o5 (lnOk_cons (by decide) o6)))))))))
  · rw [lnT, mk_size, htx]
    have hz0 : ∀ s : ByteArray, s.data.toList.length = s.size := fun s => by simp
    simp only [List.length_append, List.length_cons, List.length_nil, hz0]
    have e1 : (lnP r.pfx).size = 3 := by cases r.pfx <;> rfl
    have e2 : (lnX r.cross).size = 1 := by cases r.cross <;> rfl
    have e4 : ∀ s : ByteArray, s.size ≤ 20 → (or0 s).size ≤ 20 := fun s h => by unfold or0; split <;> first | exact h | decide
    have h1 := e4 r.strip hf.strip
    have h2 := e4 r.add hf.add
    have h3 := text_small f.size r.cond (fun y hy => c4 y hy)
    have h5 : r.cond.length * (4 * f.size + 3) ≤ 8 * (4 * f.size + 3) := Nat.mul_le_mul_right _ c3
    have h4 : (mkB (textIs r.cond)).size = (textIs r.cond).length := mk_size _
    omega
/-- a pair's line -/
def plL (p : Int × Int) : List UInt8 := [67, 65, 83, 69, 32] ++ (enc p.1).data.toList ++ (enc p.2).data.toList
theorem pair_line {ps : List (Int × Int)} {x : ByteArray} {p : Int × Int} (h : pairV ps x = some p) : x = mkB (plL p) ∧ ValidC p.1 ∧ ValidC p.2 := by
  unfold pairV at h
  split at h
  · rename_i hc
    obtain ⟨h1, h2⟩ := hc
    obtain ⟨t, ht⟩ : ∃ t, t = cutP x caseB := ⟨_, rfl⟩
    rw [← ht] at h h2
    have hcs : codes t = [p.1, p.2] := by
      unfold codesV at h
      split at h
      · rename_i a b e
        split at h
        · cases h
        · cases h; exact e
      · cases h
    have hv : ∀ c ∈ codes t, ValidC c := fun c hc => by
      have h3 : decide (0 ≤ c) = true := by
        rw [all_codes] at h2
        exact List.all_eq_true.1 h2 c hc
      exact codes_val t t.size 0 c hc (of_decide_eq_true h3)
    have v1 := hv p.1 (by rw [hcs]; simp)
    have v2 := hv p.2 (by rw [hcs]; simp)
    have ht2 : t = mkB (bytesC [p.1, p.2]) := codes_inj (by
      rw [hcs]
      exact ((codes_bytesC [p.1, p.2] (fun c hc => by
        rcases List.mem_cons.1 hc with rfl | hc
        · exact v1
        · obtain rfl := List.mem_singleton.1 hc; exact v2)).1).symm)
    have hx : x.data.toList = caseB.data.toList ++ t.data.toList := by
      have h4 : Lib.trimPrefix x.data.toList caseB.data.toList = x.data.toList.drop caseB.data.toList.length := by
        unfold Lib.trimPrefix
        exact if_pos h1
      have h5 : t.data.toList = x.data.toList.drop caseB.data.toList.length := by
        rw [ht]
        unfold cutP
        rw [h4]
      have h6 : caseB.data.toList <+: x.data.toList := List.isPrefixOf_iff_prefix.1 h1
      obtain ⟨u, hu⟩ := h6
      rw [h5, ← hu]
      simp
    refine ⟨?_, v1, v2⟩
    have : x = mkB x.data.toList := (mk_data x).symm
    rw [this, hx, ht2, mk_list]
    unfold plL bytesC
    simp only [List.flatMap_cons, List.flatMap_nil, List.append_nil]
    rfl
  · cases h
theorem sum_cut (c : UInt8) : ∀ l : List UInt8, ((cutL c l).map List.length).sum ≤ l.length
  | [] => by simp [cutL]
  | x :: t => by
    have ih := sum_cut c t
    unfold cutL
    split
    · simp; omega
    · cases h : cutL c t with
      | nil => exact absurd h (cutL_ne c t)
      | cons a r => rw [h] at ih; simp [consH] at *; omega
/-- weights -/
def wtL (ls : List ByteArray) : Nat := (ls.map fun x => 90 + 32 * x.size).sum
structure GoodF (f : FileP) (N : Nat) : Prop where
  rules : ∀ r ∈ f.rules, GoodR r
  pairs : ∀ i p, f.pairs[i]? = some p → pairV (f.pairs.take i) (mkB (plL p)) = some p ∧ ruleV (mkB (plL p)) = none ∧ lnOk (plL p) ∧ (mkB (plL p)).size ≠ 0 ∧ uB (mkB (plL p)) 0 ≠ 35
  rows : ∀ y ∈ f.rows, 0 < y
  wt : (f.rules.map fun r => (lineT r).size + 1).sum + (f.pairs.map fun p => (plL p).length + 1).sum ≤ N
theorem GoodF.step {f : FileP} {N i : Nat} {x : ByteArray} (h : GoodF f N) (hx : lnOk x.data.toList) (hs : x.size ≤ 1000) : GoodF (stepF f i x) (N + (90 + 32 * x.size)) := by
  unfold stepF
  split
  · exact ⟨h.rules, h.pairs, h.rows, by have := h.wt; omega⟩
  · rename_i hne
    cases hr : ruleV x with
    | some r =>
      obtain ⟨g1, g2⟩ := rule_good hr hx hs
      refine ⟨fun y hy => ?_, h.pairs, fun y hy => ?_, ?_⟩
      · rcases List.mem_append.1 hy with hy | hy
        · exact h.rules y hy
        · obtain rfl := List.mem_singleton.1 hy; exact g1
      · rcases List.mem_append.1 hy with hy | hy
        · exact h.rows y hy
        · obtain rfl := List.mem_singleton.1 hy; omega
      · have := h.wt
        simp only [List.map_append, List.map_cons, List.map_nil, List.sum_append, List.sum_cons, List.sum_nil]
        omega
    | none =>
      simp only
      cases hp : pairV f.pairs x with
      | some p =>
        obtain ⟨e, _, _⟩ := pair_line hp
        refine ⟨h.rules, fun j q hj => ?_, h.rows, ?_⟩
        · by_cases hl : j < f.pairs.length
          · simp only at hj ⊢
            rw [List.getElem?_append_left hl] at hj
            rw [List.take_append_of_le_length (by omega)]
            exact h.pairs j q hj
          · simp only at hj ⊢
            have hlt := (List.getElem?_eq_some_iff.1 hj).1
            rw [List.length_append, List.length_singleton] at hlt
            obtain rfl : j = f.pairs.length := by omega
            rw [List.getElem?_append_right (Nat.le_refl _), Nat.sub_self] at hj
            obtain rfl : p = q := by simpa using hj
            rw [List.take_append_of_le_length (Nat.le_refl _), List.take_length, ← e]
            refine ⟨hp, hr, ?_, fun e0 => hne (.inl e0), fun e0 => hne (.inr e0)⟩
            have : (mkB (plL p)).data.toList = plL p := mk_list _
            rw [← this, ← e]
            exact hx
        · have := h.wt
          have hz : (plL p).length = x.size := by rw [e, mk_size]
          simp only [List.map_append, List.map_cons, List.map_nil, List.sum_append, List.sum_cons, List.sum_nil]
          omega
      | none => exact ⟨h.rules, h.pairs, h.rows, by have := h.wt; simp only; omega⟩
theorem GoodF.fold : ∀ (ls : List ByteArray) {f : FileP} {N i : Nat}, GoodF f N → (∀ x ∈ ls, lnOk x.data.toList ∧ x.size ≤ 1000) → GoodF (foldF f i ls) (N + wtL ls)
  | [], f, N, i, h, hl => h
  | x :: t, f, N, i, h, hl => by
    have h1 := hl x List.mem_cons_self
    have := GoodF.fold t (i := i + 1) (h.step (i := i) h1.1 h1.2) (fun y hy => hl y (List.mem_cons_of_mem _ hy))
    rw [foldF]
    unfold wtL at *
    rw [List.map_cons, List.sum_cons, ← Nat.add_assoc]
    exact this
theorem GoodF.zero : GoodF zeroF 0 := ⟨fun r hr => absurd hr List.not_mem_nil, fun i p h => by simp [zeroF] at h, fun y hy => absurd hy List.not_mem_nil, Nat.le_refl _⟩
theorem wt_rows (s : ByteArray) : wtL (rowsB s) ≤ 90 * (s.size + 1) + 32 * s.size := by
  have h1 := cutB_len 10 (trimN s)
  have h2 := trimN_size s
  have h3 := sum_cut 10 (trimN s).data.toList
  have h4 := size_list0 (trimN s)
  unfold rowsB wtL
  have key : ∀ ls : List (List UInt8), ((ls.map mkB).map fun x => 90 + 32 * x.size).sum = 90 * ls.length + 32 * (ls.map List.length).sum := fun ls => by
    induction ls with
    | nil => rfl
    | cons a t ih => simp only [List.map_cons, List.sum_cons, List.length_cons, ih, mk_size]; omega
  have h5 : (cutB 10 (trimN s)).length = (cutL 10 (trimN s).data.toList).length := by unfold cutB; rw [List.length_map]
  show ((cutB 10 (trimN s)).map fun x => 90 + 32 * x.size).sum ≤ _
  unfold cutB at *
  rw [key]
  omega
theorem good_file {s : ByteArray} (hs : s.size ≤ 400) : GoodF (fileV s) 50000 := by
  have h := GoodF.fold (rowsB s) (i := 0) GoodF.zero (fun x hx => by
    have hz := cutB_size (c := 10) hx
    have hz2 := trimN_size s
    refine ⟨?_, by omega⟩
    unfold rowsB cutB at hx
    obtain ⟨l, hl, rfl⟩ := List.mem_map.1 hx
    rw [mk_list]
    exact fun y hy => (cutL_mem hl y hy).1)
  have hw := wt_rows s
  exact ⟨h.rules, h.pairs, h.rows, by have := h.wt; unfold fileV; omega⟩
/-- what is written -/
def aLines (rs : List RuP) (ps : List (Int × Int)) : List (List UInt8) := rs.map (fun r => (lineT r).data.toList) ++ ps.map plL
def aText (rs : List RuP) (ps : List (Int × Int)) : ByteArray := mkB (linesT (aLines rs ps))
theorem linesT_sum : ∀ ls : List (List UInt8), (linesT ls).length = (ls.map fun l => l.length + 1).sum
  | [] => rfl
  | l :: t => by
    rw [linesT, List.length_append, List.length_cons, linesT_sum t, List.map_cons, List.sum_cons]
    omega
theorem aText_size {f : FileP} {N : Nat} (h : GoodF f N) : (aText f.rules f.pairs).size ≤ N := by
  unfold aText
  rw [mk_size, linesT_sum]
  unfold aLines
  rw [List.map_append, List.map_map, List.map_map, List.sum_append]
  have hw := h.wt
  have e : ((fun l : List UInt8 => l.length + 1) ∘ fun r : RuP => (lineT r).data.toList) = fun r => (lineT r).size + 1 := by
    funext r
    show (lineT r).data.toList.length + 1 = _
    rw [size_list0]
  rw [e]
  exact hw
theorem fold_rules : ∀ (rs : List RuP), (∀ r ∈ rs, GoodR r) → ∃ rr : List Int, rr.length = rs.length ∧ foldF zeroF 0 (rs.map lineT) = ⟨rs, [], rr, 0⟩ := by
  intro rs
  induction rs using list_snoc with
  | nil => exact fun _ => ⟨[], rfl, rfl⟩
  | snoc rs r ih =>
    intro h
    obtain ⟨rr, h1, h2⟩ := ih (fun y hy => h y (List.mem_append_left _ hy))
    have hg := h r (List.mem_append_right _ (List.mem_singleton.2 rfl))
    have hf := line_first r
    have e := step_rule (f := ⟨rs, [], rr, 0⟩) (i := 0 + (rs.map lineT).length) (ruleT_val hg.fit.val).2.1 hf.1 hf.2
    rw [List.map_append, foldF_app, h2]
    refine ⟨rr ++ [(((0 + (rs.map lineT).length : Nat) : Int) + 1)], by simp [h1], ?_⟩
    exact e
theorem fold_pairs (rs : List RuP) (rr : List Int) (i : Nat) : ∀ (ps : List (Int × Int)), (∀ j p, ps[j]? = some p → pairV (ps.take j) (mkB (plL p)) = some p ∧ ruleV (mkB (plL p)) = none ∧ lnOk (plL p) ∧ (mkB (plL p)).size ≠ 0 ∧ uB (mkB (plL p)) 0 ≠ 35) → foldF ⟨rs, [], rr, 0⟩ i (ps.map fun p => mkB (plL p)) = ⟨rs, ps, rr, 0⟩ := by
  intro ps
  induction ps using list_snoc with
  | nil => exact fun _ => rfl
  | snoc ps p ih =>
    intro h
    have h2 := ih (fun j q hj => by
      have hl := (List.getElem?_eq_some_iff.1 hj).1
      have := h j q (by rw [List.getElem?_append_left hl]; exact hj)
      rw [List.take_append_of_le_length (by omega)] at this
      exact this)
    have hp := h ps.length p (by rw [List.getElem?_append_right (Nat.le_refl _), Nat.sub_self]; rfl)
    rw [List.take_append_of_le_length (Nat.le_refl _), List.take_length] at hp
    rw [List.map_append, foldF_app, h2]
    exact step_pair (f := ⟨rs, ps, rr, 0⟩) hp.2.1 hp.1 hp.2.2.2.1 hp.2.2.2.2
/-- WHAT IS WRITTEN IS READ AS THAT -/
theorem aText_read {f : FileP} (h : GoodF f 50000) (hi : f.rows.length = f.rules.length) (hd : doneV f = ⟨f.rules, f.pairs, 0, 0⟩) : aFile (aText f.rules f.pairs) = ⟨f.rules, f.pairs, 0, 0⟩ := by
  have hz := aText_size h
  unfold doneV at hd
  split at hd
  · injection hd with _ _ _ h4; exact absurd h4 (by decide)
  · rename_i hlen
    split at hd
    · injection hd with _ _ _ h4; exact absurd h4 (by decide)
    · split at hd
      · injection hd with _ _ _ h4; exact absurd h4 (by decide)
      · rename_i hb
        have hno : ∀ i, i < f.rules.length → clashV f.rules i = false := by
          apply Classical.byContradiction
          intro hc
          obtain ⟨i, hi2⟩ := Classical.not_forall.1 hc
          obtain ⟨hl, hcl⟩ := Classical.not_imp.1 hi2
          cases hf : (List.range f.rules.length).find? (clashV f.rules) with
          | none =>
            have := List.find?_eq_none.1 hf i (List.mem_range.2 hl)
            exact hcl (by simpa using this)
          | some j =>
            have hj := List.mem_range.1 (List.mem_of_find?_eq_some hf)
            apply hb
            unfold bothV2
            rw [hf]
            show 0 < f.rows.getD j 0
            rw [List.getD_eq_getElem?_getD, List.getElem?_eq_getElem (by omega)]
            exact h.rows _ (List.getElem_mem _)
        obtain ⟨rr, h1, h2⟩ := fold_rules f.rules h.rules
        have h3 := fold_pairs f.rules rr (0 + (f.rules.map lineT).length) f.pairs h.pairs
        unfold aFile
        rw [if_neg (by omega)]
        by_cases hne : aLines f.rules f.pairs = []
        · have e1 : f.rules = [] := by unfold aLines at hne; simpa using (List.append_eq_nil_iff.1 hne).1
          have e2 : f.pairs = [] := by unfold aLines at hne; simpa using (List.append_eq_nil_iff.1 hne).2
          rw [e1, e2]
          decide +kernel
        · have hr : rowsB (aText f.rules f.pairs) = (aLines f.rules f.pairs).map mkB := rows_lines _ (by unfold aText; rw [mk_list]) (fun l hl => by
            unfold aLines at hl
            rcases List.mem_append.1 hl with hl | hl
            · obtain ⟨r, hr, rfl⟩ := List.mem_map.1 hl
              exact (h.rules r hr).ok
            · obtain ⟨p, hp, rfl⟩ := List.mem_map.1 hl
              obtain ⟨j, hj⟩ := List.mem_iff_getElem?.1 hp
              exact (h.pairs j p hj).2.2.1) hne
          have e3 : (aLines f.rules f.pairs).map mkB = f.rules.map lineT ++ f.pairs.map fun p => mkB (plL p) := by
            unfold aLines
            rw [List.map_append, List.map_map, List.map_map]
            rfl
          unfold fileV
          rw [hr, e3, foldF_app, h2, h3]
          unfold doneV
          simp only
          rw [if_neg hlen, if_neg (by decide), if_neg]
          unfold bothV2
          rw [find_none hno]
          exact Int.lt_irrefl 0
end Go.Proofs.YtmcnnfpeicnnjaaDoor
namespace Go.Proofs.YtmcnnfpeicnnjaaDoor
open Go.RowKit Go.Deep Go.Own
set_option linter.unusedVariables false
set_option maxRecDepth 100000 in
set_option maxHeartbeats 16000000 in
theorem tsame_calls (r : RuP) (es fs : Array Value) (w : World) (ha : GotR w es r) (hb : GotR w fs r) (hf : FitR r) (hT : TabsL w) : Calls Tryd.prog 47 #[.agg es, .agg fs] w fun e w' => e = .returned (.bool true) ∧ Below w.heap.size w w' := by
  obtain ⟨A, c, hcs, hi⟩ := ha.out
  obtain ⟨B, d, hds, hj⟩ := hb.out
  obtain ⟨M, hM⟩ : ∃ M, M = w.heap.size := ⟨_, rfl⟩
  obtain ⟨w1, hw1⟩ : ∃ w1, w1 = w.alloc (.cells es 47) := ⟨_, rfl⟩
  have b1 : Below w.heap.size w w1 := by rw [hw1]; exact (Below.refl _ _).alloc (Nat.le_refl _) _
  have m1 : w1.heap[M]? = some (.cells es 47 (0, 0)) := by rw [hw1, hM]; exact blk_alloc_new _ _
  obtain ⟨N, hN⟩ : ∃ N, N = w1.heap.size := ⟨_, rfl⟩
  obtain ⟨w2, hw2⟩ : ∃ w2, w2 = w1.alloc (.cells fs 47) := ⟨_, rfl⟩
  have b2 : Below w1.heap.size w1 w2 := by rw [hw2]; exact (Below.refl _ _).alloc (Nat.le_refl _) _
  have hm := (b2.block _ (Array.getElem?_eq_some_iff.1 m1).1).trans m1
  have hn2 : w2.heap[N]? = some (.cells fs 47 (0, 0)) := by rw [hw2, hN]; exact blk_alloc_new _ _
  have B2 := Lib.hid (b1.trans (b2.mono b1.size))
  have CA := Lib.hid (fun wx (hx : Below w2.heap.size w2 wx) => rtext_calls r es wx (((ha.below b1).below b2).below hx) hf ((hT.below B2.out).below hx))
  have CB := Lib.hid (fun wx (hx : Below w2.heap.size w2 wx) => rtext_calls r fs wx (((hb.below b1).below b2).below hx) hf ((hT.below B2.out).below hx))
  obtain ⟨L, hL⟩ : ∃ L, L = lineT r := ⟨_, rfl⟩
  rw [← hL] at CA CB
  have HW1 := Lib.hid (And.intro hw1 hM)
  have HW2 := Lib.hid (And.intro hw2 (show N = M + 1 by rw [hN, hw1, hM]; exact Array.size_push _))
  subst hcs hds
  obtain ⟨k, hk⟩ : ∃ k, k = r.cond.length := ⟨_, rfl⟩
  rw [← hk] at CA CB HW1 HW2 hm hn2
  rw [← hk]
  obtain ⟨pf, u, cr, st, ad, cd⟩ := r
  simp only at HW1 HW2 hm hn2 CA CB ⊢
  have HM := Lib.hid (fun wx (hx : Below w2.heap.size w2 wx) => (hx.block _ (Array.getElem?_eq_some_iff.1 hm).1).trans hm)
  have HN := Lib.hid (fun wx (hx : Below w2.heap.size w2 wx) => (hx.block _ (Array.getElem?_eq_some_iff.1 hn2).1).trans hn2)
  obtain ⟨m0, mm1, m2, m3, m4, m5⟩ := cell6_of hm
  obtain ⟨n0, n1, n2, n3, n4, n5⟩ := cell6_of hn2
  clear ha hb hf hT hi hj b1 m1 hw1 hM hw2 hN b2 hk hm hn2 hL
  go_enter Tryd.func47, Tryd.ntmps47
  go_upto_region 1 with (fail)
  rw [← HW1.out.1, ← HW1.out.2, ← HW2.out.1, ← HW2.out.2]
  clear HW1 HW2
  have BD := Lib.hid (show Below w2.heap.size w2 w2.drew from (Below.refl _ _).drew)
  refine Own.region_mix (CR [0, 2] [(0, ⟨M, 0, none⟩, .bool pf), (0, ⟨M, 1, none⟩, .int .i64 (u : Nat)), (0, ⟨M, 2, none⟩, .bool cr), (0, ⟨M, 3, none⟩, .string st), (0, ⟨M, 4, none⟩, .string ad), (0, ⟨M, 5, none⟩, .slice A k c), (2, ⟨N, 0, none⟩, .bool pf), (2, ⟨N, 1, none⟩, .int .i64 (u : Nat)), (2, ⟨N, 2, none⟩, .bool cr), (2, ⟨N, 3, none⟩, .string st), (2, ⟨N, 4, none⟩, .string ad), (2, ⟨N, 5, none⟩, .slice B k d)]) [0, 2] [0, 1, 0, 7, 15, 31] (Own.Ord.run [(0, true), (2, true), (1, false), (3, false), (4, true), (5, true)] .done) (by kernel_rfl) (by kernel_rfl) (fun dst v c a w h => by cases dst <;> exact h) (fun x hx w => CR.off x hx w) ?_
  simp only [Own.Ord.run]
  refine Own.st_load _ rfl rfl (.agg #[.bool pf, .int .i64 (u : Nat), .bool cr, .string st, .string ad, .slice A k c]) (fun w' hw' => ?_) ?_ ?_
  · have hg0 := hw'.get (a := ⟨M, 0, none⟩) (v := .bool pf) (by decide) (by simp)
    have hg1 := hw'.get (a := ⟨M, 1, none⟩) (v := .int .i64 (u : Nat)) (by decide) (by simp)
    have hg2 := hw'.get (a := ⟨M, 2, none⟩) (v := .bool cr) (by decide) (by simp)
    have hg3 := hw'.get (a := ⟨M, 3, none⟩) (v := .string st) (by decide) (by simp)
    have hg4 := hw'.get (a := ⟨M, 4, none⟩) (v := .string ad) (by decide) (by simp)
    have hg5 := hw'.get (a := ⟨M, 5, none⟩) (v := .slice A k c) (by decide) (by simp)
    go_simp
  · intro _ q hq e; simp only [List.mem_cons, List.mem_nil_iff, or_false] at hq; rcases hq with rfl | rfl | rfl | rfl | rfl | rfl | rfl | rfl | rfl | rfl | rfl | rfl <;> first | assumption | (simp at e; done) | (go_simp; done) | (simp; done)
  simp only [Act.put, List.setIfInBounds_toArray, List.set_cons_succ, List.set_cons_zero]
  refine Own.st_load _ rfl rfl (.agg #[.bool pf, .int .i64 (u : Nat), .bool cr, .string st, .string ad, .slice B k d]) (fun w' hw' => ?_) ?_ ?_
  · have hg0 := hw'.get (a := ⟨N, 0, none⟩) (v := .bool pf) (by decide) (by simp)
    have hg1 := hw'.get (a := ⟨N, 1, none⟩) (v := .int .i64 (u : Nat)) (by decide) (by simp)
    have hg2 := hw'.get (a := ⟨N, 2, none⟩) (v := .bool cr) (by decide) (by simp)
    have hg3 := hw'.get (a := ⟨N, 3, none⟩) (v := .string st) (by decide) (by simp)
    have hg4 := hw'.get (a := ⟨N, 4, none⟩) (v := .string ad) (by decide) (by simp)
    have hg5 := hw'.get (a := ⟨N, 5, none⟩) (v := .slice B k d) (by decide) (by simp)
    go_simp
  · intro _ q hq e; simp only [List.mem_cons, List.mem_nil_iff, or_false] at hq; rcases hq with rfl | rfl | rfl | rfl | rfl | rfl | rfl | rfl | rfl | rfl | rfl | rfl <;> first | assumption | (simp at e; done) | (go_simp; done) | (simp; done)
  simp only [Act.put, List.setIfInBounds_toArray, List.set_cons_succ, List.set_cons_zero]
  refine Own.st_do _ rfl rfl (fun K hK => ?_)
  go_simp
  refine (CA.out _ BD.out).mono ?_
  rintro e w6 ⟨rfl, hb6⟩
  have BW6 := Lib.hid (BD.out.trans (hb6.mono BD.out.size))
  clear hb6
  obtain ⟨m0, mm1, m2, m3, m4, m5⟩ := cell6_of (HM.out _ BW6.out)
  obtain ⟨n0, n1, n2, n3, n4, n5⟩ := cell6_of (HN.out _ BW6.out)
  refine hK _ _ (fun q hq hd _ => ?_) ?_
  · intro _ q hq e; simp only [List.mem_cons, List.mem_nil_iff, or_false] at hq; rcases hq with rfl | rfl | rfl | rfl | rfl | rfl | rfl | rfl | rfl | rfl | rfl | rfl <;> first | assumption | (simp at e; done) | (go_simp; done) | (simp; done)
  clear hK K
  refine Own.st_do _ rfl rfl (fun K hK => ?_)
  go_simp
  refine (CB.out _ BW6.out).mono ?_
  rintro e w7 ⟨rfl, hb7⟩
  have BW7 := Lib.hid (BW6.out.trans (hb7.mono BW6.out.size))
  clear hb7
  obtain ⟨m0, mm1, m2, m3, m4, m5⟩ := cell6_of (HM.out _ BW7.out)
  obtain ⟨n0, n1, n2, n3, n4, n5⟩ := cell6_of (HN.out _ BW7.out)
  refine hK _ _ (fun q hq hd => by rw [(by decide : ∀ x ∈ [0, 2], Own.dep [0, 1, 0, 7, 15, 31] 3 x = true) q hq] at hd; cases hd) ?_
  clear hK K
  repeat (refine Own.st_blind _ rfl rfl (CR.off _ (by decide) _) ?_; go_big_quiet_step (fail); refine wpQuiet_nil ?_)
  refine Own.mix_done ?_
  have B9 := Lib.hid (B2.out.trans (BW7.out.mono B2.out.size))
  clear BD BW6 BW7 m0 mm1 m2 m3 m4 m5 n0 n1 n2 n3 n4 n5 CA CB HM HN
  go_wp2_with (fail)
  go_ret
  exact ⟨rfl, B9.out⟩
set_option maxRecDepth 100000 in
set_option maxHeartbeats 16000000 in
theorem reqF_calls (l : List RuP) (A B : Option Addr) (ca cb : Nat) (w : World) (ha : GotRs w A l) (hb : GotRs w B l) (hl : l.length ≤ 1000000) (hf : ∀ r ∈ l, FitR r) (hT : TabsL w) :
    Calls Tryd.prog 48 #[.slice A l.length ca, .slice B l.length cb, .func (.func 47) #[] #[]] w fun e w' => e = .returned (.bool true) ∧ Below w.heap.size w w' := by
  have RA := Lib.hid ha
  have RB := Lib.hid hb
  have HF := Lib.hid hf
  have HT := Lib.hid hT
  obtain ⟨n, hn⟩ : ∃ n, n = l.length := ⟨_, rfl⟩
  have HN := Lib.hid hn
  rw [← hn] at hl ⊢
  clear ha hb hf hT hn
  go_enter Tryd.func48, Tryd.ntmps48
  go_wp2_with (fail)
  go_loopw [17] (fun iv wr => ∃ i : Nat, i ≤ n ∧ iv = .int .i64 (i : Nat) ∧ Below w.heap.size w wr) (fun iv _ => n - (intOf iv).toNat)
  case atStart => exact ⟨0, Nat.zero_le _, rfl, Below.refl _ _⟩
  case round =>
    obtain ⟨i, hi, rfl, hbw⟩ := hrel
    by_cases hlt : i < n
    · have g1 : decide (i < n) = true := by simpa using hlt
      obtain ⟨x, hx⟩ : ∃ p, l[i]? = some p := ⟨_, List.getElem?_eq_getElem (by have := HN.out; omega)⟩
      obtain ⟨qa, oa, rfl, hqa, hca⟩ := GotRs.below RA.out hbw (by have := HN.out; omega)
      obtain ⟨qb, ob, rfl, hqb, hcb⟩ := GotRs.below RB.out hbw (by have := HN.out; omega)
      obtain ⟨xs, hgx, hka⟩ := hca i x hx
      obtain ⟨ys, hgy, hkb⟩ := hcb i x hx
      have hfx := HF.out x (List.mem_of_getElem? hx)
      obtain ⟨w1, hw1⟩ : ∃ w1, w1 = wr.alloc (.cells xs 47) := ⟨_, rfl⟩
      obtain ⟨M, hM⟩ : ∃ M, M = wr.heap.size := ⟨_, rfl⟩
      have b1 : Below wr.heap.size wr w1 := by rw [hw1]; exact (Below.refl _ _).alloc (Nat.le_refl _) _
      have m1 : w1.heap[M]? = some (.cells xs 47 (0, 0)) := by rw [hw1, hM]; exact blk_alloc_new _ _
      obtain ⟨N, hN⟩ : ∃ N, N = w1.heap.size := ⟨_, rfl⟩
      obtain ⟨w2, hw2⟩ : ∃ w2, w2 = w1.alloc (.cells ys 47) := ⟨_, rfl⟩
      have b2 : Below w1.heap.size w1 w2 := by rw [hw2]; exact (Below.refl _ _).alloc (Nat.le_refl _) _
      have hm := (b2.block _ (Array.getElem?_eq_some_iff.1 m1).1).trans m1
      have hn2 : w2.heap[N]? = some (.cells ys 47 (0, 0)) := by rw [hw2, hN]; exact blk_alloc_new _ _
      have B2 := Lib.hid (hbw.trans ((b1.trans (b2.mono b1.size)).mono hbw.size))
      have CE := Lib.hid (tsame_calls x xs ys w2 ((hgx.below b1).below b2) ((hgy.below b1).below b2) hfx (HT.out.below B2.out))
      have HW1 := Lib.hid (And.intro hw1 hM)
      have HW2 := Lib.hid (And.intro hw2 hN)
      obtain ⟨A1, c1, hxs, _⟩ := hgx.out
      obtain ⟨B1, d1, hys, _⟩ := hgy.out
      subst hxs hys
      have c0 := hka 0 _ rfl
      have e1 := hka 1 _ rfl
      have c2 := hka 2 _ rfl
      have c3 := hka 3 _ rfl
      have c4 := hka 4 _ rfl
      have c5 := hka 5 _ rfl
      have d0 := (b1.cell (p := ⟨qb, ob + i * 6 + 0, none⟩) hqb).trans (hkb 0 _ rfl)
      have e2 := (b1.cell (p := ⟨qb, ob + i * 6 + 1, none⟩) hqb).trans (hkb 1 _ rfl)
      have d2 := (b1.cell (p := ⟨qb, ob + i * 6 + 2, none⟩) hqb).trans (hkb 2 _ rfl)
      have d3 := (b1.cell (p := ⟨qb, ob + i * 6 + 3, none⟩) hqb).trans (hkb 3 _ rfl)
      have d4 := (b1.cell (p := ⟨qb, ob + i * 6 + 4, none⟩) hqb).trans (hkb 4 _ rfl)
      have d5 := (b1.cell (p := ⟨qb, ob + i * 6 + 5, none⟩) hqb).trans (hkb 5 _ rfl)
      rw [Nat.add_zero] at c0 d0
      obtain ⟨m0, mm1, m2, m3, m4, m5⟩ := cell6_of hm
      obtain ⟨n0, n1, n2, n3, n4, n5⟩ := cell6_of hn2
      obtain ⟨k, hk⟩ : ∃ k, k = x.cond.length := ⟨_, rfl⟩
      rw [← hk] at CE HW1 HW2 c5 d5 m5 n5
      obtain ⟨pf, u, cr, st, ad, cd⟩ := x
      simp only at CE HW1 HW2 c0 e1 c2 c3 c4 c5 d0 e2 d2 d3 d4 d5 m0 mm1 m2 m3 m4 m5 n0 n1 n2 n3 n4 n5
      clear hx hca hcb hqa hqb hka hkb hgx hgy hfx hw1 hM b1 m1 hN hw2 b2 hm hn2 hk hbw
      go_upto_region 6 with (fail)
      rw [← HW1.out.1, ← HW1.out.2]
      clear c0 e1 c2 c3 c4 c5
      go_upto_region 7 with (fail)
      rw [← HW2.out.1, ← HW2.out.2]
      clear HW1 HW2 d0 e2 d2 d3 d4 d5
      go_wp2_with (fail)
      refine CE.out.mono ?_
      rintro e w3 ⟨rfl, b3⟩
      have B3 := Lib.hid (B2.out.trans (b3.mono B2.out.size))
      clear b3 CE m0 mm1 m2 m3 m4 m5 n0 n1 n2 n3 n4 n5
      go_wp2_with (fail)
      go_roundw
      case rel => exact ⟨i + 1, hlt, by go_num, B3.out⟩
      case measure => simp [intOf]; omega
    · obtain rfl : i = n := by omega
      have g1 : decide (i < i) = false := by simp
      have HB := Lib.hid hbw
      clear hbw
      go_wp2_with (fail)
      go_ret
      exact ⟨rfl, HB.out⟩
theorem reads_pair {w w' : World} {A : Option Addr} {ps : List (Int × Int)} (h : ReadsP w A ps) (hb : Below w.heap.size w w') {i : Nat} {p : Int × Int} (hi : ps[i]? = some p) : ∃ q o, A = some ⟨q, o, none⟩ ∧ w'.cell? ⟨q, o + i * 2, none⟩ = some (.int .i64 p.1) ∧ w'.cell? ⟨q, o + i * 2 + 1, none⟩ = some (.int .i64 p.2) := by
  obtain ⟨q, o, e, hq, hc⟩ := h.below hb (by have := (List.getElem?_eq_some_iff.1 hi).1; omega)
  exact ⟨q, o, e, (hc i p hi).1, (hc i p hi).2⟩
set_option maxRecDepth 100000 in
set_option maxHeartbeats 16000000 in
theorem peq_calls (ps : List (Int × Int)) (A B : Option Addr) (ca cb : Nat) (w : World) (ha : ReadsP w A ps) (hb : ReadsP w B ps) (hl : ps.length ≤ 1000000) :
    Calls Tryd.prog 49 #[.slice A ps.length ca, .slice B ps.length cb] w fun e w' => e = .returned (.bool true) ∧ Below w.heap.size w w' := by
  have RA := Lib.hid ha
  have RB := Lib.hid hb
  obtain ⟨n, hn⟩ : ∃ n, n = ps.length := ⟨_, rfl⟩
  have HN := Lib.hid hn
  rw [← hn] at hl ⊢
  clear ha hb hn
  go_enter Tryd.func49, Tryd.ntmps49
  go_wp2_with (fail)
  go_loopw [13] (fun iv wr => ∃ i nk : Nat, i ≤ n ∧ iv = .int .i64 (i : Nat) ∧ wr = w.drewN nk) (fun iv _ => n - (intOf iv).toNat)
  case atStart => exact ⟨0, 0, Nat.zero_le _, rfl, rfl⟩
  case round =>
    obtain ⟨i, nk, hi, rfl, rfl⟩ := hrel
    by_cases hlt : i < n
    · have g1 : decide (i < n) = true := by simpa using hlt
      obtain ⟨p, hp⟩ : ∃ p, ps[i]? = some p := ⟨_, List.getElem?_eq_getElem (by have := HN.out; omega)⟩
      obtain ⟨qa, oa, rfl, a0, a1⟩ := reads_pair RA.out (Below.refl _ _) hp
      obtain ⟨qb, ob, rfl, b0, b1⟩ := reads_pair RB.out (Below.refl _ _) hp
      obtain ⟨x, y⟩ := p
      simp only at a0 a1 b0 b1
      clear hp
      go_upto_region 6 with (fail)
      refine Own.region_all (fun w' => ∃ n, w' = World.drewN w n) (by kernel_rfl) (by kernel_rfl) ⟨nk + 1, by first | rfl | simp | trace_state⟩ ?_
      repeat (go_big_quiet_step (fail))
      refine wpQuiet_nil ?_
      rintro _ ⟨nq, rfl⟩
      clear a0 a1 b0 b1
      go_wp2_with (fail)
      go_roundw
      case rel => exact ⟨i + 1, nq, hlt, by go_num, rfl⟩
      case measure => simp [intOf]; omega
    · obtain rfl : i = n := by omega
      have g1 : decide (i < i) = false := by simp
      go_wp2_with (fail)
      go_ret
      exact ⟨rfl, belowN w nk⟩
set_option maxRecDepth 100000 in
set_option maxHeartbeats 16000000 in
theorem same11_calls (rs : List RuP) (ps : List (Int × Int)) (es fs : Array Value) (w : World) (ha : GotA w es rs ps) (hb : GotA w fs rs ps) (hs : ∀ r ∈ rs, smallI r.cond) (hrl : rs.length ≤ 1000000) (hpl : ps.length ≤ 1000000) :
    Calls Tryd.prog 29 #[.agg es, .agg fs] w fun e w' => e = .returned (.bool true) ∧ Below w.heap.size w w' := by
  obtain ⟨Ar, ar, Ap, ap, hes, _, _, gra, gpa⟩ := ha.out
  obtain ⟨Br, br, Bp, bp, hfs, _, _, grb, gpb⟩ := hb.out
  subst hes hfs
  obtain ⟨n, hn⟩ : ∃ n, n = rs.length := ⟨_, rfl⟩
  obtain ⟨m, hm⟩ : ∃ m, m = ps.length := ⟨_, rfl⟩
  rw [← hn] at hrl
  rw [← hm] at hpl
  rw [← hn, ← hm]
  obtain ⟨M, hM⟩ : ∃ M, M = w.heap.size := ⟨_, rfl⟩
  obtain ⟨w1, hw1⟩ : ∃ w1, w1 = w.alloc (.cells #[.slice Ar n ar, .slice Ap m ap] 29) := ⟨_, rfl⟩
  have b1 : Below w.heap.size w w1 := by rw [hw1]; exact (Below.refl _ _).alloc (Nat.le_refl _) _
  have m1 : w1.heap[M]? = some (.cells #[.slice Ar n ar, .slice Ap m ap] 29 (0, 0)) := by rw [hw1, hM]; exact blk_alloc_new _ _
  obtain ⟨N, hN⟩ : ∃ N, N = w1.heap.size := ⟨_, rfl⟩
  obtain ⟨w2, hw2⟩ : ∃ w2, w2 = w1.alloc (.cells #[.slice Br n br, .slice Bp m bp] 29) := ⟨_, rfl⟩
  have b2 : Below w1.heap.size w1 w2 := by rw [hw2]; exact (Below.refl _ _).alloc (Nat.le_refl _) _
  have hm2 := (b2.block _ (Array.getElem?_eq_some_iff.1 m1).1).trans m1
  have hn2 : w2.heap[N]? = some (.cells #[.slice Br n br, .slice Bp m bp] 29 (0, 0)) := by rw [hw2, hN]; exact blk_alloc_new _ _
  have b12 := b1.trans (b2.mono b1.size)
  have B2 := Lib.hid b12
  have RA := Lib.hid (GotRs.below gra b12)
  have RB := Lib.hid (GotRs.below grb b12)
  have PA := Lib.hid (ReadsP.below gpa b12)
  have PB := Lib.hid (ReadsP.below gpb b12)
  have HS := Lib.hid hs
  have HNN := Lib.hid (And.intro hn hm)
  have HM := Lib.hid (fun wx (hb : Below w2.heap.size w2 wx) => (hb.block _ (Array.getElem?_eq_some_iff.1 hm2).1).trans hm2)
  have HN := Lib.hid (fun wx (hb : Below w2.heap.size w2 wx) => (hb.block _ (Array.getElem?_eq_some_iff.1 hn2).1).trans hn2)
  have HW1 := Lib.hid (And.intro hw1 hM)
  have HW2 := Lib.hid (And.intro hw2 (show N = M + 1 by rw [hN, hw1, hM]; exact Array.size_push _))
  obtain ⟨m0, mm1⟩ := pcell2 hm2
  obtain ⟨n0, n1⟩ := pcell2 hn2
  clear ha hb hs gra gpa grb gpb hn hm hM hw1 b1 m1 hN hw2 b2 hm2 hn2 b12
  go_enter Tryd.func29, Tryd.ntmps29
  go_upto_region 1 with (fail)
  rw [← HW1.out.1, ← HW1.out.2, ← HW2.out.1, ← HW2.out.2]
  clear HW1 HW2
  go_wp2_with (fail)
  clear m0 mm1 n0 n1
  go_loopw [5] (fun iv wr => ∃ i : Nat, i ≤ n ∧ iv = .int .i64 (i : Nat) ∧ Below w2.heap.size w2 wr) (fun iv _ => n - (intOf iv).toNat)
  case atStart => exact ⟨0, Nat.zero_le _, rfl, Below.refl _ _⟩
  case round =>
    obtain ⟨i, hi, rfl, hbw⟩ := hrel
    obtain ⟨m0, mm1⟩ := pcell2 (HM.out _ hbw)
    obtain ⟨n0, n1⟩ := pcell2 (HN.out _ hbw)
    by_cases hlt : i < n
    · have g1 : decide (i < n) = true := by simpa using hlt
      obtain ⟨x, hx⟩ : ∃ p, rs[i]? = some p := ⟨_, List.getElem?_eq_getElem (by have := HNN.out.1; omega)⟩
      obtain ⟨qa, oa, rfl, hqa, hca⟩ := GotRs.below RA.out hbw (by have := HNN.out.1; omega)
      obtain ⟨qb, ob, rfl, hqb, hcb⟩ := GotRs.below RB.out hbw (by have := HNN.out.1; omega)
      obtain ⟨xs, hgx, hka⟩ := hca i x hx
      obtain ⟨ys, hgy, hkb⟩ := hcb i x hx
      have hfx := HS.out x (List.mem_of_getElem? hx)
      have CS := Lib.hid (fun wx (hb : Below wr.heap.size wr wx) => same10_calls x xs ys wx (hgx.below hb) (hgy.below hb) hfx)
      obtain ⟨A, c, hxs, _⟩ := hgx.out
      obtain ⟨B, d, hys, _⟩ := hgy.out
      subst hxs hys
      have c0 := hka 0 _ rfl
      have e1 := hka 1 _ rfl
      have c2 := hka 2 _ rfl
      have c3 := hka 3 _ rfl
      have c4 := hka 4 _ rfl
      have c5 := hka 5 _ rfl
      have d0 := hkb 0 _ rfl
      have e2 := hkb 1 _ rfl
      have d2 := hkb 2 _ rfl
      have d3 := hkb 3 _ rfl
      have d4 := hkb 4 _ rfl
      have d5 := hkb 5 _ rfl
      rw [Nat.add_zero] at c0 d0
      obtain ⟨k, hk⟩ : ∃ k, k = x.cond.length := ⟨_, rfl⟩
      rw [← hk] at CS c5 d5
      obtain ⟨pf, u, cr, st, ad, cd⟩ := x
      simp only at CS c0 e1 c2 c3 c4 c5 d0 e2 d2 d3 d4 d5
      have BW := Lib.hid hbw
      have BD := Lib.hid (show Below wr.heap.size wr wr.drew from (Below.refl _ _).drew)
      clear hx hca hcb hqa hqb hka hkb hgx hgy hfx hk hbw
      go_upto_region 6 with (fail)
      refine Own.region_mix (CR [1, 4, 6, 9] [(1, ⟨M, 0, none⟩, .slice (some ⟨qa, oa, none⟩) n ar), (4, ⟨qa, oa + i * 6, none⟩, .bool pf), (4, ⟨qa, oa + i * 6 + 1, none⟩, .int .i64 (u : Nat)), (4, ⟨qa, oa + i * 6 + 2, none⟩, .bool cr), (4, ⟨qa, oa + i * 6 + 3, none⟩, .string st), (4, ⟨qa, oa + i * 6 + 4, none⟩, .string ad), (4, ⟨qa, oa + i * 6 + 5, none⟩, .slice A k c), (6, ⟨N, 0, none⟩, .slice (some ⟨qb, ob, none⟩) n br), (9, ⟨qb, ob + i * 6, none⟩, .bool pf), (9, ⟨qb, ob + i * 6 + 1, none⟩, .int .i64 (u : Nat)), (9, ⟨qb, ob + i * 6 + 2, none⟩, .bool cr), (9, ⟨qb, ob + i * 6 + 3, none⟩, .string st), (9, ⟨qb, ob + i * 6 + 4, none⟩, .string ad), (9, ⟨qb, ob + i * 6 + 5, none⟩, .slice B k d)]) [1, 4, 6, 9] [0, 1, 0, 7, 15, 0, 32, 0, 224, 480, 1023, 2047] (Own.Ord.run [(0, true), (1, true), (2, true), (3, true), (4, true), (5, true), (6, true), (7, true), (8, true), (9, true), (10, false), (11, true)] .done) (by kernel_rfl) (by kernel_rfl) (fun dst v c a w h => by cases dst <;> exact h) (fun x hx w => CR.off x hx w) ?_
      simp only [Own.Ord.run]
      repeat (refine Own.st_blind _ rfl rfl (CR.off _ (by decide) _) ?_; go_big_quiet_step (fail); refine wpQuiet_nil ?_)
      refine Own.st_load _ rfl rfl (.slice (some ⟨qa, oa, none⟩) n ar) (fun w' hw' => ?_) ?_ ?_
      · have hg0 := hw'.get (a := ⟨M, 0, none⟩) (v := .slice (some ⟨qa, oa, none⟩) n ar) (by decide) (by simp)
        go_simp
      · intro _ q hq e; simp only [List.mem_cons, List.mem_nil_iff, or_false] at hq; rcases hq with rfl | rfl | rfl | rfl | rfl | rfl | rfl | rfl | rfl | rfl | rfl | rfl | rfl | rfl <;> first | assumption | (simp at e; done) | (go_simp; done) | (simp; done)
      simp only [Act.put, List.setIfInBounds_toArray, List.set_cons_succ, List.set_cons_zero]
      repeat (refine Own.st_blind _ rfl rfl (CR.off _ (by decide) _) ?_; go_big_quiet_step (fail); refine wpQuiet_nil ?_)
      refine Own.st_load _ rfl rfl (.agg #[.bool pf, .int .i64 (u : Nat), .bool cr, .string st, .string ad, .slice A k c]) (fun w' hw' => ?_) ?_ ?_
      · have hg0 := hw'.get (a := ⟨qa, oa + i * 6, none⟩) (v := .bool pf) (by decide) (by simp)
        have hg1 := hw'.get (a := ⟨qa, oa + i * 6 + 1, none⟩) (v := .int .i64 (u : Nat)) (by decide) (by simp)
        have hg2 := hw'.get (a := ⟨qa, oa + i * 6 + 2, none⟩) (v := .bool cr) (by decide) (by simp)
        have hg3 := hw'.get (a := ⟨qa, oa + i * 6 + 3, none⟩) (v := .string st) (by decide) (by simp)
        have hg4 := hw'.get (a := ⟨qa, oa + i * 6 + 4, none⟩) (v := .string ad) (by decide) (by simp)
        have hg5 := hw'.get (a := ⟨qa, oa + i * 6 + 5, none⟩) (v := .slice A k c) (by decide) (by simp)
        go_simp
      · intro _ q hq e; simp only [List.mem_cons, List.mem_nil_iff, or_false] at hq; rcases hq with rfl | rfl | rfl | rfl | rfl | rfl | rfl | rfl | rfl | rfl | rfl | rfl | rfl | rfl <;> first | assumption | (simp at e; done) | (go_simp; done) | (simp; done)
      simp only [Act.put, List.setIfInBounds_toArray, List.set_cons_succ, List.set_cons_zero]
      repeat (refine Own.st_blind _ rfl rfl (CR.off _ (by decide) _) ?_; go_big_quiet_step (fail); refine wpQuiet_nil ?_)
      refine Own.st_load _ rfl rfl (.slice (some ⟨qb, ob, none⟩) n br) (fun w' hw' => ?_) ?_ ?_
      · have hg0 := hw'.get (a := ⟨N, 0, none⟩) (v := .slice (some ⟨qb, ob, none⟩) n br) (by decide) (by simp)
        go_simp
      · intro _ q hq e; simp only [List.mem_cons, List.mem_nil_iff, or_false] at hq; rcases hq with rfl | rfl | rfl | rfl | rfl | rfl | rfl | rfl | rfl | rfl | rfl | rfl | rfl | rfl <;> first | assumption | (simp at e; done) | (go_simp; done) | (simp; done)
      simp only [Act.put, List.setIfInBounds_toArray, List.set_cons_succ, List.set_cons_zero]
      repeat (refine Own.st_blind _ rfl rfl (CR.off _ (by decide) _) ?_; go_big_quiet_step (fail); refine wpQuiet_nil ?_)
      refine Own.st_load _ rfl rfl (.agg #[.bool pf, .int .i64 (u : Nat), .bool cr, .string st, .string ad, .slice B k d]) (fun w' hw' => ?_) ?_ ?_
      · have hg0 := hw'.get (a := ⟨qb, ob + i * 6, none⟩) (v := .bool pf) (by decide) (by simp)
        have hg1 := hw'.get (a := ⟨qb, ob + i * 6 + 1, none⟩) (v := .int .i64 (u : Nat)) (by decide) (by simp)
        have hg2 := hw'.get (a := ⟨qb, ob + i * 6 + 2, none⟩) (v := .bool cr) (by decide) (by simp)
        have hg3 := hw'.get (a := ⟨qb, ob + i * 6 + 3, none⟩) (v := .string st) (by decide) (by simp)
        have hg4 := hw'.get (a := ⟨qb, ob + i * 6 + 4, none⟩) (v := .string ad) (by decide) (by simp)
        have hg5 := hw'.get (a := ⟨qb, ob + i * 6 + 5, none⟩) (v := .slice B k d) (by decide) (by simp)
        go_simp
      · intro _ q hq e; simp only [List.mem_cons, List.mem_nil_iff, or_false] at hq; rcases hq with rfl | rfl | rfl | rfl | rfl | rfl | rfl | rfl | rfl | rfl | rfl | rfl | rfl | rfl <;> first | assumption | (simp at e; done) | (go_simp; done) | (simp; done)
      simp only [Act.put, List.setIfInBounds_toArray, List.set_cons_succ, List.set_cons_zero]
      refine Own.st_do _ rfl rfl (fun K hK => ?_)
      go_simp
      refine (CS.out _ BD.out).mono ?_
      rintro e w7 ⟨rfl, hb7⟩
      have BW7 := Lib.hid (BD.out.trans (hb7.mono BD.out.size))
      clear hb7
      refine hK _ _ (fun q hq hd => by rw [(by decide : ∀ x ∈ [1, 4, 6, 9], Own.dep [0, 1, 0, 7, 15, 0, 32, 0, 224, 480, 1023, 2047] 10 x = true) q hq] at hd; cases hd) ?_
      clear hK K
      repeat (refine Own.st_blind _ rfl rfl (CR.off _ (by decide) _) ?_; go_big_quiet_step (fail); refine wpQuiet_nil ?_)
      refine Own.mix_done ?_
      have B3 := Lib.hid (BW.out.trans (BW7.out.mono BW.out.size))
      clear BD BW7 c0 e1 c2 c3 c4 c5 d0 e2 d2 d3 d4 d5 m0 mm1 n0 n1 CS
      go_wp2_with (fail)
      go_roundw
      case rel => exact ⟨i + 1, hlt, by go_num, B3.out⟩
      case measure => simp [intOf]; omega
    · obtain rfl : i = n := by omega
      have g1 : decide (i < i) = false := by simp
      have BW := Lib.hid hbw
      clear hbw
      go_wp2_with (fail)
      clear m0 mm1 n0 n1
      go_loopw [6] (fun iv wz => ∃ j : Nat, j ≤ m ∧ iv = .int .i64 (j : Nat) ∧ Below w2.heap.size w2 wz) (fun iv _ => m - (intOf iv).toNat)
      case atStart => exact ⟨0, Nat.zero_le _, rfl, BW.out⟩
      case round =>
        obtain ⟨j, hj, rfl, hbz⟩ := hrel
        obtain ⟨m0, mm1⟩ := pcell2 (HM.out _ hbz)
        obtain ⟨n0, n1⟩ := pcell2 (HN.out _ hbz)
        by_cases hjl : j < m
        · have g2 : decide (j < m) = true := by simpa using hjl
          obtain ⟨p, hp⟩ : ∃ p, ps[j]? = some p := ⟨_, List.getElem?_eq_getElem (by have := HNN.out.2; omega)⟩
          obtain ⟨qa, oa, rfl, a0, a1⟩ := reads_pair PA.out hbz hp
          obtain ⟨qb, ob, rfl, b0, b1⟩ := reads_pair PB.out hbz hp
          obtain ⟨x, y⟩ := p
          simp only at a0 a1 b0 b1
          have BZ := Lib.hid hbz
          clear hp hbz
          go_upto_region 11 with (fail)
          refine Own.region_all (fun w' => ∃ n, w' = World.drewN wr n) (by kernel_rfl) (by kernel_rfl) ⟨1, by first | rfl | simp | trace_state⟩ ?_
          repeat (go_big_quiet_step (fail))
          refine wpQuiet_nil ?_
          rintro _ ⟨nq, rfl⟩
          have B5 := Lib.hid (BZ.out.trans ((belowN wr nq).mono BZ.out.size))
          clear a0 a1 b0 b1 m0 mm1 n0 n1
          go_wp2_with (fail)
          go_roundw
          case rel => exact ⟨j + 1, hjl, by go_num, B5.out⟩
          case measure => simp [intOf]; omega
        · obtain rfl : j = m := by omega
          have g2 : decide (j < j) = false := by simp
          have B5 := Lib.hid (B2.out.trans (hbz.mono B2.out.size))
          clear hbz
          go_wp2_with (fail)
          go_ret
          exact ⟨rfl, B5.out⟩
end Go.Proofs.YtmcnnfpeicnnjaaDoor
namespace Go.Proofs.YtmcnnfpeicnnjaaDoor
open Go.RowKit Go.Deep Go.Own
set_option linter.unusedVariables false
def rlL (rs : List RuP) : List (List UInt8) := rs.map (fun r => (lineT r).data.toList)
theorem rl_succ (rs : List RuP) (i : Nat) (r : RuP) (h : rs[i]? = some r) : linesT (rlL (rs.take (i + 1))) = linesT (rlL (rs.take i)) ++ ((lineT r).data.toList ++ [10]) := by
  obtain ⟨hl, e⟩ := List.getElem?_eq_some_iff.1 h
  unfold rlL
  rw [List.take_succ_eq_append_getElem hl, e, List.map_append, List.map_cons, List.map_nil, linesT_end, List.append_assoc]
theorem pl_succ (rs : List RuP) (ps : List (Int × Int)) (i : Nat) (p : Int × Int) (h : ps[i]? = some p) : linesT (rlL rs ++ (ps.take (i + 1)).map plL) = linesT (rlL rs ++ (ps.take i).map plL) ++ (plL p ++ [10]) := by
  obtain ⟨hl, e⟩ := List.getElem?_eq_some_iff.1 h
  rw [List.take_succ_eq_append_getElem hl, e, List.map_append, List.map_cons, List.map_nil, ← List.append_assoc, linesT_end, List.append_assoc]
theorem linesT_pre (a b : List (List UInt8)) : (linesT a).length ≤ (linesT (a ++ b)).length := by
  rw [linesT_app, List.length_append]; omega
theorem rl_le (rs : List RuP) (ps : List (Int × Int)) (i : Nat) : (linesT (rlL (rs.take i))).length ≤ (linesT (aLines rs ps)).length := by
  have : aLines rs ps = rlL (rs.take i) ++ (rlL (rs.drop i) ++ ps.map plL) := by
    unfold aLines rlL
    rw [← List.append_assoc, ← List.map_append, List.take_append_drop]
  rw [this]
  exact linesT_pre _ _
theorem pl_le (rs : List RuP) (ps : List (Int × Int)) (i : Nat) : (linesT (rlL rs ++ (ps.take i).map plL)).length ≤ (linesT (aLines rs ps)).length := by
  have : aLines rs ps = (rlL rs ++ (ps.take i).map plL) ++ (ps.drop i).map plL := by
    unfold aLines rlL
    rw [List.append_assoc, ← List.map_append, List.take_append_drop]
  rw [this]
  exact linesT_pre _ _
theorem enc_len (c : Int) : (enc c).size ≤ 4 := by
  unfold enc
  split
  · unfold Utf8.encode
    simp only
    repeat' split
    all_goals simp [ByteArray.size]
  · decide
set_option maxRecDepth 100000 in
set_option maxHeartbeats 32000000 in
theorem atext_calls (rs : List RuP) (ps : List (Int × Int)) (es : Array Value) (w : World) (ha : GotA w es rs ps) (hf : ∀ r ∈ rs, FitR r) (hz : (aText rs ps).size ≤ 60000) (hrd : aFile (aText rs ps) = ⟨rs, ps, 0, 0⟩) (hrl : rs.length ≤ 1000000) (hpl : ps.length ≤ 1000000) (hT : TabsL w) :
    Calls Tryd.prog 28 #[.agg es] w fun e w' => e = .returned (.string (aText rs ps)) ∧ Below w.heap.size w w' := by
  obtain ⟨Ar, ar, Ap, ap, hes, _, _, gra, gpa⟩ := ha.out
  subst hes
  obtain ⟨T, hTx⟩ : ∃ T, T = aText rs ps := ⟨_, rfl⟩
  have hlen : (linesT (aLines rs ps)).length ≤ 60000 := by unfold aText at hz; rw [mk_size] at hz; exact hz
  have hmkT : T = mkB (linesT (rlL rs ++ ps.map plL)) := hTx
  rw [← hTx] at hz hrd ⊢
  have HTX := Lib.hid hmkT
  have HLEN := Lib.hid hlen
  obtain ⟨n, hn⟩ : ∃ n, n = rs.length := ⟨_, rfl⟩
  obtain ⟨m, hm⟩ : ∃ m, m = ps.length := ⟨_, rfl⟩
  rw [← hn] at hrl
  rw [← hm] at hpl
  rw [← hn, ← hm]
  have HNN := Lib.hid (And.intro hn hm)
  obtain ⟨M, hM⟩ : ∃ M, M = w.heap.size := ⟨_, rfl⟩
  obtain ⟨w1, hw1⟩ : ∃ w1, w1 = w.alloc (.cells #[.slice Ar n ar, .slice Ap m ap] 29) := ⟨_, rfl⟩
  have b1 : Below w.heap.size w w1 := by rw [hw1]; exact (Below.refl _ _).alloc (Nat.le_refl _) _
  have m1 : w1.heap[M]? = some (.cells #[.slice Ar n ar, .slice Ap m ap] 29 (0, 0)) := by rw [hw1, hM]; exact blk_alloc_new _ _
  obtain ⟨b, hb⟩ : ∃ b, b = w1.heap.size := ⟨_, rfl⟩
  obtain ⟨w2, hw2⟩ : ∃ w2, w2 = w1.alloc (.cells #[.pointer none, .slice none 0 0] 76) := ⟨_, rfl⟩
  have b2 : Below w1.heap.size w1 w2 := by rw [hw2]; exact (Below.refl _ _).alloc (Nat.le_refl _) _
  have D2 := Lib.hid (show Bd w1.heap.size b [] w2 by rw [hw2, hb]; exact Bd.new w1)
  have B1 := Lib.hid b1
  have B2 := Lib.hid b2
  have HM := Lib.hid (fun wx (hb : Below w1.heap.size w1 wx) => (hb.block _ (Array.getElem?_eq_some_iff.1 m1).1).trans m1)
  have RA := Lib.hid (GotRs.below gra b1)
  have PA := Lib.hid (ReadsP.below gpa b1)
  have HF := Lib.hid hf
  have HT := Lib.hid (hT.below b1)
  have HRD := Lib.hid hrd
  have HW1 := Lib.hid (And.intro hw1 hM)
  have HW2 := Lib.hid (And.intro hw2 (show b = M + 1 by rw [hb, hw1, hM]; exact Array.size_push _))
  obtain ⟨m0, mm1⟩ := pcell2 (HM.out w2 b2)
  clear ha hf hrd hT gra gpa hn hm hM hw1 b1 m1 hb hw2 b2 hTx hlen hmkT
  go_enter Tryd.func28, Tryd.ntmps28
  go_upto_region 2 with (fail)
  rw [← HW1.out.1, ← HW1.out.2, ← HW2.out.1, ← HW2.out.2]
  clear HW1 HW2
  go_wp2_with (fail)
  clear m0 mm1
  go_loopw [16] (fun iv wr => ∃ i : Nat, i ≤ n ∧ iv = .int .i64 (i : Nat) ∧ Bd w1.heap.size b (linesT (rlL (rs.take i))) wr ∧ Below w1.heap.size w1 wr) (fun iv _ => n - (intOf iv).toNat)
  case atStart => exact ⟨0, Nat.zero_le _, rfl, D2.out, B2.out⟩
  case round =>
    obtain ⟨i, hi, rfl, hd, hbw⟩ := hrel
    by_cases hlt : i < n
    · have g1 : decide (i < n) = true := by simpa using hlt
      obtain ⟨x, hx⟩ : ∃ p, rs[i]? = some p := ⟨_, List.getElem?_eq_getElem (by have := HNN.out.1; omega)⟩
      have hsu := rl_succ rs i x hx
      have hle := rl_le rs ps (i + 1)
      rw [hsu, List.length_append, List.length_append, List.length_singleton, size_list0] at hle
      obtain ⟨L, hL⟩ : ∃ L, L = linesT (rlL (rs.take i)) := ⟨_, rfl⟩
      rw [← hL] at hd hsu hle
      have hlz : L.length + ((lineT x).size + 1) ≤ 60000 := by have := HLEN.out; omega
      have hbw2 : Below w.heap.size w wr := B1.out.trans (hbw.mono B1.out.size)
      obtain ⟨qa, oa, rfl, hqa, hca⟩ := GotRs.below RA.out hbw (by have := HNN.out.1; omega)
      obtain ⟨xs, hgx, hka⟩ := hca i x hx
      have hfx := HF.out x (List.mem_of_getElem? hx)
      obtain ⟨w3, hw3⟩ : ∃ w3, w3 = wr.alloc (.cells xs 47) := ⟨_, rfl⟩
      obtain ⟨M3, hM3⟩ : ∃ M, M = wr.heap.size := ⟨_, rfl⟩
      have b3 : Below wr.heap.size wr w3 := by rw [hw3]; exact (Below.refl _ _).alloc (Nat.le_refl _) _
      have m3 : w3.heap[M3]? = some (.cells xs 47 (0, 0)) := by rw [hw3, hM3]; exact blk_alloc_new _ _
      have B3 := Lib.hid (hbw.trans (b3.mono hbw.size))
      have D3 := Lib.hid (hd.later b3)
      have CT := Lib.hid (rtext_calls x xs w3 (hgx.below b3) hfx (HT.out.below B3.out))
      obtain ⟨E, hE⟩ : ∃ E, E = lineT x := ⟨_, rfl⟩
      rw [← hE] at CT hlz hsu
      have HW3 := Lib.hid (And.intro hw3 hM3)
      have HSU := Lib.hid hsu
      obtain ⟨A1, c1, hxs, _⟩ := hgx.out
      subst hxs
      have c0 := hka 0 _ rfl
      have e1 := hka 1 _ rfl
      have c2 := hka 2 _ rfl
      have c3 := hka 3 _ rfl
      have c4 := hka 4 _ rfl
      have c5 := hka 5 _ rfl
      rw [Nat.add_zero] at c0
      obtain ⟨n0, n1, n2, n3, n4, n5⟩ := cell6_of m3
      obtain ⟨k, hk⟩ : ∃ k, k = x.cond.length := ⟨_, rfl⟩
      rw [← hk] at CT c5 HW3 n5
      obtain ⟨pf, u, cr, st, ad, cd⟩ := x
      simp only at CT c0 e1 c2 c3 c4 c5 HW3 n0 n1 n2 n3 n4 n5
      clear hx hca hqa hka hgx hfx hk hw3 hM3 b3 m3 hd hbw hle hL hE hsu hbw2
      go_upto_region 5 with (fail)
      rw [← HW3.out.1, ← HW3.out.2]
      clear HW3 c0 e1 c2 c3 c4 c5
      go_wp2_with (fail)
      refine CT.out.mono ?_
      rintro e w4 ⟨rfl, b4⟩
      have B4 := Lib.hid (B3.out.trans (b4.mono B3.out.size))
      have D4 := Lib.hid (D3.out.later b4)
      have CW := Lib.hid (bd_write (E ++ ⟨#[10]⟩) D4.out (by rw [ByteArray.size_append]; show L.length + (E.size + 1) ≤ _; omega) B4.out.size)
      clear CT b4 n0 n1 n2 n3 n4 n5
      go_wp2_with (fail)
      refine CW.out.mono ?_
      rintro e w5 ⟨rfl, d5, b5, _⟩
      have B5 := Lib.hid (B4.out.trans b5)
      have D5 := Lib.hid d5
      clear CW d5 b5
      go_wp2_with (fail)
      go_roundw
      case rel =>
        refine ⟨i + 1, hlt, by go_num, ?_, B5.out⟩
        rw [HSU.out]
        have := D5.out
        rw [ByteArray.data_append, Array.toList_append] at this
        exact this
      case measure => simp [intOf]; omega
    · obtain rfl : i = n := by omega
      have g1 : decide (i < i) = false := by simp
      rw [List.take_of_length_le (by have := HNN.out.1; omega)] at hd
      have DD := Lib.hid hd
      have BW := Lib.hid hbw
      obtain ⟨m0, mm1⟩ := pcell2 (HM.out _ hbw)
      clear hd hbw
      go_wp2_with (fail)
      clear m0 mm1
      go_loopw [28] (fun iv wz => ∃ j : Nat, j ≤ m ∧ iv = .int .i64 (j : Nat) ∧ Bd w1.heap.size b (linesT (rlL rs ++ (ps.take j).map plL)) wz ∧ Below w1.heap.size w1 wz) (fun iv _ => m - (intOf iv).toNat)
      case atStart => exact ⟨0, Nat.zero_le _, rfl, by rw [List.take_zero, List.map_nil, List.append_nil]; exact DD.out, BW.out⟩
      case round =>
        clear DD BW
        obtain ⟨j, hj, rfl, hd, hbw⟩ := hrel
        by_cases hjl : j < m
        · have g2 : decide (j < m) = true := by simpa using hjl
          obtain ⟨p, hp⟩ : ∃ p, ps[j]? = some p := ⟨_, List.getElem?_eq_getElem (by have := HNN.out.2; omega)⟩
          have hsu := pl_succ rs ps j p hp
          have hle := pl_le rs ps (j + 1)
          obtain ⟨qa, oa, rfl, a0, a1⟩ := reads_pair PA.out hbw hp
          obtain ⟨L, hL⟩ : ∃ L, L = linesT (rlL rs ++ (ps.take j).map plL) := ⟨_, rfl⟩
          rw [← hL] at hd hsu
          have hll : L.length ≤ 60000 := by
            rw [hsu, List.length_append] at hle
            have := HLEN.out
            omega
          obtain ⟨x, y⟩ := p
          simp only at a0 a1
          obtain ⟨w3, hw3⟩ : ∃ w3, w3 = wr.alloc (.cells #[.int .i64 x, .int .i64 y] 92) := ⟨_, rfl⟩
          obtain ⟨M3, hM3⟩ : ∃ M, M = wr.heap.size := ⟨_, rfl⟩
          have b3 : Below wr.heap.size wr w3 := by rw [hw3]; exact (Below.refl _ _).alloc (Nat.le_refl _) _
          have m3 : w3.heap[M3]? = some (.cells #[.int .i64 x, .int .i64 y] 92 (0, 0)) := by rw [hw3, hM3]; exact blk_alloc_new _ _
          have B3 := Lib.hid (hbw.trans (b3.mono hbw.size))
          have D3 := Lib.hid (hd.later b3)
          have HW3 := Lib.hid (And.intro hw3 hM3)
          have HSU := Lib.hid hsu
          have C1 := Lib.hid (fun wx => ubytes_calls x wx)
          have C2 := Lib.hid (fun wx => ubytes_calls y wx)
          have z1 := enc_len x
          have z2 := enc_len y
          have HPL := Lib.hid (show plL (x, y) = [67, 65, 83, 69, 32] ++ (enc x).data.toList ++ (enc y).data.toList from rfl)
          obtain ⟨E1, hE1⟩ : ∃ E, E = enc x := ⟨_, rfl⟩
          obtain ⟨E2, hE2⟩ : ∃ E, E = enc y := ⟨_, rfl⟩
          rw [← hE1] at C1 z1 HPL
          rw [← hE2] at C2 z2 HPL
          have CW := Lib.hid (fun wx (hb : Below w3.heap.size w3 wx) (hd : Bd w1.heap.size b L wx) => bd_write (⟨#[67, 65, 83, 69, 32]⟩ ++ E1 ++ E2 ++ ⟨#[10]⟩) hd (by rw [ByteArray.size_append, ByteArray.size_append, ByteArray.size_append]; show L.length + (5 + E1.size + E2.size + 1) ≤ _; omega) (Nat.le_trans B3.out.size hb.size))
          obtain ⟨n0, n1⟩ := pcell2 m3
          have HM3 := Lib.hid m3
          clear hp hw3 hM3 b3 m3 hd hbw hle hL hE1 hE2 hsu
          go_upto_region 10 with (fail)
          rw [← HW3.out.1, ← HW3.out.2]
          clear HW3 a0 a1
          refine Own.region_mix (CR [1, 5] [(1, ⟨M3, 0, none⟩, .int .i64 x), (5, ⟨M3, 1, none⟩, .int .i64 y)]) [1, 5] [0, 1, 3, 7, 0, 16, 55, 127, 255, 511] (Own.Ord.run [(0, true), (1, true), (4, true), (5, true), (2, false), (3, true), (6, false), (7, true), (8, true), (9, false)] .done) (by kernel_rfl) (by kernel_rfl) (fun dst v c a w h => by cases dst <;> exact h) (fun x hx w => CR.off x hx w) ?_
          simp only [Own.Ord.run]
          repeat (refine Own.st_blind _ rfl rfl (CR.off _ (by decide) _) ?_; go_big_quiet_step (fail); refine wpQuiet_nil ?_)
          refine Own.st_load _ rfl rfl (.int .i64 x) (fun w' hw' => ?_) ?_ ?_
          · have hg0 := hw'.get (a := ⟨M3, 0, none⟩) (v := .int .i64 x) (by decide) (by simp)
            go_simp
          · intro _ q hq e; simp only [List.mem_cons, List.mem_nil_iff, or_false] at hq; rcases hq with rfl | rfl <;> first | assumption | (simp at e; done) | (go_simp; done) | (simp; done)
          simp only [Act.put, List.setIfInBounds_toArray, List.set_cons_succ, List.set_cons_zero]
          repeat (refine Own.st_blind _ rfl rfl (CR.off _ (by decide) _) ?_; go_big_quiet_step (fail); refine wpQuiet_nil ?_)
          refine Own.st_load _ rfl rfl (.int .i64 y) (fun w' hw' => ?_) ?_ ?_
          · have hg0 := hw'.get (a := ⟨M3, 1, none⟩) (v := .int .i64 y) (by decide) (by simp)
            go_simp
          · intro _ q hq e; simp only [List.mem_cons, List.mem_nil_iff, or_false] at hq; rcases hq with rfl | rfl <;> first | assumption | (simp at e; done) | (go_simp; done) | (simp; done)
          simp only [Act.put, List.setIfInBounds_toArray, List.set_cons_succ, List.set_cons_zero]
          refine Own.st_do _ rfl rfl (fun K hK => ?_)
          go_simp
          refine (C1.out _).mono ?_
          rintro e u2 ⟨rfl, rfl⟩
          refine hK _ _ (fun q hq hd _ => ?_) ?_
          · intro _ q hq e; simp only [List.mem_cons, List.mem_nil_iff, or_false] at hq; rcases hq with rfl | rfl <;> first | assumption | (simp at e; done) | (go_simp; done) | (simp; done)
          clear hK K
          repeat (refine Own.st_blind _ rfl rfl (CR.off _ (by decide) _) ?_; go_big_quiet_step (fail); refine wpQuiet_nil ?_)
          refine Own.st_do _ rfl rfl (fun K hK => ?_)
          go_simp
          refine (C2.out _).mono ?_
          rintro e u3 ⟨rfl, rfl⟩
          refine hK _ _ (fun q hq hd => by rw [(by decide : ∀ x ∈ [1, 5], Own.dep [0, 1, 3, 7, 0, 16, 55, 127, 255, 511] 6 x = true) q hq] at hd; cases hd) ?_
          clear hK K
          repeat (refine Own.st_blind _ rfl rfl (CR.off _ (by decide) _) ?_; go_big_quiet_step (fail); refine wpQuiet_nil ?_)
          refine Own.st_do _ rfl rfl (fun K hK => ?_)
          go_simp
          refine (CW.out _ ((Below.refl _ _).drew) (D3.out.later ((Below.refl _ _).drew))).mono ?_
          rintro e w5 ⟨rfl, d5, b5, _⟩
          have B5 := Lib.hid ((show Below w1.heap.size w1 w3.drew from B3.out.drew).trans b5)
          have D5 := Lib.hid d5
          clear d5 b5
          refine hK _ _ (fun q hq hd => by rw [(by decide : ∀ x ∈ [1, 5], Own.dep [0, 1, 3, 7, 0, 16, 55, 127, 255, 511] 9 x = true) q hq] at hd; cases hd) ?_
          clear hK K
          refine Own.mix_done ?_
          go_wp2_with (fail)
          go_roundw
          case rel =>
            refine ⟨j + 1, hjl, by go_num, ?_, B5.out⟩
            rw [HSU.out, HPL.out]
            have := D5.out
            simp only [ByteArray.data_append, Array.toList_append] at this
            rw [List.append_assoc] at this ⊢
            simpa using this
          case measure => simp [intOf]; omega
        · obtain rfl : j = m := by omega
          have g2 : decide (j < j) = false := by simp
          rw [List.take_of_length_le (by have := HNN.out.2; omega)] at hd
          have CS := Lib.hid (bd_string hd hbw.size)
          have BW := Lib.hid hbw
          have e3 : (⟨(linesT (rlL rs ++ ps.map plL)).toArray⟩ : ByteArray) = T := HTX.out.symm
          rw [e3] at CS
          clear hd hbw e3
          go_wp2_with (fail)
          refine CS.out.mono ?_
          rintro e w4 ⟨rfl, b4⟩
          have B4 := Lib.hid (BW.out.trans b4)
          have CP := Lib.hid (aparse_small T _ w4 (by omega) (HT.out.below B4.out) HRD.out)
          unfold APost at CP
          clear CS b4
          go_wp2_with (fail)
          refine CP.out.mono ?_
          rintro e w5 ⟨⟨cs, rfl, g5⟩, b5⟩
          obtain ⟨Br, br, Bp, bp, hcs, _, _, grb, gpb⟩ := g5.out
          subst hcs
          have hn2 := HNN.out
          rw [← hn2.1, ← hn2.2]
          obtain ⟨w6, hw6⟩ : ∃ w6, w6 = w5.alloc (.cells #[.slice Br i br, .slice Bp j bp] 29) := ⟨_, rfl⟩
          obtain ⟨N, hN⟩ : ∃ N, N = w5.heap.size := ⟨_, rfl⟩
          have b6 : Below w5.heap.size w5 w6 := by rw [hw6]; exact (Below.refl _ _).alloc (Nat.le_refl _) _
          have n6 : w6.heap[N]? = some (.cells #[.slice Br i br, .slice Bp j bp] 29 (0, 0)) := by rw [hw6, hN]; exact blk_alloc_new _ _
          have B5 := Lib.hid (B4.out.trans (b5.mono B4.out.size))
          have B6 := Lib.hid (B5.out.trans (b6.mono B5.out.size))
          have CE := Lib.hid (reqF_calls rs Br Ar br ar w6 (GotRs.below grb b6) (GotRs.below RA.out B6.out) (by omega) HF.out (HT.out.below B6.out))
          rw [← hn2.1] at CE
          have CQ := Lib.hid (fun wx (hb : Below w6.heap.size w6 wx) => peq_calls ps Bp Ap bp ap wx (ReadsP.below (ReadsP.below gpb b6) hb) (ReadsP.below (ReadsP.below PA.out B6.out) hb) (by omega))
          rw [← hn2.2] at CQ
          have HW6 := Lib.hid (And.intro hw6 hN)
          have HM6 := Lib.hid (fun wx (hb : Below w6.heap.size w6 wx) => HM.out wx (B6.out.trans (hb.mono B6.out.size)))
          have HN6 := Lib.hid (fun wx (hb : Below w6.heap.size w6 wx) => (hb.block _ (Array.getElem?_eq_some_iff.1 n6).1).trans n6)
          obtain ⟨m0, mm1⟩ := pcell2 (HM6.out _ (Below.refl _ _))
          obtain ⟨n0, n1⟩ := pcell2 n6
          clear CP b5 g5 grb gpb hw6 hN b6 n6 hn2
          go_upto_region 14 with (fail)
          rw [← HW6.out.1, ← HW6.out.2]
          clear HW6
          go_wp2_with (fail)
          refine CE.out.mono ?_
          rintro e w7 ⟨rfl, b7⟩
          have B7 := Lib.hid b7
          clear CE b7 m0 mm1 n0 n1
          obtain ⟨m0, mm1⟩ := pcell2 (HM6.out _ B7.out)
          obtain ⟨n0, n1⟩ := pcell2 (HN6.out _ B7.out)
          go_wp2_with (fail)
          refine (CQ.out _ B7.out).mono ?_
          rintro e w8 ⟨rfl, b8⟩
          have B8 := Lib.hid (B1.out.trans ((B6.out.trans ((B7.out.trans (b8.mono B7.out.size)).mono B6.out.size)).mono B1.out.size))
          clear CQ b8 m0 mm1 n0 n1
          go_wp2_with (fail)
          go_ret
          exact ⟨rfl, B8.out⟩
set_option maxRecDepth 100000 in
set_option maxHeartbeats 16000000 in
theorem affile_calls (v : Int) (w : World) : Calls Tryd.prog 27 #[.int .i64 v] w fun e w' => (∃ S : ByteArray, e = .returned (.string S) ∧ S.size ≤ 160) ∧ w = w' := by
  obtain ⟨k, hk, _, cp⟩ := place_nat v 1048576 (by omega) (by omega)
  have CP := Lib.hid cp
  have HK := Lib.hid hk
  clear cp hk
  cases h2 : ((k : Int) % 2 == 0) <;> cases h3 : ((k : Int) % 3 == 0) <;> cases h5 : ((k : Int) % 5 == 0) <;>
  · go_enter Tryd.func27, Tryd.ntmps27
    go_wp2_with (fail)
    refine (CP.out _).mono ?_
    rintro e wq ⟨rfl, rfl⟩
    go_wp2_with (fail)
    go_ret
    exact ⟨⟨_, rfl, by simp only [ByteArray.size_append]; decide⟩, by first | rfl | trivial⟩
end Go.Proofs.YtmcnnfpeicnnjaaDoor
namespace Go.Proofs.YtmcnnfpeicnnjaaDoor
open Go.RowKit Go.Deep Go.Own
set_option linter.unusedVariables false
theorem afile_cases (s : ByteArray) : ((aFile s).err ≠ 0 ∧ (aFile s).rules = [] ∧ (aFile s).pairs = []) ∨ (s.size ≤ 65536 ∧ aFile s = ⟨(fileV s).rules, (fileV s).pairs, 0, 0⟩ ∧ doneV (fileV s) = ⟨(fileV s).rules, (fileV s).pairs, 0, 0⟩) := by
  unfold aFile
  by_cases h : 65536 < s.size
  · rw [if_pos h]
    exact .inl ⟨by decide, rfl, rfl⟩
  · rw [if_neg h]
    have hd : ((doneV (fileV s)).err ≠ 0 ∧ (doneV (fileV s)).rules = [] ∧ (doneV (fileV s)).pairs = []) ∨ doneV (fileV s) = ⟨(fileV s).rules, (fileV s).pairs, 0, 0⟩ := by
      unfold doneV
      split
      · exact .inl ⟨by decide, rfl, rfl⟩
      · split
        · exact .inl ⟨show (5 : Int) ≠ 0 by decide, rfl, rfl⟩
        · split
          · exact .inl ⟨show (6 : Int) ≠ 0 by decide, rfl, rfl⟩
          · exact .inr rfl
    rcases hd with hd | hd
    · exact .inl hd
    · exact .inr ⟨by omega, hd, hd⟩
/-- a file that is read: what its text is read as -/
structure AbOk (s : ByteArray) (rs : List RuP) (ps : List (Int × Int)) : Prop where
  read : aFile s = ⟨rs, ps, 0, 0⟩
  fit : ∀ r ∈ rs, FitR r
  size : (aText rs ps).size ≤ 60000
  back : aFile (aText rs ps) = ⟨rs, ps, 0, 0⟩
  rl : rs.length ≤ 200
  pl : ps.length ≤ 200
theorem ab_ok {s : ByteArray} (hs : s.size ≤ 400) (h : (aFile s).err = 0) : ∃ rs ps, AbOk s rs ps := by
  rcases afile_cases s with h1 | ⟨_, h1, h2⟩
  · exact absurd h h1.1
  · have hg := good_file hs
    have hi := InvF.fold (rowsB s) InvF.zero
    refine ⟨_, _, h1, fun r hr => (hg.rules r hr).fit, by have := aText_size hg; omega, aText_read hg hi.rows h2, ?_, ?_⟩
    · apply Classical.byContradiction
      intro hc
      have : doneV (fileV s) = ⟨[], [], 0, 3⟩ := if_pos (.inl (by omega))
      rw [this] at h2
      injection h2 with _ _ _ h4
      exact absurd h4 (by decide)
    · apply Classical.byContradiction
      intro hc
      have : doneV (fileV s) = ⟨[], [], 0, 3⟩ := if_pos (.inr (by omega))
      rw [this] at h2
      injection h2 with _ _ _ h4
      exact absurd h4 (by decide)
set_option maxRecDepth 100000 in
set_option maxHeartbeats 32000000 in
theorem affixBack_walk (v : Int) (ln : ByteArray) (w : World) (_ : (Lit.int .i64 v).wf = true) (hl : ln.size ≤ 140737488351232) (hT : TabsL w) :
    Calls Tryd.prog 10 #[.int .i64 v, .string ln] w fun e w' => e = .returned (.bool true) ∧ Below w.heap.size w w' := by
  have HT := Lib.hid hT
  have CA := Lib.hid (fun w1 (hb : Below w.heap.size w w1) => awake11_calls w1 (HT.out.below hb))
  clear hT
  by_cases hbig : 100 < ln.size
  · have g1 : decide (100 < (ln.size : Int)) = true := by simp; omega
    clear hbig
    go_enter Tryd.func10, Tryd.ntmps10
    go_wp2_with (fail)
    refine (CA.out _ (Below.refl _ _)).mono ?_
    rintro e w1 ⟨rfl, b1⟩
    have B1 := Lib.hid b1
    clear b1 CA
    go_wp2_with (fail)
    go_ret
    exact ⟨rfl, B1.out⟩
  have g1 : decide (100 < (ln.size : Int)) = false := by simp; omega
  have hs2 : ln.size ≤ 100 := by omega
  have CF := Lib.hid (affile_calls v)
  clear hbig hl
  go_enter Tryd.func10, Tryd.ntmps10
  go_upto_region 3 with (fail)
  go_wp2_with (fail)
  refine (CF.out _).mono ?_
  rintro e wq ⟨⟨S1, rfl, z1⟩, rfl⟩
  go_wp2_with (fail)
  refine (CF.out _).mono ?_
  rintro e wq ⟨⟨S2, rfl, z2⟩, rfl⟩
  go_wp2_with (fail)
  refine (CF.out _).mono ?_
  rintro e wq ⟨⟨S3, rfl, z3⟩, rfl⟩
  clear CF
  obtain ⟨w1, hw1⟩ : ∃ w1, w1 = w.alloc (.cells #[.string S1, .string (S2 ++ ln), .string (ln ++ ⟨#[10]⟩ ++ S3)] 9) := ⟨_, rfl⟩
  obtain ⟨Q, hQ⟩ : ∃ Q, Q = w.heap.size := ⟨_, rfl⟩
  have b1 : Below w.heap.size w w1 := by rw [hw1]; exact (Below.refl _ _).alloc (Nat.le_refl _) _
  have q1 : BlkS w1 Q [S1, S2 ++ ln, ln ++ ⟨#[10]⟩ ++ S3] := by rw [hw1, hQ]; exact blk_alloc_new _ _
  have HW1 := Lib.hid (And.intro hw1 hQ)
  have B1 := Lib.hid b1
  have HQ := Lib.hid q1
  have HSZ := Lib.hid (show ∀ s ∈ [S1, S2 ++ ln, ln ++ ⟨#[10]⟩ ++ S3], s.size ≤ 400 from fun s hs => by
    simp only [List.mem_cons, List.mem_nil_iff, or_false] at hs
    rcases hs with rfl | rfl | rfl
    · omega
    · rw [ByteArray.size_append]; omega
    · rw [ByteArray.size_append, ByteArray.size_append]; show ln.size + 1 + S3.size ≤ 400; omega)
  clear hw1 hQ b1 q1
  go_wp2_with (fail)
  rw [← HW1.out.1, ← HW1.out.2]
  clear HW1
  go_loopw [30] (fun iv wr => ∃ i : Nat, i ≤ 3 ∧ iv = .int .i64 (i : Nat) ∧ Below w1.heap.size w1 wr) (fun iv _ => 3 - (intOf iv).toNat)
  case atStart => exact ⟨0, Nat.zero_le _, rfl, Below.refl _ _⟩
  case round =>
    obtain ⟨i, hi, rfl, hbw⟩ := hrel
    have BW := Lib.hid (B1.out.trans (hbw.mono B1.out.size))
    by_cases hlt : i < 3
    · have g2 : decide (i < 3) = true := by simpa using hlt
      have g2' : decide ((i : Int) < 3) = true := by simp; omega
      obtain ⟨s, hs⟩ : ∃ s, [S1, S2 ++ ln, ln ++ ⟨#[10]⟩ ++ S3][i]? = some s := ⟨_, List.getElem?_eq_getElem (by simpa using hlt)⟩
      have c0 := (HQ.out.below hbw).cell hs
      have hz := HSZ.out s (List.mem_of_getElem? hs)
      have CP := Lib.hid (aparse_calls s wr (by omega) (HT.out.below BW.out))
      unfold APost at CP
      have HB := Lib.hid hbw
      clear hs hbw
      rcases afile_cases s with ⟨h1, h2, h3⟩ | ⟨_, h1, _⟩
      · rw [h2, h3] at CP
        obtain ⟨E, hE⟩ : ∃ E, E = (aFile s).err := ⟨_, rfl⟩
        obtain ⟨L, hL⟩ : ∃ L, L = (aFile s).line := ⟨_, rfl⟩
        rw [← hE, ← hL] at CP
        rw [← hE] at h1
        have g3 : (E == 0) = false := by simpa using h1
        clear h1 h2 h3 hE hL
        go_wp2_with (fail)
        refine CP.out.mono ?_
        rintro e w2 ⟨⟨cs, rfl, ga⟩, b2⟩
        obtain ⟨Ax, ax, Px, px, hcs, _⟩ := ga.out
        subst hcs
        obtain ⟨w3, hw3⟩ : ∃ w3, w3 = w2.alloc (.cells #[.slice Ax 0 ax, .slice Px 0 px] 29) := ⟨_, rfl⟩
        obtain ⟨M, hM⟩ : ∃ M, M = w2.heap.size := ⟨_, rfl⟩
        have b3 : Below w2.heap.size w2 w3 := by rw [hw3]; exact (Below.refl _ _).alloc (Nat.le_refl _) _
        have m3 : w3.heap[M]? = some (.cells #[.slice Ax 0 ax, .slice Px 0 px] 29 (0, 0)) := by rw [hw3, hM]; exact blk_alloc_new _ _
        obtain ⟨m0, m1⟩ := pcell2 m3
        have B3 := Lib.hid (HB.out.trans ((b2.trans (b3.mono b2.size)).mono HB.out.size))
        have HW3 := Lib.hid (And.intro hw3 hM)
        clear CP b2 ga hw3 hM b3 m3 c0
        simp only [List.length_nil]
        go_upto_region 7 with (fail)
        rw [← HW3.out.1, ← HW3.out.2]
        clear HW3
        go_wp2_with (fail)
        go_roundw
        case rel => exact ⟨i + 1, hlt, by go_num, B3.out⟩
        case measure => simp [intOf]; omega
      · obtain ⟨rs, ps, hab⟩ := ab_ok hz (by rw [h1])
        rw [hab.read] at CP
        have HAB := Lib.hid hab
        clear hab h1
        go_wp2_with (fail)
        refine CP.out.mono ?_
        rintro e w2 ⟨⟨cs, rfl, ga⟩, b2⟩
        obtain ⟨w3, hw3⟩ : ∃ w3, w3 = w2.alloc (.cells cs 29) := ⟨_, rfl⟩
        obtain ⟨M, hM⟩ : ∃ M, M = w2.heap.size := ⟨_, rfl⟩
        have b3 : Below w2.heap.size w2 w3 := by rw [hw3]; exact (Below.refl _ _).alloc (Nat.le_refl _) _
        have m3 : w3.heap[M]? = some (.cells cs 29 (0, 0)) := by rw [hw3, hM]; exact blk_alloc_new _ _
        have B3 := Lib.hid (HB.out.trans ((b2.trans (b3.mono b2.size)).mono HB.out.size))
        have BX := Lib.hid (B1.out.trans (B3.out.mono B1.out.size))
        have G3 := Lib.hid (ga.below b3)
        have hrl := HAB.out.rl
        have hpl := HAB.out.pl
        have CT := Lib.hid (fun wx (hb : Below w3.heap.size w3 wx) => atext_calls rs ps cs wx (G3.out.below hb) HAB.out.fit HAB.out.size HAB.out.back (by omega) (by omega) ((HT.out.below BX.out).below hb))
        obtain ⟨T, hTT⟩ : ∃ T, T = aText rs ps := ⟨_, rfl⟩
        rw [← hTT] at CT
        have hTz : T.size ≤ 60000 := by rw [hTT]; exact HAB.out.size
        have hTb : aFile T = ⟨rs, ps, 0, 0⟩ := by rw [hTT]; exact HAB.out.back
        have CP2 := Lib.hid (fun wx (hb : Below w3.heap.size w3 wx) => aparse_small T _ wx (by omega) ((HT.out.below BX.out).below hb) hTb)
        unfold APost at CP2
        have HM := Lib.hid (fun wx (hb : Below w3.heap.size w3 wx) => (hb.block _ (Array.getElem?_eq_some_iff.1 m3).1).trans m3)
        have HW3 := Lib.hid (And.intro hw3 hM)
        obtain ⟨Ax, ax, Px, px, hcs, _⟩ := ga.out
        subst hcs
        obtain ⟨n, hn⟩ : ∃ n, n = rs.length := ⟨_, rfl⟩
        obtain ⟨m, hm⟩ : ∃ m, m = ps.length := ⟨_, rfl⟩
        have HNM := Lib.hid (And.intro hn hm)
        rw [← hn, ← hm] at HM HW3 CT G3
        rw [← hn, ← hm]
        obtain ⟨m0, m1⟩ := pcell2 (HM.out _ (Below.refl _ _))
        clear CP b2 ga hw3 hM b3 m3 c0 hTT hTz hTb hn hm
        go_upto_region 10 with (fail)
        rw [← HW3.out.1, ← HW3.out.2]
        clear HW3
        go_wp2_with (fail)
        refine (CT.out _ (Below.refl _ _)).mono ?_
        rintro e w4 ⟨rfl, b4⟩
        have B4 := Lib.hid b4
        clear CT b4 m0 m1
        go_wp2_with (fail)
        refine (CP2.out _ B4.out).mono ?_
        rintro e w5 ⟨⟨ds, rfl, gb⟩, b5⟩
        obtain ⟨w6, hw6⟩ : ∃ w6, w6 = w5.alloc (.cells ds 29) := ⟨_, rfl⟩
        obtain ⟨N, hN⟩ : ∃ N, N = w5.heap.size := ⟨_, rfl⟩
        have b6 : Below w5.heap.size w5 w6 := by rw [hw6]; exact (Below.refl _ _).alloc (Nat.le_refl _) _
        have n6 : w6.heap[N]? = some (.cells ds 29 (0, 0)) := by rw [hw6, hN]; exact blk_alloc_new _ _
        have B6 := Lib.hid (B4.out.trans ((b5.trans (b6.mono b5.size)).mono B4.out.size))
        have CS := Lib.hid (same11_calls rs ps _ ds w6 (G3.out.below B6.out) (gb.below b6) (fun r hr => (HAB.out.fit r hr).small) (by omega) (by omega))
        obtain ⟨Bx, bx, Qx, qx, hds, _⟩ := gb.out
        rw [← HNM.out.1, ← HNM.out.2] at hds
        subst hds
        have HW6 := Lib.hid (And.intro hw6 hN)
        obtain ⟨m0, m1⟩ := pcell2 (HM.out _ B6.out)
        obtain ⟨n0, n1⟩ := pcell2 n6
        clear CP2 b5 gb hw6 hN b6 n6
        go_upto_region 11 with (fail)
        rw [← HW6.out.1, ← HW6.out.2]
        clear HW6
        go_wp2_with (fail)
        refine CS.out.mono ?_
        rintro e w7 ⟨rfl, b7⟩
        have B7 := Lib.hid (B3.out.trans ((B6.out.trans (b7.mono B6.out.size)).mono B3.out.size))
        clear CS b7 m0 m1 n0 n1
        go_wp2_with (fail)
        go_roundw
        case rel => exact ⟨i + 1, hlt, by go_num, B7.out⟩
        case measure => simp [intOf]; omega
    · obtain rfl : i = 3 := by omega
      have B5 := Lib.hid BW.out
      clear hbw
      go_wp2_with (fail)
      refine (CA.out _ B5.out).mono ?_
      rintro e w2 ⟨rfl, b2⟩
      have B6 := Lib.hid (B5.out.trans (b2.mono B5.out.size))
      clear b2 CA
      go_wp2_with (fail)
      go_ret
      exact ⟨rfl, B6.out⟩
end Go.Proofs.YtmcnnfpeicnnjaaDoor

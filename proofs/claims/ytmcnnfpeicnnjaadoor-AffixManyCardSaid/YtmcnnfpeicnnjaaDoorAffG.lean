/- affix: texts of lines; the example; AffixWrong. -/
import Derived.Test.YtmcnnfpeicnnjaaDoorAffF
import Derived.Test.YtmcnnfpeicnnjaaDoorPlace
namespace Go.Proofs.YtmcnnfpeicnnjaaDoor
open Go.RowKit Go.Deep Go.Own
set_option linter.unusedVariables false
def lnOk (l : List UInt8) : Prop := ∀ x ∈ l, x ≠ 10
def linesT : List (List UInt8) → List UInt8
  | [] => []
  | l :: t => l ++ 10 :: linesT t
theorem linesT_app : ∀ (a b : List (List UInt8)), linesT (a ++ b) = linesT a ++ linesT b
  | [], b => rfl
  | l :: t, b => by simp [linesT, linesT_app t b]
theorem cut_line : ∀ (l t : List UInt8), lnOk l → cutL 10 (l ++ 10 :: t) = l :: cutL 10 t
  | [], t, h => by simp [cutL]
  | x :: l, t, h => by
    have ih := cut_line l t (fun y hy => h y (List.mem_cons_of_mem _ hy))
    rw [List.cons_append, cutL, if_neg (h x List.mem_cons_self), ih]
    rfl
theorem cut_last : ∀ (l : List UInt8), lnOk l → cutL 10 l = [l]
  | [], h => rfl
  | x :: l, h => by
    have ih := cut_last l (fun y hy => h y (List.mem_cons_of_mem _ hy))
    rw [cutL, if_neg (h x List.mem_cons_self), ih]
    rfl
theorem cut_lines : ∀ (ls : List (List UInt8)) (w : List UInt8), (∀ l ∈ ls, lnOk l) → lnOk w → cutL 10 (linesT ls ++ w) = ls ++ [w]
  | [], w, h, hw => cut_last w hw
  | l :: t, w, h, hw => by
    have ih := cut_lines t w (fun y hy => h y (List.mem_cons_of_mem _ hy)) hw
    rw [linesT, List.append_assoc, List.cons_append, cut_line l _ (h l List.mem_cons_self), ih]
    rfl
theorem trim_none {l : List UInt8} (h : l.getLast? ≠ some 10) : Lib.trimSuffix l [10] = l := by
  unfold Lib.trimSuffix
  rw [if_neg]
  intro hs
  unfold Lib.hasSuffix at hs
  obtain ⟨t, rfl⟩ := List.isSuffixOf_iff_suffix.1 hs
  exact h (by simp)
theorem trim_one (l : List UInt8) : Lib.trimSuffix (l ++ [10]) [10] = l := by
  unfold Lib.trimSuffix
  rw [if_pos]
  · simp
  · unfold Lib.hasSuffix
    simp
theorem rows_last {s : ByteArray} (ls : List (List UInt8)) (w : List UInt8) (hs : s.data.toList = linesT ls ++ w) (h : ∀ l ∈ ls, lnOk l) (hw : lnOk w) (hne : w ≠ []) : rowsB s = (ls ++ [w]).map mkB := by
  unfold rowsB cutB trimN
  rw [mk_list, hs, trim_none, cut_lines ls w h hw]
  intro he
  rw [List.getLast?_append] at he
  cases hg : w.getLast? with
  | none => exact hne (List.getLast?_eq_none_iff.1 hg)
  | some x =>
    rw [hg] at he
    have hx : x = 10 := by simpa using he
    exact hw x (List.mem_of_getLast? hg) hx
theorem linesT_end : ∀ (ls : List (List UInt8)) (l : List UInt8), linesT (ls ++ [l]) = (linesT ls ++ l) ++ [10] := fun ls l => by
  rw [linesT_app]
  simp [linesT]
theorem rows_lines {s : ByteArray} (ls : List (List UInt8)) (hs : s.data.toList = linesT ls) (h : ∀ l ∈ ls, lnOk l) (hne : ls ≠ []) : rowsB s = ls.map mkB := by
  obtain ⟨a, l, rfl⟩ : ∃ a l, ls = a ++ [l] := ⟨ls.dropLast, ls.getLast hne, (List.dropLast_concat_getLast hne).symm⟩
  unfold rowsB cutB trimN
  rw [mk_list, hs, linesT_end, trim_one, cut_lines a l (fun x hx => h x (List.mem_append_left _ hx)) (h l (by simp))]
theorem aex1 : aFile ⟨#[]⟩ = ⟨[], [], 0, 0⟩ := by decide +kernel
theorem aex2 : (aFile ⟨#[83, 70, 88, 32, 83, 32, 89, 32, 48, 32, 115, 32, 46, 10, 67, 65, 83, 69, 32, 195, 150, 195, 182, 10]⟩).rules.length = 1 ∧ (aFile ⟨#[83, 70, 88, 32, 83, 32, 89, 32, 48, 32, 115, 32, 46, 10, 67, 65, 83, 69, 32, 195, 150, 195, 182, 10]⟩).pairs.length = 1 ∧ (aFile ⟨#[83, 70, 88, 32, 83, 32, 89, 32, 48, 32, 115, 32, 46, 10, 67, 65, 83, 69, 32, 195, 150, 195, 182, 10]⟩).err = 0 := by decide +kernel
theorem aex3 : aFile ⟨#[10, 104, 111, 112, 10]⟩ = ⟨[], [], 2, 5⟩ := by decide +kernel
theorem aparse_small (s : ByteArray) (a : AffR) (w : World) (hs : s.size ≤ 1000000000) (hT : TabsL w) (ha : aFile s = a) : Calls Tryd.prog 12 #[.string s] w (APost w a) := ha ▸ aparse_calls s w hs hT
set_option maxRecDepth 100000 in
set_option maxHeartbeats 8000000 in
theorem awake11_calls (w : World) (hT : TabsL w) : Calls Tryd.prog 13 #[] w fun e w' => e = .returned (.bool true) ∧ Below w.heap.size w w' := by
  have HT := Lib.hid hT
  have C1 := Lib.hid (aparse_small ⟨#[]⟩ _ w (by decide) hT aex1)
  unfold APost at C1
  have C2 := Lib.hid (fun w2 (hb : Below w.heap.size w w2) => aparse_calls ⟨#[83, 70, 88, 32, 83, 32, 89, 32, 48, 32, 115, 32, 46, 10, 67, 65, 83, 69, 32, 195, 150, 195, 182, 10]⟩ w2 (by decide) (HT.out.below hb))
  unfold APost at C2
  have C3 := Lib.hid (fun w2 (hb : Below w.heap.size w w2) => aparse_small ⟨#[10, 104, 111, 112, 10]⟩ _ w2 (by decide) (HT.out.below hb) aex3)
  unfold APost at C3
  obtain ⟨a2, ha2⟩ : ∃ a, a = aFile ⟨#[83, 70, 88, 32, 83, 32, 89, 32, 48, 32, 115, 32, 46, 10, 67, 65, 83, 69, 32, 195, 150, 195, 182, 10]⟩ := ⟨_, rfl⟩
  have hx := aex2
  rw [← ha2] at hx C2
  obtain ⟨h1, h2, h3⟩ := hx
  have H2 := Lib.hid (And.intro h1 (And.intro h2 h3))
  rw [h3] at C2
  clear hT ha2 h1 h2 h3
  go_enter Tryd.func13, Tryd.ntmps13
  go_wp2_with (fail)
  refine C1.out.mono ?_
  rintro e w1 ⟨⟨cs, rfl, g1⟩, b1⟩
  obtain ⟨A1, c1, B1x, d1, hcs, _⟩ := g1.out
  subst hcs
  obtain ⟨w2, hw2⟩ : ∃ w2, w2 = w1.alloc (.cells #[.slice A1 0 c1, .slice B1x 0 d1] 29) := ⟨_, rfl⟩
  obtain ⟨M, hM⟩ : ∃ M, M = w1.heap.size := ⟨_, rfl⟩
  have b2 : Below w1.heap.size w1 w2 := by rw [hw2]; exact (Below.refl _ _).alloc (Nat.le_refl _) _
  have m2 : w2.heap[M]? = some (.cells #[.slice A1 0 c1, .slice B1x 0 d1] 29 (0, 0)) := by rw [hw2, hM]; exact blk_alloc_new _ _
  have B2 := Lib.hid (b1.trans (b2.mono b1.size))
  have HM := Lib.hid (fun wx (hb : Below w2.heap.size w2 wx) => (hb.block _ (Array.getElem?_eq_some_iff.1 m2).1).trans m2)
  have HW2 := Lib.hid (And.intro hw2 hM)
  clear C1 b1 g1 hw2 hM b2 m2
  simp only [List.length_nil]
  go_upto_region 2 with (fail)
  rw [← HW2.out.1, ← HW2.out.2]
  clear HW2
  go_wp2_with (fail)
  refine (C2.out _ B2.out).mono ?_
  rintro e w3 ⟨⟨cs, rfl, g3⟩, b3⟩
  obtain ⟨A3, c3, B3x, d3, hcs, _⟩ := g3.out
  rw [H2.out.1, H2.out.2.1] at hcs
  subst hcs
  obtain ⟨w4, hw4⟩ : ∃ w4, w4 = w3.alloc (.cells #[.slice A3 1 c3, .slice B3x 1 d3] 29) := ⟨_, rfl⟩
  obtain ⟨N, hN⟩ : ∃ N, N = w3.heap.size := ⟨_, rfl⟩
  have b4 : Below w3.heap.size w3 w4 := by rw [hw4]; exact (Below.refl _ _).alloc (Nat.le_refl _) _
  have n4 : w4.heap[N]? = some (.cells #[.slice A3 1 c3, .slice B3x 1 d3] 29 (0, 0)) := by rw [hw4, hN]; exact blk_alloc_new _ _
  have B24 := Lib.hid (b3.trans (b4.mono b3.size))
  have B4 := Lib.hid (B2.out.trans (B24.out.mono B2.out.size))
  have HN := Lib.hid (fun wx (hb : Below w4.heap.size w4 wx) => (hb.block _ (Array.getElem?_eq_some_iff.1 n4).1).trans n4)
  have HW4 := Lib.hid (And.intro hw4 hN)
  clear C2 b3 g3 hw4 hN b4 n4 H2
  go_upto_region 3 with (fail)
  rw [← HW4.out.1, ← HW4.out.2]
  clear HW4
  go_wp2_with (fail)
  refine (C3.out _ B4.out).mono ?_
  rintro e w5 ⟨⟨cs, rfl, g5⟩, b5⟩
  obtain ⟨A5, c5, B5x, d5, hcs, _⟩ := g5.out
  subst hcs
  obtain ⟨w6, hw6⟩ : ∃ w6, w6 = w5.alloc (.cells #[.slice A5 0 c5, .slice B5x 0 d5] 29) := ⟨_, rfl⟩
  have b6 : Below w5.heap.size w5 w6 := by rw [hw6]; exact (Below.refl _ _).alloc (Nat.le_refl _) _
  have B46 := Lib.hid (b5.trans (b6.mono b5.size))
  have B6 := Lib.hid (B4.out.trans (B46.out.mono B4.out.size))
  obtain ⟨m0, m1⟩ := pcell2 (HM.out w6 (B24.out.trans (B46.out.mono B24.out.size)))
  obtain ⟨n0, n1⟩ := pcell2 (HN.out w6 B46.out)
  have HW6 := Lib.hid hw6
  clear C3 b5 g5 hw6 b6
  simp only [List.length_nil]
  go_upto_region 4 with (fail)
  rw [← HW6.out]
  go_wp2_with (fail)
  go_ret
  exact ⟨rfl, B6.out⟩
def awP (i : Nat) : List UInt8 := if i % 3 = 0 then [83, 70, 88, 32, 83, 32, 89, 32, 48, 32, 115, 32, 46] else if i % 3 = 1 then [] else [35, 32, 119, 111, 114, 100, 115]
def awL (n : Nat) : List (List UInt8) := (List.range n).map awP
def awT : Nat → ByteArray
  | 0 => ⟨#[]⟩
  | n + 1 => awT n ++ mkB (awP n ++ [10])
theorem awT_data : ∀ n, (awT n).data.toList = linesT (awL n)
  | 0 => rfl
  | n + 1 => by
    have ih := awT_data n
    have e : awL (n + 1) = awL n ++ [awP n] := by unfold awL; rw [List.range_succ, List.map_append]; rfl
    rw [e, linesT_end, awT, ByteArray.data_append, Array.toList_append, ih, mk_list, List.append_assoc]
theorem awP_ok (i : Nat) : lnOk (awP i) := by
  unfold awP lnOk
  split
  · decide
  · split <;> decide
theorem awL_ok (n : Nat) : ∀ l ∈ awL n, lnOk l := fun l hl => by
  unfold awL at hl
  obtain ⟨i, _, rfl⟩ := List.mem_map.1 hl
  exact awP_ok i
theorem awP_size (i : Nat) : (awP i).length ≤ 13 := by
  unfold awP
  split
  · decide
  · split <;> decide
theorem awT_size : ∀ n, (awT n).size ≤ 14 * n
  | 0 => by decide
  | n + 1 => by
    have ih := awT_size n
    have h := awP_size n
    rw [awT, ByteArray.size_append, mk_size, List.length_append, List.length_singleton]
    omega
def awS : RuP := (ruleV (mkB [83, 70, 88, 32, 83, 32, 89, 32, 48, 32, 115, 32, 46])).getD zeroR
def awQ : RuP := (ruleV (mkB [80, 70, 88, 32, 83, 32, 89, 32, 48, 32, 115, 32, 46])).getD zeroR
theorem aw_s : ruleV (mkB [83, 70, 88, 32, 83, 32, 89, 32, 48, 32, 115, 32, 46]) = some awS ∧ (mkB [83, 70, 88, 32, 83, 32, 89, 32, 48, 32, 115, 32, 46]).size ≠ 0 ∧ uB (mkB [83, 70, 88, 32, 83, 32, 89, 32, 48, 32, 115, 32, 46]) 0 ≠ 35 := by decide +kernel
theorem aw_q : ruleV (mkB [80, 70, 88, 32, 83, 32, 89, 32, 48, 32, 115, 32, 46]) = some awQ ∧ (mkB [80, 70, 88, 32, 83, 32, 89, 32, 48, 32, 115, 32, 46]).size ≠ 0 ∧ uB (mkB [80, 70, 88, 32, 83, 32, 89, 32, 48, 32, 115, 32, 46]) 0 ≠ 35 := by decide +kernel
theorem aw_hit : hitR awS awS = false ∧ hitR awQ awS = true := by decide +kernel
theorem aw_skip : uB (mkB [35, 32, 119, 111, 114, 100, 115]) 0 = 35 := by decide +kernel
theorem step_skip {f : FileP} {i : Nat} {s : ByteArray} (h : s.size = 0 ∨ uB s 0 = 35) : stepF f i s = f := if_pos h
theorem step_rule {f : FileP} {i : Nat} {s : ByteArray} {r : RuP} (h : ruleV s = some r) (h1 : s.size ≠ 0) (h2 : uB s 0 ≠ 35) : stepF f i s = ⟨f.rules ++ [r], f.pairs, f.rows ++ [(i : Int) + 1], f.bad⟩ := by
  unfold stepF
  rw [if_neg (fun e => e.elim h1 h2), h]
theorem step_pair {f : FileP} {i : Nat} {s : ByteArray} {p : Int × Int} (h : ruleV s = none) (hp : pairV f.pairs s = some p) (h1 : s.size ≠ 0) (h2 : uB s 0 ≠ 35) : stepF f i s = ⟨f.rules, f.pairs ++ [p], f.rows, f.bad⟩ := by
  unfold stepF
  rw [if_neg (fun e => e.elim h1 h2), h]
  simp only [hp]
theorem step_bad {f : FileP} {i : Nat} {s : ByteArray} (h : ruleV s = none) (hp : pairV f.pairs s = none) (h1 : s.size ≠ 0) (h2 : uB s 0 ≠ 35) : stepF f i s = ⟨f.rules, f.pairs, f.rows, if f.bad = 0 then i + 1 else f.bad⟩ := by
  unfold stepF
  rw [if_neg (fun e => e.elim h1 h2), h]
  simp only [hp]
/-- the lines ahead -/
theorem aw_fold : ∀ n, ∃ rr : List Int, rr.length = (n + 2) / 3 ∧ foldF zeroF 0 ((awL n).map mkB) = ⟨List.replicate ((n + 2) / 3) awS, [], rr, 0⟩
  | 0 => ⟨[], rfl, rfl⟩
  | n + 1 => by
    obtain ⟨rr, h1, h2⟩ := aw_fold n
    have e : awL (n + 1) = awL n ++ [awP n] := by unfold awL; rw [List.range_succ, List.map_append]; rfl
    rw [e, List.map_append, foldF_app, h2, Nat.zero_add]
    have hl : ((awL n).map mkB).length = n := by simp [awL]
    rw [hl]
    show ∃ rr : List Int, rr.length = (n + 1 + 2) / 3 ∧ stepF _ n (mkB (awP n)) = _
    have h3 : n % 3 = 0 ∨ n % 3 = 1 ∨ n % 3 = 2 := by omega
    rcases h3 with h3 | h3 | h3
    · have ep : awP n = [83, 70, 88, 32, 83, 32, 89, 32, 48, 32, 115, 32, 46] := if_pos h3
      rw [ep, step_rule aw_s.1 aw_s.2.1 aw_s.2.2]
      refine ⟨rr ++ [(n : Int) + 1], ?_, ?_⟩
      · rw [List.length_append, List.length_singleton, h1]; omega
      · rw [show (n + 1 + 2) / 3 = (n + 2) / 3 + 1 by omega, List.replicate_succ']
    · have ep : awP n = [] := by unfold awP; rw [if_neg (by omega), if_pos h3]
      rw [ep, step_skip (.inl rfl), show (n + 1 + 2) / 3 = (n + 2) / 3 by omega]
      exact ⟨rr, h1, rfl⟩
    · have ep : awP n = [35, 32, 119, 111, 114, 100, 115] := by unfold awP; rw [if_neg (by omega), if_neg (by omega)]
      rw [ep, step_skip (.inr aw_skip), show (n + 1 + 2) / 3 = (n + 2) / 3 by omega]
      exact ⟨rr, h1, rfl⟩
/-- a line that is none -/
structure NoneL (w : List UInt8) : Prop where
  rule : ruleV (mkB w) = none
  pair : pairV [] (mkB w) = none
  ne : (mkB w).size ≠ 0
  n35 : uB (mkB w) 0 ≠ 35
  ok : lnOk w
  len : w.length ≤ 20
theorem none_ne {w : List UInt8} (h : NoneL w) : w ≠ [] := fun e => h.ne (by rw [e]; rfl)
def hopL : List UInt8 := [104, 111, 112]
theorem aw_rows1 (n : Nat) (w : List UInt8) (h : lnOk w) (hne : w ≠ []) : rowsB (awT n ++ mkB w) = (awL n).map mkB ++ [mkB w] := by
  rw [rows_last (awL n) w (by rw [ByteArray.data_append, Array.toList_append, awT_data, mk_list]) (awL_ok n) h hne, List.map_append]
  rfl
theorem aw_rows2 (n : Nat) (w : List UInt8) (h : lnOk w) : rowsB (awT n ++ mkB w ++ mkB (10 :: hopL)) = (awL n).map mkB ++ [mkB w, mkB hopL] := by
  rw [rows_last (awL n ++ [w]) hopL (by
    rw [ByteArray.data_append, ByteArray.data_append, Array.toList_append, Array.toList_append, awT_data, mk_list, mk_list, linesT_app]
    simp [linesT]) (fun l hl => by
      rcases List.mem_append.1 hl with hl | hl
      · exact awL_ok n l hl
      · obtain rfl := List.mem_singleton.1 hl
        exact h) (by unfold lnOk hopL; decide) (by decide), List.map_append, List.map_append, List.append_assoc]
  rfl
theorem hop_none : NoneL hopL := ⟨by decide +kernel, by decide +kernel, by decide, by decide +kernel, by unfold lnOk; decide, by decide⟩
theorem aw_bad1 (n : Nat) (hn : n < 20) (w : List UInt8) (h : NoneL w) : aFile (awT n ++ mkB w) = ⟨[], [], (n : Int) + 1, 5⟩ := by
  obtain ⟨rr, h1, h2⟩ := aw_fold n
  have hz := awT_size n
  have hl := h.len
  have hw : ((awL n).map mkB).length = n := by simp [awL]
  unfold aFile fileV
  rw [if_neg (by rw [ByteArray.size_append, mk_size]; omega), aw_rows1 n w h.ok (none_ne h), foldF_app, h2, hw, Nat.zero_add]
  show doneV (stepF _ n (mkB w)) = _
  rw [step_bad h.rule h.pair h.ne h.n35]
  unfold doneV
  simp only [List.length_replicate, List.length_nil, if_true]
  rw [if_neg (by omega), if_pos (by omega)]
  rfl
theorem aw_bad2 (n : Nat) (hn : n < 20) (w : List UInt8) (h : NoneL w) : aFile (awT n ++ mkB w ++ mkB (10 :: hopL)) = ⟨[], [], (n : Int) + 1, 5⟩ := by
  obtain ⟨rr, h1, h2⟩ := aw_fold n
  have hz := awT_size n
  have hl := h.len
  have hw : ((awL n).map mkB).length = n := by simp [awL]
  unfold aFile fileV
  rw [if_neg (by rw [ByteArray.size_append, ByteArray.size_append, mk_size, mk_size]; show ¬ 65536 < (awT n).size + w.length + 4; omega), aw_rows2 n w h.ok, foldF_app, h2, hw, Nat.zero_add]
  show doneV (stepF (stepF _ n (mkB w)) (n + 1) (mkB hopL)) = _
  rw [step_bad h.rule h.pair h.ne h.n35, step_bad hop_none.rule hop_none.pair hop_none.ne hop_none.n35]
  unfold doneV
  simp only [List.length_replicate, List.length_nil, if_true]
  rw [if_neg (Nat.succ_ne_zero n), if_neg (by omega), if_pos (by omega)]
  rfl
theorem any_rep (m : Nat) (b : Bool) (p : RuP → Bool) (h : p awS = b) : (List.replicate m awS).any p = (decide (0 < m) && b) := by
  induction m with
  | zero => rfl
  | succ m ih =>
    rw [List.replicate_succ, List.any_cons, ih, h]
    cases b <;> simp
theorem clash_rep (m i : Nat) (hi : i < m) : clashV (List.replicate m awS ++ [awQ]) i = false := by
  unfold clashV
  rw [List.getElem?_append_left (by rw [List.length_replicate]; exact hi), List.getElem?_replicate, if_pos hi]
  simp only
  rw [List.take_append_of_le_length (by rw [List.length_replicate]; omega), List.take_replicate, any_rep _ false _ aw_hit.1]
  simp
theorem clash_last (m : Nat) : clashV (List.replicate m awS ++ [awQ]) m = decide (0 < m) := by
  unfold clashV
  rw [List.getElem?_append_right (by rw [List.length_replicate]; exact Nat.le_refl _), List.length_replicate, Nat.sub_self]
  simp only [List.getElem?_cons_zero]
  rw [List.take_append_of_le_length (by rw [List.length_replicate]; exact Nat.le_refl _), List.take_of_length_le (by rw [List.length_replicate]; exact Nat.le_refl _), any_rep _ true _ aw_hit.2]
  simp
theorem aw_last1 (n : Nat) (hn : n < 20) : (aFile (awT n ++ mkB [80, 70, 88, 32, 83, 32, 89, 32, 48, 32, 115, 32, 46])).err = (if n = 0 then 0 else 6) ∧ (aFile (awT n ++ mkB [80, 70, 88, 32, 83, 32, 89, 32, 48, 32, 115, 32, 46])).line = (if n = 0 then 0 else (n : Int) + 1) := by
  obtain ⟨rr, h1, h2⟩ := aw_fold n
  have hz := awT_size n
  have hw : ((awL n).map mkB).length = n := by simp [awL]
  unfold aFile fileV
  rw [if_neg (by rw [ByteArray.size_append, mk_size]; show ¬ 65536 < (awT n).size + 13; omega), aw_rows1 n [80, 70, 88, 32, 83, 32, 89, 32, 48, 32, 115, 32, 46] (by unfold lnOk; decide) (by decide), foldF_app, h2, hw, Nat.zero_add]
  show (doneV (stepF _ n (mkB [80, 70, 88, 32, 83, 32, 89, 32, 48, 32, 115, 32, 46]))).err = _ ∧ (doneV (stepF _ n (mkB [80, 70, 88, 32, 83, 32, 89, 32, 48, 32, 115, 32, 46]))).line = _
  rw [step_rule aw_q.1 aw_q.2.1 aw_q.2.2]
  unfold doneV
  simp only [List.length_append, List.length_replicate, List.length_nil, List.length_singleton]
  rw [if_neg (by omega), if_neg (by omega)]
  by_cases h0 : n = 0
  · subst h0
    have hb : bothV2 (List.replicate ((0 + 2) / 3) awS ++ [awQ]) (rr ++ [((0 : Nat) : Int) + 1]) = 0 := by
      unfold bothV2
      rw [find_none]
      intro i hi
      have hi' : i = 0 := by simp at hi; omega
      subst hi'
      exact clash_last 0
    rw [hb]
    exact ⟨rfl, rfl⟩
  · have hm : 0 < (n + 2) / 3 := by omega
    have hb : bothV2 (List.replicate ((n + 2) / 3) awS ++ [awQ]) (rr ++ [(n : Int) + 1]) = (n : Int) + 1 := by
      unfold bothV2
      rw [find_some (i := (n + 2) / 3) (by simp) (fun j hj => clash_rep _ j hj) (by rw [clash_last]; exact decide_eq_true hm)]
      simp only
      rw [List.getD_eq_getElem?_getD, List.getElem?_append_right (by rw [h1]; exact Nat.le_refl _), h1, Nat.sub_self]
      rfl
    rw [hb, if_pos (by omega), if_neg h0, if_neg h0]
    exact ⟨rfl, rfl⟩
theorem aw_last2 (n : Nat) (hn : n < 20) : aFile (awT n ++ mkB [80, 70, 88, 32, 83, 32, 89, 32, 48, 32, 115, 32, 46] ++ mkB (10 :: hopL)) = ⟨[], [], (n : Int) + 2, 5⟩ := by
  obtain ⟨rr, h1, h2⟩ := aw_fold n
  have hz := awT_size n
  have hw : ((awL n).map mkB).length = n := by simp [awL]
  unfold aFile fileV
  rw [if_neg (by rw [ByteArray.size_append, ByteArray.size_append, mk_size, mk_size]; show ¬ 65536 < (awT n).size + 13 + 4; omega), aw_rows2 n [80, 70, 88, 32, 83, 32, 89, 32, 48, 32, 115, 32, 46] (by unfold lnOk; decide), foldF_app, h2, hw, Nat.zero_add]
  show doneV (stepF (stepF _ n (mkB [80, 70, 88, 32, 83, 32, 89, 32, 48, 32, 115, 32, 46])) (n + 1) (mkB hopL)) = _
  rw [step_rule aw_q.1 aw_q.2.1 aw_q.2.2, step_bad hop_none.rule hop_none.pair hop_none.ne hop_none.n35]
  unfold doneV
  simp only [List.length_append, List.length_replicate, List.length_nil, List.length_singleton, if_true]
  rw [if_neg (by omega), if_pos (by omega)]
  simp only [AffR.mk.injEq, true_and, and_true]
  omega
def apA : Array Value := #[.string ⟨#[83, 70, 88, 32, 83, 32, 89, 32, 48, 32, 115, 32, 46, 10]⟩, .string ⟨#[10]⟩, .string ⟨#[35, 32, 119, 111, 114, 100, 115, 10]⟩]
set_option maxRecDepth 100000 in
theorem ap_index (j : Nat) : ∀ w : World, (Instr.index 23 (.agg apA) (.int .i64 ((j : Int) % 3))).run Tryd.prog w = .ok (.string (mkB (awP j ++ [10]))) w := by
  have h : j % 3 = 0 ∨ j % 3 = 1 ∨ j % 3 = 2 := by omega
  unfold awP
  rcases h with h | h | h
  · rw [show (j : Int) % 3 = 0 by omega, if_pos h]; exact fun w => by kernel_rfl
  · rw [show (j : Int) % 3 = 1 by omega, if_neg (by omega), if_pos h]; exact fun w => by kernel_rfl
  · rw [show (j : Int) % 3 = 2 by omega, if_neg (by omega), if_neg (by omega)]; exact fun w => by kernel_rfl
def awA : Array Value := #[.string ⟨#[104, 111, 112]⟩, .string ⟨#[83, 70, 88, 32, 83, 32, 89, 32, 48, 32, 115]⟩, .string ⟨#[83, 70, 88, 32, 83, 32, 89, 32, 48, 32, 115, 32, 46, 32, 46]⟩, .string ⟨#[83, 70, 88, 32, 49, 32, 89, 32, 48, 32, 115, 32, 46]⟩, .string ⟨#[83, 70, 88, 32, 83, 32, 88, 32, 48, 32, 115, 32, 46]⟩, .string ⟨#[83, 70, 88, 32, 83, 32, 89, 32, 32, 115, 32, 46]⟩, .string ⟨#[83, 70, 88, 32, 83, 32, 89, 32, 48, 32, 115, 32, 91]⟩, .string ⟨#[83, 70, 88, 32, 83, 32, 89, 32, 48, 32, 115, 32, 91, 93]⟩, .string ⟨#[67, 65, 83, 69, 32, 195, 137]⟩, .string ⟨#[67, 65, 83, 69, 32, 195, 137, 195, 137]⟩, .string ⟨#[67, 65, 83, 69, 32, 65, 195, 169]⟩, .string ⟨#[32, 83, 70, 88, 32, 83, 32, 89, 32, 48, 32, 115, 32, 46]⟩, .string ⟨#[80, 70, 88, 32, 83, 83, 32, 89, 32, 48, 32, 115, 32, 46]⟩, .string ⟨#[80, 70, 88, 32, 83, 32, 89, 32, 48, 32, 115, 32, 46]⟩]
set_option maxRecDepth 100000 in
theorem aw_index (i : Nat) (h : i < 13) : ∃ w0, NoneL w0 ∧ ∀ w : World, (Instr.index 24 (.agg awA) (.int .i64 (i : Nat))).run Tryd.prog w = .ok (.string (mkB w0)) w := by
  have h : i = 0 ∨ i = 1 ∨ i = 2 ∨ i = 3 ∨ i = 4 ∨ i = 5 ∨ i = 6 ∨ i = 7 ∨ i = 8 ∨ i = 9 ∨ i = 10 ∨ i = 11 ∨ i = 12 := by omega
  rcases h with rfl | rfl | rfl | rfl | rfl | rfl | rfl | rfl | rfl | rfl | rfl | rfl | rfl
  · exact ⟨[104, 111, 112], ⟨by decide +kernel, by decide +kernel, by decide, by decide +kernel, by unfold lnOk; decide, by decide⟩, fun w => by kernel_rfl⟩
  · exact ⟨[83, 70, 88, 32, 83, 32, 89, 32, 48, 32, 115], ⟨by decide +kernel, by decide +kernel, by decide, by decide +kernel, by unfold lnOk; decide, by decide⟩, fun w => by kernel_rfl⟩
  · exact ⟨[83, 70, 88, 32, 83, 32, 89, 32, 48, 32, 115, 32, 46, 32, 46], ⟨by decide +kernel, by decide +kernel, by decide, by decide +kernel, by unfold lnOk; decide, by decide⟩, fun w => by kernel_rfl⟩
  · exact ⟨[83, 70, 88, 32, 49, 32, 89, 32, 48, 32, 115, 32, 46], ⟨by decide +kernel, by decide +kernel, by decide, by decide +kernel, by unfold lnOk; decide, by decide⟩, fun w => by kernel_rfl⟩
  · exact ⟨[83, 70, 88, 32, 83, 32, 88, 32, 48, 32, 115, 32, 46], ⟨by decide +kernel, by decide +kernel, by decide, by decide +kernel, by unfold lnOk; decide, by decide⟩, fun w => by kernel_rfl⟩
  · exact ⟨[83, 70, 88, 32, 83, 32, 89, 32, 32, 115, 32, 46], ⟨by decide +kernel, by decide +kernel, by decide, by decide +kernel, by unfold lnOk; decide, by decide⟩, fun w => by kernel_rfl⟩
  · exact ⟨[83, 70, 88, 32, 83, 32, 89, 32, 48, 32, 115, 32, 91], ⟨by decide +kernel, by decide +kernel, by decide, by decide +kernel, by unfold lnOk; decide, by decide⟩, fun w => by kernel_rfl⟩
  · exact ⟨[83, 70, 88, 32, 83, 32, 89, 32, 48, 32, 115, 32, 91, 93], ⟨by decide +kernel, by decide +kernel, by decide, by decide +kernel, by unfold lnOk; decide, by decide⟩, fun w => by kernel_rfl⟩
  · exact ⟨[67, 65, 83, 69, 32, 195, 137], ⟨by decide +kernel, by decide +kernel, by decide, by decide +kernel, by unfold lnOk; decide, by decide⟩, fun w => by kernel_rfl⟩
  · exact ⟨[67, 65, 83, 69, 32, 195, 137, 195, 137], ⟨by decide +kernel, by decide +kernel, by decide, by decide +kernel, by unfold lnOk; decide, by decide⟩, fun w => by kernel_rfl⟩
  · exact ⟨[67, 65, 83, 69, 32, 65, 195, 169], ⟨by decide +kernel, by decide +kernel, by decide, by decide +kernel, by unfold lnOk; decide, by decide⟩, fun w => by kernel_rfl⟩
  · exact ⟨[32, 83, 70, 88, 32, 83, 32, 89, 32, 48, 32, 115, 32, 46], ⟨by decide +kernel, by decide +kernel, by decide, by decide +kernel, by unfold lnOk; decide, by decide⟩, fun w => by kernel_rfl⟩
  · exact ⟨[80, 70, 88, 32, 83, 83, 32, 89, 32, 48, 32, 115, 32, 46], ⟨by decide +kernel, by decide +kernel, by decide, by decide +kernel, by unfold lnOk; decide, by decide⟩, fun w => by kernel_rfl⟩
set_option maxRecDepth 100000 in
theorem aw_index13 : ∀ w : World, (Instr.index 24 (.agg awA) (.int .i64 13)).run Tryd.prog w = .ok (.string (mkB [80, 70, 88, 32, 83, 32, 89, 32, 48, 32, 115, 32, 46])) w := fun w => by kernel_rfl
end Go.Proofs.YtmcnnfpeicnnjaaDoor

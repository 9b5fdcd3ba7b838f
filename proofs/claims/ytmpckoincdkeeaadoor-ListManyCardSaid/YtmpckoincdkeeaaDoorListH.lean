/- ListMany. -/
import Derived.Test.YtmpckoincdkeeaaDoorListF
import Derived.Test.YtmpckoincdkeeaaDoorBld
namespace Go.Proofs.YtmpckoincdkeeaaDoor
open Go.RowKit Go.Deep Go.Own
set_option linter.unusedVariables false
def manyL (wrong : Bool) (k : Nat) : List (List UInt8) := (if wrong = true then [[97, 32, 98]] else []) ++ List.replicate k [97, 47, 83]
def manyT (wrong : Bool) (k : Nat) : List UInt8 := linesT (manyL wrong k)
theorem manyT_zero (wrong : Bool) : manyT wrong 0 = if wrong = true then [97, 32, 98, 10] else [] := by cases wrong <;> rfl
theorem manyT_succ (wrong : Bool) (k : Nat) : manyT wrong (k + 1) = manyT wrong k ++ [97, 47, 83, 10] := by
  unfold manyT manyL
  rw [List.replicate_succ', ← List.append_assoc, linesT_app]
  rfl
theorem manyT_len (wrong : Bool) : ∀ k, (manyT wrong k).length ≤ 4 * k + 4
  | 0 => by rw [manyT_zero]; cases wrong <;> decide
  | k + 1 => by have := manyT_len wrong k; rw [manyT_succ, List.length_append]; show _ + 4 ≤ _; omega
theorem many_ok (wrong : Bool) (k : Nat) : ∀ l ∈ manyL wrong k, lnOk l := fun l hl => by
  unfold manyL at hl
  rcases List.mem_append.1 hl with h | h
  · cases wrong with
    | true => obtain rfl := List.mem_singleton.1 h; unfold lnOk; decide
    | false => exact absurd h List.not_mem_nil
  · obtain rfl := (List.mem_replicate.1 h).2; unfold lnOk; decide
theorem row_aS : skipR (mkB [97, 47, 83]) = false ∧ entR (mkB [97, 47, 83]) = (⟨#[97]⟩, [83], true) ∧ skipR (mkB [97, 32, 98]) = false ∧ (entR (mkB [97, 32, 98])).2.2 = false := by decide +kernel
theorem go_aS : ∀ (k i : Nat) (es : List Ent) (bad : Nat), goR i es bad ((List.replicate k [97, 47, 83]).map mkB) = (es ++ List.replicate k ((⟨#[97]⟩ : ByteArray), [(83 : Int)]), bad)
  | 0, i, es, bad => by simp [goR]
  | k + 1, i, es, bad => by
    rw [List.replicate_succ, List.map_cons, goR, row_aS.1, row_aS.2.1, if_neg (by decide), if_pos rfl, go_aS k, List.append_assoc]
    rfl
theorem many_go (wrong : Bool) (k : Nat) : goR 0 [] 0 ((manyL wrong k).map mkB) = (List.replicate k ((⟨#[97]⟩ : ByteArray), [(83 : Int)]), if wrong = true then 1 else 0) := by
  unfold manyL
  cases wrong with
  | true =>
    rw [if_pos rfl, List.map_append, List.map_cons, List.map_nil, List.singleton_append, goR, row_aS.2.2.1, if_neg (by decide), row_aS.2.2.2, if_neg (by decide), if_pos rfl, go_aS]
    rfl
  | false =>
    rw [if_neg (by decide), List.nil_append, go_aS]
    rfl
theorem many_parse (wrong : Bool) (k : Nat) (hk : 0 < k) (hk2 : k ≤ 2001) : parseV (mkB (manyT wrong k)) = if 2000 < k then ([], 0, 3) else if wrong = true then ([], 1, 5) else (List.replicate k ((⟨#[97]⟩ : ByteArray), [(83 : Int)]), 0, 0) := by
  have hl := manyT_len wrong k
  have hr : rowsB (mkB (manyT wrong k)) = (manyL wrong k).map mkB := rows_lines (manyL wrong k) (by rw [mk_list]; rfl) (many_ok wrong k) (by
    unfold manyL
    intro h
    have := congrArg List.length h
    rw [List.length_append, List.length_replicate, List.length_nil] at this
    omega)
  unfold parseV
  rw [if_neg (by rw [mk_size]; omega), hr, many_go]
  simp only [List.length_replicate]
  by_cases h2 : 2000 < k
  · rw [if_pos h2, if_pos h2]
  · rw [if_neg h2, if_neg h2]
    cases wrong with
    | true => rfl
    | false => rfl
def OwnB (w : World) (base : Nat) (v : Value) (l : List UInt8) : Prop := w.ownsRow base 5 1 v l.length (Lib.byteCells l)
theorem OwnB.back {w : World} {base : Nat} {v : Value} {l : List UInt8} (h : OwnB w base v l) (h0 : 0 < l.length) : ∃ q cap, v = .slice (some ⟨q, 0, none⟩) l.length cap ∧ (convert 46 9 v).run Tryd.prog w = .ok (.string (mkB l)) w := by
  obtain ⟨q, cap, rfl, _, _, _, _, hc, _⟩ := row_at h h0
  refine ⟨q, cap, rfl, ?_⟩
  exact run_convert_bytes_back (P := Tryd.prog) w 46 9 5 ⟨q, 0, none⟩ cap l (by kernel_rfl) (by kernel_rfl) (by kernel_rfl) (fun j hj => by
    rw [show (⟨q, 0, none⟩ : Addr).add j = ⟨q, j, none⟩ from by unfold Addr.add; split <;> simp_all]
    exact hc j _ (by simp [Lib.byteCells, hj]))
theorem OwnB.push {w : World} {base : Nat} {v : Value} {l m : List UInt8} {n : Nat} (O : w.ownsRow base 5 1 v n (Lib.byteCells l ++ Lib.strCells (mkB m))) (hn : n = l.length + m.length) : OwnB w base v (l ++ m) := by
  unfold OwnB
  rw [List.length_append, ← hn]
  have e : Lib.byteCells (l ++ m) = Lib.byteCells l ++ Lib.strCells (mkB m) := by simp [Lib.byteCells, Lib.strCells, mk_list]
  rw [e]; exact O
theorem OwnB.made (w : World) (n : Nat) (hn : n ≤ maxLen) (base : Nat) (hb : base ≤ w.heap.size) : OwnB (w.alloc (.cells (madeCells #[.int .u8 0] (n * 1)) 5)) base (.slice (some ⟨w.heap.size, 0, none⟩) 0 n) [] :=
  ⟨rfl, .inr ⟨w.heap.size, n, _, rfl, hb, blk_alloc_new _ _, Nat.zero_le _, hn, by simp [madeCells], rfl⟩⟩
set_option maxRecDepth 100000 in
set_option maxHeartbeats 8000000 in
theorem listMany_walk (n : Int) (wrong : Bool) (w : World) (_ : (Lit.int .i64 n).wf = true) (hT : TabsL w) :
    Calls Tryd.prog 8 #[.int .i64 n, .bool wrong] w fun e w' => e = .returned (.bool true) ∧ Below w.heap.size w w' := by
  obtain ⟨i0, hi0, hz0, hs0, hb0⟩ := info_parts bl_info5
  obtain ⟨m, hm, _, cp1⟩ := place_nat n 3 (by omega) (by omega)
  obtain ⟨k, hk⟩ : ∃ k : Nat, k = 1999 + m := ⟨_, rfl⟩
  have hkI : (k : Int) = 2000 + (m : Int) - 1 := by omega
  have HK := Lib.hid hkI
  have k0 : 1999 ≤ k := by omega
  have k1 : k ≤ 2001 := by omega
  have CP1 := Lib.hid cp1
  have HT := Lib.hid hT
  obtain ⟨w1, hw1⟩ : ∃ w1, w1 = w.alloc (.cells (madeCells #[.int .u8 0] ((3 * k + 10) * 1)) 5) := ⟨_, rfl⟩
  obtain ⟨N, hN⟩ : ∃ N, N = w.heap.size := ⟨_, rfl⟩
  have b1 : Below w.heap.size w w1 := by rw [hw1]; exact (Below.refl _ _).alloc (Nat.le_refl _) _
  have O1 := Lib.hid (show OwnB w1 w.heap.size (.slice (some ⟨N, 0, none⟩) 0 (3 * k + 10)) [] by rw [hw1, hN]; exact OwnB.made w _ (by unfold maxLen; omega) _ (Nat.le_refl _))
  have hmk : (Instr.makeSlice 46 (.int .i64 0) (.int .i64 (3 * (k : Int) + 10))).run Tryd.prog w = .ok (.slice (some ⟨N, 0, none⟩) 0 (3 * k + 10)) w1 := by
    have hr := run_make (P := Tryd.prog) w 46 5 i0 (.int .u8 0) Tryd.underlying46 hi0 hz0 .i64 .i64 0 ((3 * k + 10 : Nat) : Int) (Int.le_refl _) (by omega) (by rw [hb0]; omega) (by omega)
    rw [hs0] at hr
    simp only [Int.toNat_zero, Int.toNat_natCast] at hr
    rw [hw1, hN]
    rw [show (3 * (k : Int) + 10) = ((3 * k + 10 : Nat) : Int) by omega]
    exact hr
  have B1 := Lib.hid b1
  clear cp1 hT hk hkI b1 hw1 hN hm
  go_enter Tryd.func8, Tryd.ntmps8
  go_wp2_with (fail)
  refine (CP1.out _).mono ?_
  rintro e wq ⟨rfl, rfl⟩
  clear CP1
  go_upto_region 2 with (fail)
  rw [← HK.out]
  cases wrong with
  | true =>
    go_wp2_with (at_builtin; refine Lib.wpList_append_own_string _ rfl _ _ 46 9 rfl w.heap.size 5 i0 Tryd.underlying46 Tryd.underlying9 hi0 hz0 hs0 hb0 _ _ _ rfl O1.out ⟨#[97, 32, 98, 10]⟩ rfl ?c3 ?c4 ?c5 ?_)
    case c3 => unfold maxLen; show 0 + 4 ≤ _; omega
    case c4 => show 0 + 4 ≤ _; omega
    case c5 => exact B1.out.size
    intro v5 w5 o5 g5 _
    have O5 := Lib.hid (OwnB.push (m := [97, 32, 98, 10]) o5 rfl)
    have B5 := Lib.hid (B1.out.grown g5 B1.out.size (fun q hq => (own_block_lt O1.out hq).1))
    have hl5 : ([] ++ [97, 32, 98, 10] : List UInt8) = manyT true 0 := rfl
    rw [hl5] at O5
    obtain ⟨A5, c5, hv⟩ := own_is O5.out
    subst hv
    clear o5 g5 hl5 O1 B1
    go_wp2_with (fail)
    go_loopw [6, 7] (fun bv iv wr => ∃ j : Nat, j ≤ k ∧ OwnB wr w.heap.size bv (manyT true j) ∧ iv = .int .i64 (j : Nat) ∧ Below w.heap.size w wr) (fun _ iv _ => k - (intOf iv).toNat)
    case atStart => exact ⟨0, Nat.zero_le _, O5.out, rfl, B5.out⟩
    case round =>
      obtain ⟨j, hj, hO, rfl, hb⟩ := hrel
      obtain ⟨A6, c6, hv⟩ := own_is hO
      subst hv
      have hml := manyT_len true j
      by_cases hgo : j < k
      · have g1 : decide (j < k) = true := by simpa using hgo
        have OX := Lib.hid hO
        have BX := Lib.hid hb
        obtain ⟨L, hL⟩ : ∃ L, L = manyT true j := ⟨_, rfl⟩
        have HL := Lib.hid hL
        rw [← hL] at OX hml
        rw [← hL]
        clear hO hb hL
        go_wp2_with (at_builtin; refine Lib.wpList_append_own_string _ rfl _ _ 46 9 rfl w.heap.size 5 i0 Tryd.underlying46 Tryd.underlying9 hi0 hz0 hs0 hb0 _ _ _ rfl OX.out ⟨#[97, 47, 83, 10]⟩ rfl ?c3 ?c4 ?c5 ?_)
        case c3 => unfold maxLen; show _ + 4 ≤ _; omega
        case c4 => show _ + 4 ≤ _; omega
        case c5 => exact BX.out.size
        intro v5 w5 o5 g5 _
        obtain ⟨A9, c9, rfl⟩ := own_is o5
        go_wp2_with (fail)
        go_roundw
        case rel =>
          refine ⟨j + 1, hgo, ?_, by go_num, BX.out.grown g5 BX.out.size (fun q hq => (own_block_lt OX.out hq).1)⟩
          rw [manyT_succ, ← HL.out]
          exact OwnB.push o5 rfl
        case measure => simp [intOf]; omega
      · obtain rfl : j = k := by omega
        have g1 : decide (j < j) = false := by simp
        have hlen : 0 < (manyT true j).length := by
          obtain ⟨i, rfl⟩ : ∃ i, j = i + 1 := ⟨j - 1, by omega⟩
          rw [manyT_succ, List.length_append]; show 0 < _ + 4; omega
        obtain ⟨q, cap, hv, hcv⟩ := hO.back hlen
        have CP := Lib.hid (parse_got (mkB (manyT true j)) wr (by rw [mk_size]; omega) (HT.out.below hb))
        unfold PPost at CP
        rw [many_parse true j (by omega) k1] at CP
        have BX := Lib.hid hb
        obtain ⟨S, hS⟩ : ∃ S, S = mkB (manyT true j) := ⟨_, rfl⟩
        rw [← hS] at hcv CP
        clear hO hb hlen hv hS hgo
        by_cases h2 : 2000 < j
        · have g2 : decide (2000 < (j : Int)) = true := by simp; omega
          rw [if_pos h2] at CP
          clear h2
          go_wp2_with (fail)
          refine CP.out.mono ?_
          rintro e w6 ⟨⟨v6, rfl, g6⟩, b6⟩
          obtain ⟨A7, c7, rfl, _, _⟩ := g6.out
          have B6 := Lib.hid (BX.out.trans (b6.mono BX.out.size))
          have CA := Lib.hid (lawake_calls w6 (HT.out.below B6.out))
          clear g6 b6 CP hcv
          go_wp2_with (fail)
          refine CA.out.mono ?_
          rintro e w7 ⟨rfl, b7⟩
          have B7 := Lib.hid (B6.out.trans (b7.mono B6.out.size))
          clear b7 CA
          go_wp2_with (fail)
          go_ret
          exact ⟨rfl, B7.out⟩
        · have g2 : decide (2000 < (j : Int)) = false := by simp; omega
          rw [if_neg h2] at CP
          rw [if_pos rfl] at CP
          clear h2
          go_wp2_with (fail)
          refine CP.out.mono ?_
          rintro e w6 ⟨⟨v6, rfl, g6⟩, b6⟩
          obtain ⟨A7, c7, rfl, _, _⟩ := g6.out
          have B6 := Lib.hid (BX.out.trans (b6.mono BX.out.size))
          have CA := Lib.hid (lawake_calls w6 (HT.out.below B6.out))
          clear g6 b6 CP hcv
          go_wp2_with (fail)
          refine CA.out.mono ?_
          rintro e w7 ⟨rfl, b7⟩
          have B7 := Lib.hid (B6.out.trans (b7.mono B6.out.size))
          clear b7 CA
          go_wp2_with (fail)
          go_ret
          exact ⟨rfl, B7.out⟩
  | false =>
    have O5 : Hid (OwnB w1 w.heap.size (.slice (some ⟨N, 0, none⟩) 0 (3 * k + 10)) (manyT false 0)) := O1
    have B5 := B1
    clear O1 B1
    go_wp2_with (fail)
    go_loopw [6, 7] (fun bv iv wr => ∃ j : Nat, j ≤ k ∧ OwnB wr w.heap.size bv (manyT false j) ∧ iv = .int .i64 (j : Nat) ∧ Below w.heap.size w wr) (fun _ iv _ => k - (intOf iv).toNat)
    case atStart => exact ⟨0, Nat.zero_le _, O5.out, rfl, B5.out⟩
    case round =>
      obtain ⟨j, hj, hO, rfl, hb⟩ := hrel
      obtain ⟨A6, c6, hv⟩ := own_is hO
      subst hv
      have hml := manyT_len false j
      by_cases hgo : j < k
      · have g1 : decide (j < k) = true := by simpa using hgo
        have OX := Lib.hid hO
        have BX := Lib.hid hb
        obtain ⟨L, hL⟩ : ∃ L, L = manyT false j := ⟨_, rfl⟩
        have HL := Lib.hid hL
        rw [← hL] at OX hml
        rw [← hL]
        clear hO hb hL
        go_wp2_with (at_builtin; refine Lib.wpList_append_own_string _ rfl _ _ 46 9 rfl w.heap.size 5 i0 Tryd.underlying46 Tryd.underlying9 hi0 hz0 hs0 hb0 _ _ _ rfl OX.out ⟨#[97, 47, 83, 10]⟩ rfl ?c3 ?c4 ?c5 ?_)
        case c3 => unfold maxLen; show _ + 4 ≤ _; omega
        case c4 => show _ + 4 ≤ _; omega
        case c5 => exact BX.out.size
        intro v5 w5 o5 g5 _
        obtain ⟨A9, c9, rfl⟩ := own_is o5
        go_wp2_with (fail)
        go_roundw
        case rel =>
          refine ⟨j + 1, hgo, ?_, by go_num, BX.out.grown g5 BX.out.size (fun q hq => (own_block_lt OX.out hq).1)⟩
          rw [manyT_succ, ← HL.out]
          exact OwnB.push o5 rfl
        case measure => simp [intOf]; omega
      · obtain rfl : j = k := by omega
        have g1 : decide (j < j) = false := by simp
        have hlen : 0 < (manyT false j).length := by
          obtain ⟨i, rfl⟩ : ∃ i, j = i + 1 := ⟨j - 1, by omega⟩
          rw [manyT_succ, List.length_append]; show 0 < _ + 4; omega
        obtain ⟨q, cap, hv, hcv⟩ := hO.back hlen
        have CP := Lib.hid (parse_got (mkB (manyT false j)) wr (by rw [mk_size]; omega) (HT.out.below hb))
        unfold PPost at CP
        rw [many_parse false j (by omega) k1] at CP
        have BX := Lib.hid hb
        obtain ⟨S, hS⟩ : ∃ S, S = mkB (manyT false j) := ⟨_, rfl⟩
        rw [← hS] at hcv CP
        clear hO hb hlen hv hS hgo
        by_cases h2 : 2000 < j
        · have g2 : decide (2000 < (j : Int)) = true := by simp; omega
          rw [if_pos h2] at CP
          clear h2
          go_wp2_with (fail)
          refine CP.out.mono ?_
          rintro e w6 ⟨⟨v6, rfl, g6⟩, b6⟩
          obtain ⟨A7, c7, rfl, _, _⟩ := g6.out
          have B6 := Lib.hid (BX.out.trans (b6.mono BX.out.size))
          have CA := Lib.hid (lawake_calls w6 (HT.out.below B6.out))
          clear g6 b6 CP hcv
          go_wp2_with (fail)
          refine CA.out.mono ?_
          rintro e w7 ⟨rfl, b7⟩
          have B7 := Lib.hid (B6.out.trans (b7.mono B6.out.size))
          clear b7 CA
          go_wp2_with (fail)
          go_ret
          exact ⟨rfl, B7.out⟩
        · have g2 : decide (2000 < (j : Int)) = false := by simp; omega
          rw [if_neg h2] at CP
          rw [if_neg (by decide)] at CP
          clear h2
          go_wp2_with (fail)
          refine CP.out.mono ?_
          rintro e w6 ⟨⟨v6, rfl, g6⟩, b6⟩
          obtain ⟨A7, c7, rfl, _, _⟩ := g6.out
          rw [List.length_replicate]
          have B6 := Lib.hid (BX.out.trans (b6.mono BX.out.size))
          have CA := Lib.hid (lawake_calls w6 (HT.out.below B6.out))
          clear g6 b6 CP hcv
          go_wp2_with (fail)
          refine CA.out.mono ?_
          rintro e w7 ⟨rfl, b7⟩
          have B7 := Lib.hid (B6.out.trans (b7.mono B6.out.size))
          clear b7 CA
          go_wp2_with (fail)
          go_ret
          exact ⟨rfl, B7.out⟩
end Go.Proofs.YtmpckoincdkeeaaDoor

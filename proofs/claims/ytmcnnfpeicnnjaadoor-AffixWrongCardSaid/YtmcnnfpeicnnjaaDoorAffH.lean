/- AffixWrong: the walk. -/
import Derived.Test.YtmcnnfpeicnnjaaDoorAffG
namespace Go.Proofs.YtmcnnfpeicnnjaaDoor
open Go.RowKit Go.Deep Go.Own
set_option linter.unusedVariables false
/-- what the law wants of a last line -/
structure AwW (n k : Nat) (R : ByteArray) (e1 l1 l2 : Int) : Prop where
  idx : ∀ w : World, (Instr.index 24 (.agg awA) (.int .i64 (k : Nat))).run Tryd.prog w = .ok (.string R) w
  rz : R.size ≤ 20
  e : (aFile (awT n ++ R)).err = e1
  l : (aFile (awT n ++ R)).line = l1
  f : (aFile (awT n ++ R ++ ⟨#[10, 104, 111, 112]⟩)).err = 5
  m : (aFile (awT n ++ R ++ ⟨#[10, 104, 111, 112]⟩)).line = l2
theorem aw_low (n k : Nat) (hn : n < 20) (hk : k < 13) : ∃ R, AwW n k R 5 ((n : Int) + 1) ((n : Int) + 1) := by
  obtain ⟨w, h, hi⟩ := aw_index k hk
  have h1 := aw_bad1 n hn w h
  have h2 : aFile (awT n ++ mkB w ++ ⟨#[10, 104, 111, 112]⟩) = _ := aw_bad2 n hn w h
  exact ⟨mkB w, hi, by rw [mk_size]; exact h.len, by rw [h1], by rw [h1], by rw [h2], by rw [h2]⟩
theorem aw_high (n : Nat) (hn : n < 20) : ∃ R, AwW n 13 R (if n = 0 then 0 else 6) (if n = 0 then 0 else (n : Int) + 1) ((n : Int) + 2) := by
  have h1 := aw_last1 n hn
  have h2 : aFile (awT n ++ _ ++ ⟨#[10, 104, 111, 112]⟩) = _ := aw_last2 n hn
  exact ⟨_, aw_index13, by rw [mk_size]; decide, h1.1, h1.2, by rw [h2], by rw [h2]⟩
set_option maxRecDepth 100000 in
set_option maxHeartbeats 16000000 in
theorem affixWrong_walk (how ahead : Int) (w : World) (_ : (Lit.int .i64 how).wf = true) (_ : (Lit.int .i64 ahead).wf = true) (hT : TabsL w) :
    Calls Tryd.prog 3 #[.int .i64 how, .int .i64 ahead] w fun e w' => e = .returned (.bool true) ∧ Below w.heap.size w w' := by
  obtain ⟨n, hn, _, cp1⟩ := place_nat ahead 20 (by omega) (by omega)
  obtain ⟨k, hk, _, cp2⟩ := place_nat how 14 (by omega) (by omega)
  have CP1 := Lib.hid cp1
  have CP2 := Lib.hid cp2
  have HT := Lib.hid hT
  clear cp1 cp2 hT
  go_enter Tryd.func3, Tryd.ntmps3
  go_wp2_with (fail)
  refine (CP1.out _).mono ?_
  rintro e wq ⟨rfl, rfl⟩
  clear CP1
  go_wp2_with (fail)
  go_loopw [5, 7] (fun sv iv wr => ∃ j : Nat, j ≤ n ∧ sv = .string (awT j) ∧ iv = .int .i64 (j : Nat) ∧ w = wr) (fun _ iv _ => n - (intOf iv).toNat)
  case atStart => exact ⟨0, Nat.zero_le _, rfl, rfl, by first | rfl | trivial⟩
  case round =>
    obtain ⟨j, hj, rfl, rfl, rfl⟩ := hrel
    have hz := awT_size j
    by_cases hgo : j < n
    · have g1 : decide (j < n) = true := by simpa using hgo
      have HI := ap_index j
      unfold apA at HI
      generalize hag : Value.agg _ = ag at HI
      obtain ⟨P, hP⟩ : ∃ P, P = awT j := ⟨_, rfl⟩
      obtain ⟨R, hR⟩ : ∃ R, R = mkB (awP j ++ [10]) := ⟨_, rfl⟩
      have hRz : R.size ≤ 14 := by rw [hR, mk_size, List.length_append, List.length_singleton]; have := awP_size j; omega
      rw [← hP] at hz
      rw [← hP]
      rw [← hR] at HI
      have HS := Lib.hid (show awT (j + 1) = P ++ R by rw [hP, hR]; rfl)
      clear hP hR
      go_wp2_with (fail)
      go_roundw
      case rel => exact ⟨j + 1, hgo, by rw [HS.out], by go_num, by first | rfl | trivial⟩
      case measure => simp [intOf]; omega
    · obtain rfl : j = n := by omega
      have g1 : decide (j < j) = false := by simp
      clear hgo
      obtain ⟨R, e1, l1, l2, hW, hcase⟩ : ∃ R e1 l1 l2, AwW j k R e1 l1 l2 ∧ ((k < 13 ∧ e1 = 5 ∧ l1 = (j : Int) + 1 ∧ l2 = (j : Int) + 1) ∨ (k = 13 ∧ e1 = (if j = 0 then 0 else 6) ∧ l1 = (if j = 0 then 0 else (j : Int) + 1) ∧ l2 = (j : Int) + 2)) := by
        by_cases h : k < 13
        · obtain ⟨R, h1⟩ := aw_low j k hn h
          exact ⟨R, _, _, _, h1, .inl ⟨h, rfl, rfl, rfl⟩⟩
        · obtain rfl : k = 13 := by omega
          obtain ⟨R, h1⟩ := aw_high j hn
          exact ⟨R, _, _, _, h1, .inr ⟨rfl, rfl, rfl, rfl⟩⟩
      obtain ⟨P, hP⟩ : ∃ P, P = awT j := ⟨_, rfl⟩
      have hRz := hW.rz
      have C1 := Lib.hid (aparse_calls (P ++ R) w (by rw [ByteArray.size_append, hP]; omega) HT.out)
      have C2 := Lib.hid (fun w2 (hb : Below w.heap.size w w2) => aparse_calls (P ++ R ++ ⟨#[10, 104, 111, 112]⟩) w2 (by rw [ByteArray.size_append, ByteArray.size_append, hP]; show (awT j).size + R.size + 4 ≤ _; omega) (HT.out.below hb))
      unfold APost at C1 C2
      obtain ⟨a1, ha1⟩ : ∃ a, a = aFile (P ++ R) := ⟨_, rfl⟩
      obtain ⟨a2, ha2⟩ : ∃ a, a = aFile (P ++ R ++ ⟨#[10, 104, 111, 112]⟩) := ⟨_, rfl⟩
      have h1 : a1.err = e1 := by rw [ha1, hP]; exact hW.e
      have h2 : a1.line = l1 := by rw [ha1, hP]; exact hW.l
      have h3 : a2.err = 5 := by rw [ha2, hP]; exact hW.f
      have h4 : a2.line = l2 := by rw [ha2, hP]; exact hW.m
      rw [← ha1, h1, h2] at C1
      rw [← ha2, h3, h4] at C2
      rw [← hP] at hz ⊢
      have HX2 := Lib.hid hW.idx
      have CA := Lib.hid (fun wx (hb : Below w.heap.size w wx) => awake11_calls wx (HT.out.below hb))
      have HI := HX2.out
      unfold awA at HI
      generalize hag : Value.agg _ = ag at HI
      clear hP ha1 ha2 h1 h2 h3 h4 hW HX2
      go_wp2_with (fail)
      refine (CP2.out _).mono ?_
      rintro e wq ⟨rfl, rfl⟩
      clear CP2
      go_upto_region 9 with (fail)
      clear HI hag
      rcases hcase with ⟨hk13, he1, hl1, hl2⟩ | ⟨hk13, he1, hl1, hl2⟩
      · have g2 : ((k : Int) == 13) = false := by simp; omega
        have g3 : (k == 13) = false := by simp; omega
        subst he1 hl1 hl2
        go_wp2_with (fail)
        refine C1.out.mono ?_
        rintro e u1 ⟨⟨cs, rfl, ga⟩, b1⟩
        obtain ⟨A1, c1, D1, d1, hcs, _⟩ := ga.out
        subst hcs
        have B1 := Lib.hid b1
        have b2 : Below u1.heap.size u1 (u1.alloc (.cells #[.slice A1 a1.rules.length c1, .slice D1 a1.pairs.length d1] 29)) := (Below.refl _ _).alloc (Nat.le_refl _) _
        have B2 := Lib.hid (b1.trans (b2.mono b1.size))
        clear C1 ga b1 b2
        go_wp2_with (fail)
        refine (C2.out _ B2.out).mono ?_
        rintro e u3 ⟨⟨cs, rfl, gb⟩, b3⟩
        obtain ⟨A3, c3, D3, d3, hcs, _⟩ := gb.out
        subst hcs
        have B3 := Lib.hid (B2.out.trans (b3.mono B2.out.size))
        have b4 : Below u3.heap.size u3 (u3.alloc (.cells #[.slice A3 a2.rules.length c3, .slice D3 a2.pairs.length d3] 29)) := (Below.refl _ _).alloc (Nat.le_refl _) _
        have B4 := Lib.hid (B3.out.trans (b4.mono B3.out.size))
        clear C2 gb b3 b4
        have gq : (k : Int) / 13 = 0 := by omega
        have gt : (k : Int).tdiv 13 = 0 := by rw [Int.tdiv_eq_ediv_of_nonneg (by omega)]; omega
        have gm : max ((j : Int) + 1) 0 = (j : Int) + 1 := by omega
        have gm2 : (((j : Int) + 1) == max ((j : Int) + 1) 0) = true := by rw [gm]; simp
        go_wp2_with (fail)
        refine (CA.out _ B4.out).mono ?_
        rintro e u5 ⟨rfl, b5⟩
        have B5 := Lib.hid (B4.out.trans (b5.mono B4.out.size))
        clear CA b5
        go_wp2_with (fail)
        go_ret
        exact ⟨rfl, B5.out⟩
      · subst hk13
        by_cases hj0 : j = 0
        · subst hj0
          rw [if_pos rfl] at he1 hl1
          subst he1 hl1 hl2
          go_wp2_with (fail)
          refine C1.out.mono ?_
          rintro e u1 ⟨⟨cs, rfl, ga⟩, b1⟩
          obtain ⟨A1, c1, D1, d1, hcs, _⟩ := ga.out
          subst hcs
          have B1 := Lib.hid b1
          have b2 : Below u1.heap.size u1 (u1.alloc (.cells #[.slice A1 a1.rules.length c1, .slice D1 a1.pairs.length d1] 29)) := (Below.refl _ _).alloc (Nat.le_refl _) _
          have B2 := Lib.hid (b1.trans (b2.mono b1.size))
          clear C1 ga b1 b2
          go_wp2_with (fail)
          refine (C2.out _ B2.out).mono ?_
          rintro e u3 ⟨⟨cs, rfl, gb⟩, b3⟩
          obtain ⟨A3, c3, D3, d3, hcs, _⟩ := gb.out
          subst hcs
          have B3 := Lib.hid (B2.out.trans (b3.mono B2.out.size))
          have b4 : Below u3.heap.size u3 (u3.alloc (.cells #[.slice A3 a2.rules.length c3, .slice D3 a2.pairs.length d3] 29)) := (Below.refl _ _).alloc (Nat.le_refl _) _
          have B4 := Lib.hid (B3.out.trans (b4.mono B3.out.size))
          clear C2 gb b3 b4
          have gm : max (0 : Int) 2 = 2 := by decide
          have gm2 : ((2 : Int) == max (0 : Int) 2) = true := by decide
          go_wp2_with (fail)
          refine (CA.out _ B4.out).mono ?_
          rintro e u5 ⟨rfl, b5⟩
          have B5 := Lib.hid (B4.out.trans (b5.mono B4.out.size))
          clear CA b5
          go_wp2_with (fail)
          go_ret
          exact ⟨rfl, B5.out⟩
        · have g2 : ((j : Int) == 0) = false := by simp; omega
          have g3 : (j == 0) = false := by simpa using hj0
          rw [if_neg hj0] at he1 hl1
          subst he1 hl1 hl2
          go_wp2_with (fail)
          refine C1.out.mono ?_
          rintro e u1 ⟨⟨cs, rfl, ga⟩, b1⟩
          obtain ⟨A1, c1, D1, d1, hcs, _⟩ := ga.out
          subst hcs
          have B1 := Lib.hid b1
          have b2 : Below u1.heap.size u1 (u1.alloc (.cells #[.slice A1 a1.rules.length c1, .slice D1 a1.pairs.length d1] 29)) := (Below.refl _ _).alloc (Nat.le_refl _) _
          have B2 := Lib.hid (b1.trans (b2.mono b1.size))
          clear C1 ga b1 b2
          go_wp2_with (fail)
          refine (C2.out _ B2.out).mono ?_
          rintro e u3 ⟨⟨cs, rfl, gb⟩, b3⟩
          obtain ⟨A3, c3, D3, d3, hcs, _⟩ := gb.out
          subst hcs
          have B3 := Lib.hid (B2.out.trans (b3.mono B2.out.size))
          have b4 : Below u3.heap.size u3 (u3.alloc (.cells #[.slice A3 a2.rules.length c3, .slice D3 a2.pairs.length d3] 29)) := (Below.refl _ _).alloc (Nat.le_refl _) _
          have B4 := Lib.hid (B3.out.trans (b4.mono B3.out.size))
          clear C2 gb b3 b4
          have gm : max (0 : Int) ((j : Int) + 2) = (j : Int) + 2 := by omega
          have gm2 : (((j : Int) + 2) == max (0 : Int) ((j : Int) + 2)) = true := by rw [gm]; simp
          go_wp2_with (fail)
          refine (CA.out _ B4.out).mono ?_
          rintro e u5 ⟨rfl, b5⟩
          have B5 := Lib.hid (B4.out.trans (b5.mono B4.out.size))
          clear CA b5
          go_wp2_with (fail)
          go_ret
          exact ⟨rfl, B5.out⟩
end Go.Proofs.YtmcnnfpeicnnjaaDoor

/- FoldPairs: the walk. -/
import Derived.Test.YtmpckoincdkeeaaDoorFoldI
namespace Go.Proofs.YtmpckoincdkeeaaDoor
open Go.RowKit Go.Deep Go.Own Go.Maps
set_option linter.unusedVariables false
set_option maxRecDepth 100000 in
set_option maxHeartbeats 8000000 in
theorem foldPairs_walk (great small n : Int) (w : World) (_ : (Lit.int .i64 great).wf = true) (_ : (Lit.int .i64 small).wf = true) (_ : (Lit.int .i64 n).wf = true) (hT : Tabs2 w) :
    Calls Tryd.prog 5 #[.int .i64 great, .int .i64 small, .int .i64 n] w fun e w' => e = .returned (.bool true) ∧ Below w.heap.size w w' := by
  obtain ⟨k1, hk1, _, cp1⟩ := place_nat great 1000 (by omega) (by omega)
  obtain ⟨k2, hk2, _, cp2⟩ := place_nat small 1000 (by omega) (by omega)
  obtain ⟨k, hk, _, cp3⟩ := place_nat n 10 (by omega) (by omega)
  have CP1 := Lib.hid cp1
  have CP2 := Lib.hid cp2
  have CP3 := Lib.hid cp3
  obtain ⟨G, hG⟩ : ∃ G : Int, G = 12288 + (k1 : Int) := ⟨_, rfl⟩
  obtain ⟨S, hS⟩ : ∃ S : Int, S = 20480 + (k2 : Int) := ⟨_, rfl⟩
  have pf : PairF G S := ⟨by omega, by omega, by omega, by omega⟩
  obtain ⟨ps, hps⟩ : ∃ ps, ps = [(G, S)] := ⟨_, rfl⟩
  have hv : PairsV ps := by rw [hps]; exact pf_v pf
  obtain ⟨A, hA⟩ : ∃ A, A = enc G := ⟨_, rfl⟩
  obtain ⟨B, hB⟩ : ∃ B, B = enc S := ⟨_, rfl⟩
  have hAe : Utf8.encode G = A := by rw [hA, enc_valid (by rw [valid_int]; have := pf.g1; have := pf.g2; omega)]
  have hBe : Utf8.encode S = B := by rw [hB, enc_valid (by rw [valid_int]; have := pf.s1; have := pf.s2; omega)]
  have hAz : A.size ≤ 4 := by rw [hA]; exact enc_size4 (pf_vg pf)
  have hBz : B.size ≤ 4 := by rw [hB]; exact enc_size4 (pf_vs pf)
  have gb1 : 12288 ≤ G := pf.g1
  have gb2 : G ≤ 13287 := by have := pf.g2; omega
  have sb1 : 20480 ≤ S := pf.s1
  have sb2 : S ≤ 21479 := by have := pf.s2; omega
  obtain ⟨w1, hw1⟩ : ∃ w1, w1 = w.alloc (.cells #[Value.int .i64 G, .int .i64 S] 37) := ⟨_, rfl⟩
  obtain ⟨M, hM⟩ : ∃ M, M = w.heap.size := ⟨_, rfl⟩
  have b1 : Below w.heap.size w w1 := by rw [hw1]; exact (Below.refl _ _).alloc (Nat.le_refl _) _
  have n1 : w1.heap[M]? = some (.cells #[.int .i64 G, .int .i64 S] 37 (0, 0)) := by rw [hw1, hM]; exact blk_new w _
  have hrd : ReadsP w1 (some ⟨M, 0, none⟩) ps := fun _ => by
    refine ⟨M, 0, rfl, (Array.getElem?_eq_some_iff.1 n1).1, fun j p hp => ?_⟩
    rw [hps] at hp
    match j, hp with
    | 0, hp =>
      obtain rfl : (G, S) = p := by simpa using hp
      exact ⟨by simp [World.cell?, n1], by simp [World.cell?, n1]⟩
    | j + 1, hp => simp at hp
  have hl1 : ps.length = 1 := by rw [hps]; rfl
  have RD := Lib.hid hrd
  have B1 := Lib.hid b1
  have HV := Lib.hid hv
  have HT := Lib.hid (hT.below b1)
  have HG := Lib.hid hG
  have HS := Lib.hid hS
  have HA := Lib.hid hAe
  have HB := Lib.hid hBe
  have HW1 := Lib.hid hw1
  have HM := Lib.hid hM
  have HL1 := Lib.hid hl1
  have PF := Lib.hid pf
  have HPS := Lib.hid hps
  have HE := Lib.hid (And.intro hA hB)
  clear hrd b1 hv hG hS hw1 hM hl1 hT n1 hps cp1 cp2 cp3 hA hB hAe hBe pf
  go_enter Tryd.func5, Tryd.ntmps5
  go_wp2_with (fail)
  refine (CP1.out _).mono ?_
  rintro e wq ⟨rfl, rfl⟩
  go_wp2_with (fail)
  refine (CP2.out _).mono ?_
  rintro e wq ⟨rfl, rfl⟩
  clear CP1 CP2
  go_upto_region 2 with (fail)
  rw [← HG.out, ← HS.out]
  go_upto_region 3 with (fail)
  rw [← HW1.out, ← HM.out]
  go_wp2_with (fail)
  refine (CP3.out _).mono ?_
  rintro e wq ⟨rfl, rfl⟩
  clear CP3
  go_upto_region 5 with (fail)
  rw [HA.out, HB.out]
  have hzx : ∀ j, j ≤ 10 → (xT A j).size ≤ 60 ∧ (xT B j).size ≤ 60 := fun j hj => by
    rw [xT_size, xT_size]
    have h1 : j * A.size ≤ 10 * 4 := Nat.mul_le_mul hj hAz
    have h2 : j * B.size ≤ 10 * 4 := Nat.mul_le_mul hj hBz
    omega
  have HZX := Lib.hid hzx
  clear hzx
  go_wp2_with (fail)
  go_loopw [14, 15, 16] (fun xv yv iv wr => ∃ j : Nat, j ≤ k ∧ xv = .string (xT A j) ∧ yv = .string (xT B j) ∧ iv = .int .i64 (j : Nat) ∧ w1 = wr) (fun _ _ iv _ => k - (intOf iv).toNat)
  case atStart => exact ⟨0, Nat.zero_le _, rfl, rfl, rfl, by first | rfl | trivial⟩
  case round =>
    obtain ⟨j, hj, rfl, rfl, rfl, rfl⟩ := hrel
    obtain ⟨zx, zy⟩ := HZX.out j (by omega)
    by_cases hgo : j < k
    · have g1 : decide (j < k) = true := by simpa using hgo
      obtain ⟨X, hX⟩ : ∃ X, X = xT A j := ⟨_, rfl⟩
      obtain ⟨Y, hY⟩ : ∃ Y, Y = xT B j := ⟨_, rfl⟩
      rw [← hX] at zx
      rw [← hY] at zy
      rw [← hX, ← hY]
      have HX := Lib.hid (And.intro hX hY)
      clear hX hY
      go_wp2_with (fail)
      go_roundw
      case rel =>
        obtain ⟨a1, a2⟩ := HX.out
        exact ⟨j + 1, hgo, by rw [a1]; rfl, by rw [a2]; rfl, by go_num, by first | rfl | trivial⟩
      case measure => simp [intOf]; omega
    · obtain rfl : j = k := by omega
      have g1 : decide (j < j) = false := by simp
      obtain ⟨X, hX⟩ : ∃ X, X = xT A j := ⟨_, rfl⟩
      obtain ⟨Y, hY⟩ : ∃ Y, Y = xT B j := ⟨_, rfl⟩
      rw [← hX] at zx
      rw [← hY] at zy
      rw [← hX, ← hY]
      obtain ⟨hA, hB⟩ := HE.out
      have pf := PF.out
      have q1 := pf_sx pf j
      have q2 := pf_title pf j
      have q3 := pf_shx pf j
      have q4 := pf_shy pf j
      have q5 := pf_none pf j
      rw [← hA, ← hB, ← hX, ← hY, ← HPS.out] at q1
      rw [← hA, ← hB, ← hY, ← HPS.out] at q2
      rw [← hA, ← hX, ← HPS.out] at q3
      rw [← hB, ← hY, ← HPS.out] at q4
      rw [← hA, ← hX] at q5
      have hYB : B.size ≤ Y.size := by rw [hY, xT_size]; omega
      have FS : ∀ w : World, (Instr.slice 9 (.string Y) (some (.int .i64 (B.size : Nat))) none none).run Tryd.prog w = .ok (.string (Y.extract B.size Y.size)) w := fun w => by
        rw [run_slice_string_l (t := 9) (s := Y) (ht := Tryd.underlying9) (kl := .i64) (l := (B.size : Nat))]
        · rfl
        all_goals omega
      obtain ⟨R, hR⟩ : ∃ R, R = Y.extract B.size Y.size := ⟨_, rfl⟩
      rw [← hR] at q2 FS
      have hRz : R.size ≤ 60 := by rw [hR, ByteArray.size_extract]; omega
      obtain ⟨sh, hsh⟩ : ∃ sh : Int, sh = if 0 < j then 2 else 1 := ⟨_, rfl⟩
      rw [← hsh] at q3
      have sm : ∀ (Z T : ByteArray) (h : turnS (smallF ps) Z Z.size = T) (hz : Z.size ≤ 60) (w3 : World), Below w1.heap.size w1 w3 → Calls Tryd.prog 14 #[.slice (some ⟨M, 0, none⟩) 1 1, .string Z] w3 fun e w' => e = .returned (.string T) ∧ Below w3.heap.size w3 w' := fun Z T h hz w3 hb => by
        have := small_calls ps Z (some ⟨M, 0, none⟩) 1 w3 (RD.out.below hb) (by have := HL1.out; omega) HV.out (by omega) (HT.out.below hb)
        rw [HL1.out, h] at this; exact this
      have tm : ∀ (Z T : ByteArray) (h : turnS (greatF ps) Z 1 = T) (hz : Z.size ≤ 60) (w3 : World), Below w1.heap.size w1 w3 → Calls Tryd.prog 16 #[.slice (some ⟨M, 0, none⟩) 1 1, .string Z] w3 fun e w' => e = .returned (.string T) ∧ Below w3.heap.size w3 w' := fun Z T h hz w3 hb => by
        have := title_calls ps Z (some ⟨M, 0, none⟩) 1 w3 (RD.out.below hb) (by have := HL1.out; omega) HV.out (by omega) (HT.out.below hb)
        rw [HL1.out, h] at this; exact this
      have hm : ∀ (Z : ByteArray) (T : Int) (h : shapeOf (smallF ps) (greatF ps) (codes Z) = T) (hz : Z.size ≤ 60) (w3 : World), Below w1.heap.size w1 w3 → Calls Tryd.prog 15 #[.slice (some ⟨M, 0, none⟩) 1 1, .string Z] w3 fun e w' => e = .returned (.int .i64 T) ∧ Below w3.heap.size w3 w' := fun Z T h hz w3 hb => by
        have := shape_calls ps Z (some ⟨M, 0, none⟩) 1 w3 (RD.out.below hb) (by have := HL1.out; omega) HV.out (by omega) (HT.out.below hb)
        rw [HL1.out, h] at this; exact this
      have C1 := Lib.hid (sm X Y q1 (by omega))
      have C2 := Lib.hid (tm Y (A ++ R) q2 (by omega))
      have C3 := Lib.hid (hm X sh q3 (by omega))
      have C4 := Lib.hid (hm Y 0 q4 (by omega))
      have C5 : Hid (∀ w3 : World, Below w1.heap.size w1 w3 → Calls Tryd.prog 14 #[.slice none 0 0, .string X] w3 fun e w' => e = .returned (.string X) ∧ Below w3.heap.size w3 w') := Lib.hid (fun w3 hb => by
        have := small_calls [] X none 0 w3 (no_reads _ _) (by decide) no_pairs (by omega) (HT.out.below hb)
        rw [q5] at this; exact this)
      have C6 := Lib.hid (tm ⟨#[]⟩ ⟨#[]⟩ (title_empty ps) (by decide))
      have C7 : Hid (∀ w3 : World, Below w1.heap.size w1 w3 → Calls Tryd.prog 12 #[] w3 fun e w' => e = .returned (.bool true) ∧ Below w3.heap.size w3 w') := Lib.hid (fun w3 hb => fawake_calls w3 (HT.out.below hb))
      have Bwr : Hid (Below w1.heap.size w1 w1.drew) := Lib.hid ⟨rfl, rfl, rfl, Nat.le_refl _, fun _ _ => rfl⟩
      have HSH := Lib.hid hsh
      have hshb : 0 ≤ sh ∧ sh ≤ 2 := by rw [hsh]; split <;> omega
      clear hX hY hA hB pf q1 q2 q3 q4 q5 hR hsh sm tm hm hgo hj
      by_cases h0 : 0 < j
      · have g2 : decide (0 < j) = true := by simpa using h0
        obtain rfl : sh = 2 := by have := HSH.out; rw [if_pos h0] at this; exact this
        clear HSH h0
        go_upto_region 14 with (fail)
        refine Own.region_mix (CR [] []) [] [0, 0, 3, 0, 15, 31, 63, 63, 255, 63, 63, 63, 2111, 7231, 15935, 32767, 65535, 131071, 262143, 262143, 1048575, 262143, 4194303, 8388607, 16777215, 33554431, 33554431, 134217727, 268435455, 536870911, 1073741823, 2147483647, 4294967295, 2147483647, 17179869183, 34359738367, 68719476735, 137438953471, 274877906943, 549755813887, 1099511627775, 2199023255551, 4398046511103, 8796093022207, 17592186044415] (Own.Ord.run [(0, true), (1, true), (3, true), (2, false), (4, true), (5, true), (6, true), (7, true), (9, true), (10, true), (11, true), (12, true), (13, true), (14, true), (8, false), (15, true), (16, true), (17, true), (18, true), (19, true), (21, true), (20, false), (22, true), (23, true), (24, true), (25, true), (26, true), (27, false), (28, true), (29, true), (30, true), (31, true), (33, true), (32, false), (34, true), (35, true), (36, true), (37, true), (38, false), (39, true), (40, true), (41, true), (42, false), (43, true), (44, true)] .done) (by kernel_rfl) (by kernel_rfl) (fun dst v c a w h => by cases dst <;> exact h) (fun x hx w => CR.off x hx w) ?_
        simp only [Own.Ord.run]
        repeat (refine Own.st_blind _ rfl rfl (CR.off _ (by decide) _) ?_; go_big_quiet_step (fail); refine wpQuiet_nil ?_)
        refine Own.st_do _ rfl rfl (fun K hK => ?_)
        go_simp
        refine (C1.out _ Bwr.out).mono ?_
        rintro e x2 ⟨rfl, bx2⟩
        have Bx2 := Lib.hid (Bwr.out.trans (bx2.mono Bwr.out.size))
        clear bx2 C1
        refine hK _ _ (fun q hq hd => by cases hq) ?_
        clear hK K
        repeat (refine Own.st_blind _ rfl rfl (CR.off _ (by decide) _) ?_; go_big_quiet_step (fail); refine wpQuiet_nil ?_)
        refine Own.st_do _ rfl rfl (fun K hK => ?_)
        go_simp
        refine (C2.out _ Bx2.out).mono ?_
        rintro e x3 ⟨rfl, bx3⟩
        have Bx3 := Lib.hid (Bx2.out.trans (bx3.mono Bx2.out.size))
        clear bx3 C2
        refine hK _ _ (fun q hq hd => by cases hq) ?_
        clear hK K
        repeat (refine Own.st_blind _ rfl rfl (CR.off _ (by decide) _) ?_; go_big_quiet_step (fail); refine wpQuiet_nil ?_)
        refine Own.st_do _ rfl rfl (fun K hK => ?_)
        go_simp
        refine (C3.out _ Bx3.out).mono ?_
        rintro e x4 ⟨rfl, bx4⟩
        have Bx4 := Lib.hid (Bx3.out.trans (bx4.mono Bx3.out.size))
        clear bx4 C3
        refine hK _ _ (fun q hq hd => by cases hq) ?_
        clear hK K
        repeat (refine Own.st_blind _ rfl rfl (CR.off _ (by decide) _) ?_; go_big_quiet_step (fail); refine wpQuiet_nil ?_)
        refine Own.st_do _ rfl rfl (fun K hK => ?_)
        go_simp
        refine (C4.out _ Bx4.out).mono ?_
        rintro e x5 ⟨rfl, bx5⟩
        have Bx5 := Lib.hid (Bx4.out.trans (bx5.mono Bx4.out.size))
        clear bx5 C4
        refine hK _ _ (fun q hq hd => by cases hq) ?_
        clear hK K
        repeat (refine Own.st_blind _ rfl rfl (CR.off _ (by decide) _) ?_; go_big_quiet_step (fail); refine wpQuiet_nil ?_)
        refine Own.st_do _ rfl rfl (fun K hK => ?_)
        go_simp
        refine (C5.out _ Bx5.out).mono ?_
        rintro e x6 ⟨rfl, bx6⟩
        have Bx6 := Lib.hid (Bx5.out.trans (bx6.mono Bx5.out.size))
        clear bx6 C5
        refine hK _ _ (fun q hq hd => by cases hq) ?_
        clear hK K
        repeat (refine Own.st_blind _ rfl rfl (CR.off _ (by decide) _) ?_; go_big_quiet_step (fail); refine wpQuiet_nil ?_)
        refine Own.st_do _ rfl rfl (fun K hK => ?_)
        go_simp
        refine (C6.out _ Bx6.out).mono ?_
        rintro e x7 ⟨rfl, bx7⟩
        have Bx7 := Lib.hid (Bx6.out.trans (bx7.mono Bx6.out.size))
        clear bx7 C6
        refine hK _ _ (fun q hq hd => by cases hq) ?_
        clear hK K
        repeat (refine Own.st_blind _ rfl rfl (CR.off _ (by decide) _) ?_; go_big_quiet_step (fail); refine wpQuiet_nil ?_)
        refine Own.st_do _ rfl rfl (fun K hK => ?_)
        go_simp
        refine (C7.out _ Bx7.out).mono ?_
        rintro e x8 ⟨rfl, bx8⟩
        have Bx8 := Lib.hid (Bx7.out.trans (bx8.mono Bx7.out.size))
        clear bx8 C7
        refine hK _ _ (fun q hq hd => by cases hq) ?_
        clear hK K
        repeat (refine Own.st_blind _ rfl rfl (CR.off _ (by decide) _) ?_; go_big_quiet_step (fail); refine wpQuiet_nil ?_)
        refine Own.mix_done ?_
        go_wp2_with (fail)
        go_ret
        exact ⟨rfl, B1.out.trans (Bx8.out.mono B1.out.size)⟩
      · have g2 : decide (0 < j) = false := by simpa using h0
        obtain rfl : sh = 1 := by have := HSH.out; rw [if_neg h0] at this; exact this
        clear HSH h0
        go_upto_region 14 with (fail)
        refine Own.region_mix (CR [] []) [] [0, 0, 3, 0, 15, 31, 63, 63, 255, 63, 63, 63, 2111, 7231, 15935, 32767, 65535, 131071, 262143, 262143, 1048575, 262143, 4194303, 8388607, 16777215, 33554431, 33554431, 134217727, 268435455, 536870911, 1073741823, 2147483647, 4294967295, 2147483647, 17179869183, 34359738367, 68719476735, 137438953471, 274877906943, 549755813887, 1099511627775, 2199023255551, 4398046511103, 8796093022207, 17592186044415] (Own.Ord.run [(0, true), (1, true), (3, true), (2, false), (4, true), (5, true), (6, true), (7, true), (9, true), (10, true), (11, true), (12, true), (13, true), (14, true), (8, false), (15, true), (16, true), (17, true), (18, true), (19, true), (21, true), (20, false), (22, true), (23, true), (24, true), (25, true), (26, true), (27, false), (28, true), (29, true), (30, true), (31, true), (33, true), (32, false), (34, true), (35, true), (36, true), (37, true), (38, false), (39, true), (40, true), (41, true), (42, false), (43, true), (44, true)] .done) (by kernel_rfl) (by kernel_rfl) (fun dst v c a w h => by cases dst <;> exact h) (fun x hx w => CR.off x hx w) ?_
        simp only [Own.Ord.run]
        repeat (refine Own.st_blind _ rfl rfl (CR.off _ (by decide) _) ?_; go_big_quiet_step (fail); refine wpQuiet_nil ?_)
        refine Own.st_do _ rfl rfl (fun K hK => ?_)
        go_simp
        refine (C1.out _ Bwr.out).mono ?_
        rintro e x2 ⟨rfl, bx2⟩
        have Bx2 := Lib.hid (Bwr.out.trans (bx2.mono Bwr.out.size))
        clear bx2 C1
        refine hK _ _ (fun q hq hd => by cases hq) ?_
        clear hK K
        repeat (refine Own.st_blind _ rfl rfl (CR.off _ (by decide) _) ?_; go_big_quiet_step (fail); refine wpQuiet_nil ?_)
        refine Own.st_do _ rfl rfl (fun K hK => ?_)
        go_simp
        refine (C2.out _ Bx2.out).mono ?_
        rintro e x3 ⟨rfl, bx3⟩
        have Bx3 := Lib.hid (Bx2.out.trans (bx3.mono Bx2.out.size))
        clear bx3 C2
        refine hK _ _ (fun q hq hd => by cases hq) ?_
        clear hK K
        repeat (refine Own.st_blind _ rfl rfl (CR.off _ (by decide) _) ?_; go_big_quiet_step (fail); refine wpQuiet_nil ?_)
        refine Own.st_do _ rfl rfl (fun K hK => ?_)
        go_simp
        refine (C3.out _ Bx3.out).mono ?_
        rintro e x4 ⟨rfl, bx4⟩
        have Bx4 := Lib.hid (Bx3.out.trans (bx4.mono Bx3.out.size))
        clear bx4 C3
        refine hK _ _ (fun q hq hd => by cases hq) ?_
        clear hK K
        repeat (refine Own.st_blind _ rfl rfl (CR.off _ (by decide) _) ?_; go_big_quiet_step (fail); refine wpQuiet_nil ?_)
        refine Own.st_do _ rfl rfl (fun K hK => ?_)
        go_simp
        refine (C4.out _ Bx4.out).mono ?_
        rintro e x5 ⟨rfl, bx5⟩
        have Bx5 := Lib.hid (Bx4.out.trans (bx5.mono Bx4.out.size))
        clear bx5 C4
        refine hK _ _ (fun q hq hd => by cases hq) ?_
        clear hK K
        repeat (refine Own.st_blind _ rfl rfl (CR.off _ (by decide) _) ?_; go_big_quiet_step (fail); refine wpQuiet_nil ?_)
        refine Own.st_do _ rfl rfl (fun K hK => ?_)
        go_simp
        refine (C5.out _ Bx5.out).mono ?_
        rintro e x6 ⟨rfl, bx6⟩
        have Bx6 := Lib.hid (Bx5.out.trans (bx6.mono Bx5.out.size))
        clear bx6 C5
        refine hK _ _ (fun q hq hd => by cases hq) ?_
        clear hK K
        repeat (refine Own.st_blind _ rfl rfl (CR.off _ (by decide) _) ?_; go_big_quiet_step (fail); refine wpQuiet_nil ?_)
        refine Own.st_do _ rfl rfl (fun K hK => ?_)
        go_simp
        refine (C6.out _ Bx6.out).mono ?_
        rintro e x7 ⟨rfl, bx7⟩
        have Bx7 := Lib.hid (Bx6.out.trans (bx7.mono Bx6.out.size))
        clear bx7 C6
        refine hK _ _ (fun q hq hd => by cases hq) ?_
        clear hK K
        repeat (refine Own.st_blind _ rfl rfl (CR.off _ (by decide) _) ?_; go_big_quiet_step (fail); refine wpQuiet_nil ?_)
        refine Own.st_do _ rfl rfl (fun K hK => ?_)
        go_simp
        refine (C7.out _ Bx7.out).mono ?_
        rintro e x8 ⟨rfl, bx8⟩
        have Bx8 := Lib.hid (Bx7.out.trans (bx8.mono Bx7.out.size))
        clear bx8 C7
        refine hK _ _ (fun q hq hd => by cases hq) ?_
        clear hK K
        repeat (refine Own.st_blind _ rfl rfl (CR.off _ (by decide) _) ?_; go_big_quiet_step (fail); refine wpQuiet_nil ?_)
        refine Own.mix_done ?_
        go_wp2_with (fail)
        go_ret
        exact ⟨rfl, B1.out.trans (Bx8.out.mono B1.out.size)⟩
end Go.Proofs.YtmpckoincdkeeaaDoor

/- ShiftSpans: the walk. -/
import Derived.Test.YtmhghmdadkghlaaSh2
namespace Go.Proofs.Ytmhghmdadkghlaa
open Go.RowKit Go.Deep Go.Own
set_option linter.unusedVariables false
set_option maxRecDepth 100000 in
set_option maxHeartbeats 16000000 in
theorem shiftSpans_walk (n del ins gap : Int) (w : World) (_ : (Lit.int .i64 n).wf = true) (_ : (Lit.int .i64 del).wf = true) (_ : (Lit.int .i64 ins).wf = true) (_ : (Lit.int .i64 gap).wf = true) :
    Calls Try.prog 3 #[.int .i64 n, .int .i64 del, .int .i64 ins, .int .i64 gap] w fun e w' => e = .returned (.bool true) ∧ Below w.heap.size w w' := by
  obtain ⟨k, hk, _, cp1⟩ := place_nat n 50 (by omega) (by omega)
  obtain ⟨d, hd, _, cp2⟩ := place_nat del 50 (by omega) (by omega)
  obtain ⟨i, hi, _, cp3⟩ := place_nat ins 50 (by omega) (by omega)
  obtain ⟨g, hg, _, cp4⟩ := place_nat gap 50 (by omega) (by omega)
  have CP1 := Lib.hid cp1
  have CP2 := Lib.hid cp2
  have CP3 := Lib.hid cp3
  have CP4 := Lib.hid cp4
  obtain ⟨X1, hX1⟩ : ∃ X1, X1 = 100 - (1 + (g : Int)) - (1 + (k : Int)) := ⟨_, rfl⟩
  obtain ⟨X2, hX2⟩ : ∃ X2, X2 = 100 - (1 + (g : Int)) := ⟨_, rfl⟩
  obtain ⟨Y1, hY1⟩ : ∃ Y1, Y1 = 100 + (d : Int) + (1 + (g : Int)) := ⟨_, rfl⟩
  obtain ⟨Y2, hY2⟩ : ∃ Y2, Y2 = 100 + (d : Int) + (1 + (g : Int)) + (1 + (k : Int)) := ⟨_, rfl⟩
  obtain ⟨Z, hZ⟩ : ∃ Z, Z = 100 + (d : Int) := ⟨_, rfl⟩
  have s1 : Sm X1 := ⟨by omega, by omega⟩
  have s2 : Sm X2 := ⟨by omega, by omega⟩
  have s3 : Sm Y1 := ⟨by omega, by omega⟩
  have s4 : Sm Y2 := ⟨by omega, by omega⟩
  have s5 : Sm Z := ⟨by omega, by omega⟩
  have sd : Sm (d : Int) := ⟨by omega, by omega⟩
  have si : Sm (i : Int) := ⟨by omega, by omega⟩
  have sh : Sm 100 := ⟨by decide, by decide⟩
  have C1 := Lib.hid (anchor_c 100 d i X1 X2 1 sh sd si s1 s2)
  have C2 := Lib.hid (anchor_c 100 d i Y1 Y2 1 sh sd si s3 s4)
  have C3 := Lib.hid (anchor_c 100 d i X2 Y1 2 sh sd si s2 s3)
  have C4 := Lib.hid (clip_c 100 d i X2 Y1 2 sh sd si s2 s3)
  have C5 := Lib.hid (clip_c 100 d i 100 Z 2 sh sd si sh s5)
  have p1 : PP 100 d i X1 = X1 := by unfold PP; rw [if_pos (by omega)]
  have p2 : PP 100 d i X2 = X2 := by unfold PP; rw [if_pos (by omega)]
  have p3 : PP 100 d i Y1 = Y1 + i - d := by unfold PP; rw [if_neg (by omega), if_neg (by omega)]
  have p4 : PP 100 d i Y2 = Y2 + i - d := by unfold PP; rw [if_neg (by omega), if_neg (by omega)]
  have t1 : TT 100 d X1 X2 = false := by unfold TT; rw [show decide (X2 ≥ 100) = false by simp; omega, Bool.and_false]
  have t2 : TT 100 d Y1 Y2 = false := by unfold TT; rw [show decide (Y1 ≤ 100 + d) = false by simp; omega, Bool.false_and]
  have t3 : TT 100 d X2 Y1 = true := by unfold TT; rw [show decide (X2 ≤ 100 + d) = true by simp; omega, show decide (Y1 ≥ 100) = true by simp; omega]; rfl
  have t4 : EE 100 d i X2 Y1 = false := by unfold EE; rw [p2, p3]; simp; omega
  have v1 : UU 100 d i X1 X2 1 false = .tuple #[.agg #[.int .i64 X1, .int .i64 X2, .int .i64 1], .bool true] := by unfold UU; rw [p1, p2]; rfl
  have v2 : UU 100 d i Y1 Y2 1 false = .tuple #[.agg #[.int .i64 (Y1 + i - d), .int .i64 (Y2 + i - d), .int .i64 1], .bool true] := by unfold UU; rw [p3, p4]; rfl
  have v3 : UU 100 d i X2 Y1 2 true = .tuple #[.agg #[.int .i64 0, .int .i64 0, .int .i64 0], .bool false] := rfl
  have v4 : UU 100 d i X2 Y1 2 false = .tuple #[.agg #[.int .i64 X2, .int .i64 (Y1 + i - d), .int .i64 2], .bool true] := by unfold UU; rw [p2, p3]; rfl
  rw [t1, v1] at C1
  rw [t2, v2] at C2
  rw [t3, v3] at C3
  rw [t4, v4] at C4
  have p5 : PP 100 d i 100 = 100 := rfl
  have hun : ∃ (x y z : Int) (b : Bool), UU 100 d i 100 Z 2 (EE 100 d i 100 Z) = .tuple #[.agg #[.int .i64 x, .int .i64 y, .int .i64 z], .bool b] ∧ ((d = 0 ∧ b = false) ∨ (0 < d ∧ i = 0 ∧ b = false) ∨ (0 < d ∧ 0 < i ∧ b = true ∧ x = 100 ∧ y = 100 + (i : Int) ∧ z = 2)) := by
    by_cases h0 : d = 0
    · have e1 : EE 100 d i 100 Z = true := by
        have : PP 100 d i Z = 100 := by unfold PP; rw [if_pos (by omega)]; omega
        unfold EE; rw [p5, this]; rfl
      rw [e1]
      exact ⟨0, 0, 0, false, rfl, .inl ⟨h0, rfl⟩⟩
    · have hz : PP 100 d i Z = 100 + i := by unfold PP; rw [if_neg (by omega), if_neg (by omega)]; omega
      by_cases h1 : i = 0
      · have e1 : EE 100 d i 100 Z = true := by unfold EE; rw [p5, hz]; simp; omega
        rw [e1]
        exact ⟨0, 0, 0, false, rfl, .inr (.inl ⟨by omega, h1, rfl⟩)⟩
      · have e1 : EE 100 d i 100 Z = false := by unfold EE; rw [p5, hz]; simp; omega
        rw [e1]
        refine ⟨100, 100 + i, 2, true, ?_, .inr (.inr ⟨by omega, by omega, rfl, rfl, rfl, rfl⟩)⟩
        unfold UU
        rw [p5, hz]; rfl
  obtain ⟨ux, uy, uz, ub, huv, hub⟩ := hun
  rw [huv] at C5
  have HUB := Lib.hid hub
  have HX1 := Lib.hid hX1
  have HX2 := Lib.hid hX2
  have HY1 := Lib.hid hY1
  have HY2 := Lib.hid hY2
  have HZ := Lib.hid hZ
  have bX1 : 0 ≤ X1 ∧ X1 ≤ 1000 := s1
  have bX2 : 0 ≤ X2 ∧ X2 ≤ 1000 := s2
  have bY1 : 0 ≤ Y1 ∧ Y1 ≤ 1000 := s3
  have bY2 : 0 ≤ Y2 ∧ Y2 ≤ 1000 := s4
  obtain ⟨x10, x11⟩ := bX1
  obtain ⟨x20, x21⟩ := bX2
  obtain ⟨y10, y11⟩ := bY1
  obtain ⟨y20, y21⟩ := bY2
  clear cp1 cp2 cp3 cp4 hX1 hX2 hY1 hY2 hZ s1 s2 s3 s4 s5 sd si sh p1 p2 p3 p4 p5 t1 t2 t3 t4 v1 v2 v3 v4 hub huv
  go_enter Try.func3, Try.ntmps3
  go_wp2_with (fail)
  refine (CP1.out _).mono ?_
  rintro e wq ⟨rfl, rfl⟩
  clear CP1
  go_wp2_with (fail)
  refine (CP2.out _).mono ?_
  rintro e wq ⟨rfl, rfl⟩
  clear CP2
  go_wp2_with (fail)
  refine (CP3.out _).mono ?_
  rintro e wq ⟨rfl, rfl⟩
  clear CP3
  go_wp2_with (fail)
  refine (CP4.out _).mono ?_
  rintro e wq ⟨rfl, rfl⟩
  clear CP4
  go_upto_region 3 with (fail)
  obtain ⟨wa0, hwa0⟩ : ∃ x, x = w.alloc (.cells #[Value.int .i64 (X1), .int .i64 (X2), .int .i64 (1)] 24) := ⟨_, rfl⟩
  obtain ⟨M0, hM0⟩ : ∃ x, x = w.heap.size := ⟨_, rfl⟩
  have bwa0 : Below w.heap.size w wa0 := by rw [hwa0]; exact (Below.refl _ _).alloc (Nat.le_refl _) _
  have Kwa0_M0 := Lib.hid (show wa0.heap[M0]? = some (.cells #[.int .i64 (X1), .int .i64 (X2), .int .i64 (1)] 24 (0, 0)) by rw [hwa0, hM0]; exact blk_alloc_new _ _)
  have Hwa0 := Lib.hid hwa0
  have HM0 := Lib.hid hM0
  clear hwa0 hM0
  have Bwa0 := Lib.hid bwa0
  clear bwa0
  go_upto_region 4 with (fail)
  rw [← HX1.out]
  rw [← HX2.out]
  rw [← Hwa0.out, ← HM0.out]
  clear Hwa0 HM0
  obtain ⟨wa1, hwa1⟩ : ∃ x, x = wa0.alloc (.cells #[Value.int .i64 (Y1), .int .i64 (Y2), .int .i64 (1)] 24) := ⟨_, rfl⟩
  obtain ⟨M1, hM1⟩ : ∃ x, x = wa0.heap.size := ⟨_, rfl⟩
  have bwa1 : Below wa0.heap.size wa0 wa1 := by rw [hwa1]; exact (Below.refl _ _).alloc (Nat.le_refl _) _
  have Kwa1_M1 := Lib.hid (show wa1.heap[M1]? = some (.cells #[.int .i64 (Y1), .int .i64 (Y2), .int .i64 (1)] 24 (0, 0)) by rw [hwa1, hM1]; exact blk_alloc_new _ _)
  have Hwa1 := Lib.hid hwa1
  have HM1 := Lib.hid hM1
  clear hwa1 hM1
  have Kwa1_M0 := Lib.hid ((bwa1.block _ (Array.getElem?_eq_some_iff.1 Kwa0_M0.out).1).trans Kwa0_M0.out)
  clear Kwa0_M0
  have Bwa1 := Lib.hid (Bwa0.out.trans (bwa1.mono Bwa0.out.size))
  clear bwa1 Bwa0
  go_upto_region 5 with (fail)
  rw [← HY2.out]
  rw [← HY1.out]
  rw [← Hwa1.out, ← HM1.out]
  clear Hwa1 HM1
  obtain ⟨wa2, hwa2⟩ : ∃ x, x = wa1.alloc (.cells #[Value.int .i64 (X2), .int .i64 (Y1), .int .i64 (2)] 24) := ⟨_, rfl⟩
  obtain ⟨M2, hM2⟩ : ∃ x, x = wa1.heap.size := ⟨_, rfl⟩
  have bwa2 : Below wa1.heap.size wa1 wa2 := by rw [hwa2]; exact (Below.refl _ _).alloc (Nat.le_refl _) _
  have Kwa2_M2 := Lib.hid (show wa2.heap[M2]? = some (.cells #[.int .i64 (X2), .int .i64 (Y1), .int .i64 (2)] 24 (0, 0)) by rw [hwa2, hM2]; exact blk_alloc_new _ _)
  have Hwa2 := Lib.hid hwa2
  have HM2 := Lib.hid hM2
  clear hwa2 hM2
  have Kwa2_M0 := Lib.hid ((bwa2.block _ (Array.getElem?_eq_some_iff.1 Kwa1_M0.out).1).trans Kwa1_M0.out)
  clear Kwa1_M0
  have Kwa2_M1 := Lib.hid ((bwa2.block _ (Array.getElem?_eq_some_iff.1 Kwa1_M1.out).1).trans Kwa1_M1.out)
  clear Kwa1_M1
  have Bwa2 := Lib.hid (Bwa1.out.trans (bwa2.mono Bwa1.out.size))
  clear bwa2 Bwa1
  go_upto_region 6 with (fail)
  rw [← HX2.out]
  rw [← HY1.out]
  rw [← Hwa2.out, ← HM2.out]
  clear Hwa2 HM2
  obtain ⟨wa3, hwa3⟩ : ∃ x, x = wa2.alloc (.cells #[Value.int .i64 (100), .int .i64 (Z), .int .i64 (2)] 24) := ⟨_, rfl⟩
  obtain ⟨M3, hM3⟩ : ∃ x, x = wa2.heap.size := ⟨_, rfl⟩
  have bwa3 : Below wa2.heap.size wa2 wa3 := by rw [hwa3]; exact (Below.refl _ _).alloc (Nat.le_refl _) _
  have Kwa3_M3 := Lib.hid (show wa3.heap[M3]? = some (.cells #[.int .i64 (100), .int .i64 (Z), .int .i64 (2)] 24 (0, 0)) by rw [hwa3, hM3]; exact blk_alloc_new _ _)
  have Hwa3 := Lib.hid hwa3
  have HM3 := Lib.hid hM3
  clear hwa3 hM3
  have Kwa3_M0 := Lib.hid ((bwa3.block _ (Array.getElem?_eq_some_iff.1 Kwa2_M0.out).1).trans Kwa2_M0.out)
  clear Kwa2_M0
  have Kwa3_M1 := Lib.hid ((bwa3.block _ (Array.getElem?_eq_some_iff.1 Kwa2_M1.out).1).trans Kwa2_M1.out)
  clear Kwa2_M1
  have Kwa3_M2 := Lib.hid ((bwa3.block _ (Array.getElem?_eq_some_iff.1 Kwa2_M2.out).1).trans Kwa2_M2.out)
  clear Kwa2_M2
  have Bwa3 := Lib.hid (Bwa2.out.trans (bwa3.mono Bwa2.out.size))
  clear bwa3 Bwa2
  go_upto_region 7 with (fail)
  rw [← HZ.out]
  rw [← Hwa3.out, ← HM3.out]
  clear Hwa3 HM3
  obtain ⟨l0, l1, l2⟩ := cell3_of Kwa3_M0.out
  go_wp2_with (fail)
  refine (C1.out _).mono ?_
  rintro e wc0 ⟨rfl, bwc0⟩
  clear l0 l1 l2 C1
  have Kwc0_M0 := Lib.hid ((bwc0.block _ (Array.getElem?_eq_some_iff.1 Kwa3_M0.out).1).trans Kwa3_M0.out)
  clear Kwa3_M0
  have Kwc0_M1 := Lib.hid ((bwc0.block _ (Array.getElem?_eq_some_iff.1 Kwa3_M1.out).1).trans Kwa3_M1.out)
  clear Kwa3_M1
  have Kwc0_M2 := Lib.hid ((bwc0.block _ (Array.getElem?_eq_some_iff.1 Kwa3_M2.out).1).trans Kwa3_M2.out)
  clear Kwa3_M2
  have Kwc0_M3 := Lib.hid ((bwc0.block _ (Array.getElem?_eq_some_iff.1 Kwa3_M3.out).1).trans Kwa3_M3.out)
  clear Kwa3_M3
  have Bwc0 := Lib.hid (Bwa3.out.trans (bwc0.mono Bwa3.out.size))
  clear bwc0 Bwa3
  obtain ⟨wd0, hwd0⟩ : ∃ x, x = wc0.alloc (.cells #[Value.int .i64 (X1), .int .i64 (X2), .int .i64 (1)] 24) := ⟨_, rfl⟩
  obtain ⟨N0, hN0⟩ : ∃ x, x = wc0.heap.size := ⟨_, rfl⟩
  have bwd0 : Below wc0.heap.size wc0 wd0 := by rw [hwd0]; exact (Below.refl _ _).alloc (Nat.le_refl _) _
  have Kwd0_N0 := Lib.hid (show wd0.heap[N0]? = some (.cells #[.int .i64 (X1), .int .i64 (X2), .int .i64 (1)] 24 (0, 0)) by rw [hwd0, hN0]; exact blk_alloc_new _ _)
  have Hwd0 := Lib.hid hwd0
  have HN0 := Lib.hid hN0
  clear hwd0 hN0
  have Kwd0_M0 := Lib.hid ((bwd0.block _ (Array.getElem?_eq_some_iff.1 Kwc0_M0.out).1).trans Kwc0_M0.out)
  clear Kwc0_M0
  have Kwd0_M1 := Lib.hid ((bwd0.block _ (Array.getElem?_eq_some_iff.1 Kwc0_M1.out).1).trans Kwc0_M1.out)
  clear Kwc0_M1
  have Kwd0_M2 := Lib.hid ((bwd0.block _ (Array.getElem?_eq_some_iff.1 Kwc0_M2.out).1).trans Kwc0_M2.out)
  clear Kwc0_M2
  have Kwd0_M3 := Lib.hid ((bwd0.block _ (Array.getElem?_eq_some_iff.1 Kwc0_M3.out).1).trans Kwc0_M3.out)
  clear Kwc0_M3
  have Bwd0 := Lib.hid (Bwc0.out.trans (bwd0.mono Bwc0.out.size))
  clear bwd0 Bwc0
  go_upto_region 8 with (fail)
  rw [← Hwd0.out, ← HN0.out]
  clear Hwd0 HN0
  obtain ⟨l0, l1, l2⟩ := cell3_of Kwd0_M1.out
  go_wp2_with (fail)
  refine (C2.out _).mono ?_
  rintro e wc1 ⟨rfl, bwc1⟩
  clear l0 l1 l2 C2
  have Kwc1_M0 := Lib.hid ((bwc1.block _ (Array.getElem?_eq_some_iff.1 Kwd0_M0.out).1).trans Kwd0_M0.out)
  clear Kwd0_M0
  have Kwc1_M1 := Lib.hid ((bwc1.block _ (Array.getElem?_eq_some_iff.1 Kwd0_M1.out).1).trans Kwd0_M1.out)
  clear Kwd0_M1
  have Kwc1_M2 := Lib.hid ((bwc1.block _ (Array.getElem?_eq_some_iff.1 Kwd0_M2.out).1).trans Kwd0_M2.out)
  clear Kwd0_M2
  have Kwc1_M3 := Lib.hid ((bwc1.block _ (Array.getElem?_eq_some_iff.1 Kwd0_M3.out).1).trans Kwd0_M3.out)
  clear Kwd0_M3
  have Kwc1_N0 := Lib.hid ((bwc1.block _ (Array.getElem?_eq_some_iff.1 Kwd0_N0.out).1).trans Kwd0_N0.out)
  clear Kwd0_N0
  have Bwc1 := Lib.hid (Bwd0.out.trans (bwc1.mono Bwd0.out.size))
  clear bwc1 Bwd0
  obtain ⟨wd1, hwd1⟩ : ∃ x, x = wc1.alloc (.cells #[Value.int .i64 (Y1 + (i : Int) - (d : Int)), .int .i64 (Y2 + (i : Int) - (d : Int)), .int .i64 (1)] 24) := ⟨_, rfl⟩
  obtain ⟨N1, hN1⟩ : ∃ x, x = wc1.heap.size := ⟨_, rfl⟩
  have bwd1 : Below wc1.heap.size wc1 wd1 := by rw [hwd1]; exact (Below.refl _ _).alloc (Nat.le_refl _) _
  have Kwd1_N1 := Lib.hid (show wd1.heap[N1]? = some (.cells #[.int .i64 (Y1 + (i : Int) - (d : Int)), .int .i64 (Y2 + (i : Int) - (d : Int)), .int .i64 (1)] 24 (0, 0)) by rw [hwd1, hN1]; exact blk_alloc_new _ _)
  have Hwd1 := Lib.hid hwd1
  have HN1 := Lib.hid hN1
  clear hwd1 hN1
  have Kwd1_M0 := Lib.hid ((bwd1.block _ (Array.getElem?_eq_some_iff.1 Kwc1_M0.out).1).trans Kwc1_M0.out)
  clear Kwc1_M0
  have Kwd1_M1 := Lib.hid ((bwd1.block _ (Array.getElem?_eq_some_iff.1 Kwc1_M1.out).1).trans Kwc1_M1.out)
  clear Kwc1_M1
  have Kwd1_M2 := Lib.hid ((bwd1.block _ (Array.getElem?_eq_some_iff.1 Kwc1_M2.out).1).trans Kwc1_M2.out)
  clear Kwc1_M2
  have Kwd1_M3 := Lib.hid ((bwd1.block _ (Array.getElem?_eq_some_iff.1 Kwc1_M3.out).1).trans Kwc1_M3.out)
  clear Kwc1_M3
  have Kwd1_N0 := Lib.hid ((bwd1.block _ (Array.getElem?_eq_some_iff.1 Kwc1_N0.out).1).trans Kwc1_N0.out)
  clear Kwc1_N0
  have Bwd1 := Lib.hid (Bwc1.out.trans (bwd1.mono Bwc1.out.size))
  clear bwd1 Bwc1
  go_upto_region 9 with (fail)
  rw [← Hwd1.out, ← HN1.out]
  clear Hwd1 HN1
  obtain ⟨l0, l1, l2⟩ := cell3_of Kwd1_M2.out
  go_wp2_with (fail)
  refine (C3.out _).mono ?_
  rintro e wc2 ⟨rfl, bwc2⟩
  clear l0 l1 l2 C3
  have Kwc2_M0 := Lib.hid ((bwc2.block _ (Array.getElem?_eq_some_iff.1 Kwd1_M0.out).1).trans Kwd1_M0.out)
  clear Kwd1_M0
  have Kwc2_M1 := Lib.hid ((bwc2.block _ (Array.getElem?_eq_some_iff.1 Kwd1_M1.out).1).trans Kwd1_M1.out)
  clear Kwd1_M1
  have Kwc2_M2 := Lib.hid ((bwc2.block _ (Array.getElem?_eq_some_iff.1 Kwd1_M2.out).1).trans Kwd1_M2.out)
  clear Kwd1_M2
  have Kwc2_M3 := Lib.hid ((bwc2.block _ (Array.getElem?_eq_some_iff.1 Kwd1_M3.out).1).trans Kwd1_M3.out)
  clear Kwd1_M3
  have Kwc2_N0 := Lib.hid ((bwc2.block _ (Array.getElem?_eq_some_iff.1 Kwd1_N0.out).1).trans Kwd1_N0.out)
  clear Kwd1_N0
  have Kwc2_N1 := Lib.hid ((bwc2.block _ (Array.getElem?_eq_some_iff.1 Kwd1_N1.out).1).trans Kwd1_N1.out)
  clear Kwd1_N1
  have Bwc2 := Lib.hid (Bwd1.out.trans (bwc2.mono Bwd1.out.size))
  clear bwc2 Bwd1
  obtain ⟨wd2, hwd2⟩ : ∃ x, x = wc2.alloc (.cells #[Value.int .i64 (0), .int .i64 (0), .int .i64 (0)] 24) := ⟨_, rfl⟩
  obtain ⟨N2, hN2⟩ : ∃ x, x = wc2.heap.size := ⟨_, rfl⟩
  have bwd2 : Below wc2.heap.size wc2 wd2 := by rw [hwd2]; exact (Below.refl _ _).alloc (Nat.le_refl _) _
  have Kwd2_N2 := Lib.hid (show wd2.heap[N2]? = some (.cells #[.int .i64 (0), .int .i64 (0), .int .i64 (0)] 24 (0, 0)) by rw [hwd2, hN2]; exact blk_alloc_new _ _)
  have Hwd2 := Lib.hid hwd2
  have HN2 := Lib.hid hN2
  clear hwd2 hN2
  have Kwd2_M0 := Lib.hid ((bwd2.block _ (Array.getElem?_eq_some_iff.1 Kwc2_M0.out).1).trans Kwc2_M0.out)
  clear Kwc2_M0
  have Kwd2_M1 := Lib.hid ((bwd2.block _ (Array.getElem?_eq_some_iff.1 Kwc2_M1.out).1).trans Kwc2_M1.out)
  clear Kwc2_M1
  have Kwd2_M2 := Lib.hid ((bwd2.block _ (Array.getElem?_eq_some_iff.1 Kwc2_M2.out).1).trans Kwc2_M2.out)
  clear Kwc2_M2
  have Kwd2_M3 := Lib.hid ((bwd2.block _ (Array.getElem?_eq_some_iff.1 Kwc2_M3.out).1).trans Kwc2_M3.out)
  clear Kwc2_M3
  have Kwd2_N0 := Lib.hid ((bwd2.block _ (Array.getElem?_eq_some_iff.1 Kwc2_N0.out).1).trans Kwc2_N0.out)
  clear Kwc2_N0
  have Kwd2_N1 := Lib.hid ((bwd2.block _ (Array.getElem?_eq_some_iff.1 Kwc2_N1.out).1).trans Kwc2_N1.out)
  clear Kwc2_N1
  have Bwd2 := Lib.hid (Bwc2.out.trans (bwd2.mono Bwc2.out.size))
  clear bwd2 Bwc2
  go_upto_region 10 with (fail)
  rw [← Hwd2.out, ← HN2.out]
  clear Hwd2 HN2
  obtain ⟨l0, l1, l2⟩ := cell3_of Kwd2_M2.out
  go_wp2_with (fail)
  refine (C4.out _).mono ?_
  rintro e wc3 ⟨rfl, bwc3⟩
  clear l0 l1 l2 C4
  have Kwc3_M0 := Lib.hid ((bwc3.block _ (Array.getElem?_eq_some_iff.1 Kwd2_M0.out).1).trans Kwd2_M0.out)
  clear Kwd2_M0
  have Kwc3_M1 := Lib.hid ((bwc3.block _ (Array.getElem?_eq_some_iff.1 Kwd2_M1.out).1).trans Kwd2_M1.out)
  clear Kwd2_M1
  have Kwc3_M2 := Lib.hid ((bwc3.block _ (Array.getElem?_eq_some_iff.1 Kwd2_M2.out).1).trans Kwd2_M2.out)
  clear Kwd2_M2
  have Kwc3_M3 := Lib.hid ((bwc3.block _ (Array.getElem?_eq_some_iff.1 Kwd2_M3.out).1).trans Kwd2_M3.out)
  clear Kwd2_M3
  have Kwc3_N0 := Lib.hid ((bwc3.block _ (Array.getElem?_eq_some_iff.1 Kwd2_N0.out).1).trans Kwd2_N0.out)
  clear Kwd2_N0
  have Kwc3_N1 := Lib.hid ((bwc3.block _ (Array.getElem?_eq_some_iff.1 Kwd2_N1.out).1).trans Kwd2_N1.out)
  clear Kwd2_N1
  have Kwc3_N2 := Lib.hid ((bwc3.block _ (Array.getElem?_eq_some_iff.1 Kwd2_N2.out).1).trans Kwd2_N2.out)
  clear Kwd2_N2
  have Bwc3 := Lib.hid (Bwd2.out.trans (bwc3.mono Bwd2.out.size))
  clear bwc3 Bwd2
  obtain ⟨wd3, hwd3⟩ : ∃ x, x = wc3.alloc (.cells #[Value.int .i64 (X2), .int .i64 (Y1 + (i : Int) - (d : Int)), .int .i64 (2)] 24) := ⟨_, rfl⟩
  obtain ⟨N3, hN3⟩ : ∃ x, x = wc3.heap.size := ⟨_, rfl⟩
  have bwd3 : Below wc3.heap.size wc3 wd3 := by rw [hwd3]; exact (Below.refl _ _).alloc (Nat.le_refl _) _
  have Kwd3_N3 := Lib.hid (show wd3.heap[N3]? = some (.cells #[.int .i64 (X2), .int .i64 (Y1 + (i : Int) - (d : Int)), .int .i64 (2)] 24 (0, 0)) by rw [hwd3, hN3]; exact blk_alloc_new _ _)
  have Hwd3 := Lib.hid hwd3
  have HN3 := Lib.hid hN3
  clear hwd3 hN3
  have Kwd3_M0 := Lib.hid ((bwd3.block _ (Array.getElem?_eq_some_iff.1 Kwc3_M0.out).1).trans Kwc3_M0.out)
  clear Kwc3_M0
  have Kwd3_M1 := Lib.hid ((bwd3.block _ (Array.getElem?_eq_some_iff.1 Kwc3_M1.out).1).trans Kwc3_M1.out)
  clear Kwc3_M1
  have Kwd3_M2 := Lib.hid ((bwd3.block _ (Array.getElem?_eq_some_iff.1 Kwc3_M2.out).1).trans Kwc3_M2.out)
  clear Kwc3_M2
  have Kwd3_M3 := Lib.hid ((bwd3.block _ (Array.getElem?_eq_some_iff.1 Kwc3_M3.out).1).trans Kwc3_M3.out)
  clear Kwc3_M3
  have Kwd3_N0 := Lib.hid ((bwd3.block _ (Array.getElem?_eq_some_iff.1 Kwc3_N0.out).1).trans Kwc3_N0.out)
  clear Kwc3_N0
  have Kwd3_N1 := Lib.hid ((bwd3.block _ (Array.getElem?_eq_some_iff.1 Kwc3_N1.out).1).trans Kwc3_N1.out)
  clear Kwc3_N1
  have Kwd3_N2 := Lib.hid ((bwd3.block _ (Array.getElem?_eq_some_iff.1 Kwc3_N2.out).1).trans Kwc3_N2.out)
  clear Kwc3_N2
  have Bwd3 := Lib.hid (Bwc3.out.trans (bwd3.mono Bwc3.out.size))
  clear bwd3 Bwc3
  go_upto_region 11 with (fail)
  rw [← Hwd3.out, ← HN3.out]
  clear Hwd3 HN3
  obtain ⟨l0, l1, l2⟩ := cell3_of Kwd3_M3.out
  go_wp2_with (fail)
  refine (C5.out _).mono ?_
  rintro e wc4 ⟨rfl, bwc4⟩
  clear l0 l1 l2 C5
  have Kwc4_M0 := Lib.hid ((bwc4.block _ (Array.getElem?_eq_some_iff.1 Kwd3_M0.out).1).trans Kwd3_M0.out)
  clear Kwd3_M0
  have Kwc4_M1 := Lib.hid ((bwc4.block _ (Array.getElem?_eq_some_iff.1 Kwd3_M1.out).1).trans Kwd3_M1.out)
  clear Kwd3_M1
  have Kwc4_M2 := Lib.hid ((bwc4.block _ (Array.getElem?_eq_some_iff.1 Kwd3_M2.out).1).trans Kwd3_M2.out)
  clear Kwd3_M2
  have Kwc4_M3 := Lib.hid ((bwc4.block _ (Array.getElem?_eq_some_iff.1 Kwd3_M3.out).1).trans Kwd3_M3.out)
  clear Kwd3_M3
  have Kwc4_N0 := Lib.hid ((bwc4.block _ (Array.getElem?_eq_some_iff.1 Kwd3_N0.out).1).trans Kwd3_N0.out)
  clear Kwd3_N0
  have Kwc4_N1 := Lib.hid ((bwc4.block _ (Array.getElem?_eq_some_iff.1 Kwd3_N1.out).1).trans Kwd3_N1.out)
  clear Kwd3_N1
  have Kwc4_N2 := Lib.hid ((bwc4.block _ (Array.getElem?_eq_some_iff.1 Kwd3_N2.out).1).trans Kwd3_N2.out)
  clear Kwd3_N2
  have Kwc4_N3 := Lib.hid ((bwc4.block _ (Array.getElem?_eq_some_iff.1 Kwd3_N3.out).1).trans Kwd3_N3.out)
  clear Kwd3_N3
  have Bwc4 := Lib.hid (Bwd3.out.trans (bwc4.mono Bwd3.out.size))
  clear bwc4 Bwd3
  obtain ⟨wd4, hwd4⟩ : ∃ x, x = wc4.alloc (.cells #[Value.int .i64 (ux), .int .i64 (uy), .int .i64 (uz)] 24) := ⟨_, rfl⟩
  obtain ⟨N4, hN4⟩ : ∃ x, x = wc4.heap.size := ⟨_, rfl⟩
  have bwd4 : Below wc4.heap.size wc4 wd4 := by rw [hwd4]; exact (Below.refl _ _).alloc (Nat.le_refl _) _
  have Kwd4_N4 := Lib.hid (show wd4.heap[N4]? = some (.cells #[.int .i64 (ux), .int .i64 (uy), .int .i64 (uz)] 24 (0, 0)) by rw [hwd4, hN4]; exact blk_alloc_new _ _)
  have Hwd4 := Lib.hid hwd4
  have HN4 := Lib.hid hN4
  clear hwd4 hN4
  have Kwd4_M0 := Lib.hid ((bwd4.block _ (Array.getElem?_eq_some_iff.1 Kwc4_M0.out).1).trans Kwc4_M0.out)
  clear Kwc4_M0
  have Kwd4_M1 := Lib.hid ((bwd4.block _ (Array.getElem?_eq_some_iff.1 Kwc4_M1.out).1).trans Kwc4_M1.out)
  clear Kwc4_M1
  have Kwd4_M2 := Lib.hid ((bwd4.block _ (Array.getElem?_eq_some_iff.1 Kwc4_M2.out).1).trans Kwc4_M2.out)
  clear Kwc4_M2
  have Kwd4_M3 := Lib.hid ((bwd4.block _ (Array.getElem?_eq_some_iff.1 Kwc4_M3.out).1).trans Kwc4_M3.out)
  clear Kwc4_M3
  have Kwd4_N0 := Lib.hid ((bwd4.block _ (Array.getElem?_eq_some_iff.1 Kwc4_N0.out).1).trans Kwc4_N0.out)
  clear Kwc4_N0
  have Kwd4_N1 := Lib.hid ((bwd4.block _ (Array.getElem?_eq_some_iff.1 Kwc4_N1.out).1).trans Kwc4_N1.out)
  clear Kwc4_N1
  have Kwd4_N2 := Lib.hid ((bwd4.block _ (Array.getElem?_eq_some_iff.1 Kwc4_N2.out).1).trans Kwc4_N2.out)
  clear Kwc4_N2
  have Kwd4_N3 := Lib.hid ((bwd4.block _ (Array.getElem?_eq_some_iff.1 Kwc4_N3.out).1).trans Kwc4_N3.out)
  clear Kwc4_N3
  have Bwd4 := Lib.hid (Bwc4.out.trans (bwd4.mono Bwc4.out.size))
  clear bwd4 Bwc4
  go_upto_region 12 with (fail)
  rw [← Hwd4.out, ← HN4.out]
  clear Hwd4 HN4
  obtain ⟨o00, o01, o02⟩ := cell3_of Kwd4_M0.out
  obtain ⟨o10, o11, o12⟩ := cell3_of Kwd4_M1.out
  obtain ⟨o20, o21, o22⟩ := cell3_of Kwd4_M2.out
  obtain ⟨o40, o41, o42⟩ := cell3_of Kwd4_N0.out
  obtain ⟨o50, o51, o52⟩ := cell3_of Kwd4_N1.out
  obtain ⟨o60, o61, o62⟩ := cell3_of Kwd4_N2.out
  obtain ⟨o70, o71, o72⟩ := cell3_of Kwd4_N3.out
  obtain ⟨o80, o81, o82⟩ := cell3_of Kwd4_N4.out
  have CA := Lib.hid (awake_c wd4)
  go_upto_region 14 with (fail)
  rcases HUB.out with ⟨h0, hb⟩ | ⟨h0, h1, hb⟩ | ⟨h0, h1, hb, hx, hy, hz⟩
  · subst h0 hb
    go_wp2_with (fail)
    refine CA.out.mono ?_
    rintro e wz ⟨rfl, bz⟩
    go_wp2_with (fail)
    go_ret
    exact ⟨rfl, Bwd4.out.trans (bz.mono Bwd4.out.size)⟩
  · subst h1 hb
    have g0 : decide (0 < d) = true := by simpa using h0
    go_wp2_with (fail)
    refine CA.out.mono ?_
    rintro e wz ⟨rfl, bz⟩
    go_wp2_with (fail)
    go_ret
    exact ⟨rfl, Bwd4.out.trans (bz.mono Bwd4.out.size)⟩
  · subst hb hx hy hz
    have g0 : decide (0 < d) = true := by simpa using h0
    have g1 : decide (0 < i) = true := by simpa using h1
    go_wp2_with (fail)
    refine CA.out.mono ?_
    rintro e wz ⟨rfl, bz⟩
    go_wp2_with (fail)
    go_ret
    exact ⟨rfl, Bwd4.out.trans (bz.mono Bwd4.out.size)⟩
end Go.Proofs.Ytmhghmdadkghlaa

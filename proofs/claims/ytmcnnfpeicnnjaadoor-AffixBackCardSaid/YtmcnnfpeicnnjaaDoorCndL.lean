/- The example of conditions; CondBack. -/
import Derived.Test.YtmcnnfpeicnnjaaDoorCndE
namespace Go.Proofs.YtmcnnfpeicnnjaaDoor
open Go.RowKit Go.Deep Go.Own
set_option linter.unusedVariables false
def exI : List ItP := [⟨false, true, [97, 98]⟩, ⟨false, false, [99]⟩]
theorem ex_parse : condV ⟨#[91, 94, 97, 98, 93, 99]⟩ = some exI := by decide +kernel
theorem ex_text : condT exI = ⟨#[91, 94, 97, 98, 93, 99]⟩ := by decide +kernel
theorem ex_s1 : startsV exI [120, 99, 100] = true ∧ startsV exI [97, 99] = false ∧ endsV exI [97, 120, 99] = true := by decide +kernel
theorem lit_reads (w : World) (l : List Int) : Reads (w.alloc (.cells (l.map (Value.int .i64)).toArray 3)) (some ⟨w.heap.size, 0, none⟩) l :=
  Reads.lit _ (l.map (Value.int .i64)).toArray 3 w.heap.size l (blk_alloc_new _ _) (fun i hi => by
    rw [List.getElem?_toArray, List.getElem?_map, List.getD_eq_getElem?_getD, List.getElem?_eq_getElem hi]
    rfl)
set_option maxRecDepth 100000 in
set_option maxHeartbeats 8000000 in
theorem awake9_calls (w : World) (hT : TabsL w) : Calls Tryd.prog 14 #[] w fun e w' => e = .returned (.bool true) ∧ Below w.heap.size w w' := by
  have C1 := Lib.hid (cparse_got ⟨#[91, 94, 97, 98, 93, 99]⟩ w (by decide) hT)
  unfold GPost at C1
  have HT := Lib.hid hT
  clear hT
  go_enter Tryd.func14, Tryd.ntmps14
  go_wp2_with (fail)
  refine C1.out.mono ?_
  rintro e w1 ⟨⟨v1, l, ok, rfl, g1, h1, h2⟩, b1⟩
  have hok : ok = true := by
    cases ok with
    | true => rfl
    | false => have := (h2 rfl).1; rw [ex_parse] at this; cases this
  subst hok
  have hl : l = exI := by have := h1 rfl; rw [ex_parse] at this; exact (Option.some.inj this).symm
  subst hl
  have G1 := Lib.hid g1
  have B1 := Lib.hid b1
  obtain ⟨A, c, rfl, hc, hr⟩ := g1.out
  obtain ⟨q, o, B, cf, rfl, _, _, x1, _, _, _⟩ := hr 0 _ rfl
  simp only [Nat.zero_mul, Nat.add_zero] at x1
  have CT := Lib.hid (ctext_calls exI _ w1 G1.out (cond_read ex_parse).1 (small_read ex_parse (by decide)) (by decide +kernel) (HT.out.below B1.out))
  rw [ex_text] at CT
  clear C1 h1 h2 g1 b1 hc hr
  have e2 : exI.length = 2 := rfl
  rw [e2] at CT ⊢
  go_wp2_with (fail)
  refine CT.out.mono ?_
  rintro e w2 ⟨rfl, b2⟩
  have B2 := Lib.hid (B1.out.trans (b2.mono B1.out.size))
  have G2 := Lib.hid (G1.out.below b2)
  obtain ⟨w3, hw3⟩ : ∃ w3, w3 = w2.alloc (.cells #[.int .i64 120, .int .i64 99, .int .i64 100] 3) := ⟨_, rfl⟩
  obtain ⟨m3, hm3⟩ : ∃ m, m = w2.heap.size := ⟨_, rfl⟩
  have b3 : Below w2.heap.size w2 w3 := by rw [hw3]; exact (Below.refl _ _).alloc (Nat.le_refl _) _
  have B3 := Lib.hid (B2.out.trans (b3.mono B2.out.size))
  have G3 := Lib.hid (G2.out.below b3)
  have C3 := Lib.hid (starts_calls exI _ (some ⟨m3, 0, none⟩) 3 [120, 99, 100] w3 G3.out (by rw [hw3, hm3]; exact lit_reads w2 [120, 99, 100]) (small_read ex_parse (by decide)) (by decide))
  rw [ex_s1.1] at C3
  have HW3 := Lib.hid (And.intro hw3 hm3)
  clear CT b2 hw3 hm3 b3 G1 G2
  go_upto_region 2 with (fail)
  go_wp2_with (fail)
  rw [← HW3.out.1, ← HW3.out.2]
  refine C3.out.mono ?_
  rintro e w4 ⟨rfl, b4⟩
  have B4 := Lib.hid (B3.out.trans (b4.mono B3.out.size))
  have G4 := Lib.hid (G3.out.below b4)
  clear C3 b4 G3 HW3 B3
  obtain ⟨w5, hw5⟩ : ∃ w5, w5 = w4.alloc (.cells #[.int .i64 97, .int .i64 99] 3) := ⟨_, rfl⟩
  obtain ⟨m5, hm5⟩ : ∃ m, m = w4.heap.size := ⟨_, rfl⟩
  have b5 : Below w4.heap.size w4 w5 := by rw [hw5]; exact (Below.refl _ _).alloc (Nat.le_refl _) _
  have B5 := Lib.hid (B4.out.trans (b5.mono B4.out.size))
  have G5 := Lib.hid (G4.out.below b5)
  have C5 := Lib.hid (starts_calls exI _ (some ⟨m5, 0, none⟩) 2 [97, 99] w5 G5.out (by rw [hw5, hm5]; exact lit_reads w4 [97, 99]) (small_read ex_parse (by decide)) (by decide))
  rw [ex_s1.2.1] at C5
  have HW5 := Lib.hid (And.intro hw5 hm5)
  clear hw5 hm5 b5 G4 B4
  go_wp2_with (fail)
  rw [← HW5.out.1, ← HW5.out.2]
  refine C5.out.mono ?_
  rintro e w6 ⟨rfl, b6⟩
  have B6 := Lib.hid (B5.out.trans (b6.mono B5.out.size))
  have G6 := Lib.hid (G5.out.below b6)
  clear C5 b6 G5 HW5 B5
  obtain ⟨w7, hw7⟩ : ∃ w7, w7 = w6.alloc (.cells #[.int .i64 97, .int .i64 120, .int .i64 99] 3) := ⟨_, rfl⟩
  obtain ⟨m7, hm7⟩ : ∃ m, m = w6.heap.size := ⟨_, rfl⟩
  have b7 : Below w6.heap.size w6 w7 := by rw [hw7]; exact (Below.refl _ _).alloc (Nat.le_refl _) _
  have B7 := Lib.hid (B6.out.trans (b7.mono B6.out.size))
  have G7 := Lib.hid (G6.out.below b7)
  have C7 := Lib.hid (ends_calls exI _ (some ⟨m7, 0, none⟩) 3 [97, 120, 99] w7 G7.out (by rw [hw7, hm7]; exact lit_reads w6 [97, 120, 99]) (small_read ex_parse (by decide)) (by decide) (by decide))
  rw [ex_s1.2.2] at C7
  have HW7 := Lib.hid (And.intro hw7 hm7)
  clear hw7 hm7 b7 G6 B6
  go_wp2_with (fail)
  rw [← HW7.out.1, ← HW7.out.2]
  refine C7.out.mono ?_
  rintro e w8 ⟨rfl, b8⟩
  have B8 := Lib.hid (B7.out.trans (b8.mono B7.out.size))
  clear C7 b8 G7 HW7 B7
  go_wp2_with (fail)
  go_ret
  exact ⟨rfl, B8.out⟩
set_option maxRecDepth 100000 in
set_option maxHeartbeats 8000000 in
theorem condBack_walk (s : ByteArray) (w : World) (hs : s.size ≤ 140737488351232) (hT : TabsL w) : Calls Tryd.prog 5 #[.string s] w fun e w' => e = .returned (.bool true) ∧ Below w.heap.size w w' := by
  have HT := Lib.hid hT
  have CA := Lib.hid (fun w1 (hb : Below w.heap.size w w1) => awake9_calls w1 (HT.out.below hb))
  clear hT
  by_cases hbig : 300 < s.size
  · have g1 : decide (300 < (s.size : Int)) = true := by simp; omega
    clear hbig
    go_enter Tryd.func5, Tryd.ntmps5
    go_wp2_with (fail)
    refine (CA.out _ (Below.refl _ _)).mono ?_
    rintro e w1 ⟨rfl, b1⟩
    have B1 := Lib.hid b1
    clear b1 CA
    go_wp2_with (fail)
    go_ret
    exact ⟨rfl, B1.out⟩
  have g1 : decide (300 < (s.size : Int)) = false := by simp; omega
  have hs2 : s.size ≤ 300 := by omega
  have C1 := Lib.hid (cparse_got s w (by omega) HT.out)
  unfold GPost at C1
  clear hbig hs
  go_enter Tryd.func5, Tryd.ntmps5
  go_wp2_with (fail)
  refine C1.out.mono ?_
  rintro e w1 ⟨⟨v1, l, ok, rfl, g1x, h1, h2⟩, b1⟩
  have G1 := Lib.hid g1x
  have B1 := Lib.hid b1
  obtain ⟨A, c, hv, _, _⟩ := g1x.out
  subst hv
  have H12 := Lib.hid (And.intro h1 h2)
  clear C1 g1x h1 h2 b1
  cases ok with
  | false =>
    have hl : l = [] := (H12.out.2 rfl).2
    subst hl
    simp only [List.length_nil]
    go_wp2_with (fail)
    refine (CA.out _ B1.out).mono ?_
    rintro e w2 ⟨rfl, b2⟩
    have B2 := Lib.hid (B1.out.trans (b2.mono B1.out.size))
    clear b2 CA
    go_wp2_with (fail)
    go_ret
    exact ⟨rfl, B2.out⟩
  | true =>
    have hl := H12.out.1 rfl
    obtain ⟨r1, r2, r3, r4⟩ := cond_read hl
    have HSM := Lib.hid (small_read hl (by omega))
    have HV := Lib.hid r1
    have hz : (textIs l).length ≤ 900000 := by
      have h1 := text_small 300 l (fun x hx => by have := r4 x hx; omega)
      have h2 : l.length * (4 * 300 + 3) ≤ 8 * (4 * 300 + 3) := Nat.mul_le_mul_right _ r3
      omega
    have HZ := Lib.hid hz
    obtain ⟨t1, t2⟩ := condT_read hl
    have hTz : (condT l).size ≤ 900000 := by rw [t1, mk_size]; exact hz
    have C2 := Lib.hid (fun w1 (hb : Below w.heap.size w w1) (hg : GotI w1 (.slice A l.length c) l) => ctext_calls l _ w1 hg HV.out HSM.out HZ.out (HT.out.below hb))
    have C4 := Lib.hid (fun A c w1 (hb : Below w.heap.size w w1) (hg : GotI w1 (.slice A l.length c) l) => ctext_calls l _ w1 hg HV.out HSM.out HZ.out (HT.out.below hb))
    obtain ⟨T, hTx⟩ : ∃ T, T = condT l := ⟨_, rfl⟩
    rw [← hTx] at C2 C4 t2 hTz
    have HT2 := Lib.hid t2
    have C3 := Lib.hid (fun w1 (hb : Below w.heap.size w w1) => cparse_got T w1 (by omega) (HT.out.below hb))
    unfold GPost at C3
    clear hl r1 r2 r3 r4 hz t1 t2 hTx H12
    go_wp2_with (fail)
    refine (C2.out _ B1.out G1.out).mono ?_
    rintro e w2 ⟨rfl, b2⟩
    have B2 := Lib.hid (B1.out.trans (b2.mono B1.out.size))
    have G2 := Lib.hid (G1.out.below b2)
    clear C2 b2 G1
    go_wp2_with (fail)
    refine (C3.out _ B2.out).mono ?_
    rintro e w3 ⟨⟨v3, l3, ok, rfl, g3, h1, h2⟩, b3⟩
    have hok : ok = true := by
      cases ok with
      | true => rfl
      | false => have := (h2 rfl).1; rw [HT2.out] at this; cases this
    subst hok
    have hl3 : l3 = l := by have := h1 rfl; rw [HT2.out] at this; exact (Option.some.inj this).symm
    subst hl3
    have B3 := Lib.hid (B2.out.trans (b3.mono B2.out.size))
    have G3 := Lib.hid g3
    have GA := Lib.hid (G2.out.below b3)
    obtain ⟨A3, c3, hv3, _, _⟩ := g3.out
    subst hv3
    have CS := Lib.hid (same9_calls l3 _ _ w3 GA.out G3.out HSM.out)
    clear C3 b3 g3 h1 h2 G2
    go_wp2_with (fail)
    refine CS.out.mono ?_
    rintro e w4 ⟨rfl, n4, rfl⟩
    have b4 := belowN w3 n4
    have B4 := Lib.hid (B3.out.trans (b4.mono B3.out.size))
    have G4 := Lib.hid (G3.out.below b4)
    clear CS b4 G3 GA
    go_wp2_with (fail)
    refine (C4.out _ _ _ B4.out G4.out).mono ?_
    rintro e w5 ⟨rfl, b5⟩
    have B5 := Lib.hid (B4.out.trans (b5.mono B4.out.size))
    clear C4 b5 G4
    go_wp2_with (fail)
    refine (CA.out _ B5.out).mono ?_
    rintro e w6 ⟨rfl, b6⟩
    have B6 := Lib.hid (B5.out.trans (b6.mono B5.out.size))
    clear CA b6
    go_wp2_with (fail)
    go_ret
    exact ⟨rfl, B6.out⟩
end Go.Proofs.YtmcnnfpeicnnjaaDoor

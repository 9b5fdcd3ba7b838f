/- The document's sameness of rules; the example of rules; RuleBack. -/
import Derived.Test.YtmcnnfpeicnnjaaDoorRulF
namespace Go.Proofs.YtmcnnfpeicnnjaaDoor
open Go.RowKit Go.Deep Go.Own
set_option linter.unusedVariables false
set_option maxRecDepth 100000 in
set_option maxHeartbeats 16000000 in
theorem same10_calls (r : RuP) (es fs : Array Value) (w : World) (ha : GotR w es r) (hb : GotR w fs r) (hs : smallI r.cond) : Calls Tryd.prog 22 #[.agg es, .agg fs] w fun e w' => e = .returned (.bool true) ∧ Below w.heap.size w w' := by
  obtain ⟨A, c, hcs, hi⟩ := ha.out
  obtain ⟨B, d, hds, hj⟩ := hb.out
  obtain ⟨M, hM⟩ : ∃ M, M = w.heap.size := ⟨_, rfl⟩
  obtain ⟨w1, hw1⟩ : ∃ w1, w1 = w.alloc (.cells es 47) := ⟨_, rfl⟩
  have b1 : Below w.heap.size w w1 := by rw [hw1]; exact (Below.refl _ _).alloc (Nat.le_refl _) _
  have m1 : w1.heap[M]? = some (.cells es 47 (0, 0)) := by rw [hw1, hM]; exact blk_alloc_new _ _
  obtain ⟨N, hN⟩ : ∃ N, N = w1.heap.size := ⟨_, rfl⟩
  obtain ⟨w2, hw2⟩ : ∃ w2, w2 = w1.alloc (.cells fs 47) := ⟨_, rfl⟩
  have b2 : Below w1.heap.size w1 w2 := by rw [hw2]; exact (Below.refl _ _).alloc (Nat.le_refl _) _
  have hm := (b2.block _ (Array.getElem?_eq_some_iff.1 m1).1).trans m1
  have hn2 : w2.heap[N]? = some (.cells fs 47 (0, 0)) := by rw [hw2, hN]; exact blk_alloc_new _ _
  have B2 := Lib.hid (b1.trans (b2.mono b1.size))
  have CS := Lib.hid (same9_calls r.cond _ _ w2 ((hi.below b1).below b2) ((hj.below b1).below b2) hs)
  have HW1 := Lib.hid (And.intro hw1 hM)
  have HW2 := Lib.hid (And.intro hw2 (show N = M + 1 by rw [hN, hw1, hM]; exact Array.size_push _))
  subst hcs hds
  obtain ⟨n, hn⟩ : ∃ n, n = r.cond.length := ⟨_, rfl⟩
  rw [← hn] at CS HW1 HW2 hm hn2
  rw [← hn]
  obtain ⟨pf, u, cr, st, ad, cd⟩ := r
  simp only at HW1 HW2 hm hn2 CS ⊢
  have gb : ∀ b : Bool, (b == b) = true := fun b => by cases b <;> rfl
  have gp := gb pf
  have gc := gb cr
  obtain ⟨m0, mm1, m2, m3, m4, m5⟩ := cell6_of hm
  obtain ⟨n0, n1, n2, n3, n4, n5⟩ := cell6_of hn2
  clear ha hb hs hi hj b1 m1 hw1 hM hw2 hN b2 hn hm hn2 gb
  go_enter Tryd.func22, Tryd.ntmps22
  go_upto_region 1 with (fail)
  rw [← HW1.out.1, ← HW1.out.2, ← HW2.out.1, ← HW2.out.2]
  clear HW1 HW2
  go_wp2_with (fail)
  refine CS.out.mono ?_
  rintro e w3 ⟨rfl, k3, rfl⟩
  have B3 := Lib.hid (B2.out.trans ((belowN w2 k3).mono B2.out.size))
  clear CS
  go_wp2_with (fail)
  go_ret
  exact ⟨rfl, B3.out⟩
def exR : RuP := ⟨false, 83, true, ⟨#[121]⟩, ⟨#[105, 101, 115]⟩, [⟨false, false, [121]⟩]⟩
def exL : ByteArray := ⟨#[83, 70, 88, 32, 83, 32, 89, 32, 121, 32, 105, 101, 115, 32, 121]⟩
theorem exR_parse : ruleV exL = some exR := by decide +kernel
theorem exR_text : lineT exR = exL := by decide +kernel
theorem exR_app : applyV exR ⟨#[99, 105, 116, 121]⟩ = (⟨#[99, 105, 116, 105, 101, 115]⟩, true) ∧ applyV exR ⟨#[99, 97, 116]⟩ = (⟨#[]⟩, false) := by decide +kernel
theorem zero_got (w : World) : GotR w #[.bool false, .int .i64 0, .bool false, .string ⟨#[]⟩, .string ⟨#[]⟩, .slice none 0 0] zeroR := ⟨⟨none, 0, rfl, GotI.nil w⟩⟩
set_option maxRecDepth 100000 in
set_option maxHeartbeats 16000000 in
theorem awake10_calls (w : World) (hT : TabsL w) : Calls Tryd.prog 20 #[] w fun e w' => e = .returned (.bool true) ∧ Below w.heap.size w w' := by
  have C1 := Lib.hid (rparse_got exL w (by decide) hT)
  unfold GRPost exL at C1
  have HT := Lib.hid hT
  clear hT
  go_enter Tryd.func20, Tryd.ntmps20
  go_wp2_with (fail)
  refine C1.out.mono ?_
  rintro e w1 ⟨⟨cs, r, ok, rfl, g1, h1, h2⟩, b1⟩
  have hok : ok = true := by
    cases ok with
    | true => rfl
    | false => have := exR_parse.symm.trans (h2 rfl).1; cases this
  subst hok
  have hr : r = exR := (Option.some.inj (exR_parse.symm.trans (h1 rfl))).symm
  subst hr
  obtain ⟨w2, hw2⟩ : ∃ w2, w2 = w1.alloc (.cells cs 47) := ⟨_, rfl⟩
  obtain ⟨M, hM⟩ : ∃ M, M = w1.heap.size := ⟨_, rfl⟩
  have b2 : Below w1.heap.size w1 w2 := by rw [hw2]; exact (Below.refl _ _).alloc (Nat.le_refl _) _
  have m2 : w2.heap[M]? = some (.cells cs 47 (0, 0)) := by rw [hw2, hM]; exact blk_alloc_new _ _
  have B2 := Lib.hid (b1.trans (b2.mono b1.size))
  have G2 := Lib.hid (g1.below b2)
  have HF := Lib.hid (fit_read (s := exL) exR_parse (by decide))
  have C2 := Lib.hid (fun wx (hb : Below w2.heap.size w2 wx) => apply_calls exR cs ⟨#[99, 105, 116, 121]⟩ wx (G2.out.below hb) HF.out.small (by decide) (by decide) ((HT.out.below B2.out).below hb))
  have C3 := Lib.hid (fun wx (hb : Below w2.heap.size w2 wx) => apply_calls exR cs ⟨#[99, 97, 116]⟩ wx (G2.out.below hb) HF.out.small (by decide) (by decide) ((HT.out.below B2.out).below hb))
  have C4 := Lib.hid (fun wx (hb : Below w2.heap.size w2 wx) => rcheck_calls exR cs wx (G2.out.below hb) HF.out ((HT.out.below B2.out).below hb))
  have C5 := Lib.hid (fun wx (hb : Below w2.heap.size w2 wx) => rtext_calls exR cs wx (G2.out.below hb) HF.out ((HT.out.below B2.out).below hb))
  rw [exR_app.1] at C2
  rw [exR_app.2] at C3
  rw [exR_text] at C5
  unfold exL at C5
  obtain ⟨A, c, hcs, _⟩ := g1.out
  have hcs2 : cs = #[.bool false, .int .i64 83, .bool true, .string ⟨#[121]⟩, .string ⟨#[105, 101, 115]⟩, .slice A 1 c] := hcs
  clear hcs
  subst hcs2
  have HM := Lib.hid (fun wx (hb : Below w2.heap.size w2 wx) => (hb.block _ (Array.getElem?_eq_some_iff.1 m2).1).trans m2)
  have HW2 := Lib.hid (And.intro hw2 hM)
  clear C1 h1 h2 g1 b1 b2 hw2 hM m2 HF G2
  go_upto_region 2 with (fail)
  rw [← HW2.out.1, ← HW2.out.2]
  clear HW2
  obtain ⟨m0, mm1, m2, m3, m4, m5⟩ := cell6_of (HM.out _ (Below.refl _ _))
  go_wp2_with (fail)
  refine (C2.out _ (Below.refl _ _)).mono ?_
  rintro e w3 ⟨rfl, b3⟩
  have B3 := Lib.hid b3
  clear C2 b3 m0 mm1 m2 m3 m4 m5
  obtain ⟨m0, mm1, m2, m3, m4, m5⟩ := cell6_of (HM.out _ B3.out)
  go_wp2_with (fail)
  refine (C3.out _ B3.out).mono ?_
  rintro e w4 ⟨rfl, b4⟩
  have B4 := Lib.hid (B3.out.trans (b4.mono B3.out.size))
  clear C3 b4 m0 mm1 m2 m3 m4 m5
  obtain ⟨m0, mm1, m2, m3, m4, m5⟩ := cell6_of (HM.out _ B4.out)
  go_wp2_with (fail)
  refine (C4.out _ B4.out).mono ?_
  rintro e w5 ⟨rfl, b5⟩
  have B5 := Lib.hid (B4.out.trans (b5.mono B4.out.size))
  clear C4 b5 m0 mm1 m2 m3 m4 m5
  obtain ⟨m0, mm1, m2, m3, m4, m5⟩ := cell6_of (HM.out _ B5.out)
  go_wp2_with (fail)
  refine (C5.out _ B5.out).mono ?_
  rintro e w6 ⟨rfl, b6⟩
  have B6 := Lib.hid (B2.out.trans ((B5.out.trans (b6.mono B5.out.size)).mono B2.out.size))
  clear C5 b6 m0 mm1 m2 m3 m4 m5
  go_wp2_with (fail)
  go_ret
  exact ⟨rfl, B6.out⟩
set_option maxRecDepth 100000 in
set_option maxHeartbeats 16000000 in
theorem ruleBack_walk (s : ByteArray) (w : World) (hs : s.size ≤ 140737488351232) (hT : TabsL w) : Calls Tryd.prog 7 #[.string s] w fun e w' => e = .returned (.bool true) ∧ Below w.heap.size w w' := by
  have HT := Lib.hid hT
  have CA := Lib.hid (fun w1 (hb : Below w.heap.size w w1) => awake10_calls w1 (HT.out.below hb))
  clear hT
  by_cases hbig : 300 < s.size
  · have g1 : decide (300 < (s.size : Int)) = true := by simp; omega
    clear hbig
    go_enter Tryd.func7, Tryd.ntmps7
    go_wp2_with (fail)
    refine (CA.out _ (Below.refl _ _)).mono ?_
    rintro e w1 ⟨rfl, b1⟩
    have B1 := Lib.hid b1
    clear b1 CA
    go_wp2_with (fail)
    go_ret
    exact ⟨rfl, B1.out⟩
  have g1 : decide (300 < (s.size : Int)) = false := by simp; omega
  have hs2 : s.size ≤ 300 := by omega
  have C1 := Lib.hid (rparse_got s w (by omega) HT.out)
  unfold GRPost at C1
  clear hbig hs
  go_enter Tryd.func7, Tryd.ntmps7
  go_wp2_with (fail)
  refine C1.out.mono ?_
  rintro e w1 ⟨⟨cs, r, ok, rfl, g1x, h1, h2⟩, b1⟩
  obtain ⟨w2, hw2⟩ : ∃ w2, w2 = w1.alloc (.cells cs 47) := ⟨_, rfl⟩
  obtain ⟨M, hM⟩ : ∃ M, M = w1.heap.size := ⟨_, rfl⟩
  have b2 : Below w1.heap.size w1 w2 := by rw [hw2]; exact (Below.refl _ _).alloc (Nat.le_refl _) _
  have m2 : w2.heap[M]? = some (.cells cs 47 (0, 0)) := by rw [hw2, hM]; exact blk_alloc_new _ _
  have B2 := Lib.hid (b1.trans (b2.mono b1.size))
  have G2 := Lib.hid (g1x.below b2)
  have H12 := Lib.hid (And.intro h1 h2)
  have HW2 := Lib.hid (And.intro hw2 hM)
  have HM := Lib.hid (fun wx (hb : Below w2.heap.size w2 wx) => (hb.block _ (Array.getElem?_eq_some_iff.1 m2).1).trans m2)
  obtain ⟨A, c, hcs, _⟩ := g1x.out
  clear C1 h1 h2 b1 b2 hw2 hM m2 g1x
  cases ok with
  | false =>
    have hr : r = zeroR := (H12.out.2 rfl).2
    subst hr
    have hcs2 : cs = #[.bool false, .int .i64 0, .bool false, .string ⟨#[]⟩, .string ⟨#[]⟩, .slice A 0 c] := hcs
    have CS := Lib.hid (same10_calls zeroR cs _ w2 G2.out (zero_got w2) ⟨Nat.zero_le _, fun x hx => absurd hx List.not_mem_nil⟩)
    clear hcs
    subst hcs2
    go_upto_region 5 with (fail)
    rw [← HW2.out.1, ← HW2.out.2]
    clear HW2
    obtain ⟨m0, mm1, m2, m3, m4, m5⟩ := cell6_of (HM.out _ (Below.refl _ _))
    go_wp2_with (fail)
    refine CS.out.mono ?_
    rintro e w3 ⟨rfl, b3⟩
    have B3 := Lib.hid (B2.out.trans (b3.mono B2.out.size))
    clear CS b3 m0 mm1 m2 m3 m4 m5 HM
    go_wp2_with (fail)
    refine (CA.out _ B3.out).mono ?_
    rintro e w4 ⟨rfl, b4⟩
    have B4 := Lib.hid (B3.out.trans (b4.mono B3.out.size))
    clear b4 CA
    go_wp2_with (fail)
    go_ret
    exact ⟨rfl, B4.out⟩
  | true =>
    have hr := H12.out.1 rfl
    have HF := Lib.hid (fit_read hr (by omega))
    obtain ⟨t1, t2, t3⟩ := ruleT_val HF.out.val
    have C2 := Lib.hid (fun wx (hb : Below w2.heap.size w2 wx) => rtext_calls r cs wx (G2.out.below hb) HF.out ((HT.out.below B2.out).below hb))
    have C3 := Lib.hid (fun wx (hb : Below w2.heap.size w2 wx) => rcheck_calls r cs wx (G2.out.below hb) HF.out ((HT.out.below B2.out).below hb))
    have hz := line_small HF.out
    obtain ⟨T, hTx⟩ : ∃ T, T = lineT r := ⟨_, rfl⟩
    rw [← hTx] at C2 t2 hz
    have C4 := Lib.hid (fun wx (hb : Below w2.heap.size w2 wx) => rparse_got T wx (by omega) ((HT.out.below B2.out).below hb))
    unfold GRPost at C4
    have HTT := Lib.hid (And.intro t2 hTx)
    subst hcs
    obtain ⟨n, hn⟩ : ∃ n, n = r.cond.length := ⟨_, rfl⟩
    rw [← hn] at HM HW2 C2 C3 G2
    rw [← hn]
    have HN := Lib.hid hn
    have HRR := Lib.hid (show ∀ A c, (#[.bool r.pfx, .int .i64 (r.flag : Nat), .bool r.cross, .string r.strip, .string r.add, .slice A n c] : Array Value) = #[.bool r.pfx, .int .i64 (r.flag : Nat), .bool r.cross, .string r.strip, .string r.add, .slice A r.cond.length c] from fun A c => by rw [hn])
    obtain ⟨pf, hpf⟩ : ∃ x, x = r.pfx := ⟨_, rfl⟩
    obtain ⟨u, hu⟩ : ∃ x, x = r.flag := ⟨_, rfl⟩
    obtain ⟨cr, hcr⟩ : ∃ x, x = r.cross := ⟨_, rfl⟩
    obtain ⟨st, hst⟩ : ∃ x, x = r.strip := ⟨_, rfl⟩
    obtain ⟨ad, had⟩ : ∃ x, x = r.add := ⟨_, rfl⟩
    rw [← hpf, ← hu, ← hcr, ← hst, ← had] at HM HW2 C2 C3 G2 HRR
    rw [← hpf, ← hu, ← hcr, ← hst, ← had]
    clear hr t1 t2 t3 hz hTx H12 hn hpf hu hcr hst had
    go_upto_region 6 with (fail)
    rw [← HW2.out.1, ← HW2.out.2]
    clear HW2
    obtain ⟨m0, mm1, m2, m3, m4, m5⟩ := cell6_of (HM.out _ (Below.refl _ _))
    go_wp2_with (fail)
    refine (C2.out _ (Below.refl _ _)).mono ?_
    rintro e w3 ⟨rfl, b3⟩
    have B3 := Lib.hid b3
    clear b3 m0 mm1 m2 m3 m4 m5 C2
    go_wp2_with (fail)
    refine (C4.out _ B3.out).mono ?_
    rintro e w4 ⟨⟨cs4, r4, ok, rfl, g4, h1, h2⟩, b4⟩
    have hok : ok = true := by
      cases ok with
      | true => rfl
      | false => have := (h2 rfl).1; rw [HTT.out.1] at this; cases this
    subst hok
    have hr4 : r4 = r := by have := h1 rfl; rw [HTT.out.1] at this; exact (Option.some.inj this).symm
    subst hr4
    obtain ⟨w5, hw5⟩ : ∃ w5, w5 = w4.alloc (.cells cs4 47) := ⟨_, rfl⟩
    obtain ⟨N, hN⟩ : ∃ N, N = w4.heap.size := ⟨_, rfl⟩
    have b5 : Below w4.heap.size w4 w5 := by rw [hw5]; exact (Below.refl _ _).alloc (Nat.le_refl _) _
    have n5 : w5.heap[N]? = some (.cells cs4 47 (0, 0)) := by rw [hw5, hN]; exact blk_alloc_new _ _
    have B4 := Lib.hid (B3.out.trans (b4.mono B3.out.size))
    have B5 := Lib.hid (B4.out.trans (b5.mono B4.out.size))
    have G5 := Lib.hid (g4.below b5)
    have HNN := Lib.hid (fun wx (hb : Below w5.heap.size w5 wx) => (hb.block _ (Array.getElem?_eq_some_iff.1 n5).1).trans n5)
    have HW5 := Lib.hid (And.intro hw5 hN)
    have C5 := Lib.hid (fun wx (hb : Below w5.heap.size w5 wx) => same10_calls r4 _ cs4 wx ((G2.out.below B5.out).below hb) (G5.out.below hb) HF.out.small)
    have C6 := Lib.hid (fun wx (hb : Below w5.heap.size w5 wx) => rtext_calls r4 cs4 wx (G5.out.below hb) HF.out (((HT.out.below B2.out).below B5.out).below hb))
    obtain ⟨A4, c4, hcs4, _⟩ := g4.out
    subst hcs4
    rw [← HTT.out.2] at C6
    clear C4 b4 g4 h1 h2 hw5 hN b5 n5
    go_upto_region 8 with (fail)
    rw [← HW5.out.1, ← HW5.out.2]
    clear HW5
    obtain ⟨m0, mm1, m2, m3, m4, m5⟩ := cell6_of (HM.out _ B5.out)
    go_wp2_with (fail)
    refine (C3.out _ B5.out).mono ?_
    rintro e w6 ⟨rfl, b6⟩
    have B6 := Lib.hid b6
    have B26 := Lib.hid (B5.out.trans (b6.mono B5.out.size))
    clear C3 b6 m0 mm1 m2 m3 m4 m5
    obtain ⟨m0, mm1, m2, m3, m4, m5⟩ := cell6_of (HM.out _ B26.out)
    obtain ⟨n0, n1, n2, n3, n4, n5⟩ := cell6_of (HNN.out _ B6.out)
    go_wp2_with (fail)
    refine (C5.out _ B6.out).mono ?_
    rintro e w7 ⟨rfl, b7⟩
    have B7 := Lib.hid (B6.out.trans (b7.mono B6.out.size))
    clear C5 b7 m0 mm1 m2 m3 m4 m5 n0 n1 n2 n3 n4 n5
    obtain ⟨n0, n1, n2, n3, n4, n5⟩ := cell6_of (HNN.out _ B7.out)
    go_wp2_with (fail)
    refine (C6.out _ B7.out).mono ?_
    rintro e w8 ⟨rfl, b8⟩
    have B8 := Lib.hid (B2.out.trans ((B5.out.trans ((B7.out.trans (b8.mono B7.out.size)).mono B5.out.size)).mono B2.out.size))
    clear C6 b8 n0 n1 n2 n3 n4 n5 HNN HM
    go_wp2_with (fail)
    refine (CA.out _ B8.out).mono ?_
    rintro e w9 ⟨rfl, b9⟩
    have B9 := Lib.hid (B8.out.trans (b9.mono B8.out.size))
    clear CA b9
    go_wp2_with (fail)
    go_ret
    exact ⟨rfl, B9.out⟩
end Go.Proofs.YtmcnnfpeicnnjaaDoor

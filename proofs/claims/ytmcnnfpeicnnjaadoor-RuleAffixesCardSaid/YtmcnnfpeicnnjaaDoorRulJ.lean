/- RuleAffixes: the walk. -/
import Derived.Test.YtmcnnfpeicnnjaaDoorRulI
import Derived.Deep.DeepCutAuto
namespace Go.Proofs.YtmcnnfpeicnnjaaDoor
open Go.RowKit Go.Deep Go.Own
set_option linter.unusedVariables false
def axA : Array Value := #[.string ⟨#[]⟩, .string ⟨#[120]⟩, .string ⟨#[120, 121]⟩, .string ⟨#[195, 169]⟩]
set_option maxRecDepth 100000 in
theorem ax_index (i : Nat) (h : i < 4) : ∃ x : ByteArray, x.size ≤ 2 ∧ ∀ w : World, (Instr.index 57 (.agg axA) (.int .i64 (i : Nat))).run Tryd.prog w = .ok (.string x) w := by
  have h : i = 0 ∨ i = 1 ∨ i = 2 ∨ i = 3 := by omega
  rcases h with rfl | rfl | rfl | rfl
  · exact ⟨⟨#[]⟩, by decide, fun w => by kernel_rfl⟩
  · exact ⟨⟨#[120]⟩, by decide, fun w => by kernel_rfl⟩
  · exact ⟨⟨#[120, 121]⟩, by decide, fun w => by kernel_rfl⟩
  · exact ⟨⟨#[195, 169]⟩, by decide, fun w => by kernel_rfl⟩
theorem any_got {w : World} {Q : Nat} (h : w.heap[Q]? = some (.cells #[.bool true, .bool false, .slice none 0 0] 43 (0, 0))) : GotI w (.slice (some ⟨Q, 0, none⟩) 1 1) [anyI] := by
  obtain ⟨c0, c1, c2⟩ := cell3_of h
  have hq := (Array.getElem?_eq_some_iff.1 h).1
  refine ⟨⟨some ⟨Q, 0, none⟩, 1, rfl, Nat.le_refl _, fun j x hj => ?_⟩⟩
  have hj0 : j = 0 := by have := (List.getElem?_eq_some_iff.1 hj).1; simp at this; omega
  subst hj0
  obtain rfl : anyI = x := by simpa using hj
  exact ⟨Q, 0, none, 0, rfl, hq, c0, c1, c2, Nat.le_refl _, fun h => by simp [anyI] at h⟩
set_option maxRecDepth 100000 in
set_option maxHeartbeats 32000000 in
theorem ruleAffixes_walk (stem strip add two : Int) (w : World) (_ : (Lit.int .i64 stem).wf = true) (_ : (Lit.int .i64 strip).wf = true) (_ : (Lit.int .i64 add).wf = true) (_ : (Lit.int .i64 two).wf = true) (hT : TabsL w) : Calls Tryd.prog 9 #[.int .i64 stem, .int .i64 strip, .int .i64 add, .int .i64 two] w fun e w' => e = .returned (.bool true) ∧ Below w.heap.size w w' := by
  obtain ⟨k0, hk0, _, cp1⟩ := place_nat stem 8 (by omega) (by omega)
  obtain ⟨n, hn, _, cp2⟩ := place_nat strip (k0 + 2) (by omega) (by omega)
  obtain ⟨m, hm, _, cp3⟩ := place_nat two (k0 + 2) (by omega) (by omega)
  obtain ⟨ai, hai, _, cp4⟩ := place_nat add 4 (by omega) (by omega)
  obtain ⟨x, hx, HX⟩ := ax_index ai hai
  obtain ⟨v, A1, A2, A3, A4, A5, WA, WB, WC, C, ci, hF⟩ := afT_all k0 n m x hk0 (by omega) (by omega) hx
  obtain ⟨k, hk⟩ : ∃ k, k = k0 + 1 := ⟨_, rfl⟩
  rw [← hk] at hF
  have CP1 := Lib.hid cp1
  have CP2 : Hid (∀ w : World, Calls Tryd.prog 11 #[.int .i64 strip, .int .i64 ((k : Int) + 1)] w fun e w' => e = .returned (.int .i64 (n : Nat)) ∧ w = w') := Lib.hid (fun w => by
    have := cp2 w
    rw [show (((k0 + 2 : Nat) : Int)) = (k : Int) + 1 by omega] at this
    exact this)
  have CP3 : Hid (∀ w : World, Calls Tryd.prog 11 #[.int .i64 two, .int .i64 ((k : Int) + 1)] w fun e w' => e = .returned (.int .i64 (m : Nat)) ∧ w = w') := Lib.hid (fun w => by
    have := cp3 w
    rw [show (((k0 + 2 : Nat) : Int)) = (k : Int) + 1 by omega] at this
    exact this)
  have CP4 := Lib.hid cp4
  have HF := Lib.hid hF
  have HT := Lib.hid hT
  have HX2 := Lib.hid HX
  have HK := Lib.hid (show (1 : Int) + (k0 : Nat) = (k : Nat) by omega)
  have k8 : k ≤ 8 := hF.k8
  have nk := hF.nk
  have ml := hF.ml
  clear cp1 cp2 cp3 cp4 hF hT HX hk0 hn hm hai hk
  have F1 := HF.out.f1
  unfold ltB at F1
  have F2 := HF.out.f2
  have F3 := HF.out.f3
  go_enter Tryd.func9, Tryd.ntmps9
  go_wp2_with (fail)
  refine (CP1.out _).mono ?_
  rintro e w0 ⟨rfl, hw0⟩
  subst hw0
  clear CP1
  go_upto_region 3 with (fail)
  rw [HK.out]
  go_wp2_with (fail)
  refine (CP2.out _).mono ?_
  rintro e w0 ⟨rfl, hw0⟩
  subst hw0
  clear CP2
  go_wp2_with (fail)
  refine (CP3.out _).mono ?_
  rintro e w0 ⟨rfl, hw0⟩
  subst hw0
  clear CP3
  have HI := HX2.out
  unfold axA at HI
  generalize hag : Value.agg _ = ag at HI
  go_wp2_with (fail)
  refine (CP4.out _).mono ?_
  rintro e w0 ⟨rfl, hw0⟩
  subst hw0
  clear CP4
  go_upto_region 6 with (fail)
  clear HI hag HX2 F1
  obtain ⟨w1, hw1⟩ : ∃ w1, w1 = w.alloc (.cells #[.bool true, .bool false, .slice none 0 0] 43) := ⟨_, rfl⟩
  obtain ⟨Q, hQ⟩ : ∃ Q, Q = w.heap.size := ⟨_, rfl⟩
  have b1 : Below w.heap.size w w1 := by rw [hw1]; exact (Below.refl _ _).alloc (Nat.le_refl _) _
  have q1 : w1.heap[Q]? = some (.cells #[.bool true, .bool false, .slice none 0 0] 43 (0, 0)) := by rw [hw1, hQ]; exact blk_alloc_new _ _
  have G1 := Lib.hid (any_got q1)
  have B1 := Lib.hid b1
  obtain ⟨w2, hw2⟩ : ∃ w2, w2 = w1.alloc (.cells #[.bool false, .int .i64 83, .bool true, .string A1, .string x, .slice (some ⟨Q, 0, none⟩) 1 1] 47) := ⟨_, rfl⟩
  obtain ⟨M, hM⟩ : ∃ M, M = w1.heap.size := ⟨_, rfl⟩
  have b2 : Below w1.heap.size w1 w2 := by rw [hw2]; exact (Below.refl _ _).alloc (Nat.le_refl _) _
  have m2 : w2.heap[M]? = some (.cells #[.bool false, .int .i64 83, .bool true, .string A1, .string x, .slice (some ⟨Q, 0, none⟩) 1 1] 47 (0, 0)) := by rw [hw2, hM]; exact blk_alloc_new _ _
  obtain ⟨w3, hw3⟩ : ∃ w3, w3 = w2.alloc (.cells #[.bool true, .int .i64 80, .bool true, .string A2, .string x, .slice (some ⟨Q, 0, none⟩) 1 1] 47) := ⟨_, rfl⟩
  obtain ⟨N, hN⟩ : ∃ N, N = w2.heap.size := ⟨_, rfl⟩
  have b3 : Below w2.heap.size w2 w3 := by rw [hw3]; exact (Below.refl _ _).alloc (Nat.le_refl _) _
  have n3 : w3.heap[N]? = some (.cells #[.bool true, .int .i64 80, .bool true, .string A2, .string x, .slice (some ⟨Q, 0, none⟩) 1 1] 47 (0, 0)) := by rw [hw3, hN]; exact blk_alloc_new _ _
  have m3 := (b3.block _ (Array.getElem?_eq_some_iff.1 m2).1).trans m2
  have B3 := Lib.hid ((b1.trans (b2.mono b1.size)).trans (b3.mono (b1.trans (b2.mono b1.size)).size))
  have GI := Lib.hid (fun wx (hb : Below w3.heap.size w3 wx) => (((G1.out.below b2).below b3).below hb))
  have HM := Lib.hid (fun wx (hb : Below w3.heap.size w3 wx) => (hb.block _ (Array.getElem?_eq_some_iff.1 m3).1).trans m3)
  have HN := Lib.hid (fun wx (hb : Below w3.heap.size w3 wx) => (hb.block _ (Array.getElem?_eq_some_iff.1 n3).1).trans n3)
  have sm : smallI [anyI] := ⟨by decide, fun y hy => by obtain rfl := List.mem_singleton.1 hy; decide⟩
  have SM := Lib.hid sm
  have GS := Lib.hid (fun wx (hb : Below w3.heap.size w3 wx) => (⟨⟨some ⟨Q, 0, none⟩, 1, rfl, GI.out wx hb⟩⟩ : GotR wx #[.bool false, .int .i64 83, .bool true, .string A1, .string x, .slice (some ⟨Q, 0, none⟩) 1 1] ⟨false, 83, true, A1, x, [anyI]⟩))
  have GP := Lib.hid (fun wx (hb : Below w3.heap.size w3 wx) => (⟨⟨some ⟨Q, 0, none⟩, 1, rfl, GI.out wx hb⟩⟩ : GotR wx #[.bool true, .int .i64 80, .bool true, .string A2, .string x, .slice (some ⟨Q, 0, none⟩) 1 1] ⟨true, 80, true, A2, x, [anyI]⟩))
  have GQ := Lib.hid (fun wx (hb : Below w3.heap.size w3 wx) => (⟨⟨some ⟨Q, 0, none⟩, 1, rfl, GI.out wx hb⟩⟩ : GotR wx #[.bool true, .int .i64 80, .bool false, .string A2, .string x, .slice (some ⟨Q, 0, none⟩) 1 1] ⟨true, 80, false, A2, x, [anyI]⟩))
  have vz := HF.out.wz
  have z1 := HF.out.z1
  have z2 := HF.out.z2
  have CAs := Lib.hid (fun wx (hb : Below w3.heap.size w3 wx) => apply_calls _ _ v wx (GS.out wx hb) SM.out (by omega) (by show x.size ≤ _; omega) ((HT.out.below B3.out).below hb))
  have CAp := Lib.hid (fun wx (hb : Below w3.heap.size w3 wx) => apply_calls _ _ v wx (GP.out wx hb) SM.out (by omega) (by show x.size ≤ _; omega) ((HT.out.below B3.out).below hb))
  have CBps := Lib.hid (fun wx (hb : Below w3.heap.size w3 wx) => both_calls _ _ _ _ v wx (GP.out wx hb) (GS.out wx hb) SM.out SM.out (by omega) (by show x.size ≤ _; omega) (by show x.size ≤ _; omega) (by show A2.size ≤ _; omega) (by show A1.size ≤ _; omega) ((HT.out.below B3.out).below hb))
  have CBqs := Lib.hid (fun wx (hb : Below w3.heap.size w3 wx) => both_calls _ _ _ _ v wx (GQ.out wx hb) (GS.out wx hb) SM.out SM.out (by omega) (by show x.size ≤ _; omega) (by show x.size ≤ _; omega) (by show A2.size ≤ _; omega) (by show A1.size ≤ _; omega) ((HT.out.below B3.out).below hb))
  have CBsp := Lib.hid (fun wx (hb : Below w3.heap.size w3 wx) => both_calls _ _ _ _ v wx (GS.out wx hb) (GP.out wx hb) SM.out SM.out (by omega) (by show x.size ≤ _; omega) (by show x.size ≤ _; omega) (by show A1.size ≤ _; omega) (by show A2.size ≤ _; omega) ((HT.out.below B3.out).below hb))
  rw [HF.out.apS] at CAs
  rw [HF.out.apP] at CAp
  rw [HF.out.bps] at CBps
  rw [HF.out.bqs] at CBqs
  rw [HF.out.bsp] at CBsp
  have CW := Lib.hid (fun wx (hb : Below w3.heap.size w3 wx) => awake10_calls wx ((HT.out.below B3.out).below hb))
  have HW := Lib.hid (show (w1 = _ ∧ Q = _) ∧ (w2 = _ ∧ M = Q + 1) ∧ (w3 = _ ∧ N = Q + 1 + 1) from ⟨⟨hw1, hQ⟩, ⟨hw2, show M = Q + 1 by rw [hM, hw1, hQ]; exact Array.size_push _⟩, ⟨hw3, show N = Q + 1 + 1 by
    have e1 : w1.heap.size = Q + 1 := by rw [hw1, hQ]; exact Array.size_push _
    rw [hN, hw2, ← e1]
    exact Array.size_push _⟩⟩)
  clear hw1 hQ b1 q1 hw2 hM b2 m2 hw3 hN b3 n3 m3 sm G1 GI
  go_upto_region 9 with (fail)
  rw [← HW.out.1.1, ← HW.out.1.2, ← HW.out.2.2.2, ← HW.out.2.1.2, ← HW.out.2.1.1, ← HW.out.2.2.1]
  clear HW F2 F3
  obtain ⟨m0, mm1, m2, m3, m4, m5⟩ := cell6_of (HM.out _ (Below.refl _ _))
  go_wp2_with (fail)
  refine (CAs.out _ (Below.refl _ _)).mono ?_
  rintro e w4 ⟨rfl, b4⟩
  have B4 := Lib.hid b4
  clear CAs b4 m0 mm1 m2 m3 m4 m5
  obtain ⟨n0, n1, n2, n3, n4, n5⟩ := cell6_of (HN.out _ B4.out)
  go_wp2_with (fail)
  refine (CAp.out _ B4.out).mono ?_
  rintro e w5 ⟨rfl, b5⟩
  have B5 := Lib.hid (B4.out.trans (b5.mono B4.out.size))
  clear CAp b5 n0 n1 n2 n3 n4 n5
  obtain ⟨m0, mm1, m2, m3, m4, m5⟩ := cell6_of (HM.out _ B5.out)
  obtain ⟨n0, n1, n2, n3, n4, n5⟩ := cell6_of (HN.out _ B5.out)
  go_wp2_with (fail)
  refine (CBps.out _ B5.out).mono ?_
  rintro e w6 ⟨rfl, b6⟩
  have B6 := Lib.hid (B5.out.trans (b6.mono B5.out.size))
  clear CBps b6 m0 mm1 m2 m3 m4 m5 n0 n1 n2 n3 n4 n5
  obtain ⟨m0, mm1, m2, m3, m4, m5⟩ := cell6_of (HM.out _ B6.out)
  obtain ⟨n0, n1, n2, n3, n4, n5⟩ := cell6_of (HN.out _ B6.out)
  obtain ⟨u7, hu7⟩ : ∃ u, u = w6.alloc (.cells #[.bool true, .int .i64 80, .bool true, .string A2, .string x, .slice (some ⟨Q, 0, none⟩) 1 1] 47) := ⟨_, rfl⟩
  obtain ⟨L, hL⟩ : ∃ L, L = w6.heap.size := ⟨_, rfl⟩
  have bu7 : Below w6.heap.size w6 u7 := by rw [hu7]; exact (Below.refl _ _).alloc (Nat.le_refl _) _
  have lu7 : u7.heap[L]? = some (.cells #[.bool true, .int .i64 80, .bool true, .string A2, .string x, .slice (some ⟨Q, 0, none⟩) 1 1] 47 (0, 0)) := by rw [hu7, hL]; exact blk_alloc_new _ _
  obtain ⟨w7, hw7⟩ : ∃ w7, w7 = u7.setCell ⟨L, 2, none⟩ (.bool false) := ⟨_, rfl⟩
  have b7 : Below w6.heap.size w6 w7 := by rw [hw7]; exact bu7.setCell (p := ⟨L, 2, none⟩) (by rw [hL]; exact Nat.le_refl _) _
  have l7 : w7.heap[L]? = some (.cells #[.bool true, .int .i64 80, .bool false, .string A2, .string x, .slice (some ⟨Q, 0, none⟩) 1 1] 47 (0, 0)) := by rw [hw7, setCell_same lu7]; rfl
  have B7 := Lib.hid (B6.out.trans (b7.mono B6.out.size))
  have HL7 := Lib.hid l7
  have HLU := Lib.hid lu7
  have HU7 := Lib.hid (And.intro hu7 hL)
  have HW7 := Lib.hid hw7
  clear hu7 hL bu7 lu7 hw7 b7 l7
  go_upto_region 13 with (fail)
  rw [← HU7.out.1, ← HU7.out.2]
  clear HU7 m0 mm1 m2 m3 m4 m5 n0 n1 n2 n3 n4 n5
  obtain ⟨n0, n1, n2, n3, n4, n5⟩ := cell6_of HLU.out
  have fz : ∀ j, u7.frozen? ⟨L, j, none⟩ = false := fun j => by have := HLU.out; simp [World.frozen?, this]
  go_upto_region 14 with (fail)
  rw [← HW7.out]
  clear HW7 HLU fz n0 n1 n2 n3 n4 n5
  obtain ⟨m0, mm1, m2, m3, m4, m5⟩ := cell6_of (HM.out _ B7.out)
  obtain ⟨n0, n1, n2, n3, n4, n5⟩ := cell6_of HL7.out
  go_wp2_with (fail)
  refine (CBqs.out _ B7.out).mono ?_
  rintro e w8 ⟨rfl, b8⟩
  have B8 := Lib.hid (B7.out.trans (b8.mono B7.out.size))
  clear CBqs b8 m0 mm1 m2 m3 m4 m5 n0 n1 n2 n3 n4 n5 HL7
  obtain ⟨m0, mm1, m2, m3, m4, m5⟩ := cell6_of (HM.out _ B8.out)
  obtain ⟨n0, n1, n2, n3, n4, n5⟩ := cell6_of (HN.out _ B8.out)
  go_wp2_with (fail)
  refine (CBsp.out _ B8.out).mono ?_
  rintro e w9 ⟨rfl, b9⟩
  have B9 := Lib.hid (B8.out.trans (b9.mono B8.out.size))
  clear CBsp b9 m0 mm1 m2 m3 m4 m5 n0 n1 n2 n3 n4 n5 HM HN
  have F4 := HF.out.f4
  have F5 := HF.out.f5
  have z3 := HF.out.z3
  have z4 := HF.out.z4
  have z5 := HF.out.z5
  have ea := HF.out.ea.symm
  have eb := HF.out.eb.symm
  go_upto_region 16 with (fail)
  refine Own.region_all (fun w' => ∃ n, w' = World.drewN w9 n) (by kernel_rfl) (by kernel_rfl) ⟨1, by first | rfl | simp | trace_state⟩ ?_
  repeat (go_big_quiet_step (fail))
  refine wpQuiet_nil ?_
  rintro _ ⟨nq, rfl⟩
  have B10 := Lib.hid (B9.out.trans ((belowN w9 nq).mono B9.out.size))
  clear F4 F5
  cases hwa : WA.toList.isEmpty with
  | true =>
    cases hwb : WB.toList.isEmpty with
    | true =>
      obtain ⟨hc, hi⟩ := HF.out.no (.inl hwa)
      subst hc hi
      cases hff : decide (n + m ≤ k) with
      | true =>
        have g1 : decide ((n : Int) + (m : Nat) ≤ (k : Nat)) = true := decide_eq_true (by have := of_decide_eq_true hff; omega)
        go_wp2_with (fail)
        refine (CW.out _ B10.out).mono ?_
        rintro e w11 ⟨rfl, b11⟩
        have B11 := Lib.hid (B3.out.trans ((B10.out.trans (b11.mono B10.out.size)).mono B3.out.size))
        clear CW b11
        go_wp2_with (fail)
        go_ret
        exact ⟨rfl, B11.out⟩
      | false =>
        have g1 : decide ((n : Int) + (m : Nat) ≤ (k : Nat)) = false := decide_eq_false (by have := of_decide_eq_false hff; omega)
        go_wp2_with (fail)
        refine (CW.out _ B10.out).mono ?_
        rintro e w11 ⟨rfl, b11⟩
        have B11 := Lib.hid (B3.out.trans ((B10.out.trans (b11.mono B10.out.size)).mono B3.out.size))
        clear CW b11
        go_wp2_with (fail)
        go_ret
        exact ⟨rfl, B11.out⟩
    | false =>
      obtain ⟨hc, hi⟩ := HF.out.no (.inl hwa)
      subst hc hi
      cases hff : decide (n + m ≤ k) with
      | true =>
        have g1 : decide ((n : Int) + (m : Nat) ≤ (k : Nat)) = true := decide_eq_true (by have := of_decide_eq_true hff; omega)
        go_wp2_with (fail)
        refine (CW.out _ B10.out).mono ?_
        rintro e w11 ⟨rfl, b11⟩
        have B11 := Lib.hid (B3.out.trans ((B10.out.trans (b11.mono B10.out.size)).mono B3.out.size))
        clear CW b11
        go_wp2_with (fail)
        go_ret
        exact ⟨rfl, B11.out⟩
      | false =>
        have g1 : decide ((n : Int) + (m : Nat) ≤ (k : Nat)) = false := decide_eq_false (by have := of_decide_eq_false hff; omega)
        go_wp2_with (fail)
        refine (CW.out _ B10.out).mono ?_
        rintro e w11 ⟨rfl, b11⟩
        have B11 := Lib.hid (B3.out.trans ((B10.out.trans (b11.mono B10.out.size)).mono B3.out.size))
        clear CW b11
        go_wp2_with (fail)
        go_ret
        exact ⟨rfl, B11.out⟩
  | false =>
    cases hwb : WB.toList.isEmpty with
    | true =>
      obtain ⟨hc, hi⟩ := HF.out.no (.inr (.inl hwb))
      subst hc hi
      cases hff : decide (n + m ≤ k) with
      | true =>
        have g1 : decide ((n : Int) + (m : Nat) ≤ (k : Nat)) = true := decide_eq_true (by have := of_decide_eq_true hff; omega)
        go_wp2_with (fail)
        refine (CW.out _ B10.out).mono ?_
        rintro e w11 ⟨rfl, b11⟩
        have B11 := Lib.hid (B3.out.trans ((B10.out.trans (b11.mono B10.out.size)).mono B3.out.size))
        clear CW b11
        go_wp2_with (fail)
        go_ret
        exact ⟨rfl, B11.out⟩
      | false =>
        have g1 : decide ((n : Int) + (m : Nat) ≤ (k : Nat)) = false := decide_eq_false (by have := of_decide_eq_false hff; omega)
        go_wp2_with (fail)
        refine (CW.out _ B10.out).mono ?_
        rintro e w11 ⟨rfl, b11⟩
        have B11 := Lib.hid (B3.out.trans ((B10.out.trans (b11.mono B10.out.size)).mono B3.out.size))
        clear CW b11
        go_wp2_with (fail)
        go_ret
        exact ⟨rfl, B11.out⟩
    | false =>
      by_cases hf : n + m ≤ k
      · have g1 : decide ((n : Int) + (m : Nat) ≤ (k : Nat)) = true := decide_eq_true (by omega)
        obtain ⟨hc, hi⟩ := HF.out.yes hwa hwb hf
        subst hc hi
        have F6 := HF.out.f6 hf
        have ec := HF.out.ec.symm
        clear hf
        go_wp2_with (fail)
        refine (CW.out _ B10.out).mono ?_
        rintro e w11 ⟨rfl, b11⟩
        have B11 := Lib.hid (B3.out.trans ((B10.out.trans (b11.mono B10.out.size)).mono B3.out.size))
        clear CW b11
        go_wp2_with (fail)
        go_ret
        exact ⟨rfl, B11.out⟩
      · have g1 : decide ((n : Int) + (m : Nat) ≤ (k : Nat)) = false := decide_eq_false (by omega)
        obtain ⟨hc, hi⟩ := HF.out.no (.inr (.inr hf))
        subst hc hi
        go_wp2_with (fail)
        refine (CW.out _ B10.out).mono ?_
        rintro e w11 ⟨rfl, b11⟩
        have B11 := Lib.hid (B3.out.trans ((B10.out.trans (b11.mono B10.out.size)).mono B3.out.size))
        clear CW b11
        go_wp2_with (fail)
        go_ret
        exact ⟨rfl, B11.out⟩
end Go.Proofs.YtmcnnfpeicnnjaaDoor

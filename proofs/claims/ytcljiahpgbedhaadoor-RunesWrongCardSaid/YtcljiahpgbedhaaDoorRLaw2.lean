/- RunesCodes. -/
import Derived.Test.YtcljiahpgbedhaaDoorRLaw1
import Derived.Test.YtcljiahpgbedhaaDoorPlace
import Derived.Test.YtcljiahpgbedhaaDoorUEnc
namespace Go.Proofs.YtcljiahpgbedhaaDoor
open Go.RowKit Go.Deep Go.Own
set_option linter.unusedVariables false
theorem ok_nil : okU ⟨#[]⟩ = true ∧ codesOf ⟨#[]⟩ = [] := by decide +kernel
set_option maxRecDepth 100000 in
set_option maxHeartbeats 8000000 in
theorem runesCodes_walk (v cut : Int) (w : World) (hv : (Lit.int .i64 v).wf = true) (hc : (Lit.int .i64 cut).wf = true) (hT : Tabs w) :
    Calls Tryd.prog 5 #[.int .i64 v, .int .i64 cut] w fun e w' => e = .returned (.bool true) ∧ Below w.heap.size w w' := by
  obtain ⟨k, hk, _, cp⟩ := place_nat v 1114112 (by decide) (by decide)
  have CP : Hid (∀ w : World, Calls Tryd.prog 23 #[.int .i64 v, .int .i64 1114112] w fun e w' => e = .returned (.int .i64 (k : Nat)) ∧ w = w') := Lib.hid cp
  have CB := Lib.hid (ubytes_calls (k : Nat) w)
  clear cp
  by_cases hs : 55296 ≤ k ∧ k ≤ 57343
  · have CW := Lib.hid (rawake_calls w hT)
    rw [enc_not (by rw [valid_int]; omega)] at CB
    have g1 : decide (55296 ≤ k) = true := by simp; omega
    have g2 : decide (k ≤ 57343) = true := by simp; omega
    clear hT
    go_enter Tryd.func5, Tryd.ntmps5
    go_wp2_with (first | (go_at_call 23; refine (CP.out _).mono ?_; rintro e w1 ⟨rfl, rfl⟩) | (go_at_call 20; refine CB.out.mono ?_; rintro e w2 ⟨rfl, rfl⟩) | (go_at_call 12; refine CW.out.mono ?_; rintro e w3 ⟨rfl, b3⟩))
    go_ret
    exact ⟨rfl, b3⟩
  · have hval : k < 55296 ∨ (57344 ≤ k ∧ k ≤ 1114111) := by omega
    have hE : enc (k : Int) = Utf8.encode (k : Int) := enc_valid (by rw [valid_int]; omega)
    have h1 := (dec_enc k hval).2
    have hcd := codes_enc k hval
    have hok := ok_enc k hval
    have hcut := cut_enc k hval
    rw [hE] at CB h1 hcd hok hcut
    have C1 := Lib.hid (ucodes_calls (Utf8.encode (k : Int)) w (by omega) hT)
    unfold CodesPost at C1
    rw [codesOf_ok hok, hcd, hok] at C1
    obtain ⟨E, hEE⟩ : ∃ E, Utf8.encode (k : Int) = E := ⟨_, rfl⟩
    have hbe := bytes_self E
    obtain ⟨m, hm⟩ : ∃ m, E.size = m := ⟨_, rfl⟩
    rw [hEE] at C1 h1 hcut CB
    have hcv := hEE
    rw [hm] at h1 hcut
    obtain ⟨n, hn, _, cp2⟩ := place_nat cut m (by omega) (by omega)
    have CP2 := Lib.hid cp2
    obtain ⟨X, hX⟩ : ∃ X, E.extract 0 n = X := ⟨_, rfl⟩
    have hXs : X.size ≤ 4 := by rw [← hX, ByteArray.size_extract]; omega
    have hXc : codesOf X = [] ∧ okU X = decide (n = 0) := by
      by_cases h0 : n = 0
      · subst h0
        have : X = ⟨#[]⟩ := by rw [← hX]; simp; rfl
        rw [this]; exact ⟨ok_nil.2, ok_nil.1⟩
      · have := hcut n (by omega) hn
        rw [hX] at this
        exact ⟨codesOf_not this, by rw [this]; simp [h0]⟩
    have C2 := Lib.hid (fun (w1 : World) (h : Below w.heap.size w w1) => ucodes_calls X w1 (by omega) (hT.below h))
    unfold CodesPost at C2
    rw [hXc.1, hXc.2] at C2
    have CW := Lib.hid (fun (w1 : World) (h : Below w.heap.size w w1) => rawake_calls w1 (hT.below h))
    have CX1 := Lib.hid (fun w : World => ubytes_calls (-1 - (k : Int)) w)
    rw [enc_not (by rw [valid_int]; omega)] at CX1
    have CX2 := Lib.hid (fun w : World => ubytes_calls (1114112 + (k : Int)) w)
    rw [enc_not (by rw [valid_int]; omega)] at CX2
    have g1 : decide (55296 ≤ k) = true ∨ decide (55296 ≤ k) = false := by cases decide (55296 ≤ k) <;> simp
    have hnn : ((n : Int) == 0) = decide (n = 0) := by by_cases h0 : n = 0 <;> simp [h0]
    have hkk : (k : Int) ≤ 1114111 := by omega
    have hnm : n ≤ m := by omega
    have hcc : ((decide (n = 0)) == decide (n = 0)) = true := by simp
    obtain ⟨bn, hbn⟩ : ∃ bn, decide (n = 0) = bn := ⟨_, rfl⟩
    rw [hbn] at hnn C2 hcc
    clear hbn hXc cp2 hcut hT hcd hok hE g1
    have HK := Lib.hid (show _ ∧ _ ∧ _ from ⟨hk, hval, hs⟩)
    clear hk hval hs
    by_cases hlo : 55296 ≤ k
    · have g1 : decide ((55296 : Int) ≤ (k : Int)) = true := by simp; omega
      have g2 : decide ((k : Int) ≤ 57343) = false := by have := HK.out; simp; omega
      have HLO := Lib.hid hlo
      clear hlo
      go_enter Tryd.func5, Tryd.ntmps5
      go_wp2_with (first | (go_at_call 23; refine (CP.out _).mono ?_; rintro e w1 ⟨rfl, rfl⟩) | (go_at_call 20; refine CB.out.mono ?_; rintro e w2 ⟨rfl, rfl⟩))
      refine C1.out.mono ?_
      rintro e w1 ⟨⟨v1, rfl, o1⟩, b1⟩
      obtain ⟨A1, c1, rfl⟩ := own_is o1
      obtain ⟨_, q1, rfl, d1⟩ := own1 o1
      have B1 := Lib.hid b1
      clear o1 b1 C1 CB
      go_wp2_with (first | (go_at_call 23; refine (CP2.out _).mono ?_; rintro e w1 ⟨rfl, rfl⟩))
      refine (C2.out _ B1.out).mono ?_
      rintro e w3 ⟨⟨v3, rfl, o3⟩, b3⟩
      obtain ⟨A3, c3, rfl⟩ := own_is o3
      have B3 := Lib.hid (B1.out.trans (b3.mono B1.out.size))
      clear o3 b3 C2 d1
      go_wp2_with (fail)
      refine (CX1.out _).mono ?_
      rintro e w4 ⟨rfl, rfl⟩
      clear CX1
      go_wp2_with (fail)
      refine (CX2.out _).mono ?_
      rintro e w4 ⟨rfl, rfl⟩
      clear CX2
      go_wp2_with (fail)
      refine (CW.out _ B3.out).mono ?_
      rintro e w5 ⟨rfl, b5⟩
      go_wp2_with (fail)
      go_ret
      exact ⟨rfl, B3.out.trans (b5.mono B3.out.size)⟩
    · have g1 : decide ((55296 : Int) ≤ (k : Int)) = false := by simp; omega
      have HLO := Lib.hid hlo
      clear hlo
      go_enter Tryd.func5, Tryd.ntmps5
      go_wp2_with (first | (go_at_call 23; refine (CP.out _).mono ?_; rintro e w1 ⟨rfl, rfl⟩) | (go_at_call 20; refine CB.out.mono ?_; rintro e w2 ⟨rfl, rfl⟩))
      refine C1.out.mono ?_
      rintro e w1 ⟨⟨v1, rfl, o1⟩, b1⟩
      obtain ⟨A1, c1, rfl⟩ := own_is o1
      obtain ⟨_, q1, rfl, d1⟩ := own1 o1
      have B1 := Lib.hid b1
      clear o1 b1 C1 CB
      go_wp2_with (first | (go_at_call 23; refine (CP2.out _).mono ?_; rintro e w1 ⟨rfl, rfl⟩))
      refine (C2.out _ B1.out).mono ?_
      rintro e w3 ⟨⟨v3, rfl, o3⟩, b3⟩
      obtain ⟨A3, c3, rfl⟩ := own_is o3
      have B3 := Lib.hid (B1.out.trans (b3.mono B1.out.size))
      clear o3 b3 C2 d1
      go_wp2_with (fail)
      refine (CX1.out _).mono ?_
      rintro e w4 ⟨rfl, rfl⟩
      clear CX1
      go_wp2_with (fail)
      refine (CX2.out _).mono ?_
      rintro e w4 ⟨rfl, rfl⟩
      clear CX2
      go_wp2_with (fail)
      refine (CW.out _ B3.out).mono ?_
      rintro e w5 ⟨rfl, b5⟩
      go_wp2_with (fail)
      go_ret
      exact ⟨rfl, B3.out.trans (b5.mono B3.out.size)⟩
end Go.Proofs.YtcljiahpgbedhaaDoor

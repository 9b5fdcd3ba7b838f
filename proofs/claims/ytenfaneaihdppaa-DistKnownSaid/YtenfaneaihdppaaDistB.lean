/- DistAll's walk. -/
import Derived.Test.YtenfaneaihdppaaFar2
namespace Go.Proofs.Ytenfaneaihdppaa
set_option linter.unusedVariables false
open Go.RowKit Go.Deep Go.Own
theorem distAll_walk (A : Option Addr) (ca : Nat) (a : List Int) (B : Option Addr) (cb : Nat) (b : List Int) (m : Int) (W : World) (hA : Reads W A a) (hla : a.length ≤ 9223372036854775807) (hB : Reads W B b) (hlb : b.length ≤ 9223372036854775807) (hm : (Lit.int .i64 m).wf = true) :
    Calls Try.prog 3 #[.slice A a.length ca, .slice B b.length cb, .int .i64 m] W fun e w' => e = .returned (.bool true) ∧ Below W.heap.size W w' := by
  have HA := Lib.hid hA
  have HB := Lib.hid hB
  clear hA hB
  by_cases h1 : 60 < a.length
  · have g1 : decide ((60 : Int) < (a.length : Int)) = true := by simp; omega
    go_enter Try.func3, Try.ntmps3
    go_wp2_with (go_at_call 7; refine (awake_calls _).mono ?_; rintro e w' ⟨rfl, hb⟩)
    go_ret
    exact ⟨rfl, hb⟩
  have g1 : decide ((60 : Int) < (a.length : Int)) = false := by simp; omega
  by_cases h2 : 60 < b.length
  · have g2 : decide ((60 : Int) < (b.length : Int)) = true := by simp; omega
    go_enter Try.func3, Try.ntmps3
    go_wp2_with (go_at_call 7; refine (awake_calls _).mono ?_; rintro e w' ⟨rfl, hb⟩)
    go_ret
    exact ⟨rfl, hb⟩
  have g2 : decide ((60 : Int) < (b.length : Int)) = false := by simp; omega
  by_cases h3 : m < (Dst.far a b : Nat)
  · have e1 : (if m < (Dst.far a b : Nat) then (0 : Int) else (Dst.far a b : Nat)) = 0 := if_pos h3
    have e2 : decide (((Dst.far a b : Nat) : Int) ≤ m) = false := by simp; omega
    have E1 := Lib.hid e1
    clear e1
    go_enter Try.func3, Try.ntmps3
    go_wp2_with fail
    refine (rfar_calls A B ca cb a b W (by omega) (by omega) HA.out HB.out).mono ?_
    rintro e w1 ⟨rfl, hb1⟩
    have HA1 := Lib.hid (HA.out.later hb1)
    have HB1 := Lib.hid (HB.out.later hb1)
    go_wp2_with fail
    refine (near_calls A B ca cb a b m w1 (by omega) (by omega) HA1.out HB1.out).mono ?_
    rintro e w2 ⟨rfl, hb2⟩
    rw [E1.out, e2]
    have HA2 := Lib.hid (HA1.out.later hb2)
    have HB2 := Lib.hid (HB1.out.later hb2)
    go_wp2_with fail
    refine (far_calls A B ca cb a b w2 (by omega) (by omega) HA2.out HB2.out).mono ?_
    rintro e w3 ⟨rfl, hb3⟩
    go_wp2_with fail
    refine (awake_calls w3).mono ?_
    rintro e w4 ⟨rfl, hb4⟩
    go_wp2_with fail
    go_ret
    exact ⟨rfl, ((hb1.trans (hb2.mono hb1.size)).trans (hb3.mono (Nat.le_trans hb1.size hb2.size))).trans (hb4.mono (Nat.le_trans (Nat.le_trans hb1.size hb2.size) hb3.size))⟩
  · have e1 : (if m < (Dst.far a b : Nat) then (0 : Int) else (Dst.far a b : Nat)) = (Dst.far a b : Nat) := if_neg h3
    have e2 : decide (((Dst.far a b : Nat) : Int) ≤ m) = true := by simp; omega
    have E1 := Lib.hid e1
    clear e1
    go_enter Try.func3, Try.ntmps3
    go_wp2_with fail
    refine (rfar_calls A B ca cb a b W (by omega) (by omega) HA.out HB.out).mono ?_
    rintro e w1 ⟨rfl, hb1⟩
    have HA1 := Lib.hid (HA.out.later hb1)
    have HB1 := Lib.hid (HB.out.later hb1)
    go_wp2_with fail
    refine (near_calls A B ca cb a b m w1 (by omega) (by omega) HA1.out HB1.out).mono ?_
    rintro e w2 ⟨rfl, hb2⟩
    rw [E1.out, e2]
    have HA2 := Lib.hid (HA1.out.later hb2)
    have HB2 := Lib.hid (HB1.out.later hb2)
    go_wp2_with fail
    refine (far_calls A B ca cb a b w2 (by omega) (by omega) HA2.out HB2.out).mono ?_
    rintro e w3 ⟨rfl, hb3⟩
    go_wp2_with fail
    refine (awake_calls w3).mono ?_
    rintro e w4 ⟨rfl, hb4⟩
    go_wp2_with fail
    go_ret
    exact ⟨rfl, ((hb1.trans (hb2.mono hb1.size)).trans (hb3.mono (Nat.le_trans hb1.size hb2.size))).trans (hb4.mono (Nat.le_trans (Nat.le_trans hb1.size hb2.size) hb3.size))⟩
end Go.Proofs.Ytenfaneaihdppaa

/- A code point's bytes: the program's. -/
import Derived.Test.YtmcnnfpeicnnjaaDoorEncD
namespace Go.Proofs.YtmcnnfpeicnnjaaDoor
open Go.RowKit Go.Deep Go.Own
set_option linter.unusedVariables false
set_option maxRecDepth 100000 in
set_option maxHeartbeats 4000000 in
theorem ubytes_calls (c : Int) (w : World) :
    Calls Tryd.prog 46 #[.int .i64 c] w fun e w' => e = .returned (.string (enc c)) ∧ w' = w := by
  by_cases h0 : c < 0
  · have g0 : decide (c < 0) = true := by simpa using h0
    rw [enc_not (by rw [valid_int]; omega)]
    clear h0
    go_enter Tryd.func46, Tryd.ntmps46
    go_wp2_with (fail)
    go_ret
    exact ⟨rfl, rfl⟩
  · have g0 : decide (c < 0) = false := by simpa using h0
    by_cases h1 : 1114111 < c
    · have g1 : decide (1114111 < c) = true := by simpa using h1
      rw [enc_not (by rw [valid_int]; omega)]
      clear h0 h1
      go_enter Tryd.func46, Tryd.ntmps46
      go_wp2_with (fail)
      go_ret
      exact ⟨rfl, rfl⟩
    · have g1 : decide (1114111 < c) = false := by simpa using h1
      have CV := Lib.hid (Tryd.utf8_ValidRune c w)
      rw [valid_lib] at CV
      by_cases hv : Utf8.valid c = true
      · rw [enc_valid hv]
        rw [hv] at CV
        clear hv
        go_enter Tryd.func46, Tryd.ntmps46
        go_wp2_with (go_at_call 68; refine CV.out.mono ?_; rintro e w' ⟨rfl, rfl⟩)
        go_ret
        exact ⟨rfl, rfl⟩
      · rw [enc_not hv]
        rw [Bool.not_eq_true] at hv
        rw [hv] at CV
        clear hv
        go_enter Tryd.func46, Tryd.ntmps46
        go_wp2_with (go_at_call 68; refine CV.out.mono ?_; rintro e w' ⟨rfl, rfl⟩)
        go_ret
        exact ⟨rfl, rfl⟩
end Go.Proofs.YtmcnnfpeicnnjaaDoor

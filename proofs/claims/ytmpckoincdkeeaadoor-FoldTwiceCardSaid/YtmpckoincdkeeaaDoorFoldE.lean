/- Fold: the example. -/
import Derived.Test.YtmpckoincdkeeaaDoorFoldD
namespace Go.Proofs.YtmpckoincdkeeaaDoor
open Go.RowKit Go.Deep Go.Own Go.Maps
set_option linter.unusedVariables false
theorem Tabs2.below {w w' : World} (h : Tabs2 w) (hb : Below w.heap.size w w') : Tabs2 w' := Utf8Tabs_below h hb
theorem no_pairs : PairsV [] := fun p hp => absurd hp List.not_mem_nil
theorem no_reads (w : World) (A : Option Addr) : ReadsP w A [] := fun h => absurd h (by simp)
theorem ex1 : shapeOf (smallF []) (greatF []) (codes ⟨#[78, 65, 84, 79]⟩) = 2 := by decide +kernel
theorem ex2 : shapeOf (smallF []) (greatF []) (codes ⟨#[65]⟩) = 1 := by decide +kernel
theorem ex3 : turnS (smallF []) ⟨#[78, 97, 84, 79]⟩ 4 = ⟨#[110, 97, 116, 111]⟩ := by decide +kernel
theorem ex4 : turnS (greatF []) ⟨#[110, 97, 116, 111]⟩ 1 = ⟨#[78, 97, 116, 111]⟩ := by decide +kernel
set_option maxRecDepth 100000 in
set_option maxHeartbeats 4000000 in
theorem fawake_calls (w : World) (hT : Tabs2 w) :
    Calls Tryd.prog 12 #[] w fun e w' => e = .returned (.bool true) ∧ Below w.heap.size w w' := by
  have C1 : Hid (Calls Tryd.prog 15 #[.slice none 0 0, .string ⟨#[78, 65, 84, 79]⟩] w fun e w' => e = .returned (.int .i64 2) ∧ Below w.heap.size w w') := Lib.hid (by
    have := shape_calls [] ⟨#[78, 65, 84, 79]⟩ none 0 w (no_reads _ _) (by decide) no_pairs (by decide) hT
    rw [ex1] at this; exact this)
  have HT := Lib.hid hT
  clear hT
  go_enter Tryd.func12, Tryd.ntmps12
  go_wp2_with (fail)
  refine C1.out.mono ?_
  rintro e w1 ⟨rfl, b1⟩
  have C2 : Hid (Calls Tryd.prog 15 #[.slice none 0 0, .string ⟨#[65]⟩] w1 fun e w' => e = .returned (.int .i64 1) ∧ Below w1.heap.size w1 w') := Lib.hid (by
    have := shape_calls [] ⟨#[65]⟩ none 0 w1 (no_reads _ _) (by decide) no_pairs (by decide) (HT.out.below b1)
    rw [ex2] at this; exact this)
  have B1 := Lib.hid b1
  clear b1 C1
  go_wp2_with (fail)
  refine C2.out.mono ?_
  rintro e w2 ⟨rfl, b2⟩
  have B2 := Lib.hid (B1.out.trans (b2.mono B1.out.size))
  have C3 : Hid (Calls Tryd.prog 14 #[.slice none 0 0, .string ⟨#[78, 97, 84, 79]⟩] w2 fun e w' => e = .returned (.string ⟨#[110, 97, 116, 111]⟩) ∧ Below w2.heap.size w2 w') := Lib.hid (by
    have := small_calls [] ⟨#[78, 97, 84, 79]⟩ none 0 w2 (no_reads _ _) (by decide) no_pairs (by decide) (HT.out.below B2.out)
    rw [show (⟨#[78, 97, 84, 79]⟩ : ByteArray).size = 4 from rfl, ex3] at this; exact this)
  clear b2 B1 C2
  go_wp2_with (fail)
  refine C3.out.mono ?_
  rintro e w3 ⟨rfl, b3⟩
  have B3 := Lib.hid (B2.out.trans (b3.mono B2.out.size))
  have C4 : Hid (Calls Tryd.prog 16 #[.slice none 0 0, .string ⟨#[110, 97, 116, 111]⟩] w3 fun e w' => e = .returned (.string ⟨#[78, 97, 116, 111]⟩) ∧ Below w3.heap.size w3 w') := Lib.hid (by
    have := title_calls [] ⟨#[110, 97, 116, 111]⟩ none 0 w3 (no_reads _ _) (by decide) no_pairs (by decide) (HT.out.below B3.out)
    rw [ex4] at this; exact this)
  clear b3 B2 C3
  go_wp2_with (fail)
  refine C4.out.mono ?_
  rintro e w4 ⟨rfl, b4⟩
  have B4 := Lib.hid (B3.out.trans (b4.mono B3.out.size))
  clear b4 B3 C4
  go_wp2_with (fail)
  go_ret
  exact ⟨rfl, B4.out⟩
end Go.Proofs.YtmpckoincdkeeaaDoor

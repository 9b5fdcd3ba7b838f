/- SegNumbers. -/
import Derived.Test.YtcljiahpgbedhaaDoorSegE
import Derived.Test.YtcljiahpgbedhaaDoorText
namespace Go.Proofs.YtcljiahpgbedhaaDoor
open Go.RowKit Go.Deep Go.Own
set_option linter.unusedVariables false
set_option maxRecDepth 100000 in
set_option maxHeartbeats 4000000 in
theorem segNumbers_walk (A : Option Addr) (cap : Nat) (l : List Int) (w : World) (hA : Reads w A l) (hl : l.length ≤ 9223372036854775807) (hT : Tabs w) :
    Calls Tryd.prog 7 #[.slice A l.length cap] w fun e w' => e = .returned (.bool true) ∧ Below w.heap.size w w' := by
  have CX := Lib.hid (text_calls A cap l w hA hl)
  have HT := Lib.hid hT
  clear hA hT
  go_enter Tryd.func7, Tryd.ntmps7
  go_wp2_with (fail)
  refine CX.out.mono ?_
  rintro e w1 ⟨⟨s, rfl, hz⟩, b1⟩
  have HZ := Lib.hid (show s.size ≤ 1099511627776 by omega)
  have B1 := Lib.hid b1
  have CT := Lib.hid (table_calls w1)
  clear b1 CX hz
  go_wp2_with (fail)
  refine CT.out.mono ?_
  rintro e w2 ⟨⟨A2, rfl, r2⟩, b2⟩
  have B2 := Lib.hid (B1.out.trans (b2.mono B1.out.size))
  have CA := Lib.hid (all_calls tableL s A2 5 w2 (HT.out.below B2.out) r2 (by decide) (by decide) HZ.out)
  clear r2 b2 CT B1
  go_wp2_with (fail)
  refine CA.out.mono ?_
  rintro e w3 ⟨⟨A3, c3, rfl, r3⟩, b3⟩
  have B3 := Lib.hid (B2.out.trans (b3.mono B2.out.size))
  have R3 := Lib.hid r3
  have CT := Lib.hid (table_calls w3)
  clear r3 b3 CA B2
  go_wp2_with (fail)
  refine CT.out.mono ?_
  rintro e w4 ⟨⟨A4, rfl, r4⟩, b4⟩
  have B4 := Lib.hid (B3.out.trans (b4.mono B3.out.size))
  have R4 := Lib.hid (R3.out.below b4)
  have CR := Lib.hid (rall3_calls tableL s A4 5 w4 r4 (by decide) HZ.out)
  clear r4 b4 CT B3 R3
  go_wp2_with (fail)
  refine CR.out.mono ?_
  rintro e w5 ⟨⟨A5, c5, rfl, r5⟩, b5⟩
  have B5 := Lib.hid (B4.out.trans (b5.mono B4.out.size))
  have htl := toksOf_len tableL s
  have CS := Lib.hid (tsame_calls (toksOf tableL s) A3 A5 c3 c5 w5 (R4.out.below b5) r5 (by have := HZ.out; omega))
  clear r5 b5 CR B4 R4 htl
  go_wp2_with (fail)
  refine CS.out.mono ?_
  rintro e w6 ⟨rfl, k, rfl⟩
  have B6 := Lib.hid (B5.out.trans ((below_drewN w5 k).mono B5.out.size))
  have CW := Lib.hid (sawake_calls (w5.drewN k) (HT.out.below B6.out))
  clear CS B5
  go_wp2_with (fail)
  refine CW.out.mono ?_
  rintro e w7 ⟨rfl, b7⟩
  have B7 := Lib.hid (B6.out.trans (b7.mono B6.out.size))
  clear b7 B6 CW
  go_wp2_with (fail)
  go_ret
  exact ⟨rfl, B7.out⟩
end Go.Proofs.YtcljiahpgbedhaaDoor

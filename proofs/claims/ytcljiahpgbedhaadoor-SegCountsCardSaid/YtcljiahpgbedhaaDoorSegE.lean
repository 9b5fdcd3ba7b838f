/- Seg: Count; the example; SegAll. -/
import Derived.Test.YtcljiahpgbedhaaDoorSegD
import Derived.Test.YtcljiahpgbedhaaDoorRSeg
import Derived.Test.YtcljiahpgbedhaaDoorOpenR
namespace Go.Proofs.YtcljiahpgbedhaaDoor
open Go.RowKit Go.Deep Go.Own
set_option linter.unusedVariables false
theorem toksOf_len (rs : List Rng) (s : ByteArray) : (toksOf rs s).length ≤ s.size := by
  have h1 := toks_len (kindsL rs s) (false, [])
  have h2 : (kindsL rs s).length = (units s).length := kindsFrom_len rs (units s) 0
  have h3 : (units s).length ≤ s.size := unitsFrom_len s s.size 0
  unfold toksOf toksSt
  simp only [List.length_nil, Nat.zero_add] at h1
  omega
deriving instance DecidableEq for Tok
theorem toks_awake : toksOf tableL ⟨#[105, 116, 39, 115, 32, 53]⟩ = [⟨0, 4, true⟩, ⟨5, 6, false⟩] := by decide +kernel
/-- All, as what follows reads it -/
theorem all_calls (rs : List Rng) (s : ByteArray) (A : Option Addr) (cp : Nat) (w : World) (hT : Tabs w) (hA : ReadsR w A rs) (hl : rs.length ≤ 9223372036854775807) (hcp : rs.length ≤ cp) (hs : s.size ≤ 1099511627776) :
    Calls Tryd.prog 26 #[.slice A rs.length cp, .string s] w fun e w' => (∃ A' c', e = .returned (.slice A' (toksOf rs s).length c') ∧ ReadsT w' A' (toksOf rs s)) ∧ Below w.heap.size w w' := by
  refine (seg_calls rs s A cp w hT hA hl hcp hs).mono ?_
  rintro e w' ⟨v, rfl, hR, hb⟩
  obtain ⟨A', c', rfl⟩ := own_is hR
  exact ⟨⟨A', c', rfl, hR.reads.2⟩, hb⟩
theorem rall3_calls (rs : List Rng) (s : ByteArray) (A : Option Addr) (cp : Nat) (w : World) (hA : ReadsR w A rs) (hl : rs.length ≤ 9223372036854775807) (hs : s.size ≤ 1099511627776) :
    Calls Tryd.prog 28 #[.slice A rs.length cp, .string s] w fun e w' => (∃ A' c', e = .returned (.slice A' (toksOf rs s).length c') ∧ ReadsT w' A' (toksOf rs s)) ∧ Below w.heap.size w w' := by
  refine (rseg_calls rs s A cp w hA hl hs).mono ?_
  rintro e w' ⟨v, rfl, hR, hb⟩
  obtain ⟨A', c', rfl⟩ := own_is hR
  exact ⟨⟨A', c', rfl, hR.reads.2⟩, hb⟩
set_option maxRecDepth 100000 in
set_option maxHeartbeats 4000000 in
theorem count_calls (rs : List Rng) (s : ByteArray) (A : Option Addr) (cp : Nat) (w : World) (hT : Tabs w) (hA : ReadsR w A rs) (hl : rs.length ≤ 9223372036854775807) (hcp : rs.length ≤ cp) (hs : s.size ≤ 1099511627776) :
    Calls Tryd.prog 31 #[.slice A rs.length cp, .string s] w fun e w' => e = .returned (.int .i64 ((toksOf rs s).length : Nat)) ∧ Below w.heap.size w w' := by
  have CA := Lib.hid (all_calls rs s A cp w hT hA hl hcp hs)
  clear hT hA
  go_enter Tryd.func31, Tryd.ntmps31
  go_wp2_with (fail)
  refine CA.out.mono ?_
  rintro e w1 ⟨⟨A', c', rfl, _⟩, b1⟩
  go_wp2_with (fail)
  go_ret
  exact ⟨rfl, b1⟩
set_option maxRecDepth 100000 in
set_option maxHeartbeats 4000000 in
theorem sawake_calls (w : World) (hT : Tabs w) :
    Calls Tryd.prog 29 #[] w fun e w' => e = .returned (.bool true) ∧ Below w.heap.size w w' := by
  have CT := Lib.hid (table_calls w)
  have HT := Lib.hid hT
  clear hT
  go_enter Tryd.func29, Tryd.ntmps29
  go_wp2_with (fail)
  refine CT.out.mono ?_
  rintro e w1 ⟨⟨A, rfl, r1⟩, b1⟩
  have CA := Lib.hid (all_calls tableL ⟨#[105, 116, 39, 115, 32, 53]⟩ A 5 w1 (HT.out.below b1) r1 (by decide) (by decide) (by decide))
  have B1 := Lib.hid b1
  clear r1 b1 CT
  go_wp2_with (fail)
  refine CA.out.mono ?_
  rw [toks_awake]
  rintro e w2 ⟨⟨A', c', rfl, r2⟩, b2⟩
  obtain ⟨q, rfl, hq, d0, d1, d2⟩ := r2.at (i := 0) rfl
  obtain ⟨q', hqq, _, e0, e1, e2⟩ := r2.at (i := 1) rfl
  obtain rfl : q = q' := by simpa using hqq
  have HB := Lib.hid (B1.out.trans (b2.mono B1.out.size))
  clear r2 b2 CA B1 hqq hq
  simp only [Nat.zero_mul, Nat.zero_add, Nat.one_mul] at d0 d1 d2 e0 e1 e2
  go_wp2_with (fail)
  go_ret
  exact ⟨rfl, HB.out⟩
set_option maxRecDepth 100000 in
set_option maxHeartbeats 4000000 in
theorem segAll_walk (rs : List Rng) (A : Option Addr) (cp : Nat) (s : ByteArray) (w : World) (hA : ReadsR w A rs) (hl : rs.length ≤ 9223372036854775807) (hcp : rs.length ≤ cp) (hs : s.size ≤ 140737488351232) (hT : Tabs w) :
    Calls Tryd.prog 10 #[.slice A rs.length cp, .string s] w fun e w' => e = .returned (.bool true) ∧ Below w.heap.size w w' := by
  by_cases h1 : 120 < rs.length ∨ 2000 < s.size
  · have CA := Lib.hid (sawake_calls w hT)
    clear hT hA
    by_cases h2 : 120 < rs.length
    · have g1 : decide (120 < rs.length) = true := by simpa using h2
      go_enter Tryd.func10, Tryd.ntmps10
      go_wp2_with (fail)
      refine CA.out.mono ?_
      rintro e w1 ⟨rfl, b1⟩
      go_wp2_with (fail)
      go_ret
      exact ⟨rfl, b1⟩
    · have g1 : decide (120 < rs.length) = false := by simpa using h2
      have g2 : decide (2000 < s.size) = true := by simp; omega
      go_enter Tryd.func10, Tryd.ntmps10
      go_wp2_with (fail)
      refine CA.out.mono ?_
      rintro e w1 ⟨rfl, b1⟩
      go_wp2_with (fail)
      go_ret
      exact ⟨rfl, b1⟩
  · have g1 : decide (120 < rs.length) = false := by simp; omega
    have g2 : decide (2000 < s.size) = false := by simp; omega
    have hs2 : s.size ≤ 1099511627776 := by omega
    have htl := toksOf_len rs s
    have C1 := Lib.hid (all_calls rs s A cp w hT hA hl hcp hs2)
    have HT := Lib.hid hT
    have HA := Lib.hid hA
    have HS := Lib.hid hs2
    have HTL := Lib.hid htl
    clear hT hA htl
    go_enter Tryd.func10, Tryd.ntmps10
    go_wp2_with (fail)
    refine C1.out.mono ?_
    rintro e w1 ⟨⟨A1, c1, rfl, r1⟩, b1⟩
    have C2 := Lib.hid (rall3_calls rs s A cp w1 (HA.out.below b1) hl HS.out)
    have R1 := Lib.hid r1
    have B1 := Lib.hid b1
    clear r1 b1 C1
    go_wp2_with (fail)
    refine C2.out.mono ?_
    rintro e w2 ⟨⟨A2, c2, rfl, r2⟩, b2⟩
    have C3 := Lib.hid (tsame_calls (toksOf rs s) A1 A2 c1 c2 w2 (R1.out.below b2) r2 (by have := HTL.out; omega))
    have B2 := Lib.hid (B1.out.trans (b2.mono B1.out.size))
    clear r2 b2 C2 B1 R1
    go_wp2_with (fail)
    refine C3.out.mono ?_
    rintro e w3 ⟨rfl, k, rfl⟩
    have B3 := Lib.hid ((B2.out.trans ((below_drewN w2 k).mono B2.out.size)))
    have C4 := Lib.hid (count_calls rs s A cp (w2.drewN k) (HT.out.below B3.out) (HA.out.below B3.out) hl hcp HS.out)
    clear C3 B2
    go_wp2_with (fail)
    refine C4.out.mono ?_
    rintro e w4 ⟨rfl, b4⟩
    have B4 := Lib.hid (B3.out.trans (b4.mono B3.out.size))
    have C5 := Lib.hid (sawake_calls w4 (HT.out.below B4.out))
    clear b4 B3 C4
    go_wp2_with (fail)
    refine C5.out.mono ?_
    rintro e w5 ⟨rfl, b5⟩
    have B5 := Lib.hid (B4.out.trans (b5.mono B4.out.size))
    clear b5 B4 C5
    go_wp2_with (fail)
    go_ret
    exact ⟨rfl, B5.out⟩
end Go.Proofs.YtcljiahpgbedhaaDoor

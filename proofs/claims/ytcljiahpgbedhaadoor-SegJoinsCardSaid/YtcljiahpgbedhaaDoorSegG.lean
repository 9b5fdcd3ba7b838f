/- SegJoins. -/
import Derived.Test.YtcljiahpgbedhaaDoorSegE
import Derived.Test.YtcljiahpgbedhaaDoorPlace
namespace Go.Proofs.YtcljiahpgbedhaaDoor
open Go.RowKit Go.Deep Go.Own
set_option linter.unusedVariables false
def jS (k a b : Nat) (d : Bool) : ByteArray :=
  (⟨#[39, 39, 39, 39]⟩ : ByteArray).extract 0 a ++ ⟨#[97, 98]⟩ ++ (⟨#[39, 39, 39, 39]⟩ : ByteArray).extract 0 k ++ (if d then ⟨#[99, 52]⟩ else ⟨#[99, 100]⟩) ++ (⟨#[39, 39, 39, 39]⟩ : ByteArray).extract 0 b
theorem jslice (a : Nat) (h : a ≤ 4) (w : World) : (Instr.slice 9 (.string ⟨#[39, 39, 39, 39]⟩) none (some (.int .i64 (a : Nat))) none).run Tryd.prog w = .ok (.string ((⟨#[39, 39, 39, 39]⟩ : ByteArray).extract 0 a)) w := by
  rw [run_slice_string_h (t := 9) (s := ⟨#[39, 39, 39, 39]⟩) (ht := Tryd.underlying9) (kh := .i64) (h := (a : Int))]
  · rfl
  · omega
  · show (a : Int) ≤ 4; omega
def jT (k a : Nat) (d : Bool) : List Tok := if 1 < k then [⟨a, a + 2, true⟩, ⟨a + 2 + k, a + 4 + k, !d⟩] else [⟨a, a + 4 + k, !d⟩]
set_option maxRecDepth 100000 in
theorem toks_joins : ∀ k, k < 4 → ∀ a, a < 3 → ∀ b, b < 3 → ∀ d : Bool, toksOf tableL (jS k a b d) = jT k a d := by decide +kernel
set_option maxRecDepth 100000 in
set_option maxHeartbeats 4000000 in
theorem segJoins_walk (n left right : Int) (d : Bool) (w : World) (hn : (Lit.int .i64 n).wf = true) (hl : (Lit.int .i64 left).wf = true) (hr : (Lit.int .i64 right).wf = true) (hT : Tabs w) :
    Calls Tryd.prog 11 #[.int .i64 n, .int .i64 left, .int .i64 right, .bool d] w fun e w' => e = .returned (.bool true) ∧ Below w.heap.size w w' := by
  obtain ⟨k, hk, ek, CK⟩ := place_nat n 4 (by omega) (by omega)
  obtain ⟨a, ha, ea, CA⟩ := place_nat left 3 (by omega) (by omega)
  obtain ⟨b, hb, eb, CB⟩ := place_nat right 3 (by omega) (by omega)
  have htk := toks_joins k hk a ha b hb d
  have HT := Lib.hid hT
  have HTK := Lib.hid htk
  have CK := Lib.hid CK
  have CA := Lib.hid CA
  have CB := Lib.hid CB
  clear hT htk ek ea eb
  go_enter Tryd.func11, Tryd.ntmps11
  go_wp2_with (fail)
  refine (CK.out w).mono ?_
  rintro e w1 ⟨rfl, rfl⟩
  go_wp2_with (fail)
  refine (CA.out w).mono ?_
  rintro e w1 ⟨rfl, rfl⟩
  go_wp2_with (fail)
  refine (CB.out w).mono ?_
  rintro e w1 ⟨rfl, rfl⟩
  have f1 : ∀ w : World, (Instr.slice 9 (.string ⟨#[39, 39, 39, 39]⟩) none (some (.int .i64 (a : Nat))) none).run Tryd.prog w = .ok (.string ((⟨#[39, 39, 39, 39]⟩ : ByteArray).extract 0 a)) w := fun w => jslice a (by omega) w
  have f2 : ∀ w : World, (Instr.slice 9 (.string ⟨#[39, 39, 39, 39]⟩) none (some (.int .i64 (k : Nat))) none).run Tryd.prog w = .ok (.string ((⟨#[39, 39, 39, 39]⟩ : ByteArray).extract 0 k)) w := fun w => jslice k (by omega) w
  have f3 : ∀ w : World, (Instr.slice 9 (.string ⟨#[39, 39, 39, 39]⟩) none (some (.int .i64 (b : Nat))) none).run Tryd.prog w = .ok (.string ((⟨#[39, 39, 39, 39]⟩ : ByteArray).extract 0 b)) w := fun w => jslice b (by omega) w
  cases d with
  | false =>
    go_wp2_with (fail)
    refine Own.region_all (fun w' => ∃ n, w' = World.drewN w n) (by kernel_rfl) (by kernel_rfl) ⟨_, rfl⟩ ?_
    repeat (go_big_quiet_step (fail))
    refine wpQuiet_nil ?_
    rintro _ ⟨nq, rfl⟩
    obtain ⟨S, hS⟩ : ∃ S, S = jS k a b false := ⟨_, rfl⟩
    have hSz : S.size ≤ 14 := by rw [hS]; simp only [jS, ByteArray.size_append, ByteArray.size_extract]; show min a 4 - 0 + 2 + (min k 4 - 0) + 2 + (min b 4 - 0) ≤ 14; omega
    have hTK : toksOf tableL S = jT k a false := by rw [hS]; exact HTK.out
    simp only [jS, if_true, if_false, Bool.false_eq_true] at hS
    rw [← hS]
    have B1 := Lib.hid (below_drewN w nq)
    have HZ := Lib.hid hSz
    have HK := Lib.hid hTK
    have CT := Lib.hid (table_calls (w.drewN nq))
    clear hS hSz hTK HTK f1 f2 f3
    go_wp2_with (fail)
    refine CT.out.mono ?_
    rintro e w1 ⟨⟨A, rfl, r1⟩, b1⟩
    have B2 := Lib.hid (B1.out.trans (b1.mono B1.out.size))
    have CA := Lib.hid (all_calls tableL S A 5 w1 (HT.out.below B2.out) r1 (by decide) (by decide) (by have := HZ.out; omega))
    rw [HK.out] at CA
    clear r1 b1 CT B1
    go_wp2_with (fail)
    refine CA.out.mono ?_
    rintro e w2 ⟨⟨A', c', rfl, r2⟩, b2⟩
    have B3 := Lib.hid (B2.out.trans (b2.mono B2.out.size))
    clear b2 CA B2
    by_cases h1 : 1 < k
    · have g1 : decide (1 < k) = true := by simpa using h1
      have g2 : decide ((1 : Int) < k) = true := by simp; omega
      unfold jT at r2 ⊢
      rw [if_pos h1] at r2 ⊢
      obtain ⟨q, rfl, hq, d0, d1, d2⟩ := r2.at (i := 0) rfl
      obtain ⟨q', hqq, _, e0, e1, e2⟩ := r2.at (i := 1) rfl
      obtain rfl : q = q' := by simpa using hqq
      simp only [Nat.zero_mul, Nat.zero_add, Nat.one_mul] at d0 d1 d2 e0 e1 e2
      push_cast at d0 d1 e0 e1
      have CW := Lib.hid (sawake_calls w2 (HT.out.below B3.out))
      clear r2 hqq hq
      go_wp2_with (fail)
      refine CW.out.mono ?_
      rintro e w3 ⟨rfl, b3⟩
      go_wp2_with (fail)
      go_ret
      exact ⟨rfl, B3.out.trans (b3.mono B3.out.size)⟩
    · have g1 : decide (1 < k) = false := by simpa using h1
      have g2 : decide ((1 : Int) < k) = false := by simp; omega
      unfold jT at r2 ⊢
      rw [if_neg h1] at r2 ⊢
      obtain ⟨q, rfl, hq, d0, d1, d2⟩ := r2.at (i := 0) rfl
      simp only [Nat.zero_mul, Nat.zero_add, Nat.one_mul] at d0 d1 d2
      push_cast at d0 d1
      have CT := Lib.hid (table_calls w2)
      clear r2 hq
      go_wp2_with (fail)
      refine CT.out.mono ?_
      rintro e w3 ⟨⟨A3, rfl, r3⟩, b3⟩
      have B4 := Lib.hid (B3.out.trans (b3.mono B3.out.size))
      have CC := Lib.hid (count_calls tableL S A3 5 w3 (HT.out.below B4.out) r3 (by decide) (by decide) (by have := HZ.out; omega))
      rw [HK.out] at CC
      unfold jT at CC
      rw [if_neg h1] at CC
      clear r3 b3 B3 CT
      go_wp2_with (fail)
      refine CC.out.mono ?_
      rintro e w4 ⟨rfl, b4⟩
      have B5 := Lib.hid (B4.out.trans (b4.mono B4.out.size))
      have CW := Lib.hid (sawake_calls w4 (HT.out.below B5.out))
      clear b4 B4 CC
      go_wp2_with (fail)
      refine CW.out.mono ?_
      rintro e w5 ⟨rfl, b5⟩
      go_wp2_with (fail)
      go_ret
      exact ⟨rfl, B5.out.trans (b5.mono B5.out.size)⟩
  | true =>
    go_wp2_with (fail)
    refine Own.region_all (fun w' => ∃ n, w' = World.drewN w n) (by kernel_rfl) (by kernel_rfl) ⟨_, rfl⟩ ?_
    repeat (go_big_quiet_step (fail))
    refine wpQuiet_nil ?_
    rintro _ ⟨nq, rfl⟩
    obtain ⟨S, hS⟩ : ∃ S, S = jS k a b true := ⟨_, rfl⟩
    have hSz : S.size ≤ 14 := by rw [hS]; simp only [jS, ByteArray.size_append, ByteArray.size_extract]; show min a 4 - 0 + 2 + (min k 4 - 0) + 2 + (min b 4 - 0) ≤ 14; omega
    have hTK : toksOf tableL S = jT k a true := by rw [hS]; exact HTK.out
    simp only [jS, if_true, if_false, Bool.false_eq_true] at hS
    rw [← hS]
    have B1 := Lib.hid (below_drewN w nq)
    have HZ := Lib.hid hSz
    have HK := Lib.hid hTK
    have CT := Lib.hid (table_calls (w.drewN nq))
    clear hS hSz hTK HTK f1 f2 f3
    go_wp2_with (fail)
    refine CT.out.mono ?_
    rintro e w1 ⟨⟨A, rfl, r1⟩, b1⟩
    have B2 := Lib.hid (B1.out.trans (b1.mono B1.out.size))
    have CA := Lib.hid (all_calls tableL S A 5 w1 (HT.out.below B2.out) r1 (by decide) (by decide) (by have := HZ.out; omega))
    rw [HK.out] at CA
    clear r1 b1 CT B1
    go_wp2_with (fail)
    refine CA.out.mono ?_
    rintro e w2 ⟨⟨A', c', rfl, r2⟩, b2⟩
    have B3 := Lib.hid (B2.out.trans (b2.mono B2.out.size))
    clear b2 CA B2
    by_cases h1 : 1 < k
    · have g1 : decide (1 < k) = true := by simpa using h1
      have g2 : decide ((1 : Int) < k) = true := by simp; omega
      unfold jT at r2 ⊢
      rw [if_pos h1] at r2 ⊢
      obtain ⟨q, rfl, hq, d0, d1, d2⟩ := r2.at (i := 0) rfl
      obtain ⟨q', hqq, _, e0, e1, e2⟩ := r2.at (i := 1) rfl
      obtain rfl : q = q' := by simpa using hqq
      simp only [Nat.zero_mul, Nat.zero_add, Nat.one_mul] at d0 d1 d2 e0 e1 e2
      push_cast at d0 d1 e0 e1
      have CW := Lib.hid (sawake_calls w2 (HT.out.below B3.out))
      clear r2 hqq hq
      go_wp2_with (fail)
      refine CW.out.mono ?_
      rintro e w3 ⟨rfl, b3⟩
      go_wp2_with (fail)
      go_ret
      exact ⟨rfl, B3.out.trans (b3.mono B3.out.size)⟩
    · have g1 : decide (1 < k) = false := by simpa using h1
      have g2 : decide ((1 : Int) < k) = false := by simp; omega
      unfold jT at r2 ⊢
      rw [if_neg h1] at r2 ⊢
      obtain ⟨q, rfl, hq, d0, d1, d2⟩ := r2.at (i := 0) rfl
      simp only [Nat.zero_mul, Nat.zero_add, Nat.one_mul] at d0 d1 d2
      push_cast at d0 d1
      have CT := Lib.hid (table_calls w2)
      clear r2 hq
      go_wp2_with (fail)
      refine CT.out.mono ?_
      rintro e w3 ⟨⟨A3, rfl, r3⟩, b3⟩
      have B4 := Lib.hid (B3.out.trans (b3.mono B3.out.size))
      have CC := Lib.hid (count_calls tableL S A3 5 w3 (HT.out.below B4.out) r3 (by decide) (by decide) (by have := HZ.out; omega))
      rw [HK.out] at CC
      unfold jT at CC
      rw [if_neg h1] at CC
      clear r3 b3 B3 CT
      go_wp2_with (fail)
      refine CC.out.mono ?_
      rintro e w4 ⟨rfl, b4⟩
      have B5 := Lib.hid (B4.out.trans (b4.mono B4.out.size))
      have CW := Lib.hid (sawake_calls w4 (HT.out.below B5.out))
      clear b4 B4 CC
      go_wp2_with (fail)
      refine CW.out.mono ?_
      rintro e w5 ⟨rfl, b5⟩
      go_wp2_with (fail)
      go_ret
      exact ⟨rfl, B5.out.trans (b5.mono B5.out.size)⟩
end Go.Proofs.YtcljiahpgbedhaaDoor

/- Piece, Digits, Text: only the size of what comes. -/
import Derived.Test.YtemcffihfeaniaaWord
import Derived.Test.YtemcffihfeaniaaAvPl
namespace Go.Proofs.Ytemcffihfeaniaa
open Go.RowKit Go.Deep Go.Own
set_option linter.unusedVariables false
def sepA : Array Value := #[.string ⟨#[32]⟩, .string ⟨#[32]⟩, .string ⟨#[44, 32]⟩, .string ⟨#[10]⟩, .string ⟨#[45]⟩, .string ⟨#[32, 52, 50, 32]⟩, .string ⟨#[39]⟩, .string ⟨#[32, 255]⟩, .string ⟨#[49, 32]⟩]
set_option maxRecDepth 100000 in
theorem sep_index (i : Int) (h0 : 0 ≤ i) (h1 : i < 9) : ∃ s : ByteArray, s.size ≤ 4 ∧ ∀ w : World, (Instr.index 110 (.agg sepA) (.int .i64 i)).run Try.prog w = .ok (.string s) w := by
  have h : i = 0 ∨ i = 1 ∨ i = 2 ∨ i = 3 ∨ i = 4 ∨ i = 5 ∨ i = 6 ∨ i = 7 ∨ i = 8 := by omega
  rcases h with rfl | rfl | rfl | rfl | rfl | rfl | rfl | rfl | rfl
  · exact ⟨⟨#[32]⟩, by decide, fun w => by kernel_rfl⟩
  · exact ⟨⟨#[32]⟩, by decide, fun w => by kernel_rfl⟩
  · exact ⟨⟨#[44, 32]⟩, by decide, fun w => by kernel_rfl⟩
  · exact ⟨⟨#[10]⟩, by decide, fun w => by kernel_rfl⟩
  · exact ⟨⟨#[45]⟩, by decide, fun w => by kernel_rfl⟩
  · exact ⟨⟨#[32, 52, 50, 32]⟩, by decide, fun w => by kernel_rfl⟩
  · exact ⟨⟨#[39]⟩, by decide, fun w => by kernel_rfl⟩
  · exact ⟨⟨#[32, 255]⟩, by decide, fun w => by kernel_rfl⟩
  · exact ⟨⟨#[49, 32]⟩, by decide, fun w => by kernel_rfl⟩
set_option maxRecDepth 100000 in
theorem piece_index (s1 s2 s3 : ByteArray) (i : Int) (h0 : 0 ≤ i) (h1 : i < 12) (z1 : s1.size ≤ 10) (z2 : s2.size ≤ 10) (z3 : s3.size ≤ 10) : ∃ s : ByteArray, s.size ≤ 11 ∧ ∀ w : World, (Instr.index 111 (.agg #[.string ⟨#[32]⟩, .string ⟨#[120]⟩, .string ⟨#[39]⟩, .string ⟨#[115]⟩, .string ⟨#[117, 110]⟩, .string s1, .string (s2 ++ ⟨#[32]⟩), .string (⟨#[32]⟩ ++ s3), .string ⟨#[195]⟩, .string ⟨#[195, 169]⟩, .string ⟨#[49]⟩, .string ⟨#[182]⟩]) (.int .i64 i)).run Try.prog w = .ok (.string s) w := by
  have h : i = 0 ∨ i = 1 ∨ i = 2 ∨ i = 3 ∨ i = 4 ∨ i = 5 ∨ i = 6 ∨ i = 7 ∨ i = 8 ∨ i = 9 ∨ i = 10 ∨ i = 11 := by omega
  rcases h with rfl | rfl | rfl | rfl | rfl | rfl | rfl | rfl | rfl | rfl | rfl | rfl
  · exact ⟨⟨#[32]⟩, by decide, fun w => by kernel_rfl⟩
  · exact ⟨⟨#[120]⟩, by decide, fun w => by kernel_rfl⟩
  · exact ⟨⟨#[39]⟩, by decide, fun w => by kernel_rfl⟩
  · exact ⟨⟨#[115]⟩, by decide, fun w => by kernel_rfl⟩
  · exact ⟨⟨#[117, 110]⟩, by decide, fun w => by kernel_rfl⟩
  · exact ⟨s1, by omega, fun w => by kernel_rfl⟩
  · exact ⟨(s2 ++ ⟨#[32]⟩), by rw [ByteArray.size_append]; show s2.size + 1 ≤ 11; omega, fun w => by kernel_rfl⟩
  · exact ⟨(⟨#[32]⟩ ++ s3), by rw [ByteArray.size_append]; show 1 + s3.size ≤ 11; omega, fun w => by kernel_rfl⟩
  · exact ⟨⟨#[195]⟩, by decide, fun w => by kernel_rfl⟩
  · exact ⟨⟨#[195, 169]⟩, by decide, fun w => by kernel_rfl⟩
  · exact ⟨⟨#[49]⟩, by decide, fun w => by kernel_rfl⟩
  · exact ⟨⟨#[182]⟩, by decide, fun w => by kernel_rfl⟩
set_option maxRecDepth 100000 in
set_option maxHeartbeats 4000000 in
theorem piece_calls (v : Int) (w : World) : Calls Try.prog 41 #[.int .i64 v] w (WdPost w 11) := by
  have C1 := Lib.hid (fun w : World => place_calls v 16777216 w (by decide) (by decide))
  obtain ⟨k, hk⟩ : ∃ k, k = v % 16777216 := ⟨_, rfl⟩
  rw [← hk] at C1
  have k0 : 0 ≤ k := by omega
  have k1 : k < 16777216 := by omega
  clear hk
  go_enter Try.func41, Try.ntmps41
  go_wp2_with (fail)
  refine (C1.out _).mono ?_
  rintro e wa ⟨rfl, rfl⟩
  go_wp2_with (fail)
  refine (word_calls _ _).mono ?_
  rintro e w1 ⟨⟨s1, rfl, z1⟩, b1⟩
  go_wp2_with (fail)
  refine (word_calls _ _).mono ?_
  rintro e w2 ⟨⟨s2, rfl, z2⟩, b2⟩
  go_wp2_with (fail)
  refine (word_calls _ _).mono ?_
  rintro e w3 ⟨⟨s3, rfl, z3⟩, b3⟩
  go_wp2_with (fail)
  obtain ⟨s, hs, HI⟩ := piece_index s1 s2 s3 (k % 12) (by omega) (by omega) z1 z2 z3
  go_wp2_with (fail)
  rw [HI]
  go_wp2_with (fail)
  go_wp2_with (fail)
  go_ret
  exact ⟨⟨_, rfl, hs⟩, b1.trans ((b2.mono b1.size).trans (b3.mono (Nat.le_trans b1.size b2.size)))⟩
set_option maxRecDepth 100000 in
set_option maxHeartbeats 4000000 in
theorem text_calls (A : Option Addr) (cap : Nat) (l : List Int) (W : World) (hA : Reads W A l) (hl : l.length ≤ 9223372036854775807) : Calls Try.prog 40 #[.slice A l.length cap] W (WdPost W 840) := by
  have HA := Lib.hid hA
  clear hA
  go_enter Try.func40, Try.ntmps40
  go_wp2_with (fail)
  go_loopw [3, 4] (fun t i wr => ∃ (j : Nat) (s : ByteArray), j ≤ 60 ∧ i = .int .i64 (j : Nat) ∧ t = .string s ∧ s.size ≤ 14 * j ∧ Below W.heap.size W wr) (fun _ i _ => 60 - (intOf i).toNat)
  case atStart => exact ⟨0, _, by omega, rfl, rfl, by decide, Below.refl _ _⟩
  case round =>
    obtain ⟨j, s, hj, rfl, rfl, hs, hb⟩ := hrel
    have B1 := Lib.hid hb
    by_cases hlt : j < l.length ∧ j < 60
    · obtain ⟨h1, h2⟩ := hlt
      obtain ⟨b, o, rfl, hbl, hc⟩ := reads_cell HA.out hb h1
      obtain ⟨v, hv⟩ : ∃ v, v = l.getD j 0 := ⟨_, rfl⟩
      rw [← hv] at hc
      have C1 := Lib.hid (fun w : World => place_calls v 67108864 w (by decide) (by decide))
      obtain ⟨k, hk⟩ : ∃ k, k = v % 67108864 := ⟨_, rfl⟩
      rw [← hk] at C1
      have k0 : 0 ≤ k := by omega
      have k1 : k < 67108864 := by omega
      obtain ⟨sp, hsp, HI⟩ := sep_index (k % 9) (by omega) (by omega)
      generalize hag : Value.agg sepA = ag at HI
      have HAG := Lib.hid hag
      clear hag
      have g2 : decide (j < 60) = true := by simpa using h2
      clear hk hv hb hbl
      go_wp2_with (fail)
      refine (C1.out _).mono ?_
      rintro e wa ⟨rfl, rfl⟩
      go_wp2_with (fail)
      refine Own.region_mix (CR [] []) [] [0, 0, 2, 6, 15, 0, 0, 64, 224, 511, 1023] (Own.Ord.run [(0, true), (1, true), (2, true), (6, true), (7, true)] (.fork (.go 3 false (Own.Ord.run [(4, true), (5, false), (8, true), (9, true), (10, true)] .done)) (.go 5 false (Own.Ord.run [(8, true), (3, false), (4, true), (9, true), (10, true)] .done)))) (by kernel_rfl) (by kernel_rfl) (fun dst v c a w h => by cases dst <;> exact h) (fun x hx w => CR.off x hx w) ?_
      simp only [Own.Ord.run]
      repeat (refine Own.st_blind _ rfl rfl (CR.off _ (by decide) _) ?_; go_big_quiet_step (fail); refine wpQuiet_nil ?_)
      refine Own.mix_fork ?_ ?_
      · refine Own.st_do _ rfl rfl (fun K hK => ?_)
        go_simp
        refine (word_calls _ _).mono ?_
        rintro e w2 ⟨⟨s2, rfl, z2⟩, b2⟩
        have B2 := Lib.hid b2
        clear b2
        refine hK _ _ (fun q hq hd => by cases hq) ?_
        clear hK K
        repeat (refine Own.st_blind _ rfl rfl (CR.off _ (by decide) _) ?_; go_big_quiet_step (fail); refine wpQuiet_nil ?_)
        refine Own.st_do _ rfl rfl (fun K hK => ?_)
        go_simp
        rw [show (Value.agg #[.string ⟨#[32]⟩, .string ⟨#[32]⟩, .string ⟨#[44, 32]⟩, .string ⟨#[10]⟩, .string ⟨#[45]⟩, .string ⟨#[32, 52, 50, 32]⟩, .string ⟨#[39]⟩, .string ⟨#[32, 255]⟩, .string ⟨#[49, 32]⟩]) = ag from HAG.out]
        refine hK _ _ (fun q hq hd => by cases hq) ?_
        clear hK K
        repeat (refine Own.st_blind _ rfl rfl (CR.off _ (by decide) _) ?_; go_big_quiet_step (fail); refine wpQuiet_nil ?_)
        refine Own.mix_done ?_
        go_wp2_with (fail)
        go_roundw
        case rel => exact ⟨j + 1, _, by omega, by go_num, rfl, by simp only [ByteArray.size_append]; omega, B1.out.trans (Below.trans (b := World.drew wr) ⟨rfl, rfl, rfl, Nat.le_refl _, fun _ _ => rfl⟩ (B2.out.mono B1.out.size))⟩
        case measure => simp [intOf]; omega
      · refine Own.st_do _ rfl rfl (fun K hK => ?_)
        go_simp
        rw [show (Value.agg #[.string ⟨#[32]⟩, .string ⟨#[32]⟩, .string ⟨#[44, 32]⟩, .string ⟨#[10]⟩, .string ⟨#[45]⟩, .string ⟨#[32, 52, 50, 32]⟩, .string ⟨#[39]⟩, .string ⟨#[32, 255]⟩, .string ⟨#[49, 32]⟩]) = ag from HAG.out]
        refine hK _ _ (fun q hq hd => by cases hq) ?_
        clear hK K
        repeat (refine Own.st_blind _ rfl rfl (CR.off _ (by decide) _) ?_; go_big_quiet_step (fail); refine wpQuiet_nil ?_)
        refine Own.st_do _ rfl rfl (fun K hK => ?_)
        go_simp
        refine (word_calls _ _).mono ?_
        rintro e w2 ⟨⟨s2, rfl, z2⟩, b2⟩
        have B2 := Lib.hid b2
        clear b2
        refine hK _ _ (fun q hq hd => by cases hq) ?_
        clear hK K
        repeat (refine Own.st_blind _ rfl rfl (CR.off _ (by decide) _) ?_; go_big_quiet_step (fail); refine wpQuiet_nil ?_)
        refine Own.mix_done ?_
        go_wp2_with (fail)
        go_roundw
        case rel => exact ⟨j + 1, _, by omega, by go_num, rfl, by simp only [ByteArray.size_append]; omega, B1.out.trans (Below.trans (b := World.drew wr) ⟨rfl, rfl, rfl, Nat.le_refl _, fun _ _ => rfl⟩ (B2.out.mono B1.out.size))⟩
        case measure => simp [intOf]; omega
    · by_cases h1 : j < l.length
      · have g1 : decide (j < l.length) = true := by simpa using h1
        have g2 : decide (j < 60) = false := by simp; omega
        obtain ⟨b, o, rfl, hbl, hc⟩ := reads_cell HA.out hb h1
        clear hc hb
        go_wp2_with (fail)
        go_ret
        exact ⟨⟨_, rfl, by omega⟩, B1.out⟩
      · have g1 : decide (j < l.length) = false := by simpa using h1
        clear hb
        go_wp2_with (fail)
        go_ret
        exact ⟨⟨_, rfl, by omega⟩, B1.out⟩
set_option maxRecDepth 100000 in
theorem dig_slice (k : Nat) (h : k ≤ 9) : ∃ d : ByteArray, d.size = 1 ∧ ∀ w : World, (Instr.slice 9 (.string ⟨#[48, 49, 50, 51, 52, 53, 54, 55, 56, 57]⟩) (some (.int .i64 (k : Int))) (some (.int .i64 ((k : Int) + 1))) none).run Try.prog w = .ok (.string d) w := by
  refine ⟨(⟨#[48, 49, 50, 51, 52, 53, 54, 55, 56, 57]⟩ : ByteArray).extract k (k + 1), ?_, fun w => ?_⟩
  · rw [ByteArray.size_extract]; show min (k + 1) 10 - k = 1; omega
  · rw [run_slice_string (t := 9) (s := ⟨#[48, 49, 50, 51, 52, 53, 54, 55, 56, 57]⟩) (k := .i64) (k' := .i64) (i := (k : Nat)) (j := (k : Nat) + 1) (h := Try.underlying9)]
    · rfl
    · omega
    · omega
    · show (k : Int) + 1 ≤ 10; omega
set_option maxRecDepth 100000 in
set_option maxHeartbeats 4000000 in
theorem dig_slice_int (i : Int) (h0 : 0 ≤ i) (h : i ≤ 9) : ∃ d : ByteArray, d.size = 1 ∧ ∀ w : World, (Instr.slice 9 (.string ⟨#[48, 49, 50, 51, 52, 53, 54, 55, 56, 57]⟩) (some (.int .i64 i)) (some (.int .i64 (i + 1))) none).run Try.prog w = .ok (.string d) w := by
  obtain ⟨k, rfl⟩ : ∃ k : Nat, i = (k : Int) := ⟨i.toNat, by omega⟩
  exact dig_slice k (by omega)
set_option maxRecDepth 100000 in
set_option maxHeartbeats 4000000 in
theorem digits_one (v : Int) (w : World) (h1 : -10 < v) (h2 : v < 10) : Calls Try.prog 46 #[.int .i64 v] w (WdPost w 2) := by
  have g1 : decide (v ≤ -10) = false := by simp; omega
  by_cases h0 : v < 0
  · have g0 : decide (v < 0) = true := by simpa using h0
    obtain ⟨k, hk, hk9⟩ : ∃ k : Nat, -v = (k : Int) ∧ k ≤ 9 := ⟨(-v).toNat, by omega, by omega⟩
    obtain ⟨d, hd, HS⟩ := dig_slice k hk9
    go_enter Try.func46, Try.ntmps46
    go_wp2_with (fail)
    go_ret
    exact ⟨⟨_, rfl, by rw [ByteArray.size_append]; show 1 + d.size ≤ 2; omega⟩, Below.refl _ _⟩
  · have g0 : decide (v < 0) = false := by simpa using h0
    obtain ⟨k, rfl⟩ : ∃ k : Nat, v = (k : Int) := ⟨v.toNat, by omega⟩
    have g2 : decide ((k : Int) < 10) = true := by simpa using h2
    have g3 : decide (k < 10) = true := by simp; omega
    obtain ⟨d, hd, HS⟩ := dig_slice k (by omega)
    go_enter Try.func46, Try.ntmps46
    go_wp2_with (fail)
    go_ret
    exact ⟨⟨_, rfl, by omega⟩, Below.refl _ _⟩
set_option maxRecDepth 100000 in
set_option maxHeartbeats 1000000 in
theorem digits_calls (n : Nat) : n ≤ 30 → ∀ (v : Int) (w : World), (Lit.int .i64 v).wf = true → -(10 ^ n : Nat) < v → v < (10 ^ n : Nat) → Calls Try.prog 46 #[.int .i64 v] w (WdPost w (n + 2)) := by
  induction n with
  | zero => 
    intro _ v w hw h1 h2
    refine (digits_one v w (by omega) (by omega)).mono ?_
    rintro e w' ⟨⟨s, rfl, z⟩, b⟩
    exact ⟨⟨s, rfl, by omega⟩, b⟩
  | succ n ih =>
    intro hn v w hw hv1 hv2
    have ih := ih (by omega)
    have hw9 : -9223372036854775808 ≤ v ∧ v ≤ 9223372036854775807 := by simp only [Lit.wf, IntKind.min, IntKind.max, IntKind.signed, IntKind.bits, Bool.and_eq_true, decide_eq_true_eq] at hw; simpa using hw
    rw [Nat.pow_succ] at hv1 hv2
    obtain ⟨p, hp⟩ : ∃ p : Nat, p = 10 ^ n := ⟨_, rfl⟩
    rw [← hp] at hv1 hv2 ih
    by_cases h1 : v ≤ -10
    · have g1 : decide (v ≤ -10) = true := by simpa using h1
      obtain ⟨u, rfl⟩ : ∃ u : Nat, v = -(u : Int) := ⟨(-v).toNat, by omega⟩
      have e1 : (-(u : Int)).tmod 10 = -((u : Int) % 10) := by rw [Int.neg_tmod, Int.tmod_eq_emod_of_nonneg (by omega)]
      have e2 : (-(u : Int)).tdiv 10 = -((u : Int) / 10) := by rw [Int.neg_tdiv, Int.tdiv_eq_ediv_of_nonneg (by omega)]
      obtain ⟨k, hk, hk9⟩ : ∃ k : Nat, wrap64 (-(-(u : Int)).tmod 10) = (k : Int) ∧ k ≤ 9 := ⟨u % 10, by rw [e1]; unfold wrap64; omega, by omega⟩
      obtain ⟨q, hq, q1, q2⟩ : ∃ q : Int, wrap64 ((-(u : Int)).tdiv 10) = q ∧ -(p : Int) < q ∧ q < p := ⟨-((u : Int) / 10), by rw [e2]; unfold wrap64; omega, by omega, by omega⟩
      have CR1 := Lib.hid (fun w => ih q w (by rw [← hq]; exact wrap64_wf _) q1 q2)
      obtain ⟨d, hd, HS⟩ := dig_slice k hk9
      obtain ⟨v, hv⟩ : ∃ v, v = -(u : Int) := ⟨_, rfl⟩
      rw [← hv] at g1 hk hq hw ⊢
      clear hv e1 e2 ih hw9 hv1 hv2 h1 hp q1 q2 hw
      go_enter Try.func46, Try.ntmps46
      go_wp2_with (fail)
      refine Own.region_mix (CR [] []) [] [0, 1, 3, 0, 0, 16, 56, 127, 255] (Own.Ord.run [(0, true), (1, true), (3, true), (4, true), (5, true), (6, true), (2, false), (7, true), (8, true)] .done) (by kernel_rfl) (by kernel_rfl) (fun dst v c a w h => by cases dst <;> exact h) (fun x hx w => CR.off x hx w) ?_
      simp only [Own.Ord.run]
      repeat (refine Own.st_blind _ rfl rfl (CR.off _ (by decide) _) ?_; go_big_quiet_step (fail); refine wpQuiet_nil ?_)
      refine Own.st_do _ rfl rfl (fun K hK => ?_)
      go_simp
      with_reducible refine (CR1.out _).mono ?_
      rintro e w2 ⟨⟨s2, rfl, z2⟩, b2⟩
      have B2 := Lib.hid b2
      clear b2
      refine hK _ _ (fun q hq hd => by cases hq) ?_
      clear hK K
      repeat (refine Own.st_blind _ rfl rfl (CR.off _ (by decide) _) ?_; go_big_quiet_step (fail); refine wpQuiet_nil ?_)
      refine Own.mix_done ?_
      go_wp2_with (fail)
      go_ret
      exact ⟨⟨_, rfl, by rw [ByteArray.size_append]; omega⟩, Below.trans (b := World.drew w) ⟨rfl, rfl, rfl, Nat.le_refl _, fun _ _ => rfl⟩ B2.out⟩
    · by_cases h2 : v < 10
      · refine (digits_one v w (by omega) (by omega)).mono ?_
        rintro e w' ⟨⟨s, rfl, z⟩, b⟩
        exact ⟨⟨s, rfl, by omega⟩, b⟩
      · have g1 : decide (v ≤ -10) = false := by simpa using h1
        obtain ⟨v, rfl⟩ : ∃ k : Nat, v = (k : Int) := ⟨v.toNat, by omega⟩
        have g2 : decide (v < 10) = false := by simp; omega
        have CR1 := Lib.hid (fun w => ih ((v : Int) / 10) w (by simp only [Lit.wf, IntKind.min, IntKind.max, IntKind.signed, IntKind.bits, Bool.and_eq_true, decide_eq_true_eq]; simp; omega) (by omega) (by omega))
        obtain ⟨d, hd, HS⟩ := dig_slice_int ((v : Int) % 10) (by omega) (by omega)
        go_enter Try.func46, Try.ntmps46
        go_wp2_with (fail)
        refine Own.region_mix (CR [] []) [] [0, 1, 3, 0, 8, 0, 32, 96, 248, 511, 1023] (Own.Ord.run [(0, true), (1, true), (3, true), (4, true), (5, true), (6, true), (7, true), (8, true), (2, false), (9, true), (10, true)] .done) (by kernel_rfl) (by kernel_rfl) (fun dst v c a w h => by cases dst <;> exact h) (fun x hx w => CR.off x hx w) ?_
        simp only [Own.Ord.run]
        repeat (refine Own.st_blind _ rfl rfl (CR.off _ (by decide) _) ?_; go_big_quiet_step (fail); refine wpQuiet_nil ?_)
        refine Own.st_do _ rfl rfl (fun K hK => ?_)
        go_simp
        with_reducible refine (CR1.out _).mono ?_
        rintro e w2 ⟨⟨s2, rfl, z2⟩, b2⟩
        have B2 := Lib.hid b2
        clear b2
        refine hK _ _ (fun q hq hd => by cases hq) ?_
        clear hK K
        repeat (refine Own.st_blind _ rfl rfl (CR.off _ (by decide) _) ?_; go_big_quiet_step (fail); refine wpQuiet_nil ?_)
        refine Own.mix_done ?_
        go_wp2_with (fail)
        go_ret
        exact ⟨⟨_, rfl, by rw [ByteArray.size_append]; omega⟩, Below.trans (b := World.drew w) ⟨rfl, rfl, rfl, Nat.le_refl _, fun _ _ => rfl⟩ B2.out⟩
end Go.Proofs.Ytemcffihfeaniaa

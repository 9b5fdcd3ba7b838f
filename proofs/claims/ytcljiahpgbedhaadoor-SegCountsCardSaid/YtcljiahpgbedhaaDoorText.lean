/- Piece, Digits, Text: only the size of what comes. -/
import Derived.Test.YtcljiahpgbedhaaDoorWord
namespace Go.Proofs.YtcljiahpgbedhaaDoor
open Go.RowKit Go.Deep Go.Own
set_option linter.unusedVariables false
def sepA : Array Value := #[.string ⟨#[32]⟩, .string ⟨#[32]⟩, .string ⟨#[44, 32]⟩, .string ⟨#[10]⟩, .string ⟨#[45]⟩, .string ⟨#[32, 52, 50, 32]⟩, .string ⟨#[39]⟩, .string ⟨#[32, 255]⟩, .string ⟨#[49, 32]⟩]
set_option maxRecDepth 100000 in
theorem sep_index (i : Int) (h0 : 0 ≤ i) (h1 : i < 9) : ∃ s : ByteArray, s.size ≤ 4 ∧ ∀ w : World, (Instr.index 62 (.agg sepA) (.int .i64 i)).run Tryd.prog w = .ok (.string s) w := by
  have h : i = 0 ∨ i = 1 ∨ i = 2 ∨ i = 3 ∨ i = 4 ∨ i = 5 ∨ i = 6 ∨ i = 7 ∨ i = 8 := by omega
  rcases h with rfl | rfl | rfl | rfl | rfl | rfl | rfl | rfl | rfl
  · exact ⟨⟨#[32]⟩, by decide, fun w => by kernel_rfl⟩
  · exact ⟨⟨#[32]⟩, by decide, fun w => by kernel_rfl⟩
  · exact ⟨⟨#[44, 32]⟩, by decide, fun w => by kernel_rfl⟩
  · exact ⟨⟨#[10]⟩, by decide, fun w => by kernel_rfl⟩
  · exact ⟨⟨#[45]⟩, by decide, fun w => by kernel_rfl⟩
  · exact ⟨⟨#[32, 52, 50, 32]⟩, by decide, fun w => by kernel_rfl⟩
  · exact ⟨⟨#[39]⟩, by decide, fun w => by kernel_rfl⟩
  · exact ⟨⟨#[32, 255]⟩, by decide, fun w => by kernel_rfl⟩
  · exact ⟨⟨#[49, 32]⟩, by decide, fun w => by kernel_rfl⟩
theorem reads_cell {W w : World} {A : Option Addr} {l : List Int} (h : Reads W A l) (hb : Below W.heap.size W w) {i : Nat} (hi : i < l.length) : ∃ b o, A = some ⟨b, o, none⟩ ∧ b < W.heap.size ∧ w.cell? ⟨b, o + i, none⟩ = some (.int .i64 (l.getD i 0)) := by
  obtain ⟨b, o, e, hc⟩ := h (by omega)
  exact ⟨b, o, e, Reads.lt hc (by omega), hc w (since_of_below hb) i hi⟩
set_option maxRecDepth 100000 in
set_option maxHeartbeats 4000000 in
theorem text_calls (A : Option Addr) (cap : Nat) (l : List Int) (W : World) (hA : Reads W A l) (hl : l.length ≤ 9223372036854775807) : Calls Tryd.prog 24 #[.slice A l.length cap] W (WdPost W 840) := by
  have HA := Lib.hid hA
  clear hA
  go_enter Tryd.func24, Tryd.ntmps24
  go_wp2_with (fail)
  go_loopw [3, 4] (fun t i wr => ∃ (j : Nat) (s : ByteArray), j ≤ 60 ∧ i = .int .i64 (j : Nat) ∧ t = .string s ∧ s.size ≤ 14 * j ∧ Below W.heap.size W wr) (fun _ i _ => 60 - (intOf i).toNat)
  case atStart => exact ⟨0, _, by omega, rfl, rfl, by decide, Below.refl _ _⟩
  case round =>
    obtain ⟨j, s, hj, rfl, rfl, hs, hb⟩ := hrel
    have B1 := Lib.hid hb
    by_cases hlt : j < l.length ∧ j < 60
    · obtain ⟨h1, h2⟩ := hlt
      obtain ⟨b, o, rfl, hbl, hc⟩ := reads_cell HA.out hb h1
      obtain ⟨v, hv⟩ : ∃ v, v = l.getD j 0 := ⟨_, rfl⟩
      rw [← hv] at hc
      have C1 := Lib.hid (fun w : World => place_calls v 67108864 w (by decide) (by decide))
      obtain ⟨k, hk⟩ : ∃ k, k = v % 67108864 := ⟨_, rfl⟩
      rw [← hk] at C1
      have k0 : 0 ≤ k := by omega
      have k1 : k < 67108864 := by omega
      obtain ⟨sp, hsp, HI⟩ := sep_index (k % 9) (by omega) (by omega)
      generalize hag : Value.agg sepA = ag at HI
      have HAG := Lib.hid hag
      clear hag
      have g2 : decide (j < 60) = true := by simpa using h2
      clear hk hv hb hbl
      go_wp2_with (fail)
      refine (C1.out _).mono ?_
      rintro e wa ⟨rfl, rfl⟩
      go_wp2_with (fail)
      refine Own.region_mix (CR [] []) [] [0, 0, 2, 6, 15, 0, 0, 64, 224, 511, 1023] (Own.Ord.run [(0, true), (1, true), (2, true), (6, true), (7, true)] (.fork (.go 3 false (Own.Ord.run [(4, true), (5, false), (8, true), (9, true), (10, true)] .done)) (.go 5 false (Own.Ord.run [(8, true), (3, false), (4, true), (9, true), (10, true)] .done)))) (by kernel_rfl) (by kernel_rfl) (fun dst v c a w h => by cases dst <;> exact h) (fun x hx w => CR.off x hx w) ?_
      simp only [Own.Ord.run]
      repeat (refine Own.st_blind _ rfl rfl (CR.off _ (by decide) _) ?_; go_big_quiet_step (fail); refine wpQuiet_nil ?_)
      refine Own.mix_fork ?_ ?_
      · refine Own.st_do _ rfl rfl (fun K hK => ?_)
        go_simp
        refine (word_calls _ _).mono ?_
        rintro e w2 ⟨⟨s2, rfl, z2⟩, b2⟩
        have B2 := Lib.hid b2
        clear b2
        refine hK _ _ (fun q hq hd => by cases hq) ?_
        clear hK K
        repeat (refine Own.st_blind _ rfl rfl (CR.off _ (by decide) _) ?_; go_big_quiet_step (fail); refine wpQuiet_nil ?_)
        refine Own.st_do _ rfl rfl (fun K hK => ?_)
        go_simp
        rw [show (Value.agg #[.string ⟨#[32]⟩, .string ⟨#[32]⟩, .string ⟨#[44, 32]⟩, .string ⟨#[10]⟩, .string ⟨#[45]⟩, .string ⟨#[32, 52, 50, 32]⟩, .string ⟨#[39]⟩, .string ⟨#[32, 255]⟩, .string ⟨#[49, 32]⟩]) = ag from HAG.out]
        refine hK _ _ (fun q hq hd => by cases hq) ?_
        clear hK K
        repeat (refine Own.st_blind _ rfl rfl (CR.off _ (by decide) _) ?_; go_big_quiet_step (fail); refine wpQuiet_nil ?_)
        refine Own.mix_done ?_
        go_wp2_with (fail)
        go_roundw
        case rel => exact ⟨j + 1, _, by omega, by go_num, rfl, by simp only [ByteArray.size_append]; omega, B1.out.trans (Below.trans (b := World.drew wr) ⟨rfl, rfl, rfl, Nat.le_refl _, fun _ _ => rfl⟩ (B2.out.mono B1.out.size))⟩
        case measure => simp [intOf]; omega
      · refine Own.st_do _ rfl rfl (fun K hK => ?_)
        go_simp
        rw [show (Value.agg #[.string ⟨#[32]⟩, .string ⟨#[32]⟩, .string ⟨#[44, 32]⟩, .string ⟨#[10]⟩, .string ⟨#[45]⟩, .string ⟨#[32, 52, 50, 32]⟩, .string ⟨#[39]⟩, .string ⟨#[32, 255]⟩, .string ⟨#[49, 32]⟩]) = ag from HAG.out]
        refine hK _ _ (fun q hq hd => by cases hq) ?_
        clear hK K
        repeat (refine Own.st_blind _ rfl rfl (CR.off _ (by decide) _) ?_; go_big_quiet_step (fail); refine wpQuiet_nil ?_)
        refine Own.st_do _ rfl rfl (fun K hK => ?_)
        go_simp
        refine (word_calls _ _).mono ?_
        rintro e w2 ⟨⟨s2, rfl, z2⟩, b2⟩
        have B2 := Lib.hid b2
        clear b2
        refine hK _ _ (fun q hq hd => by cases hq) ?_
        clear hK K
        repeat (refine Own.st_blind _ rfl rfl (CR.off _ (by decide) _) ?_; go_big_quiet_step (fail); refine wpQuiet_nil ?_)
        refine Own.mix_done ?_
        go_wp2_with (fail)
        go_roundw
        case rel => exact ⟨j + 1, _, by omega, by go_num, rfl, by simp only [ByteArray.size_append]; omega, B1.out.trans (Below.trans (b := World.drew wr) ⟨rfl, rfl, rfl, Nat.le_refl _, fun _ _ => rfl⟩ (B2.out.mono B1.out.size))⟩
        case measure => simp [intOf]; omega
    · by_cases h1 : j < l.length
      · have g1 : decide (j < l.length) = true := by simpa using h1
        have g2 : decide (j < 60) = false := by simp; omega
        obtain ⟨b, o, rfl, hbl, hc⟩ := reads_cell HA.out hb h1
        clear hc hb
        go_wp2_with (fail)
        go_ret
        exact ⟨⟨_, rfl, by omega⟩, B1.out⟩
      · have g1 : decide (j < l.length) = false := by simpa using h1
        clear hb
        go_wp2_with (fail)
        go_ret
        exact ⟨⟨_, rfl, by omega⟩, B1.out⟩
end Go.Proofs.YtcljiahpgbedhaaDoor

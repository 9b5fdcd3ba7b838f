/- FoldShapes: the walk. -/
import Derived.Test.YtmpckoincdkeeaaDoorFoldH
import Derived.Test.YtmpckoincdkeeaaDoorOpenB
import Derived.Deep.DeepCutAuto
namespace Go.Proofs.YtmpckoincdkeeaaDoor
open Go.RowKit Go.Deep Go.Own Go.Maps
set_option linter.unusedVariables false
def alS : ByteArray := ⟨#[97, 98, 99, 100, 101, 102, 103, 104, 105, 106, 107, 108, 109, 110, 111, 112, 113, 114, 115, 116, 117, 118, 119, 120, 121, 122, 97, 98, 99, 100]⟩
def alG : ByteArray := ⟨#[65, 66, 67, 68, 69, 70, 71, 72, 73, 74, 75, 76, 77, 78, 79, 80, 81, 82, 83, 84, 85, 86, 87, 88, 89, 90, 65, 66, 67, 68]⟩
theorem al_cuts : ∀ j : Fin 30, alS.extract j.val (j.val + 1) = ⟨#[smB j.val]⟩ ∧ alG.extract j.val (j.val + 1) = ⟨#[grB j.val]⟩ := by decide +kernel
theorem al_slice (s : ByteArray) (hs : s.size = 30) (j : Nat) (hj : j < 30) (t : ByteArray) (ht : s.extract j (j + 1) = t) (w : World) : (Instr.slice 9 (.string s) (some (.int .i64 (j : Nat))) (some (.int .i64 ((j : Int) + 1))) none).run Tryd.prog w = .ok (.string t) w := by
  rw [run_slice_string (t := 9) (s := s) (k := .i64) (k' := .i64) (i := (j : Nat)) (j := (j : Int) + 1) (h := Tryd.underlying9)]
  · show Result.ok (Value.string (s.extract (j : Int).toNat ((j : Int) + 1).toNat)) w = _
    rw [show ((j : Int) + 1).toNat = j + 1 by omega, show (j : Int).toNat = j by omega, ht]
  all_goals omega
set_option maxRecDepth 100000 in
set_option maxHeartbeats 8000000 in
theorem foldShapes_walk (l : List Bool) (A : Option Addr) (cap : Nat) (w : World) (hA : ReadsB w A l) (hl : l.length ≤ 9223372036854775807) (hcp : l.length ≤ cap) (hT : Tabs2 w) :
    Calls Tryd.prog 4 #[.slice A l.length cap] w fun e w' => e = .returned (.bool true) ∧ Below w.heap.size w w' := by
  have HA := Lib.hid hA
  have HT := Lib.hid hT
  clear hA hT hcp
  go_enter Tryd.func4, Tryd.ntmps4
  go_wp2_with (fail)
  go_loopw [3, 4, 5, 6] (fun sv mv nv iv wr => ∃ j : Nat, j ≤ l.length ∧ j ≤ 30 ∧ sv = .string (shT l j) ∧ mv = .string (smT j) ∧ nv = .int .i64 (cntL l j : Nat) ∧ iv = .int .i64 (j : Nat) ∧ wr = w) (fun _ _ _ iv _ => 30 - (intOf iv).toNat)
  case atStart => exact ⟨0, Nat.zero_le _, Nat.zero_le _, rfl, rfl, rfl, rfl, rfl⟩
  case round =>
    obtain ⟨j, hj, hj3, rfl, rfl, rfl, rfl, rfl⟩ := hrel
    have hzs := shT_size l j
    have hzm := smT_size j
    have hcl := cntL_le l j
    by_cases hgo : j < l.length ∧ j < 30
    · obtain ⟨h1, h2⟩ := hgo
      have g2 : decide (j < 30) = true := by simpa using h2
      obtain ⟨b, hv⟩ : ∃ b, l[j]? = some b := ⟨_, List.getElem?_eq_getElem h1⟩
      have hgd : l.getD j false = b := by rw [List.getD_eq_getElem?_getD, hv]; rfl
      obtain ⟨q, o, rfl, hq, hc0⟩ := HA.out (by omega)
      have hc := hc0 j b hv
      clear hc0
      obtain ⟨e1, e2⟩ := al_cuts ⟨j, h2⟩
      have FS := al_slice alS rfl j h2 _ e1
      have FG := al_slice alG rfl j h2 _ e2
      unfold alS at FS
      unfold alG at FG
      simp only at FS FG
      have HS : Hid (shT l (j + 1) = shT l j ++ ⟨#[shB l j]⟩ ∧ smT (j + 1) = smT j ++ ⟨#[smB j]⟩ ∧ cntL l (j + 1) = cntL l j + (if l.getD j false = true then 1 else 0) ∧ l.getD j false = b) := Lib.hid ⟨rfl, rfl, cntL_succ l j, hgd⟩
      obtain ⟨S, hS⟩ : ∃ S, S = shT l j := ⟨_, rfl⟩
      obtain ⟨M, hM⟩ : ∃ M, M = smT j := ⟨_, rfl⟩
      obtain ⟨n, hn⟩ : ∃ n, n = cntL l j := ⟨_, rfl⟩
      rw [← hS] at hzs
      rw [← hM] at hzm
      rw [← hn] at hcl
      rw [← hS, ← hM, ← hn]
      have HH := Lib.hid (And.intro hS (And.intro hM hn))
      clear hgd hv hq e1 e2 hS hM hn
      cases b with
      | true =>
        go_wp2_with (fail)
        go_roundw
        case rel =>
          obtain ⟨a1, a2, a3, a4⟩ := HS.out
          obtain ⟨b1, b2, b3⟩ := HH.out
          rw [a4, if_pos rfl] at a3
          unfold shB at a1
          rw [a4, if_pos rfl] at a1
          exact ⟨j + 1, h1, h2, by rw [a1, b1], by rw [a2, b2], by rw [a3, b3]; go_num, by go_num, by first | rfl | trivial⟩
        case measure => simp [intOf]; omega
      | false =>
        go_wp2_with (fail)
        go_roundw
        case rel =>
          obtain ⟨a1, a2, a3, a4⟩ := HS.out
          obtain ⟨b1, b2, b3⟩ := HH.out
          rw [a4, if_neg (by decide)] at a3
          unfold shB at a1
          rw [a4, if_neg (by decide)] at a1
          exact ⟨j + 1, h1, h2, by rw [a1, b1], by rw [a2, b2], by rw [a3, b3]; rfl, by go_num, by first | rfl | trivial⟩
        case measure => simp [intOf]; omega
    · have hjl : 0 < j → 0 < l.length := fun h => by omega
      obtain ⟨S, hS⟩ : ∃ S, S = shT l j := ⟨_, rfl⟩
      obtain ⟨M, hM⟩ : ∃ M, M = smT j := ⟨_, rfl⟩
      obtain ⟨n, hn⟩ : ∃ n, n = cntL l j := ⟨_, rfl⟩
      obtain ⟨W0, hW0⟩ : ∃ W0, W0 = wantL l j := ⟨_, rfl⟩
      have hwd : W0 = if n = 0 then 0 else if n = 1 ∧ l.getD 0 false = true then 1 else if 2 ≤ n ∧ n = j then 2 else 3 := by rw [hW0, hn]; rfl
      rw [← hS] at hzs
      rw [← hM] at hzm
      rw [← hn] at hcl
      rw [← hS, ← hM, ← hn]
      have C1 : Hid (Calls Tryd.prog 15 #[.slice none 0 0, .string S] wr fun e w' => e = .returned (.int .i64 W0) ∧ Below wr.heap.size wr w') := Lib.hid (by
        have := shape_calls [] S none 0 wr (no_reads _ _) (by decide) no_pairs (by omega) HT.out
        rw [hS, shape_sh, ← hS, ← hW0] at this; exact this)
      have C1d : Hid (Calls Tryd.prog 15 #[.slice none 0 0, .string S] wr.drew fun e w' => e = .returned (.int .i64 W0) ∧ Below wr.drew.heap.size wr.drew w') := Lib.hid (by
        have := shape_calls [] S none 0 wr.drew (no_reads _ _) (by decide) no_pairs (by omega) (HT.out.below ⟨rfl, rfl, rfl, Nat.le_refl _, fun _ _ => rfl⟩)
        rw [hS, shape_sh, ← hS, ← hW0] at this; exact this)
      have C2 : Hid (∀ w3, Below wr.heap.size wr w3 → Calls Tryd.prog 14 #[.slice none 0 0, .string S] w3 fun e w' => e = .returned (.string M) ∧ Below w3.heap.size w3 w') := Lib.hid (fun w3 h => by
        have := small_calls [] S none 0 w3 (no_reads _ _) (by decide) no_pairs (by omega) (HT.out.below h)
        rw [hS, small_sh, ← hS, ← hM] at this; exact this)
      have C3 : Hid (∀ w3, Below wr.heap.size wr w3 → 0 < j → Calls Tryd.prog 16 #[.slice none 0 0, .string M] w3 fun e w' => e = .returned (.string (⟨#[65]⟩ ++ M.extract 1 M.size)) ∧ Below w3.heap.size w3 w') := Lib.hid (fun w3 h h0 => by
        have := title_calls [] M none 0 w3 (no_reads _ _) (by decide) no_pairs (by omega) (HT.out.below h)
        obtain ⟨m, rfl⟩ : ∃ m, j = m + 1 := ⟨j - 1, by omega⟩
        rw [hM, title_sm, ← hM, ← hzm] at this; exact this)
      have C4 : Hid (∀ w3, Below wr.heap.size wr w3 → Calls Tryd.prog 15 #[.slice none 0 0, .string (S ++ ⟨#[33]⟩)] w3 fun e w' => e = .returned (.int .i64 W0) ∧ Below w3.heap.size w3 w') := Lib.hid (fun w3 h => by
        have := shape_calls [] (S ++ ⟨#[33]⟩) none 0 w3 (no_reads _ _) (by decide) no_pairs (by rw [ByteArray.size_append]; show S.size + 1 ≤ _; omega) (HT.out.below h)
        rw [hS, shape_sh1, ← hS, ← hW0] at this; exact this)
      have C5 : Hid (∀ w3, Below wr.heap.size wr w3 → Calls Tryd.prog 12 #[] w3 fun e w' => e = .returned (.bool true) ∧ Below w3.heap.size w3 w') := Lib.hid (fun w3 h => fawake_calls w3 (HT.out.below h))
      have HWD := Lib.hid hwd
      have HN := Lib.hid hn
      have hw0 : 0 ≤ W0 ∧ W0 ≤ 3 := by rw [hwd]; (repeat' split) <;> omega
      have hS0 : j = 0 → S = ⟨#[]⟩ := fun h => by rw [hS, h]; rfl
      have hM0 : j = 0 → M = ⟨#[]⟩ := fun h => by rw [hM, h]; rfl
      have HS0 := Lib.hid (And.intro hS0 hM0)
      clear hwd hn hS hM hW0 hS0 hM0
      by_cases h1 : j < l.length
      · have g1' : decide (j < l.length) = true := by simpa using h1
        have g2' : decide (j < 30) = false := by simp; omega
        have g3' : decide ((j : Int) < 30) = false := by simp; omega
        clear hgo
        go_upto_region 12 with (fail)
        go_cut [8] (fun v wx => v = .int .i64 3 ∧ wr = wx)
        case first =>
          go_wp2_with (fail)
          go_meet
          exact ⟨rfl, rfl⟩
        obtain ⟨rfl, rfl⟩ := hcut
        go_step
        go_step
        go_cut [8] (fun v wx => v = .int .i64 W0 ∧ wr = wx)
        case first =>
          by_cases c0 : n = 0
          · have g0 : ((n : Int) == 0) = true := by simpa using c0
            have e := HWD.out
            rw [if_pos c0] at e
            clear c0
            go_wp2_with (fail)
            go_meet
            exact ⟨by rw [e], rfl⟩
          · have g0 : ((n : Int) == 0) = false := by simpa using c0
            have e := HWD.out
            rw [if_neg c0] at e
            by_cases c1 : n = 1
            · have g1 : ((n : Int) == 1) = true := by simp; omega
              have g2 : decide ((n : Int) ≥ 2) = false := by simp; omega
              have g3 : decide (n ≥ 2) = false := by simp; omega
              have g4 : decide (2 ≤ n) = false := by simp; omega
              obtain ⟨b, hv⟩ : ∃ b, l[0]? = some b := ⟨_, List.getElem?_eq_getElem (by omega)⟩
              obtain ⟨q, o, rfl, hq, hc0⟩ := HA.out (by omega)
              have hc := hc0 0 b hv
              rw [Nat.add_zero] at hc
              rw [List.getD_eq_getElem?_getD, hv] at e
              have hln : decide (0 < l.length) = true := by simp; omega
              have E := Lib.hid e
              have hl0 : 0 < l.length := by omega
              clear hc0 hv hq e c0
              cases b with
              | true =>
                go_wp2_with (fail)
                go_meet
                refine ⟨?_, rfl⟩
                have := E.out
                rw [if_pos ⟨c1, rfl⟩] at this
                rw [this]
              | false =>
                go_wp2_with (fail)
                go_meet
                refine ⟨?_, rfl⟩
                have := E.out
                rw [if_neg (fun h => by cases h.2), if_neg (by omega)] at this
                rw [this]
            · have g1 : ((n : Int) == 1) = false := by simp; omega
              have g2 : decide ((n : Int) ≥ 2) = true := by simp; omega
              have g3 : decide (n ≥ 2) = true := by simp; omega
              have g4 : decide (2 ≤ n) = true := by simp; omega
              rw [if_neg (fun h => c1 h.1)] at e
              have hzj : (S.size : Int) = (j : Int) := by omega
              by_cases c2 : n = j
              · have g5 : ((n : Int) == (S.size : Int)) = true := by simp; omega
                have g6 : (n == S.size) = true := by simp; omega
                rw [if_pos ⟨by omega, c2⟩] at e
                clear c2 c1 c0
                go_wp2_with (fail)
                go_meet
                exact ⟨by rw [e], rfl⟩
              · have g5 : ((n : Int) == (S.size : Int)) = false := by simp; omega
                have g6 : (n == S.size) = false := by simp; omega
                rw [if_neg (fun h => c2 h.2)] at e
                clear c2 c1 c0
                go_wp2_with (fail)
                go_meet
                exact ⟨by rw [e], rfl⟩
        case rest =>
          obtain ⟨rfl, rfl⟩ := hcut
          go_upto_region 19 with (fail)
          by_cases j0 : j = 0
          · obtain ⟨hs0, hm0⟩ := HS0.out
            have C1' : Hid (Calls Tryd.prog 15 #[.slice none 0 0, .string S] wr.drew fun e w' => e = .returned (.int .i64 W0) ∧ Below wr.drew.heap.size wr.drew w') := C1d
            have C2' := C2
            have C4' := C4
            rw [hs0 j0] at C1' C2' C4'
            rw [hm0 j0] at C2'
            rw [hs0 j0, hm0 j0]
            rw [show (⟨#[]⟩ : ByteArray) ++ ⟨#[33]⟩ = ⟨#[33]⟩ from rfl] at C4'
            clear C1 C2 C4 C3 HS0 HWD HN C1d
            refine Own.region_mix (CR [] []) [] [0, 1, 0, 7, 15, 31, 63, 31, 255, 511, 1023, 2047, 4095, 8191, 16383, 32767, 16383, 81919, 212991, 524287, 1048575, 2097151, 4194303, 8388607, 16777215, 33554431, 8388607, 134217727, 268435455, 536870911, 1073741823, 2147483647, 4294967295] (Own.Ord.run [(0, true), (2, true), (1, false), (3, true), (4, true), (5, true), (7, true), (6, false), (8, true), (9, true), (10, true), (11, true), (12, true), (13, true), (14, true), (16, true), (17, true), (18, true), (15, false), (19, true), (20, true), (21, true), (22, true), (23, true), (24, true), (26, true), (25, false), (27, true), (28, true), (29, true), (30, false), (31, true), (32, true)] .done) (by kernel_rfl) (by kernel_rfl) (fun dst v c a w h => by cases dst <;> exact h) (fun x hx w => CR.off x hx w) ?_
            simp only [Own.Ord.run]
            repeat (refine Own.st_blind _ rfl rfl (CR.off _ (by decide) _) ?_; go_big_quiet_step (fail); refine wpQuiet_nil ?_)
            refine Own.st_do _ rfl rfl (fun K hK => ?_)
            go_simp
            refine (C1'.out).mono ?_
            rintro e w2 ⟨rfl, bw2⟩
            have Bw2 := Lib.hid ((Below.trans (b := World.drew wr) ⟨rfl, rfl, rfl, Nat.le_refl _, fun _ _ => rfl⟩ bw2) : Below wr.heap.size wr w2)
            clear bw2
            refine hK _ _ (fun q hq hd => by cases hq) ?_
            clear hK K
            repeat (refine Own.st_blind _ rfl rfl (CR.off _ (by decide) _) ?_; go_big_quiet_step (fail); refine wpQuiet_nil ?_)
            refine Own.st_do _ rfl rfl (fun K hK => ?_)
            go_simp
            refine (C2'.out _ Bw2.out).mono ?_
            rintro e w3 ⟨rfl, bw3⟩
            have Bw3 := Lib.hid (Bw2.out.trans (bw3.mono Bw2.out.size))
            clear bw3
            refine hK _ _ (fun q hq hd => by cases hq) ?_
            clear hK K
            repeat (refine Own.st_blind _ rfl rfl (CR.off _ (by decide) _) ?_; go_big_quiet_step (fail); refine wpQuiet_nil ?_)
            refine Own.st_skip _ rfl rfl ?_
            simp only [Act.put, List.setIfInBounds_toArray, List.set_cons_succ, List.set_cons_zero]
            repeat (refine Own.st_blind _ rfl rfl (CR.off _ (by decide) _) ?_; go_big_quiet_step (fail); refine wpQuiet_nil ?_)
            refine Own.st_do _ rfl rfl (fun K hK => ?_)
            go_simp
            refine (C4'.out _ Bw3.out).mono ?_
            rintro e w5 ⟨rfl, bw5⟩
            have Bw5 := Lib.hid (Bw3.out.trans (bw5.mono Bw3.out.size))
            clear bw5
            refine hK _ _ (fun q hq hd => by cases hq) ?_
            clear hK K
            repeat (refine Own.st_blind _ rfl rfl (CR.off _ (by decide) _) ?_; go_big_quiet_step (fail); refine wpQuiet_nil ?_)
            refine Own.st_do _ rfl rfl (fun K hK => ?_)
            go_simp
            refine (C5.out _ Bw5.out).mono ?_
            rintro e w6 ⟨rfl, bw6⟩
            have Bw6 := Lib.hid (Bw5.out.trans (bw6.mono Bw5.out.size))
            clear bw6
            refine hK _ _ (fun q hq hd => by cases hq) ?_
            clear hK K
            repeat (refine Own.st_blind _ rfl rfl (CR.off _ (by decide) _) ?_; go_big_quiet_step (fail); refine wpQuiet_nil ?_)
            refine Own.mix_done ?_
            go_wp2_with (fail)
            go_ret
            exact ⟨rfl, Bw6.out⟩
          · have hne : ¬ S = ⟨#[]⟩ := fun h => by rw [h] at hzs; have : (0 : Nat) = j := hzs; omega
            have g7 : S.toList.isEmpty = false := by rw [ByteArray.toList_eq]; cases hh : S.data.toList with | nil => exact absurd (ByteArray.ext (by rw [← Array.toList_inj, hh])) hne | cons x t => rfl
            have g8 : decide (S = ⟨#[]⟩) = false := by simpa using hne
            have C3' : Hid (∀ w3, Below wr.heap.size wr w3 → Calls Tryd.prog 16 #[.slice none 0 0, .string M] w3 fun e w' => e = .returned (.string (⟨#[65]⟩ ++ M.extract 1 M.size)) ∧ Below w3.heap.size w3 w') := Lib.hid (fun w3 h => C3.out w3 h (by omega))
            have FM : ∀ w : World, (Instr.slice 9 (.string M) (some (.int .i64 1)) none none).run Tryd.prog w = .ok (.string (M.extract 1 M.size)) w := fun w => by
              rw [run_slice_string_l (t := 9) (s := M) (ht := Tryd.underlying9) (kl := .i64) (l := 1)]
              · rfl
              all_goals omega
            obtain ⟨R, hR⟩ : ∃ R, R = M.extract 1 M.size := ⟨_, rfl⟩
            rw [← hR] at C3' FM
            have hRz : R.size ≤ 30 := by rw [hR, ByteArray.size_extract]; omega
            have C1' := C1d
            have C2' := C2
            have C4' := C4
            clear hR C3 HS0 C1 C2 C4 HWD HN C1d
            refine Own.region_mix (CR [] []) [] [0, 1, 0, 7, 15, 31, 63, 31, 255, 511, 1023, 2047, 4095, 8191, 16383, 32767, 16383, 81919, 212991, 524287, 1048575, 2097151, 4194303, 8388607, 16777215, 33554431, 8388607, 134217727, 268435455, 536870911, 1073741823, 2147483647, 4294967295] (Own.Ord.run [(0, true), (2, true), (1, false), (3, true), (4, true), (5, true), (7, true), (6, false), (8, true), (9, true), (10, true), (11, true), (12, true), (13, true), (14, true), (16, true), (17, true), (18, true), (15, false), (19, true), (20, true), (21, true), (22, true), (23, true), (24, true), (26, true), (25, false), (27, true), (28, true), (29, true), (30, false), (31, true), (32, true)] .done) (by kernel_rfl) (by kernel_rfl) (fun dst v c a w h => by cases dst <;> exact h) (fun x hx w => CR.off x hx w) ?_
            simp only [Own.Ord.run]
            repeat (refine Own.st_blind _ rfl rfl (CR.off _ (by decide) _) ?_; go_big_quiet_step (fail); refine wpQuiet_nil ?_)
            refine Own.st_do _ rfl rfl (fun K hK => ?_)
            go_simp
            refine (C1'.out).mono ?_
            rintro e w2 ⟨rfl, bw2⟩
            have Bw2 := Lib.hid ((Below.trans (b := World.drew wr) ⟨rfl, rfl, rfl, Nat.le_refl _, fun _ _ => rfl⟩ bw2) : Below wr.heap.size wr w2)
            clear bw2
            refine hK _ _ (fun q hq hd => by cases hq) ?_
            clear hK K
            repeat (refine Own.st_blind _ rfl rfl (CR.off _ (by decide) _) ?_; go_big_quiet_step (fail); refine wpQuiet_nil ?_)
            refine Own.st_do _ rfl rfl (fun K hK => ?_)
            go_simp
            refine (C2'.out _ Bw2.out).mono ?_
            rintro e w3 ⟨rfl, bw3⟩
            have Bw3 := Lib.hid (Bw2.out.trans (bw3.mono Bw2.out.size))
            clear bw3
            refine hK _ _ (fun q hq hd => by cases hq) ?_
            clear hK K
            repeat (refine Own.st_blind _ rfl rfl (CR.off _ (by decide) _) ?_; go_big_quiet_step (fail); refine wpQuiet_nil ?_)
            refine Own.st_do _ rfl rfl (fun K hK => ?_)
            go_simp
            refine (C3'.out _ Bw3.out).mono ?_
            rintro e w4 ⟨rfl, bw4⟩
            have Bw4 := Lib.hid (Bw3.out.trans (bw4.mono Bw3.out.size))
            clear bw4
            refine hK _ _ (fun q hq hd => by cases hq) ?_
            clear hK K
            repeat (refine Own.st_blind _ rfl rfl (CR.off _ (by decide) _) ?_; go_big_quiet_step (fail); refine wpQuiet_nil ?_)
            refine Own.st_do _ rfl rfl (fun K hK => ?_)
            go_simp
            refine (C4'.out _ Bw4.out).mono ?_
            rintro e w5 ⟨rfl, bw5⟩
            have Bw5 := Lib.hid (Bw4.out.trans (bw5.mono Bw4.out.size))
            clear bw5
            refine hK _ _ (fun q hq hd => by cases hq) ?_
            clear hK K
            repeat (refine Own.st_blind _ rfl rfl (CR.off _ (by decide) _) ?_; go_big_quiet_step (fail); refine wpQuiet_nil ?_)
            refine Own.st_do _ rfl rfl (fun K hK => ?_)
            go_simp
            refine (C5.out _ Bw5.out).mono ?_
            rintro e w6 ⟨rfl, bw6⟩
            have Bw6 := Lib.hid (Bw5.out.trans (bw6.mono Bw5.out.size))
            clear bw6
            refine hK _ _ (fun q hq hd => by cases hq) ?_
            clear hK K
            repeat (refine Own.st_blind _ rfl rfl (CR.off _ (by decide) _) ?_; go_big_quiet_step (fail); refine wpQuiet_nil ?_)
            refine Own.mix_done ?_
            go_wp2_with (fail)
            go_ret
            exact ⟨rfl, Bw6.out⟩
      · have g1' : decide (j < l.length) = false := by simpa using h1
        clear hgo
        go_upto_region 12 with (fail)
        go_cut [8] (fun v wx => v = .int .i64 3 ∧ wr = wx)
        case first =>
          go_wp2_with (fail)
          go_meet
          exact ⟨rfl, rfl⟩
        obtain ⟨rfl, rfl⟩ := hcut
        go_step
        go_step
        go_cut [8] (fun v wx => v = .int .i64 W0 ∧ wr = wx)
        case first =>
          by_cases c0 : n = 0
          · have g0 : ((n : Int) == 0) = true := by simpa using c0
            have e := HWD.out
            rw [if_pos c0] at e
            clear c0
            go_wp2_with (fail)
            go_meet
            exact ⟨by rw [e], rfl⟩
          · have g0 : ((n : Int) == 0) = false := by simpa using c0
            have e := HWD.out
            rw [if_neg c0] at e
            by_cases c1 : n = 1
            · have g1 : ((n : Int) == 1) = true := by simp; omega
              have g2 : decide ((n : Int) ≥ 2) = false := by simp; omega
              have g3 : decide (n ≥ 2) = false := by simp; omega
              have g4 : decide (2 ≤ n) = false := by simp; omega
              obtain ⟨b, hv⟩ : ∃ b, l[0]? = some b := ⟨_, List.getElem?_eq_getElem (by omega)⟩
              obtain ⟨q, o, rfl, hq, hc0⟩ := HA.out (by omega)
              have hc := hc0 0 b hv
              rw [Nat.add_zero] at hc
              rw [List.getD_eq_getElem?_getD, hv] at e
              have hln : decide (0 < l.length) = true := by simp; omega
              have E := Lib.hid e
              have hl0 : 0 < l.length := by omega
              clear hc0 hv hq e c0
              cases b with
              | true =>
                go_wp2_with (fail)
                go_meet
                refine ⟨?_, rfl⟩
                have := E.out
                rw [if_pos ⟨c1, rfl⟩] at this
                rw [this]
              | false =>
                go_wp2_with (fail)
                go_meet
                refine ⟨?_, rfl⟩
                have := E.out
                rw [if_neg (fun h => by cases h.2), if_neg (by omega)] at this
                rw [this]
            · have g1 : ((n : Int) == 1) = false := by simp; omega
              have g2 : decide ((n : Int) ≥ 2) = true := by simp; omega
              have g3 : decide (n ≥ 2) = true := by simp; omega
              have g4 : decide (2 ≤ n) = true := by simp; omega
              rw [if_neg (fun h => c1 h.1)] at e
              have hzj : (S.size : Int) = (j : Int) := by omega
              by_cases c2 : n = j
              · have g5 : ((n : Int) == (S.size : Int)) = true := by simp; omega
                have g6 : (n == S.size) = true := by simp; omega
                rw [if_pos ⟨by omega, c2⟩] at e
                clear c2 c1 c0
                go_wp2_with (fail)
                go_meet
                exact ⟨by rw [e], rfl⟩
              · have g5 : ((n : Int) == (S.size : Int)) = false := by simp; omega
                have g6 : (n == S.size) = false := by simp; omega
                rw [if_neg (fun h => c2 h.2)] at e
                clear c2 c1 c0
                go_wp2_with (fail)
                go_meet
                exact ⟨by rw [e], rfl⟩
        case rest =>
          obtain ⟨rfl, rfl⟩ := hcut
          go_upto_region 19 with (fail)
          by_cases j0 : j = 0
          · obtain ⟨hs0, hm0⟩ := HS0.out
            have C1' : Hid (Calls Tryd.prog 15 #[.slice none 0 0, .string S] wr.drew fun e w' => e = .returned (.int .i64 W0) ∧ Below wr.drew.heap.size wr.drew w') := C1d
            have C2' := C2
            have C4' := C4
            rw [hs0 j0] at C1' C2' C4'
            rw [hm0 j0] at C2'
            rw [hs0 j0, hm0 j0]
            rw [show (⟨#[]⟩ : ByteArray) ++ ⟨#[33]⟩ = ⟨#[33]⟩ from rfl] at C4'
            clear C1 C2 C4 C3 HS0 HWD HN C1d
            refine Own.region_mix (CR [] []) [] [0, 1, 0, 7, 15, 31, 63, 31, 255, 511, 1023, 2047, 4095, 8191, 16383, 32767, 16383, 81919, 212991, 524287, 1048575, 2097151, 4194303, 8388607, 16777215, 33554431, 8388607, 134217727, 268435455, 536870911, 1073741823, 2147483647, 4294967295] (Own.Ord.run [(0, true), (2, true), (1, false), (3, true), (4, true), (5, true), (7, true), (6, false), (8, true), (9, true), (10, true), (11, true), (12, true), (13, true), (14, true), (16, true), (17, true), (18, true), (15, false), (19, true), (20, true), (21, true), (22, true), (23, true), (24, true), (26, true), (25, false), (27, true), (28, true), (29, true), (30, false), (31, true), (32, true)] .done) (by kernel_rfl) (by kernel_rfl) (fun dst v c a w h => by cases dst <;> exact h) (fun x hx w => CR.off x hx w) ?_
            simp only [Own.Ord.run]
            repeat (refine Own.st_blind _ rfl rfl (CR.off _ (by decide) _) ?_; go_big_quiet_step (fail); refine wpQuiet_nil ?_)
            refine Own.st_do _ rfl rfl (fun K hK => ?_)
            go_simp
            refine (C1'.out).mono ?_
            rintro e w2 ⟨rfl, bw2⟩
            have Bw2 := Lib.hid ((Below.trans (b := World.drew wr) ⟨rfl, rfl, rfl, Nat.le_refl _, fun _ _ => rfl⟩ bw2) : Below wr.heap.size wr w2)
            clear bw2
            refine hK _ _ (fun q hq hd => by cases hq) ?_
            clear hK K
            repeat (refine Own.st_blind _ rfl rfl (CR.off _ (by decide) _) ?_; go_big_quiet_step (fail); refine wpQuiet_nil ?_)
            refine Own.st_do _ rfl rfl (fun K hK => ?_)
            go_simp
            refine (C2'.out _ Bw2.out).mono ?_
            rintro e w3 ⟨rfl, bw3⟩
            have Bw3 := Lib.hid (Bw2.out.trans (bw3.mono Bw2.out.size))
            clear bw3
            refine hK _ _ (fun q hq hd => by cases hq) ?_
            clear hK K
            repeat (refine Own.st_blind _ rfl rfl (CR.off _ (by decide) _) ?_; go_big_quiet_step (fail); refine wpQuiet_nil ?_)
            refine Own.st_skip _ rfl rfl ?_
            simp only [Act.put, List.setIfInBounds_toArray, List.set_cons_succ, List.set_cons_zero]
            repeat (refine Own.st_blind _ rfl rfl (CR.off _ (by decide) _) ?_; go_big_quiet_step (fail); refine wpQuiet_nil ?_)
            refine Own.st_do _ rfl rfl (fun K hK => ?_)
            go_simp
            refine (C4'.out _ Bw3.out).mono ?_
            rintro e w5 ⟨rfl, bw5⟩
            have Bw5 := Lib.hid (Bw3.out.trans (bw5.mono Bw3.out.size))
            clear bw5
            refine hK _ _ (fun q hq hd => by cases hq) ?_
            clear hK K
            repeat (refine Own.st_blind _ rfl rfl (CR.off _ (by decide) _) ?_; go_big_quiet_step (fail); refine wpQuiet_nil ?_)
            refine Own.st_do _ rfl rfl (fun K hK => ?_)
            go_simp
            refine (C5.out _ Bw5.out).mono ?_
            rintro e w6 ⟨rfl, bw6⟩
            have Bw6 := Lib.hid (Bw5.out.trans (bw6.mono Bw5.out.size))
            clear bw6
            refine hK _ _ (fun q hq hd => by cases hq) ?_
            clear hK K
            repeat (refine Own.st_blind _ rfl rfl (CR.off _ (by decide) _) ?_; go_big_quiet_step (fail); refine wpQuiet_nil ?_)
            refine Own.mix_done ?_
            go_wp2_with (fail)
            go_ret
            exact ⟨rfl, Bw6.out⟩
          · have hne : ¬ S = ⟨#[]⟩ := fun h => by rw [h] at hzs; have : (0 : Nat) = j := hzs; omega
            have g7 : S.toList.isEmpty = false := by rw [ByteArray.toList_eq]; cases hh : S.data.toList with | nil => exact absurd (ByteArray.ext (by rw [← Array.toList_inj, hh])) hne | cons x t => rfl
            have g8 : decide (S = ⟨#[]⟩) = false := by simpa using hne
            have C3' : Hid (∀ w3, Below wr.heap.size wr w3 → Calls Tryd.prog 16 #[.slice none 0 0, .string M] w3 fun e w' => e = .returned (.string (⟨#[65]⟩ ++ M.extract 1 M.size)) ∧ Below w3.heap.size w3 w') := Lib.hid (fun w3 h => C3.out w3 h (by omega))
            have FM : ∀ w : World, (Instr.slice 9 (.string M) (some (.int .i64 1)) none none).run Tryd.prog w = .ok (.string (M.extract 1 M.size)) w := fun w => by
              rw [run_slice_string_l (t := 9) (s := M) (ht := Tryd.underlying9) (kl := .i64) (l := 1)]
              · rfl
              all_goals omega
            obtain ⟨R, hR⟩ : ∃ R, R = M.extract 1 M.size := ⟨_, rfl⟩
            rw [← hR] at C3' FM
            have hRz : R.size ≤ 30 := by rw [hR, ByteArray.size_extract]; omega
            have C1' := C1d
            have C2' := C2
            have C4' := C4
            clear hR C3 HS0 C1 C2 C4 HWD HN C1d
            refine Own.region_mix (CR [] []) [] [0, 1, 0, 7, 15, 31, 63, 31, 255, 511, 1023, 2047, 4095, 8191, 16383, 32767, 16383, 81919, 212991, 524287, 1048575, 2097151, 4194303, 8388607, 16777215, 33554431, 8388607, 134217727, 268435455, 536870911, 1073741823, 2147483647, 4294967295] (Own.Ord.run [(0, true), (2, true), (1, false), (3, true), (4, true), (5, true), (7, true), (6, false), (8, true), (9, true), (10, true), (11, true), (12, true), (13, true), (14, true), (16, true), (17, true), (18, true), (15, false), (19, true), (20, true), (21, true), (22, true), (23, true), (24, true), (26, true), (25, false), (27, true), (28, true), (29, true), (30, false), (31, true), (32, true)] .done) (by kernel_rfl) (by kernel_rfl) (fun dst v c a w h => by cases dst <;> exact h) (fun x hx w => CR.off x hx w) ?_
            simp only [Own.Ord.run]
            repeat (refine Own.st_blind _ rfl rfl (CR.off _ (by decide) _) ?_; go_big_quiet_step (fail); refine wpQuiet_nil ?_)
            refine Own.st_do _ rfl rfl (fun K hK => ?_)
            go_simp
            refine (C1'.out).mono ?_
            rintro e w2 ⟨rfl, bw2⟩
            have Bw2 := Lib.hid ((Below.trans (b := World.drew wr) ⟨rfl, rfl, rfl, Nat.le_refl _, fun _ _ => rfl⟩ bw2) : Below wr.heap.size wr w2)
            clear bw2
            refine hK _ _ (fun q hq hd => by cases hq) ?_
            clear hK K
            repeat (refine Own.st_blind _ rfl rfl (CR.off _ (by decide) _) ?_; go_big_quiet_step (fail); refine wpQuiet_nil ?_)
            refine Own.st_do _ rfl rfl (fun K hK => ?_)
            go_simp
            refine (C2'.out _ Bw2.out).mono ?_
            rintro e w3 ⟨rfl, bw3⟩
            have Bw3 := Lib.hid (Bw2.out.trans (bw3.mono Bw2.out.size))
            clear bw3
            refine hK _ _ (fun q hq hd => by cases hq) ?_
            clear hK K
            repeat (refine Own.st_blind _ rfl rfl (CR.off _ (by decide) _) ?_; go_big_quiet_step (fail); refine wpQuiet_nil ?_)
            refine Own.st_do _ rfl rfl (fun K hK => ?_)
            go_simp
            refine (C3'.out _ Bw3.out).mono ?_
            rintro e w4 ⟨rfl, bw4⟩
            have Bw4 := Lib.hid (Bw3.out.trans (bw4.mono Bw3.out.size))
            clear bw4
            refine hK _ _ (fun q hq hd => by cases hq) ?_
            clear hK K
            repeat (refine Own.st_blind _ rfl rfl (CR.off _ (by decide) _) ?_; go_big_quiet_step (fail); refine wpQuiet_nil ?_)
            refine Own.st_do _ rfl rfl (fun K hK => ?_)
            go_simp
            refine (C4'.out _ Bw4.out).mono ?_
            rintro e w5 ⟨rfl, bw5⟩
            have Bw5 := Lib.hid (Bw4.out.trans (bw5.mono Bw4.out.size))
            clear bw5
            refine hK _ _ (fun q hq hd => by cases hq) ?_
            clear hK K
            repeat (refine Own.st_blind _ rfl rfl (CR.off _ (by decide) _) ?_; go_big_quiet_step (fail); refine wpQuiet_nil ?_)
            refine Own.st_do _ rfl rfl (fun K hK => ?_)
            go_simp
            refine (C5.out _ Bw5.out).mono ?_
            rintro e w6 ⟨rfl, bw6⟩
            have Bw6 := Lib.hid (Bw5.out.trans (bw6.mono Bw5.out.size))
            clear bw6
            refine hK _ _ (fun q hq hd => by cases hq) ?_
            clear hK K
            repeat (refine Own.st_blind _ rfl rfl (CR.off _ (by decide) _) ?_; go_big_quiet_step (fail); refine wpQuiet_nil ?_)
            refine Own.mix_done ?_
            go_wp2_with (fail)
            go_ret
            exact ⟨rfl, Bw6.out⟩
end Go.Proofs.YtmpckoincdkeeaaDoor

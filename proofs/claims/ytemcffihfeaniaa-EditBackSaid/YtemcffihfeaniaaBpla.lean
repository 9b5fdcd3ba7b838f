/- Buffer's laws: BufferPlaces. -/
import Derived.Test.YtemcffihfeaniaaBfull
namespace Go.Proofs.Ytemcffihfeaniaa
open Go.RowKit Go.Deep Go.Own
set_option linter.unusedVariables false
theorem insR_no (t u : List UInt8) (most : Nat) (a : Int) (h : ¬ (0 ≤ a ∧ a ≤ t.length)) : insR t most a u = (2, t) := by unfold insR; rw [if_neg h]
theorem delR_no (t : List UInt8) (a n : Int) (h : ¬ (0 ≤ a ∧ 0 ≤ n ∧ a ≤ t.length ∧ n ≤ t.length - a)) : delR t a n = (2, t) := by unfold delR; rw [if_neg h]
theorem slice_from (s : ByteArray) (f n : Nat) (hfn : f + n ≤ s.size) (w : World) : (Instr.slice 9 (.string s) (some (.int .i64 ((f : Int) + (n : Int)))) none none).run Try.prog w = .ok (.string (s.extract (f + n) s.size)) w := by
  have e : ((f : Int) + (n : Int)) = ((f + n : Nat) : Int) := by omega
  rw [e, run_slice_string_from_if (t := 9) (s := s) (k := .i64) (i := ((f + n : Nat) : Int)) (h := Try.underlying9), if_pos ⟨by omega, by omega⟩, Int.toNat_natCast]
set_option maxRecDepth 100000 in
set_option maxHeartbeats 8000000 in
theorem bufferPlaces_walk (s : ByteArray) (a n : Int) (W : World) (hs : s.size ≤ 140737488351232) (ha : (Lit.int .i64 a).wf = true) (hn : (Lit.int .i64 n).wf = true) :
    Calls Try.prog 10 #[.string s, .int .i64 a, .int .i64 n] W fun e w' => e = .returned (.bool true) ∧ Below W.heap.size W w' := by
  clear ha hn
  by_cases h300 : 300 < s.size
  · go_enter Try.func10, Try.ntmps10
    go_wp2_with (fail)
    refine (bu_awake _).mono ?_
    rintro e w1 ⟨rfl, h1⟩
    go_wp2_with (fail)
    go_ret
    exact ⟨rfl, h1⟩
  · have CN := Lib.hid (bs_new s 1000 1000 (by decide) (by decide) W W (Below.refl _ _) (by omega))
    have hsl : s.data.toList.length = s.size := by simp
    have HSL := Lib.hid hsl
    clear hsl
    by_cases hin : 0 ≤ a ∧ 0 ≤ n ∧ a ≤ s.size ∧ n ≤ s.size - a
    · obtain ⟨p1, p2, p3, p4⟩ := hin
      obtain ⟨a, rfl⟩ : ∃ k : Nat, a = (k : Int) := ⟨a.toNat, by omega⟩
      obtain ⟨n, rfl⟩ : ∃ k : Nat, n = (k : Int) := ⟨n.toNat, by omega⟩
      have a1 : decide ((0 : Int) ≤ (a : Int)) = true := by simp
      have a2 : decide ((0 : Int) ≤ (n : Int)) = true := by simp
      have a3 : decide (a ≤ s.size) = true := by simp; omega
      have a4 : decide ((n : Int) ≤ (s.size : Int) - (a : Int)) = true := by simp; omega
      have hfn : a + n ≤ s.size := by omega
      have sf := slice_from s a n hfn
      obtain ⟨y, hy⟩ : ∃ y, y = s.extract 0 a ++ s.extract (a + n) s.size := ⟨_, rfl⟩
      have hyd : y.data.toList = s.data.toList.take a ++ s.data.toList.drop (a + n) := by
        rw [hy]; simp only [ByteArray.data_append, Array.toList_append, ext_take, ext_drop]
      have R2 : Hid (delR s.data.toList (a : Int) (n : Int) = (0, y.data.toList)) := Lib.hid (by rw [hyd]; exact delR_ok _ _ _ (by rw [HSL.out]; exact hfn))
      have HY := Lib.hid hy
      clear hy hyd p1 p2 p3 p4
      go_enter Try.func10, Try.ntmps10
      go_wp2_with (fail)
      refine CN.out.mono ?_
      rintro e w1 ⟨b, kk, rfl, hkk, t1⟩
      have CS := Lib.hid (bt_slice t1 (by decide) a n (by rw [HSL.out]; exact hfn))
      clear t1 CN
      go_wp2_with (fail)
      refine CS.out.mono ?_
      rintro e w2 ⟨rfl, t2⟩
      have CD := Lib.hid (bs_delete s y (a : Int) (n : Int) 0 (t2.drewN 1) R2.out (by decide))
      clear t2 CS
      go_wp2_with (fail)
      refine Own.region_mix (CR [] []) [] [0, 0, 0, 7, 15, 31, 63, 127, 63, 63, 831, 63, 63, 63, 12351, 30783, 65343, 131071, 262143, 524287, 1048575, 2097151, 4194303] (Own.Ord.run [(0, true), (1, true), (2, true), (3, false), (4, true), (5, true), (6, true), (8, true), (9, true), (10, true), (11, true), (12, true), (13, true), (14, true), (15, true), (16, true), (7, false), (17, true), (18, true), (19, true), (20, false), (21, true), (22, true)] .done) (by kernel_rfl) (by kernel_rfl) (fun dst v c a w h => by cases dst <;> exact h) (fun x hx w => CR.off x hx w) ?_
      simp only [Own.Ord.run]
      repeat (refine Own.st_blind _ rfl rfl (CR.off _ (by decide) _) ?_; go_big_quiet_step (fail); refine wpQuiet_nil ?_)
      refine Own.st_do _ rfl rfl (fun K hK => ?_)
      go_simp
      refine CD.out.mono ?_
      rintro e w5 ⟨rfl, k5, hk5, t5⟩
      have CT := Lib.hid (bs_text y t5 (by decide))
      rw [HY.out] at CT
      clear t5 CD
      refine hK _ _ (fun q hq hd => by cases hq) ?_
      clear hK K
      repeat (refine Own.st_blind _ rfl rfl (CR.off _ (by decide) _) ?_; go_big_quiet_step (fail); refine wpQuiet_nil ?_)
      refine Own.st_do _ rfl rfl (fun K hK => ?_)
      go_simp
      refine CT.out.mono ?_
      rintro e w6 ⟨rfl, t6⟩
      have T6 := Lib.hid t6.below
      clear t6 CT
      refine hK _ _ (fun q hq hd => by cases hq) ?_
      clear hK K
      repeat (refine Own.st_blind _ rfl rfl (CR.off _ (by decide) _) ?_; go_big_quiet_step (fail); refine wpQuiet_nil ?_)
      refine Own.st_do _ rfl rfl (fun K hK => ?_)
      go_simp
      refine (bu_awake _).mono ?_
      rintro e w7 ⟨rfl, h7⟩
      refine hK _ _ (fun q hq hd => by cases hq) ?_
      clear hK K
      repeat (refine Own.st_blind _ rfl rfl (CR.off _ (by decide) _) ?_; go_big_quiet_step (fail); refine wpQuiet_nil ?_)
      refine Own.mix_done ?_
      go_wp2_with (fail)
      go_ret
      exact ⟨rfl, T6.out.trans (h7.mono T6.out.size)⟩
    · have HIN : Hid (¬ (0 ≤ a ∧ 0 ≤ n ∧ a ≤ s.data.toList.length ∧ n ≤ s.data.toList.length - a)) := Lib.hid (by rw [HSL.out]; exact hin)
      by_cases h0 : 0 ≤ a
      · have g0 : decide (0 ≤ a) = true := by simpa using h0
        obtain ⟨a, rfl⟩ : ∃ k : Nat, a = (k : Int) := ⟨a.toNat, by omega⟩
        by_cases h1 : a ≤ s.size
        · have g1 : decide (a ≤ s.size) = true := by simpa using h1
          by_cases h2 : 0 ≤ n
          · have g2 : decide (0 ≤ n) = true := by simpa using h2
            have g3 : decide (n ≤ (s.size : Int) - (a : Int)) = false := by apply decide_eq_false; intro h; exact hin ⟨by omega, h2, by omega, h⟩
            clear hin h0
            go_enter Try.func10, Try.ntmps10
            go_wp2_with (fail)
            refine CN.out.mono ?_
            rintro e w1 ⟨b, kk, rfl, hkk, t1⟩
            have CS := Lib.hid (bt_slice_no t1 _ _ HIN.out)
            have T1 := Lib.hid t1
            clear t1 CN
            go_wp2_with (fail)
            refine CS.out.mono ?_
            rintro e w2 ⟨rfl, rfl⟩
            have CD := Lib.hid (bs_delete s s _ _ 2 T1.out (delR_no _ _ _ HIN.out) (by decide))
            clear T1 CS
            go_wp2_with (fail)
            refine CD.out.mono ?_
            rintro e w5 ⟨rfl, k5, hk5, t5⟩
            have CT := Lib.hid (bs_text s t5 (by decide))
            clear t5 CD
            go_wp2_with (fail)
            refine CT.out.mono ?_
            rintro e w6 ⟨rfl, t6⟩
            have T6 := Lib.hid t6.below
            clear t6 CT
            go_wp2_with (fail)
            refine (bu_awake _).mono ?_
            rintro e w7 ⟨rfl, h7⟩
            go_wp2_with (fail)
            go_ret
            exact ⟨rfl, T6.out.trans (h7.mono T6.out.size)⟩
          · have g2 : decide (0 ≤ n) = false := by simpa using h2
            clear hin h0
            go_enter Try.func10, Try.ntmps10
            go_wp2_with (fail)
            refine CN.out.mono ?_
            rintro e w1 ⟨b, kk, rfl, hkk, t1⟩
            have CS := Lib.hid (bt_slice_no t1 _ _ HIN.out)
            have T1 := Lib.hid t1
            clear t1 CN
            go_wp2_with (fail)
            refine CS.out.mono ?_
            rintro e w2 ⟨rfl, rfl⟩
            have CD := Lib.hid (bs_delete s s _ _ 2 T1.out (delR_no _ _ _ HIN.out) (by decide))
            clear T1 CS
            go_wp2_with (fail)
            refine CD.out.mono ?_
            rintro e w5 ⟨rfl, k5, hk5, t5⟩
            have CT := Lib.hid (bs_text s t5 (by decide))
            clear t5 CD
            go_wp2_with (fail)
            refine CT.out.mono ?_
            rintro e w6 ⟨rfl, t6⟩
            have T6 := Lib.hid t6.below
            clear t6 CT
            go_wp2_with (fail)
            refine (bu_awake _).mono ?_
            rintro e w7 ⟨rfl, h7⟩
            go_wp2_with (fail)
            go_ret
            exact ⟨rfl, T6.out.trans (h7.mono T6.out.size)⟩
        · have g1 : decide (a ≤ s.size) = false := by simpa using h1
          have HPL : Hid (¬ (0 ≤ (a : Int) ∧ (a : Int) ≤ s.data.toList.length)) := Lib.hid (by rw [HSL.out]; omega)
          by_cases h2 : 0 ≤ n
          · have g2 : decide (0 ≤ n) = true := by simpa using h2
            clear hin h0
            go_enter Try.func10, Try.ntmps10
            go_wp2_with (fail)
            refine CN.out.mono ?_
            rintro e w1 ⟨b, kk, rfl, hkk, t1⟩
            have CS := Lib.hid (bt_slice_no t1 _ _ HIN.out)
            have T1 := Lib.hid t1
            clear t1 CN
            go_wp2_with (fail)
            refine CS.out.mono ?_
            rintro e w2 ⟨rfl, rfl⟩
            have CD := Lib.hid (bs_delete s s _ _ 2 T1.out (delR_no _ _ _ HIN.out) (by decide))
            clear T1 CS
            go_wp2_with (fail)
            refine CD.out.mono ?_
            rintro e w5 ⟨rfl, k5, hk5, t5⟩
            have CT := Lib.hid (bs_text s t5 (by decide))
            clear t5 CD
            go_wp2_with (fail)
            refine CT.out.mono ?_
            rintro e w6 ⟨rfl, t6⟩
            have CI := Lib.hid (bs_insert s s _ ⟨#[120]⟩ 2 t6 (insR_no _ _ _ _ HPL.out) (by decide) (by decide))
            clear t6 CT
            go_wp2_with (fail)
            refine CI.out.mono ?_
            rintro e w8 ⟨rfl, k8, hk8, t8⟩
            have CT := Lib.hid (bs_text s t8 (by decide))
            clear t8 CI
            go_wp2_with (fail)
            refine CT.out.mono ?_
            rintro e w9 ⟨rfl, t9⟩
            have T6 := Lib.hid t9.below
            clear t9 CT
            go_wp2_with (fail)
            refine (bu_awake _).mono ?_
            rintro e w7 ⟨rfl, h7⟩
            go_wp2_with (fail)
            go_ret
            exact ⟨rfl, T6.out.trans (h7.mono T6.out.size)⟩
          · have g2 : decide (0 ≤ n) = false := by simpa using h2
            clear hin h0
            go_enter Try.func10, Try.ntmps10
            go_wp2_with (fail)
            refine CN.out.mono ?_
            rintro e w1 ⟨b, kk, rfl, hkk, t1⟩
            have CS := Lib.hid (bt_slice_no t1 _ _ HIN.out)
            have T1 := Lib.hid t1
            clear t1 CN
            go_wp2_with (fail)
            refine CS.out.mono ?_
            rintro e w2 ⟨rfl, rfl⟩
            have CD := Lib.hid (bs_delete s s _ _ 2 T1.out (delR_no _ _ _ HIN.out) (by decide))
            clear T1 CS
            go_wp2_with (fail)
            refine CD.out.mono ?_
            rintro e w5 ⟨rfl, k5, hk5, t5⟩
            have CT := Lib.hid (bs_text s t5 (by decide))
            clear t5 CD
            go_wp2_with (fail)
            refine CT.out.mono ?_
            rintro e w6 ⟨rfl, t6⟩
            have CI := Lib.hid (bs_insert s s _ ⟨#[120]⟩ 2 t6 (insR_no _ _ _ _ HPL.out) (by decide) (by decide))
            clear t6 CT
            go_wp2_with (fail)
            refine CI.out.mono ?_
            rintro e w8 ⟨rfl, k8, hk8, t8⟩
            have CT := Lib.hid (bs_text s t8 (by decide))
            clear t8 CI
            go_wp2_with (fail)
            refine CT.out.mono ?_
            rintro e w9 ⟨rfl, t9⟩
            have T6 := Lib.hid t9.below
            clear t9 CT
            go_wp2_with (fail)
            refine (bu_awake _).mono ?_
            rintro e w7 ⟨rfl, h7⟩
            go_wp2_with (fail)
            go_ret
            exact ⟨rfl, T6.out.trans (h7.mono T6.out.size)⟩
      · have g0 : decide (0 ≤ a) = false := by simpa using h0
        have HPL : Hid (¬ (0 ≤ a ∧ a ≤ s.data.toList.length)) := Lib.hid (by omega)
        clear hin
        go_enter Try.func10, Try.ntmps10
        go_wp2_with (fail)
        refine CN.out.mono ?_
        rintro e w1 ⟨b, kk, rfl, hkk, t1⟩
        have CS := Lib.hid (bt_slice_no t1 _ _ HIN.out)
        have T1 := Lib.hid t1
        clear t1 CN
        go_wp2_with (fail)
        refine CS.out.mono ?_
        rintro e w2 ⟨rfl, rfl⟩
        have CD := Lib.hid (bs_delete s s _ _ 2 T1.out (delR_no _ _ _ HIN.out) (by decide))
        clear T1 CS
        go_wp2_with (fail)
        refine CD.out.mono ?_
        rintro e w5 ⟨rfl, k5, hk5, t5⟩
        have CT := Lib.hid (bs_text s t5 (by decide))
        clear t5 CD
        go_wp2_with (fail)
        refine CT.out.mono ?_
        rintro e w6 ⟨rfl, t6⟩
        have CI := Lib.hid (bs_insert s s _ ⟨#[120]⟩ 2 t6 (insR_no _ _ _ _ HPL.out) (by decide) (by decide))
        clear t6 CT
        go_wp2_with (fail)
        refine CI.out.mono ?_
        rintro e w8 ⟨rfl, k8, hk8, t8⟩
        have CT := Lib.hid (bs_text s t8 (by decide))
        clear t8 CI
        go_wp2_with (fail)
        refine CT.out.mono ?_
        rintro e w9 ⟨rfl, t9⟩
        have T6 := Lib.hid t9.below
        clear t9 CT
        go_wp2_with (fail)
        refine (bu_awake _).mono ?_
        rintro e w7 ⟨rfl, h7⟩
        go_wp2_with (fail)
        go_ret
        exact ⟨rfl, T6.out.trans (h7.mono T6.out.size)⟩
end Go.Proofs.Ytemcffihfeaniaa

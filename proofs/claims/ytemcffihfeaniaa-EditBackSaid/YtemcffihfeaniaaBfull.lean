/- Buffer's laws: BufferFull. -/
import Derived.Test.YtemcffihfeaniaaBlaw
namespace Go.Own
open Go Go.RowKit Go.Deep
set_option linter.unusedVariables false
theorem ext_take (s : ByteArray) (k : Nat) : (s.extract 0 k).data.toList = s.data.toList.take k := by
  rw [Lib.extract_data]; simp
theorem ext_drop (s : ByteArray) (k : Nat) : (s.extract k s.size).data.toList = s.data.toList.drop k := by
  rw [Lib.extract_data, List.take_of_length_le (by rw [List.length_drop]; simp)]
theorem insR_ok (t u : List UInt8) (most k : Nat) (hk : k ≤ t.length) (h : t.length + u.length ≤ most) : insR t most (k : Int) u = (0, t.take k ++ (u ++ t.drop k)) := by
  unfold insR; rw [if_pos ⟨by omega, by omega⟩, if_neg (by omega)]; rfl
theorem insR_big (t u : List UInt8) (most k : Nat) (hk : k ≤ t.length) (h : most < t.length + u.length) : insR t most (k : Int) u = (3, t) := by
  unfold insR; rw [if_pos ⟨by omega, by omega⟩, if_pos h]
theorem delR_ok (t : List UInt8) (a n : Nat) (h : a + n ≤ t.length) : delR t (a : Int) (n : Int) = (0, t.take a ++ t.drop (a + n)) := by
  unfold delR; rw [if_pos ⟨by omega, by omega, by omega, by omega⟩]; rfl
theorem put_take (t u : List UInt8) (k : Nat) (hk : k ≤ t.length) : (t.take k ++ (u ++ t.drop k)).take k ++ (t.take k ++ (u ++ t.drop k)).drop (k + u.length) = t := by
  have hl : (t.take k).length = k := by rw [List.length_take]; omega
  have h1 := List.take_left (l₁ := t.take k) (l₂ := u ++ t.drop k)
  rw [hl] at h1
  have h2 := List.drop_length_add_append (l₁ := t.take k) (l₂ := u ++ t.drop k) (i := u.length)
  rw [hl] at h2
  rw [h1, h2, List.drop_left, List.take_append_drop]
end Go.Own
namespace Go.Proofs.Ytemcffihfeaniaa
open Go.RowKit Go.Deep Go.Own
set_option linter.unusedVariables false
set_option maxRecDepth 100000 in
set_option maxHeartbeats 8000000 in
theorem bufferFull_walk (most : Int) (s more : ByteArray) (at' : Int) (W : World) (hmo : (Lit.int .i64 most).wf = true) (hs : s.size ≤ 140737488351232) (hm : more.size ≤ 140737488351232) (hat : (Lit.int .i64 at').wf = true) :
    Calls Try.prog 9 #[.int .i64 most, .string s, .string more, .int .i64 at'] W fun e w' => e = .returned (.bool true) ∧ Below W.heap.size W w' := by
  clear hmo hat
  obtain ⟨M, hM, _, cm0⟩ := place_n most 400 (by decide) (by decide)
  have CM : Hid (∀ w : World, Calls Try.prog 17 #[.int .i64 most, .int .i64 400] w fun e w' => e = .returned (.int .i64 (M : Nat)) ∧ w = w') := Lib.hid cm0
  clear cm0
  by_cases h1 : M < s.size
  · have g1 : decide (M < s.size) = true := by simpa using h1
    go_enter Try.func9, Try.ntmps9
    go_wp2_with (fail)
    refine (CM.out _).mono ?_
    rintro e w1 ⟨rfl, rfl⟩
    go_wp2_with (fail)
    refine (bu_awake _).mono ?_
    rintro e w1 ⟨rfl, h1⟩
    go_wp2_with (fail)
    go_ret
    exact ⟨rfl, h1⟩
  · have g1 : decide (M < s.size) = false := by simpa using h1
    by_cases h2 : 500 < more.size
    · go_enter Try.func9, Try.ntmps9
      go_wp2_with (fail)
      refine (CM.out _).mono ?_
      rintro e w1 ⟨rfl, rfl⟩
      go_wp2_with (fail)
      refine (bu_awake _).mono ?_
      rintro e w1 ⟨rfl, h1⟩
      go_wp2_with (fail)
      go_ret
      exact ⟨rfl, h1⟩
    · have CN := Lib.hid (bs_new s (M : Int) M (by rw [imax_eq, imin_eq]; omega) (by omega) W W (Below.refl _ _) (by omega))
      obtain ⟨k, hk, _, ck0⟩ := place_n at' (s.size + 1) (by omega) (by omega)
      have CK : Hid (∀ w : World, Calls Try.prog 17 #[.int .i64 at', .int .i64 ((s.size : Int) + 1)] w fun e w' => e = .returned (.int .i64 (k : Nat)) ∧ w = w') := Lib.hid ck0
      clear ck0
      have hsl : s.data.toList.length = s.size := by simp
      have hml : more.data.toList.length = more.size := by simp
      have HSL := Lib.hid hsl
      have HML := Lib.hid hml
      clear hsl hml
      have h500 : more.size ≤ 500 := by omega
      have h1' : s.size ≤ M := by omega
      clear h1 h2
      by_cases h3 : M < s.size + more.size
      · have g2 : decide ((M : Int) < (s.size : Int) + (more.size : Int)) = true := by simp; omega
        have g3 : decide (M < s.size + more.size) = true := by simpa using h3
        have R1 := Lib.hid (insR_big s.data.toList more.data.toList M k (by rw [HSL.out]; omega) (by rw [HSL.out, HML.out]; exact h3))
        have R2 : Hid (delR s.data.toList 0 (s.size : Int) = (0, (⟨#[]⟩ : ByteArray).data.toList)) := Lib.hid (by
          have := delR_ok s.data.toList 0 s.size (by rw [HSL.out]; omega)
          simp only [Nat.zero_add, List.take_zero, List.nil_append] at this
          rw [show ((0 : Nat) : Int) = 0 from rfl] at this
          rw [this, List.drop_of_length_le (by rw [HSL.out]; exact Nat.le_refl _)])
        go_enter Try.func9, Try.ntmps9
        go_wp2_with (fail)
        refine (CM.out _).mono ?_
        rintro e w1 ⟨rfl, rfl⟩
        go_wp2_with (fail)
        refine CN.out.mono ?_
        rintro e w1 ⟨b, kk, rfl, hkk, t1⟩
        have CI := Lib.hid (bs_insert s s (k : Int) more 3 t1 R1.out (by decide) hm)
        clear t1 CN
        go_wp2_with (fail)
        refine (CK.out _).mono ?_
        rintro e w2 ⟨rfl, rfl⟩
        go_wp2_with (fail)
        refine CI.out.mono ?_
        rintro e w3 ⟨rfl, k3, hk3, t3⟩
        have CT := Lib.hid (bs_text s t3 (by decide))
        clear t3 CI
        go_wp2_with (fail)
        refine CT.out.mono ?_
        rintro e w4 ⟨rfl, t4⟩
        have CD := Lib.hid (bs_delete s ⟨#[]⟩ 0 (s.size : Int) 0 t4 R2.out (by decide))
        clear t4 CT
        go_wp2_with (fail)
        refine CD.out.mono ?_
        rintro e w5 ⟨rfl, k5, hk5, t5⟩
        have CL := Lib.hid (bs_len ⟨#[]⟩ t5)
        rw [show ((⟨#[]⟩ : ByteArray).size) = 0 from rfl] at CL
        have T5 := Lib.hid t5
        clear t5 CD
        go_wp2_with (fail)
        refine CL.out.mono ?_
        rintro e w6 ⟨rfl, rfl⟩
        by_cases h4 : more.size ≤ M
        · have g5 : decide (more.size ≤ M) = true := by simpa using h4
          have R3 : Hid (insR (⟨#[]⟩ : ByteArray).data.toList M 0 more.data.toList = (0, more.data.toList)) := Lib.hid (by
            have := insR_ok (⟨#[]⟩ : ByteArray).data.toList more.data.toList M 0 (by decide) (by rw [HML.out]; simpa using h4)
            simpa using this)
          have CI2 := Lib.hid (bs_insert ⟨#[]⟩ more 0 more 0 T5.out R3.out (by decide) hm)
          go_wp2_with (fail)
          refine CI2.out.mono ?_
          rintro e w7 ⟨rfl, k7, hk7, t7⟩
          have T7 := Lib.hid t7.below
          clear t7 CI2
          go_wp2_with (fail)
          refine (bu_awake _).mono ?_
          rintro e w8 ⟨rfl, h8⟩
          go_wp2_with (fail)
          go_ret
          exact ⟨rfl, T7.out.trans (h8.mono T7.out.size)⟩
        · have g5 : decide (more.size ≤ M) = false := by simpa using h4
          have R3 : Hid (insR (⟨#[]⟩ : ByteArray).data.toList M 0 more.data.toList = (3, (⟨#[]⟩ : ByteArray).data.toList)) := Lib.hid (by
            have := insR_big (⟨#[]⟩ : ByteArray).data.toList more.data.toList M 0 (by decide) (by rw [HML.out]; simp; omega)
            simpa using this)
          have CI2 := Lib.hid (bs_insert ⟨#[]⟩ ⟨#[]⟩ 0 more 3 T5.out R3.out (by decide) hm)
          go_wp2_with (fail)
          refine CI2.out.mono ?_
          rintro e w7 ⟨rfl, k7, hk7, t7⟩
          have T7 := Lib.hid t7.below
          clear t7 CI2
          go_wp2_with (fail)
          refine (bu_awake _).mono ?_
          rintro e w8 ⟨rfl, h8⟩
          go_wp2_with (fail)
          go_ret
          exact ⟨rfl, T7.out.trans (h8.mono T7.out.size)⟩
      · have g2 : decide ((M : Int) < (s.size : Int) + (more.size : Int)) = false := by simp; omega
        have g3 : decide (M < s.size + more.size) = false := by simpa using h3
        obtain ⟨y, hy⟩ : ∃ y, y = s.extract 0 k ++ more ++ s.extract k s.size := ⟨_, rfl⟩
        have hyd : y.data.toList = s.data.toList.take k ++ (more.data.toList ++ s.data.toList.drop k) := by
          rw [hy]; simp only [ByteArray.data_append, Array.toList_append, ext_take, ext_drop, List.append_assoc]
        have R1 : Hid (insR s.data.toList M (k : Int) more.data.toList = (0, y.data.toList)) := Lib.hid (by rw [hyd]; exact insR_ok _ _ _ _ (by rw [HSL.out]; omega) (by rw [HSL.out, HML.out]; omega))
        have R2 : Hid (delR y.data.toList (k : Int) (more.size : Int) = (0, s.data.toList)) := Lib.hid (by
          rw [hyd, ← HML.out, delR_ok _ _ _ (by rw [List.length_append, List.length_take, List.length_append, HSL.out]; omega), put_take _ _ _ (by rw [HSL.out]; omega)])
        have HY := Lib.hid hy
        clear hy hyd
        go_enter Try.func9, Try.ntmps9
        go_wp2_with (fail)
        refine (CM.out _).mono ?_
        rintro e w1 ⟨rfl, rfl⟩
        go_wp2_with (fail)
        refine CN.out.mono ?_
        rintro e w1 ⟨b, kk, rfl, hkk, t1⟩
        have CI := Lib.hid (bs_insert s y (k : Int) more 0 t1 R1.out (by decide) hm)
        clear t1 CN
        go_wp2_with (fail)
        refine (CK.out _).mono ?_
        rintro e w2 ⟨rfl, rfl⟩
        go_wp2_with (fail)
        refine CI.out.mono ?_
        rintro e w3 ⟨rfl, k3, hk3, t3⟩
        have CT := Lib.hid (fun n => bs_text y (t3.drewN n) (by decide))
        rw [HY.out] at CT
        clear t3 CI
        go_wp2_with (fail)
        refine Own.region_mix (CR [] []) [] [0, 1, 3, 7, 15, 7, 7, 103, 7, 487, 7, 7, 3079, 8167, 16383, 32767, 65535, 131071, 131071, 131071, 655359, 2097151, 4194303, 8388607, 16777215, 33554431, 67108863, 33554431, 268435455, 536870911, 1073741823, 2147483647, 4294967295, 8589934591] (Own.Ord.run [(0, true), (1, true), (2, true), (3, true), (5, true), (6, true), (7, true), (8, true), (9, true), (10, true), (11, true), (12, true), (13, true), (4, false), (14, true), (15, true), (16, true), (17, true), (18, true), (19, true), (20, true), (21, false), (22, true), (23, true), (24, true), (25, true), (27, true), (26, false), (28, true), (29, true), (30, true), (31, false), (32, true), (33, true)] .done) (by kernel_rfl) (by kernel_rfl) (fun dst v c a w h => by cases dst <;> exact h) (fun x hx w => CR.off x hx w) ?_
        simp only [Own.Ord.run]
        repeat (refine Own.st_blind _ rfl rfl (CR.off _ (by decide) _) ?_; go_big_quiet_step (fail); refine wpQuiet_nil ?_)
        refine Own.st_do _ rfl rfl (fun K hK => ?_)
        go_simp
        refine (CT.out 1).mono ?_
        rintro e w4 ⟨rfl, t4⟩
        rw [← HY.out] at t4
        have CD := Lib.hid (bs_delete y s (k : Int) (more.size : Int) 0 t4 R2.out (by decide))
        clear t4 CT
        refine hK _ _ (fun q hq hd => by cases hq) ?_
        clear hK K
        repeat (refine Own.st_blind _ rfl rfl (CR.off _ (by decide) _) ?_; go_big_quiet_step (fail); refine wpQuiet_nil ?_)
        refine Own.st_do _ rfl rfl (fun K hK => ?_)
        go_simp
        refine CD.out.mono ?_
        rintro e w5 ⟨rfl, k5, hk5, t5⟩
        have CT := Lib.hid (bs_text s t5 (by decide))
        clear t5 CD
        refine hK _ _ (fun q hq hd => by cases hq) ?_
        clear hK K
        repeat (refine Own.st_blind _ rfl rfl (CR.off _ (by decide) _) ?_; go_big_quiet_step (fail); refine wpQuiet_nil ?_)
        refine Own.st_do _ rfl rfl (fun K hK => ?_)
        go_simp
        refine CT.out.mono ?_
        rintro e w6 ⟨rfl, t6⟩
        have T6 := Lib.hid t6.below
        clear t6 CT
        refine hK _ _ (fun q hq hd => by cases hq) ?_
        clear hK K
        repeat (refine Own.st_blind _ rfl rfl (CR.off _ (by decide) _) ?_; go_big_quiet_step (fail); refine wpQuiet_nil ?_)
        refine Own.st_do _ rfl rfl (fun K hK => ?_)
        go_simp
        refine (bu_awake _).mono ?_
        rintro e w7 ⟨rfl, h7⟩
        refine hK _ _ (fun q hq hd => by cases hq) ?_
        clear hK K
        repeat (refine Own.st_blind _ rfl rfl (CR.off _ (by decide) _) ?_; go_big_quiet_step (fail); refine wpQuiet_nil ?_)
        refine Own.mix_done ?_
        go_wp2_with (fail)
        go_ret
        exact ⟨rfl, T6.out.trans (h7.mono T6.out.size)⟩
end Go.Proofs.Ytemcffihfeaniaa

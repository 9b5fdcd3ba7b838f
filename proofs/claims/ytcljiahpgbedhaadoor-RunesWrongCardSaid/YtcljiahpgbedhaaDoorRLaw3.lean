/- RunesSide. -/
import Derived.Test.YtcljiahpgbedhaaDoorRLaw2
namespace Go.Proofs.YtcljiahpgbedhaaDoor
open Go.RowKit Go.Deep Go.Own
set_option linter.unusedVariables false
theorem code_min (s : ByteArray) (i : Nat) : -256 ≤ uCode s i ∧ uCode s i ≤ 1114111 := by
  have hb := uB_lt s i
  have hm := u_max s i
  unfold uCode
  split <;> omega
theorem code_neg (s : ByteArray) (i : Nat) (h : uCode s i < 0) : uLen s i = 1 ∧ uCode s i = -1 - (uB s i : Int) := by
  have hb : (Utf8.decode s i).1 = 65533 ∧ (Utf8.decode s i).2 = 1 := by
    rcases Classical.em ((Utf8.decode s i).1 = 65533 ∧ (Utf8.decode s i).2 = 1) with h1 | h1
    · exact h1
    · have := (uCode_sign s i).2 h1; omega
  exact ⟨hb.2, uCode_bad hb⟩
set_option maxRecDepth 100000 in
set_option maxHeartbeats 8000000 in
theorem runesSide_walk (s t : ByteArray) (w : World) (hs : s.size ≤ 140737488351232) (ht : t.size ≤ 140737488351232) (hT : Tabs w) :
    Calls Tryd.prog 4 #[.string s, .string t] w fun e w' => e = .returned (.bool true) ∧ Below w.heap.size w w' := by
  have CW := Lib.hid (fun (w1 : World) (h : Below w.heap.size w w1) => rawake_calls w1 (hT.below h))
  by_cases h1 : 1000 < s.size
  · have g1 : decide (1000 < s.size) = true := by simpa using h1
    clear hT
    go_enter Tryd.func4, Tryd.ntmps4
    go_wp2_with (fail)
    refine (CW.out _ (Below.refl _ _)).mono ?_
    rintro e w1 ⟨rfl, b1⟩
    go_wp2_with (fail)
    go_ret
    exact ⟨rfl, b1⟩
  · have g1 : decide (1000 < s.size) = false := by simpa using h1
    by_cases h2 : 1000 < t.size
    · have g2 : decide (1000 < t.size) = true := by simpa using h2
      clear hT
      go_enter Tryd.func4, Tryd.ntmps4
      go_wp2_with (fail)
      refine (CW.out _ (Below.refl _ _)).mono ?_
      rintro e w1 ⟨rfl, b1⟩
      go_wp2_with (fail)
      go_ret
      exact ⟨rfl, b1⟩
    · have g2 : decide (1000 < t.size) = false := by simpa using h2
      have CA := Lib.hid (uall_calls s w (by omega) hT)
      have CAt := Lib.hid (fun (w1 : World) (h : Below w.heap.size w w1) (i : Nat) (hi : i < s.size) => uat_in s i w1 hi (by omega) (hT.below h))
      have CC := Lib.hid (fun (w1 : World) (h : Below w.heap.size w w1) => ucodes_calls s w1 (by omega) (hT.below h))
      have CA1 := Lib.hid (fun (w1 : World) (h : Below w.heap.size w w1) => uall_calls s w1 (by omega) (hT.below h))
      have CA2 := Lib.hid (fun (w1 : World) (h : Below w.heap.size w w1) => uall_calls t w1 (by omega) (hT.below h))
      have CA3 := Lib.hid (fun (w1 : World) (h : Below w.heap.size w w1) => uall_calls (s ++ t) w1 (by rw [ByteArray.size_append]; omega) (hT.below h))
      have hlen := Lib.hid (fun h : okU s = true => by
        have := congrArg List.length (units_append s t h)
        rw [List.length_append, List.length_map] at this
        exact this)
      have hul : (units s).length ≤ s.size := unitsFrom_len s s.size 0
      have hut : (units t).length ≤ t.size := unitsFrom_len t t.size 0
      obtain ⟨us, hus⟩ : ∃ us, us = units s := ⟨_, rfl⟩
      have HUS := Lib.hid hus
      rw [← hus] at CA hul
      clear hT hus
      go_enter Tryd.func4, Tryd.ntmps4
      go_wp2_with (fail)
      refine CA.out.mono ?_
      rintro e w1 ⟨v, rfl, r1, b1⟩
      obtain ⟨A, cp, rfl⟩ := own_is r1
      have R1 := Lib.hid r1
      have B1 := Lib.hid b1
      clear r1 b1 CA
      go_wp2_with (fail)
      go_loopw [5, 24] (fun av iv wr => ∃ j f a : Nat, iv = .int .i64 (j : Nat) ∧ av = .int .i64 (a : Nat) ∧ j ≤ us.length ∧ a ≤ s.size ∧ us.drop j = unitsFrom s f a ∧ s.size ≤ a + f ∧ RowU wr w.heap.size (.slice A us.length cp) us ∧ Below w.heap.size w wr) (fun _ iv _ => us.length - (intOf iv).toNat)
      case atStart => exact ⟨0, s.size, 0, rfl, rfl, Nat.zero_le _, Nat.zero_le _, HUS.out, by omega, R1.out, B1.out⟩
      case round =>
        obtain ⟨j, f, a, rfl, rfl, hj, ha, hd, hf, hR, hbw⟩ := hrel
        clear R1 B1
        by_cases hlt : j < us.length
        · have g3 : decide (j < us.length) = true := by simpa using hlt
          have hu0 : us[j]? = (unitsFrom s f a)[0]? := by rw [← hd, List.getElem?_drop, Nat.add_zero]
          have has : a < s.size := by
            rcases Nat.lt_or_ge a s.size with h | h
            · exact h
            · rw [unitsFrom_end s f a (by omega), List.getElem?_eq_getElem hlt] at hu0
              cases hu0
          obtain ⟨f, rfl⟩ : ∃ k, f = k + 1 := ⟨f - 1, by omega⟩
          have huf : unitsFrom s (f + 1) a = (a, uLen s a, uCode s a) :: unitsFrom s f (a + uLen s a) := by rw [unitsFrom, if_pos has]
          rw [huf] at hu0 hd
          have hd2 : us.drop (j + 1) = unitsFrom s f (a + uLen s a) := by
            rw [← List.tail_drop, hd]; rfl
          have hl1 : 1 ≤ uLen s a := u_len1 s a
          have hl4 : uLen s a ≤ 4 := u_len4 s a
          have hfit : a + uLen s a ≤ s.size := u_fits s a has
          have hcm := code_min s a
          have hneg := code_neg s a
          have hpos := enc_dec s a has
          have HX := s_index s a has
          have CA0 := Lib.hid (fun w1 h => CAt.out w1 h a has)
          obtain ⟨n, hn⟩ : ∃ n, uLen s a = n := ⟨_, rfl⟩
          obtain ⟨c, hc⟩ : ∃ c, uCode s a = c := ⟨_, rfl⟩
          rw [hn, hc] at hu0 CA0
          rw [hn] at hl1 hl4 hfit hneg hpos hd2
          rw [hc] at hcm hneg hpos
          have hb := uB_lt s a
          obtain ⟨x, hx⟩ : ∃ x, uB s a = x := ⟨_, rfl⟩
          rw [hx] at hneg HX hb
          have hu0' : us[j]? = some (a, n, c) := hu0
          obtain ⟨q, rfl, hq, d0, d1, d2⟩ := (hR.reads).2.at hu0'
          obtain ⟨M, hM⟩ : ∃ M, M = wr.heap.size := ⟨_, rfl⟩
          obtain ⟨w2, hw2⟩ : ∃ w2, w2 = wr.alloc (.cells #[Value.int .i64 (a : Nat), .int .i64 (n : Nat), .int .i64 c] 24) := ⟨_, rfl⟩
          have n2 : w2.heap[M]? = some (.cells #[.int .i64 (a : Nat), .int .i64 (n : Nat), .int .i64 c] 24 (0, 0)) := by rw [hw2, hM]; exact blk_new wr _
          have b2 : Below wr.heap.size wr w2 := by rw [hw2]; exact (Below.refl _ _).alloc (Nat.le_refl _) _
          have hb2 : Below w.heap.size w w2 := hbw.trans (b2.mono hbw.size)
          obtain ⟨m0, m1, m2⟩ := cell3_of n2
          have R2 := Lib.hid (hR.below b2)
          have B2 := Lib.hid hb2
          have N2 := Lib.hid n2
          have HM := Lib.hid hM
          have HW2 := Lib.hid hw2
          have HD2 := Lib.hid hd2
          have HFIT := Lib.hid (show _ ∧ _ ∧ _ ∧ _ from ⟨hfit, hf, hlt, hn⟩)
          clear hR hbw n2 b2 hb2 hM hw2 hd hd2 hu0 hu0' huf hn hc hx m0 m1 m2
          go_wp2_with (fail)
          rw [← HW2.out, ← HM.out]
          refine (CA0.out _ B2.out).mono ?_
          unfold unitV
          rintro e w3 ⟨rfl, b3⟩
          have hb3 : Below w2.heap.size w2 (w3.alloc (.cells #[Value.int .i64 (a : Nat), .int .i64 (n : Nat), .int .i64 c] 24)) := b3.alloc b3.size _
          have k3 := (hb3.block M (Array.getElem?_eq_some_iff.1 N2.out).1).trans N2.out
          have l3 := blk_new w3 (.cells #[Value.int .i64 (a : Nat), .int .i64 (n : Nat), .int .i64 c] 24)
          obtain ⟨m0, m1, m2⟩ := cell3_of k3
          obtain ⟨p0, p1, p2⟩ := cell3_of l3
          have R3 := Lib.hid (R2.out.below hb3)
          have B3 := Lib.hid (B2.out.trans (hb3.mono B2.out.size))
          have t1 : decide ((n : Int) < 1) = false := by simp; omega
          have t2 : decide ((4 : Int) < (n : Int)) = false := by simp; omega
          have t3 : decide ((s.size : Int) < (a : Int) + (n : Int)) = false := by simp; omega
          clear b3 hb3 k3 l3 CA0
          by_cases hc0 : c < 0
          · obtain ⟨e1, e2⟩ := hneg hc0
            have t4 : decide (c < 0) = true := by simp; omega
            have t5 : decide ((0 : Int) ≤ c) = false := by simp; omega
            have t6 : (-1 - c == (x : Int)) = true := by simp; omega
            have t7 : ((n : Int) == 1) = true := by simp; omega
            have t8 : decide ((n : Int) = 1) = true := by simp; omega
            have t9 : decide (-1 - c = (x : Int)) = true := by simp; omega
            have u1 : n = 1 := by omega
            have u2 : ((n : Int) != 1) = false := by simp; omega
            have u3 : (n == 1) = true := by simp; omega
            have u4 : decide (n = 1) = true := by simp; omega
            have u5 : decide (¬ n = 1) = false := by simp; omega
            have u6 : (-1 - c != (x : Int)) = false := by simp; omega
            have u7 : decide (¬ -1 - c = (x : Int)) = false := by simp; omega
            have u8 : decide (-1 - c ≠ (x : Int)) = false := by simp; omega
            clear e1 e2 u1
            clear hpos hneg hc0
            go_wp2_with (fail)
            obtain ⟨w5, hw5⟩ : ∃ w5, w5 = (w3.alloc (.cells #[Value.int .i64 (a : Nat), .int .i64 (n : Nat), .int .i64 c] 24)) := ⟨_, rfl⟩
            rw [← hw5] at m0 m1 m2 p0 p1 p2 R3 B3 ⊢
            clear hw5
            refine Own.region_all (fun w' => ∃ n, w' = World.drewN w5 n) (by kernel_rfl) (by kernel_rfl) ⟨1, rfl⟩ ?_
            simp only [List.append_eq, List.cons_append, List.nil_append]
            repeat (go_big_quiet_step (fail))
            refine wpQuiet_nil ?_
            rintro _ ⟨nq, rfl⟩
            go_wp2_with (fail)
            go_roundw
            case rel =>
              obtain ⟨h1, h2, h3, h4⟩ := HFIT.out
              exact ⟨j + 1, f, a + n, by go_num, by go_num, h3, h1, HD2.out, by omega, R3.out.below (below_drewN _ _), B3.out.trans ((below_drewN _ _).mono B3.out.size)⟩
            case measure => have := HFIT.out; simp [intOf]; omega
          · have hp := hpos (by omega)
            have CB : Hid (∀ w : World, Calls Tryd.prog 20 #[.int .i64 c] w fun e w' => e = .returned (.string (s.extract a (a + n))) ∧ w' = w) := Lib.hid (by rw [← hp]; exact fun w => ubytes_calls c w)
            have HE : (s.extract a (a + n)).toList == (s.extract a (a + n)).toList := bytes_self _
            have t4 : decide (c < 0) = false := by simp; omega
            have t5 : decide ((0 : Int) ≤ c) = true := by simp; omega
            have t6 : (a : Int) ≤ (a : Int) + (n : Int) := by omega
            have t7 : (a : Int) + (n : Int) ≤ (s.size : Int) := by omega
            clear hpos hneg hp
            go_wp2_with (fail)
            obtain ⟨w5, hw5⟩ : ∃ w5, w5 = (w3.alloc (.cells #[Value.int .i64 (a : Nat), .int .i64 (n : Nat), .int .i64 c] 24)) := ⟨_, rfl⟩
            rw [← hw5] at m0 m1 m2 p0 p1 p2 R3 B3 ⊢
            clear hw5
            have CB' : Hid (∀ z : Nat, Calls Tryd.prog 20 #[.int .i64 c] (w5.drewN z) fun e w' => e = .returned (.string (s.extract a (a + n))) ∧ w' = w5.drewN z) := Lib.hid (fun z => CB.out _)
            refine Own.region_all (fun w' => ∃ n, w' = World.drewN w5 n) (by kernel_rfl) (by kernel_rfl) ⟨1, rfl⟩ ?_
            simp only [List.append_eq, List.cons_append, List.nil_append]
            repeat (go_big_quiet_step (with_reducible exact Calls.quiet_of_same (CB'.out _)))
            refine wpQuiet_nil ?_
            rintro _ ⟨nq, rfl⟩
            go_wp2_with (fail)
            go_roundw
            case rel =>
              obtain ⟨h1, h2, h3, h4⟩ := HFIT.out
              exact ⟨j + 1, f, a + n, by go_num, by go_num, h3, h1, HD2.out, by omega, R3.out.below (below_drewN _ _), B3.out.trans ((below_drewN _ _).mono B3.out.size)⟩
            case measure => have := HFIT.out; simp [intOf]; omega
        · have g3 : decide (j < us.length) = false := by simpa using hlt
          have hae : a = s.size := by
            rw [List.drop_eq_nil_of_le (by omega)] at hd
            rcases Nat.lt_or_ge a s.size with h | h
            · obtain ⟨f', rfl⟩ : ∃ k, f = k + 1 := ⟨f - 1, by omega⟩
              rw [unitsFrom, if_pos h] at hd
              cases hd
            · omega
          subst hae
          have CC0 := Lib.hid (CC.out _ hbw)
          have HB := Lib.hid hbw
          have hss : ((s.size : Int) == (s.size : Int)) = true := by simp
          clear hR hbw hd
          unfold CodesPost at CC0
          by_cases hok : okU s = true
          · rw [hok] at CC0
            have HL := Lib.hid (hlen.out hok)
            clear hok
            go_wp2_with (fail)
            refine CC0.out.mono ?_
            rintro e w2 ⟨⟨v2, rfl, o2⟩, b2⟩
            have B2 := Lib.hid (HB.out.trans (b2.mono HB.out.size))
            clear o2 b2 CC0
            go_wp2_with (fail)
            refine (CA3.out _ B2.out).mono ?_
            rintro e w3 ⟨v3, rfl, r3, b3⟩
            obtain ⟨A3, c3, rfl⟩ := own_is r3
            have B3 := Lib.hid (B2.out.trans (b3.mono B2.out.size))
            clear r3 b3
            go_wp2_with (fail)
            refine (CA1.out _ B3.out).mono ?_
            rintro e w4 ⟨v4, rfl, r4, b4⟩
            obtain ⟨A4, c4, rfl⟩ := own_is r4
            have B4 := Lib.hid (B3.out.trans (b4.mono B3.out.size))
            clear r4 b4
            go_wp2_with (fail)
            refine (CA2.out _ B4.out).mono ?_
            rintro e w5 ⟨v5, rfl, r5, b5⟩
            obtain ⟨A5, c5, rfl⟩ := own_is r5
            have B5 := Lib.hid (B4.out.trans (b5.mono B4.out.size))
            clear r5 b5
            obtain ⟨x1, hx1⟩ : ∃ x, (units (s ++ t)).length = x := ⟨_, rfl⟩
            obtain ⟨x2, hx2⟩ : ∃ x, (units s).length = x := ⟨_, rfl⟩
            obtain ⟨x3, hx3⟩ : ∃ x, (units t).length = x := ⟨_, rfl⟩
            have hq1 : x2 ≤ s.size := by rw [← hx2]; exact unitsFrom_len s s.size 0
            have hl := HL.out
            rw [hx1, hx2, hx3] at hl
            rw [hx3] at hut
            have hq : ((x1 : Int) == (x2 : Int) + (x3 : Int)) = true := by simp; omega
            have hq' : decide ((x1 : Int) = (x2 : Int) + (x3 : Int)) = true := by simp; omega
            rw [hx3]
            try rw [hx1]
            try rw [hx2]
            clear hl HL
            go_wp2_with (fail)
            refine (CW.out _ B5.out).mono ?_
            rintro e w6 ⟨rfl, b6⟩
            go_wp2_with (fail)
            go_ret
            exact ⟨rfl, B5.out.trans (b6.mono B5.out.size)⟩
          · rw [Bool.not_eq_true] at hok
            rw [hok] at CC0
            clear hok
            go_wp2_with (fail)
            refine CC0.out.mono ?_
            rintro e w2 ⟨⟨v2, rfl, o2⟩, b2⟩
            have B2 := Lib.hid (HB.out.trans (b2.mono HB.out.size))
            clear o2 b2 CC0
            go_wp2_with (fail)
            refine (CW.out _ B2.out).mono ?_
            rintro e w3 ⟨rfl, b3⟩
            go_wp2_with (fail)
            go_ret
            exact ⟨rfl, B2.out.trans (b3.mono B2.out.size)⟩
end Go.Proofs.YtcljiahpgbedhaaDoor

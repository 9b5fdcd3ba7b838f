/- RunesWrong. -/
import Derived.Test.YtcljiahpgbedhaaDoorRLaw3
namespace Go.Proofs.YtcljiahpgbedhaaDoor
open Go.RowKit Go.Deep Go.Own
set_option linter.unusedVariables false
def aK : Nat → ByteArray
  | 0 => ⟨#[195, 169, 32, 97, 98, 32, 230, 188, 162, 32, 120, 121, 122]⟩
  | i + 1 => aK i ++ ⟨#[195, 169]⟩
theorem aK_size : ∀ i, (aK i).size = 13 + 2 * i
  | 0 => rfl
  | i + 1 => by
    show (aK i ++ ⟨#[195, 169]⟩).size = _
    rw [ByteArray.size_append, aK_size i]
    show 13 + 2 * i + 2 = _
    omega
theorem aK_ok : ∀ i, okU (aK i) = true
  | 0 => by decide +kernel
  | i + 1 => by
    show okU (aK i ++ ⟨#[195, 169]⟩) = true
    rw [okU_append _ _ (aK_ok i)]
    exact ok_e9.1
def badU (W : ByteArray) (i : Nat) : Nat × Nat × Int := (i, 1, -1 - (uB W i : Int))
structure BadW (W : ByteArray) : Prop where
  un : units (W ++ ⟨#[122]⟩) = (List.range W.size).map (badU W) ++ [(W.size, 1, 122)]
  lo : 1 ≤ W.size
  hi : W.size ≤ 4
def wrongA : Array Value := #[.string ⟨#[192, 128]⟩, .string ⟨#[237, 160, 128]⟩, .string ⟨#[245, 128, 128, 128]⟩, .string ⟨#[128]⟩, .string ⟨#[226, 130]⟩, .string ⟨#[240, 128, 128, 128]⟩, .string ⟨#[255]⟩, .string ⟨#[195]⟩]
set_option maxRecDepth 100000 in
theorem wrong_index (i : Nat) (h1 : i < 8) : ∃ W : ByteArray, BadW W ∧ ∀ w : World, (Instr.index 39 (.agg wrongA) (.int .i64 (i : Nat))).run Tryd.prog w = .ok (.string W) w := by
  have h : i = 0 ∨ i = 1 ∨ i = 2 ∨ i = 3 ∨ i = 4 ∨ i = 5 ∨ i = 6 ∨ i = 7 := by omega
  rcases h with rfl | rfl | rfl | rfl | rfl | rfl | rfl | rfl
  · exact ⟨⟨#[192, 128]⟩, ⟨by decide +kernel, by decide, by decide⟩, fun w => by kernel_rfl⟩
  · exact ⟨⟨#[237, 160, 128]⟩, ⟨by decide +kernel, by decide, by decide⟩, fun w => by kernel_rfl⟩
  · exact ⟨⟨#[245, 128, 128, 128]⟩, ⟨by decide +kernel, by decide, by decide⟩, fun w => by kernel_rfl⟩
  · exact ⟨⟨#[128]⟩, ⟨by decide +kernel, by decide, by decide⟩, fun w => by kernel_rfl⟩
  · exact ⟨⟨#[226, 130]⟩, ⟨by decide +kernel, by decide, by decide⟩, fun w => by kernel_rfl⟩
  · exact ⟨⟨#[240, 128, 128, 128]⟩, ⟨by decide +kernel, by decide, by decide⟩, fun w => by kernel_rfl⟩
  · exact ⟨⟨#[255]⟩, ⟨by decide +kernel, by decide, by decide⟩, fun w => by kernel_rfl⟩
  · exact ⟨⟨#[195]⟩, ⟨by decide +kernel, by decide, by decide⟩, fun w => by kernel_rfl⟩
theorem vs_eq (a W : ByteArray) (ha : okU a = true) (hW : BadW W) : units (a ++ W ++ ⟨#[122]⟩) = units a ++ ((List.range W.size).map fun i => (a.size + i, 1, -1 - (uB W i : Int))) ++ [(a.size + W.size, 1, 122)] := by
  rw [ByteArray.append_assoc, units_append a _ ha, hW.un, List.map_append, List.map_map, List.append_assoc]
  rfl
theorem vs_ok (a W : ByteArray) (ha : okU a = true) (hW : BadW W) : okU (a ++ W ++ ⟨#[122]⟩) = false := by
  rw [ByteArray.append_assoc, okU_append a _ ha]
  unfold okU
  rw [hW.un, List.all_append]
  have : ((List.range W.size).map (badU W)).all (fun u => decide (0 ≤ u.2.2)) = false := by
    rw [List.all_eq_false]
    refine ⟨badU W 0, List.mem_map.2 ⟨0, List.mem_range.2 hW.lo, rfl⟩, ?_⟩
    unfold badU
    simp
    omega
  rw [this]; rfl
set_option maxRecDepth 100000 in
set_option maxHeartbeats 8000000 in
theorem runesWrong_walk (how n : Int) (w : World) (hv : (Lit.int .i64 how).wf = true) (hc : (Lit.int .i64 n).wf = true) (hT : Tabs w) :
    Calls Tryd.prog 6 #[.int .i64 how, .int .i64 n] w fun e w' => e = .returned (.bool true) ∧ Below w.heap.size w w' := by
  obtain ⟨p, hp, _, cp⟩ := place_nat how 8 (by decide) (by decide)
  obtain ⟨k, hk, _, ck⟩ := place_nat n 20 (by decide) (by decide)
  have CP : Hid (∀ w : World, Calls Tryd.prog 23 #[.int .i64 how, .int .i64 8] w fun e w' => e = .returned (.int .i64 (p : Nat)) ∧ w = w') := Lib.hid cp
  have CK : Hid (∀ w : World, Calls Tryd.prog 23 #[.int .i64 n, .int .i64 20] w fun e w' => e = .returned (.int .i64 (k : Nat)) ∧ w = w') := Lib.hid ck
  obtain ⟨W, hW, HI⟩ := wrong_index p hp
  have HBW := Lib.hid hW
  have hWl := hW.lo
  have hWh := hW.hi
  have HT := Lib.hid hT
  clear cp ck hT hW
  have HIH := Lib.hid HI
  clear HI
  go_enter Tryd.func6, Tryd.ntmps6
  go_wp2_with (fail)
  refine (CP.out _).mono ?_
  rintro e w0 ⟨rfl, rfl⟩
  have HI := HIH.out
  unfold wrongA at HI
  generalize hag : Value.agg _ = ag at HI
  clear HIH
  go_wp2_with (fail)
  refine (CK.out _).mono ?_
  rintro e w0 ⟨rfl, rfl⟩
  clear CP CK
  go_wp2_with (fail)
  go_loopw [7, 8] (fun sv iv wr => ∃ i : Nat, i ≤ k ∧ sv = .string (aK i) ∧ iv = .int .i64 (i : Nat) ∧ wr = w) (fun _ iv _ => k - (intOf iv).toNat)
  case atStart => exact ⟨0, Nat.zero_le _, rfl, rfl, rfl⟩
  case round =>
    obtain ⟨i, hi, rfl, rfl, rfl⟩ := hrel
    have hsz := aK_size i
    by_cases hlt : i < k
    · have g1 : decide (i < k) = true := by simpa using hlt
      have hsu : (aK i).size ≤ 60 := by omega
      have HSZ := Lib.hid hsz
      clear hsz
      go_wp2_with (fail)
      go_roundw
      case rel => exact ⟨i + 1, hlt, rfl, by go_num, by first | rfl | trivial⟩
      case measure => simp [intOf]; omega
    · have g1 : decide (i < k) = false := by simpa using hlt
      obtain rfl : i = k := by omega
      have hvs := vs_eq (aK i) W (aK_ok i) HBW.out
      have hvo := vs_ok (aK i) W (aK_ok i) HBW.out
      obtain ⟨a, ha⟩ : ∃ a, a = aK i := ⟨_, rfl⟩
      rw [← ha] at hvs hvo hsz
      rw [← ha]
      have hul : (units a).length ≤ a.size := unitsFrom_len a a.size 0
      obtain ⟨us, hus⟩ : ∃ us, us = units a := ⟨_, rfl⟩
      have C1 := Lib.hid (uall_calls a wr (by omega) HT.out)
      rw [← hus] at C1 hvs hul
      obtain ⟨X, hX⟩ : ∃ X, X = a ++ W ++ ⟨#[122]⟩ := ⟨_, rfl⟩
      have hXs : X.size = a.size + W.size + 1 := by rw [hX, ByteArray.size_append, ByteArray.size_append]; rfl
      rw [← hX] at hvs hvo
      obtain ⟨vs, hvv⟩ : ∃ vs, vs = units X := ⟨_, rfl⟩
      rw [← hvv] at hvs
      have C2 := Lib.hid (fun (w1 : World) (h : Below wr.heap.size wr w1) => uall_calls X w1 (by omega) (HT.out.below h))
      rw [← hvv] at C2
      have C3 := Lib.hid (fun (w1 : World) (h : Below wr.heap.size wr w1) => ucodes_calls X w1 (by omega) (HT.out.below h))
      unfold CodesPost at C3
      rw [hvo] at C3
      have CW := Lib.hid (fun (w1 : World) (h : Below wr.heap.size wr w1) => rawake_calls w1 (HT.out.below h))
      have hvl : vs.length = us.length + W.size + 1 := by rw [hvs]; simp; omega
      have HVS := Lib.hid hvs
      have HVL := Lib.hid hvl
      have HXE := Lib.hid hX
      have hsa : a.size ≤ 60 := by omega
      have HAA := Lib.hid ha
      clear hvs hvl hus hvv hvo hX ha HT hsz HBW
      go_wp2_with (fail)
      refine C1.out.mono ?_
      rintro e w1 ⟨v, rfl, r1, b1⟩
      obtain ⟨A, cp, rfl⟩ := own_is r1
      have R1 := Lib.hid r1
      have B1 := Lib.hid b1
      clear r1 b1 C1
      go_wp2_with (fail)
      rw [← HXE.out]
      refine (C2.out _ B1.out).mono ?_
      rintro e w2 ⟨v2, rfl, r2, b2⟩
      obtain ⟨A2, cp2, rfl⟩ := own_is r2
      have RR := Lib.hid (show _ ∧ _ from ⟨(R1.out.below b2), r2⟩)
      have B2 := Lib.hid (B1.out.trans (b2.mono B1.out.size))
      clear r2 b2 C2 R1 B1
      obtain ⟨L, hL⟩ : ∃ L, L = us.length + W.size := ⟨_, rfl⟩
      have hvl : vs.length = L + 1 := by have := HVL.out; omega
      have q1 : (((L + 1 : Nat) : Int) == (us.length : Int) + (W.size : Int) + 1) = true := by simp; omega
      have q2 : decide (((L + 1 : Nat) : Int) = (us.length : Int) + (W.size : Int) + 1) = true := by simp; omega
      have q3 : ((L : Int) + 1 == (us.length : Int) + (W.size : Int) + 1) = true := by simp; omega
      have q4 : decide ((L : Int) + 1 = (us.length : Int) + (W.size : Int) + 1) = true := by simp; omega
      have q5 : ((L : Int) + 1 != (us.length : Int) + (W.size : Int) + 1) = false := by simp; omega
      have HL := Lib.hid hL
      have HVL2 := Lib.hid hvl
      rw [hvl]
      clear hL hvl
      go_wp2_with (fail)
      go_loopw [11] (fun iv wz => ∃ j nk : Nat, j ≤ us.length ∧ iv = .int .i64 (j : Nat) ∧ wz = w2.drewN nk) (fun iv _ => us.length - (intOf iv).toNat)
      case atStart => exact ⟨0, 0, Nat.zero_le _, rfl, rfl⟩
      case round =>
        obtain ⟨j, nk, hj, rfl, rfl⟩ := hrel
        by_cases hjl : j < us.length
        · have g2 : decide (j < us.length) = true := by simpa using hjl
          have g3 : decide ((j : Int) < (L : Int) + 1) = true := by have := HL.out; simp; omega
          have g4 : j < L + 1 := by have := HL.out; omega
          obtain ⟨⟨x, y, z⟩, hu⟩ : ∃ u, us[j]? = some u := ⟨_, List.getElem?_eq_getElem hjl⟩
          have hu2 : vs[j]? = some (x, y, z) := by rw [HVS.out, List.append_assoc, List.getElem?_append_left hjl, hu]
          obtain ⟨qa, rfl, _, a0, a1, a2⟩ := (RR.out.1.reads).2.at hu
          obtain ⟨qb, rfl, _, b0, b1, b2⟩ := (RR.out.2.reads).2.at hu2
          clear hu hu2
          go_wp2_with (fail)
          go_quiet (fail)
          go_wp2_with (fail)
          go_roundw
          case rel => exact ⟨j + 1, _, by omega, by go_num, rfl⟩
          case measure => simp [intOf]; omega
        · have g2 : decide (j < us.length) = false := by simpa using hjl
          go_wp2_with (fail)
          go_loopw [12] (fun iv wz => ∃ m : Nat, m ≤ W.size ∧ iv = .int .i64 (m : Nat) ∧ Below w2.heap.size w2 wz) (fun iv _ => W.size - (intOf iv).toNat)
          case atStart => exact ⟨0, Nat.zero_le _, rfl, below_drewN _ _⟩
          case round =>
            obtain ⟨m, hm, rfl, hbz⟩ := hrel
            by_cases hml : m < W.size
            · have g5 : decide (m < W.size) = true := by simpa using hml
              have g3 : decide ((us.length : Int) + (m : Int) < (L : Int) + 1) = true := by have := HL.out; simp; omega
              have g4 : us.length + m < L + 1 := by have := HL.out; omega
              have HX := s_index W m hml
              have hb := uB_lt W m
              have hu2 : vs[us.length + m]? = some (a.size + m, 1, -1 - (uB W m : Int)) := by
                rw [HVS.out, List.append_assoc, List.getElem?_append_right (by omega), Nat.add_sub_cancel_left, List.getElem?_append_left (by simpa using hml)]
                simp [hml]
              obtain ⟨x, hx⟩ : ∃ x, uB W m = x := ⟨_, rfl⟩
              rw [hx] at hu2 HX hb
              have hR := RR.out.2.below hbz
              obtain ⟨qb, rfl, _, b0, b1, b2⟩ := (hR.reads).2.at hu2
              obtain ⟨w5, hw5⟩ : ∃ w5, w5 = wr.alloc (.cells #[Value.int .i64 ((a.size + m : Nat) : Int), .int .i64 ((1 : Nat) : Int), .int .i64 (-1 - (x : Int))] 24) := ⟨_, rfl⟩
              obtain ⟨M, hM⟩ : ∃ M, M = wr.heap.size := ⟨_, rfl⟩
              have n5 : w5.heap[M]? = some (.cells #[Value.int .i64 ((a.size + m : Nat) : Int), .int .i64 ((1 : Nat) : Int), .int .i64 (-1 - (x : Int))] 24 (0, 0)) := by rw [hw5, hM]; exact blk_new wr _
              obtain ⟨m0, m1, m2⟩ := cell3_of n5
              have HB5 := Lib.hid (show Below w2.heap.size w2 w5 by rw [hw5]; exact hbz.alloc hbz.size _)
              simp only [Int.natCast_add, Int.natCast_one] at hw5 b0 b1 m0 m1
              have HW5 := Lib.hid hw5
              have HM := Lib.hid hM
              clear hR hu2 hx n5 hw5 hM hbz
              go_wp2_with (fail)
              rw [← HW5.out, ← HM.out]
              go_quiet (fail)
              go_wp2_with (fail)
              go_roundw
              case rel => exact ⟨m + 1, hml, by go_num, HB5.out.trans ((below_drewN _ _).mono HB5.out.size)⟩
              case measure => simp [intOf]; omega
            · have g5 : decide (m < W.size) = false := by simpa using hml
              go_wp2_with (fail)
              rw [← HXE.out]
              refine (C3.out _ (B2.out.trans (hbz.mono B2.out.size))).mono ?_
              rintro e w6 ⟨⟨v6, rfl, o6⟩, b6⟩
              have B6 := Lib.hid ((B2.out.trans (hbz.mono B2.out.size)).trans (b6.mono (Nat.le_trans B2.out.size hbz.size)))
              have hu2 : vs[L]? = some (a.size + W.size, 1, 122) := by
                have e : L = (us ++ (List.range W.size).map fun i => (a.size + i, 1, -1 - (uB W i : Int))).length := by rw [List.length_append, List.length_map, List.length_range]; exact HL.out
                rw [HVS.out, e, List.getElem?_append_right (Nat.le_refl _), Nat.sub_self]; rfl
              have hR := (RR.out.2.below hbz).below b6
              obtain ⟨qb, rfl, _, b0, b1, b2⟩ := (hR.reads).2.at hu2
              have g7 : decide ((L : Int) < (L : Int) + 1) = true := by simp; omega
              have g8 : L < L + 1 := by omega
              have g9 : L ≤ 1000 := by have := HL.out; omega
              clear o6 b6 hR hu2 hbz b0 b1
              go_wp2_with (fail)
              refine (CW.out _ B6.out).mono ?_
              rintro e w7 ⟨rfl, b7⟩
              go_wp2_with (fail)
              go_ret
              exact ⟨rfl, B6.out.trans (b7.mono B6.out.size)⟩
end Go.Proofs.YtcljiahpgbedhaaDoor

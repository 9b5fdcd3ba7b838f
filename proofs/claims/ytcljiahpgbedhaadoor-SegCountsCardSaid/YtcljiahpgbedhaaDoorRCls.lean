/- Tables of classes: the reference's Check. -/
import Derived.Test.YtcljiahpgbedhaaDoorCls
import Derived.Test.YtcljiahpgbedhaaDoorUSame
namespace Go.Proofs.YtcljiahpgbedhaaDoor
open Go.RowKit Go.Deep Go.Own
set_option linter.unusedVariables false
set_option maxRecDepth 100000 in
set_option maxHeartbeats 8000000 in
theorem rcheck_calls (rs : List Rng) (A : Option Addr) (cp : Nat) (w : World) (hA : ReadsR w A rs) (hl : rs.length ≤ 9223372036854775807) :
    Calls Tryd.prog 39 #[.slice A rs.length cp] w fun e w' => e = .returned (.bool (okT rs)) ∧ Below w.heap.size w w' := by
  unfold okT
  obtain ⟨OK, hOK⟩ : ∃ b, okFrom (-1) rs = b := ⟨_, rfl⟩
  rw [hOK]
  have HA := Lib.hid hA
  have HOK := Lib.hid hOK
  clear hA hOK
  go_enter Tryd.func39, Tryd.ntmps39
  go_wp2_with (fail)
  go_loopw [3] (fun iv wr => ∃ (j : Nat) (last : Int), iv = .int .i64 (j : Nat) ∧ j ≤ rs.length ∧ okFrom last (rs.drop j) = okFrom (-1) rs ∧ -1 ≤ last ∧ (j = 0 → last = -1) ∧ (∀ k, j = k + 1 → ∃ r, rs[k]? = some r ∧ r.b = last) ∧ Below w.heap.size w wr) (fun iv _ => rs.length - (intOf iv).toNat)
  case atStart => exact ⟨0, -1, rfl, Nat.zero_le _, rfl, by omega, fun _ => rfl, fun k h => by omega, Below.refl _ _⟩
  case round =>
    obtain ⟨j, last, rfl, hj, hok, hm1, hz, hp, hbw⟩ := hrel
    by_cases hlt : j < rs.length
    · have g1 : decide (j < rs.length) = true := by simpa using hlt
      obtain ⟨⟨a, b, c⟩, hr⟩ : ∃ r, rs[j]? = some r := ⟨_, List.getElem?_eq_getElem hlt⟩
      have hd : rs.drop j = ⟨a, b, c⟩ :: rs.drop (j + 1) := by
        obtain ⟨_, hx⟩ := List.getElem?_eq_some_iff.1 hr
        rw [List.drop_eq_getElem_cons hlt, hx]
      rw [hd] at hok
      obtain ⟨w2, hw2⟩ : ∃ w2, w2 = wr.alloc (.cells #[Value.int .i64 a, .int .i64 b, .int .i64 c] 70) := ⟨_, rfl⟩
      obtain ⟨M, hM⟩ : ∃ M, M = wr.heap.size := ⟨_, rfl⟩
      have hb2 : Below w.heap.size w w2 := by rw [hw2]; exact hbw.alloc hbw.size _
      have n2 : w2.heap[M]? = some (.cells #[Value.int .i64 a, .int .i64 b, .int .i64 c] 70 (0, 0)) := by rw [hw2, hM]; exact blk_new wr _
      obtain ⟨m0, m1, m2⟩ := cell3_of n2
      obtain ⟨q, o, rfl, hq, d0, d1, d2⟩ := (HA.out.below hbw).at hr
      simp only at d0 d1 d2
      have HOK2 := Lib.hid (hok.trans HOK.out)
      have HBW := Lib.hid hbw
      have HB2 := Lib.hid hb2
      have HR := Lib.hid hr
      have fin : ∀ x : Prop, (okFrom last (⟨a, b, c⟩ :: rs.drop (j + 1)) = true → x) → ¬ x → OK = false := fun x h1 h2 => by
        rw [← HOK2.out, ← Bool.not_eq_true]; exact fun h => h2 (h1 h)
      have FIN := Lib.hid fin
      have HW2 := Lib.hid hw2
      have HM := Lib.hid hM
      clear hok hd hr hbw fin hb2 n2 hw2 hM
      rcases j with _ | k
      · obtain rfl : last = -1 := hz rfl
        clear hz hp
        simp only [Nat.zero_mul, Nat.add_zero, Nat.zero_add] at d0 d1 d2
        by_cases h0 : a < 0
        · have k0 : decide (a < 0) = true := by simpa using h0
          have ok : OK = false := FIN.out (-1 < a) (fun h => ((okFrom_cons _ _ _).1 h).1) (by omega)
          subst ok
          clear h0
          go_wp2_with (fail)
          rw [← HW2.out, ← HM.out]
          go_quiet (fail)
          go_wp2_with (fail)
          go_ret
          exact ⟨rfl, HB2.out.trans ((below_drewN _ _).mono HB2.out.size)⟩
        · have k0 : decide (a < 0) = false := by simpa using h0
          by_cases h1 : b < a
          · have k1 : decide (b < a) = true := by simpa using h1
            have ok : OK = false := FIN.out (a ≤ b) (fun h => ((okFrom_cons _ _ _).1 h).2.1) (by omega)
            subst ok
            clear h0 h1
            go_wp2_with (fail)
            rw [← HW2.out, ← HM.out]
            go_quiet (fail)
            go_wp2_with (fail)
            go_ret
            exact ⟨rfl, HB2.out.trans ((below_drewN _ _).mono HB2.out.size)⟩
          · have k1 : decide (b < a) = false := by simpa using h1
            by_cases h2 : 1114111 < b
            · have k2 : decide (1114111 < b) = true := by simpa using h2
              have ok : OK = false := FIN.out (b ≤ 1114111) (fun h => ((okFrom_cons _ _ _).1 h).2.2.1) (by omega)
              subst ok
              clear h0 h1 h2
              go_wp2_with (fail)
              rw [← HW2.out, ← HM.out]
              go_quiet (fail)
              go_wp2_with (fail)
              go_ret
              exact ⟨rfl, HB2.out.trans ((below_drewN _ _).mono HB2.out.size)⟩
            · have k2 : decide (1114111 < b) = false := by simpa using h2
              by_cases h3 : c < 1
              · have k3 : decide (c < 1) = true := by simpa using h3
                have ok : OK = false := FIN.out (1 ≤ c) (fun h => ((okFrom_cons _ _ _).1 h).2.2.2.1) (by omega)
                subst ok
                clear h0 h1 h2 h3
                go_wp2_with (fail)
                rw [← HW2.out, ← HM.out]
                go_quiet (fail)
                go_wp2_with (fail)
                go_ret
                exact ⟨rfl, HB2.out.trans ((below_drewN _ _).mono HB2.out.size)⟩
              · have k3 : decide (c < 1) = false := by simpa using h3
                by_cases h4 : 3 < c
                · have k4 : decide (3 < c) = true := by simpa using h4
                  have ok : OK = false := FIN.out (c ≤ 3) (fun h => ((okFrom_cons _ _ _).1 h).2.2.2.2.1) (by omega)
                  subst ok
                  clear h0 h1 h2 h3 h4
                  go_wp2_with (fail)
                  rw [← HW2.out, ← HM.out]
                  go_quiet (fail)
                  go_wp2_with (fail)
                  go_ret
                  exact ⟨rfl, HB2.out.trans ((below_drewN _ _).mono HB2.out.size)⟩
                · have k4 : decide (3 < c) = false := by simpa using h4
                  have ok2 : okFrom b (rs.drop (0 + 1)) = OK := by
                    rw [← HOK2.out]
                    have e : okFrom (-1) (⟨a, b, c⟩ :: rs.drop (0 + 1)) = okFrom b (rs.drop (0 + 1)) := by
                      simp only [okFrom]
                      rw [decide_eq_true (show -1 < a by omega), decide_eq_true (show a ≤ b by omega), decide_eq_true (show b ≤ 1114111 by omega), decide_eq_true (show 1 ≤ c by omega), decide_eq_true (show c ≤ 3 by omega)]
                      simp only [Bool.true_and]
                    rw [e]
                  have OK2 := Lib.hid ok2
                  have hb0 : -1 ≤ b := by omega
                  clear ok2 h0 h1 h2 h3 h4
                  go_wp2_with (fail)
                  rw [← HW2.out, ← HM.out]
                  go_quiet (fail)
                  go_wp2_with (fail)
                  go_roundw
                  case rel => exact ⟨0 + 1, b, by go_num, hlt, OK2.out.trans HOK.out.symm, hb0, fun h => by omega, fun kk h => ⟨⟨a, b, c⟩, (by rw [show kk = 0 by omega]; exact HR.out), rfl⟩, HB2.out.trans ((below_drewN _ _).mono HB2.out.size)⟩
                  case measure => simp [intOf]; omega
      · obtain ⟨⟨pa, pb, pc⟩, hpr, hpb⟩ := hp k rfl
        simp only at hpb
        subst hpb
        obtain ⟨q', o', hqo, hq', e0, e1, e2⟩ := (HA.out.below HB2.out).at hpr
        obtain ⟨rfl, rfl⟩ : q = q' ∧ o = o' := by simpa using hqo
        simp only at e0 e1 e2
        clear hz hp hqo hq' hpr
        by_cases h0 : a < 0
        · have k0 : decide (a < 0) = true := by simpa using h0
          have ok : OK = false := FIN.out (pb < a) (fun h => ((okFrom_cons _ _ _).1 h).1) (by omega)
          subst ok
          clear h0
          go_wp2_with (fail)
          rw [← HW2.out, ← HM.out]
          go_quiet (fail)
          go_wp2_with (fail)
          go_ret
          exact ⟨rfl, HB2.out.trans ((below_drewN _ _).mono HB2.out.size)⟩
        · have k0 : decide (a < 0) = false := by simpa using h0
          by_cases h1 : b < a
          · have k1 : decide (b < a) = true := by simpa using h1
            have ok : OK = false := FIN.out (a ≤ b) (fun h => ((okFrom_cons _ _ _).1 h).2.1) (by omega)
            subst ok
            clear h0 h1
            go_wp2_with (fail)
            rw [← HW2.out, ← HM.out]
            go_quiet (fail)
            go_wp2_with (fail)
            go_ret
            exact ⟨rfl, HB2.out.trans ((below_drewN _ _).mono HB2.out.size)⟩
          · have k1 : decide (b < a) = false := by simpa using h1
            by_cases h2 : 1114111 < b
            · have k2 : decide (1114111 < b) = true := by simpa using h2
              have ok : OK = false := FIN.out (b ≤ 1114111) (fun h => ((okFrom_cons _ _ _).1 h).2.2.1) (by omega)
              subst ok
              clear h0 h1 h2
              go_wp2_with (fail)
              rw [← HW2.out, ← HM.out]
              go_quiet (fail)
              go_wp2_with (fail)
              go_ret
              exact ⟨rfl, HB2.out.trans ((below_drewN _ _).mono HB2.out.size)⟩
            · have k2 : decide (1114111 < b) = false := by simpa using h2
              by_cases h3 : c < 1
              · have k3 : decide (c < 1) = true := by simpa using h3
                have ok : OK = false := FIN.out (1 ≤ c) (fun h => ((okFrom_cons _ _ _).1 h).2.2.2.1) (by omega)
                subst ok
                clear h0 h1 h2 h3
                go_wp2_with (fail)
                rw [← HW2.out, ← HM.out]
                go_quiet (fail)
                go_wp2_with (fail)
                go_ret
                exact ⟨rfl, HB2.out.trans ((below_drewN _ _).mono HB2.out.size)⟩
              · have k3 : decide (c < 1) = false := by simpa using h3
                by_cases h4 : 3 < c
                · have k4 : decide (3 < c) = true := by simpa using h4
                  have ok : OK = false := FIN.out (c ≤ 3) (fun h => ((okFrom_cons _ _ _).1 h).2.2.2.2.1) (by omega)
                  subst ok
                  clear h0 h1 h2 h3 h4
                  go_wp2_with (fail)
                  rw [← HW2.out, ← HM.out]
                  go_quiet (fail)
                  go_wp2_with (fail)
                  go_ret
                  exact ⟨rfl, HB2.out.trans ((below_drewN _ _).mono HB2.out.size)⟩
                · have k4 : decide (3 < c) = false := by simpa using h4
                  by_cases h5 : a ≤ pb
                  · have k5 : decide (a ≤ pb) = true := by simpa using h5
                    have ok : OK = false := FIN.out (pb < a) (fun h => ((okFrom_cons _ _ _).1 h).1) (by omega)
                    subst ok
                    clear h0 h1 h2 h3 h4 h5
                    go_wp2_with (fail)
                    rw [← HW2.out, ← HM.out]
                    go_quiet (fail)
                    go_wp2_with (fail)
                    go_ret
                    exact ⟨rfl, HB2.out.trans ((below_drewN _ _).mono HB2.out.size)⟩
                  · have k5 : decide (a ≤ pb) = false := by simpa using h5
                    have ok2 : okFrom b (rs.drop ((k + 1) + 1)) = OK := by
                      rw [← HOK2.out]
                      have e : okFrom pb (⟨a, b, c⟩ :: rs.drop ((k + 1) + 1)) = okFrom b (rs.drop ((k + 1) + 1)) := by
                        simp only [okFrom]
                        rw [decide_eq_true (show pb < a by omega), decide_eq_true (show a ≤ b by omega), decide_eq_true (show b ≤ 1114111 by omega), decide_eq_true (show 1 ≤ c by omega), decide_eq_true (show c ≤ 3 by omega)]
                        simp only [Bool.true_and]
                      rw [e]
                    have OK2 := Lib.hid ok2
                    have hb0 : -1 ≤ b := by omega
                    clear ok2 h0 h1 h2 h3 h4
                    go_wp2_with (fail)
                    rw [← HW2.out, ← HM.out]
                    go_quiet (fail)
                    go_wp2_with (fail)
                    go_roundw
                    case rel => exact ⟨(k + 1) + 1, b, by go_num, hlt, OK2.out.trans HOK.out.symm, hb0, fun h => by omega, fun kk h => ⟨⟨a, b, c⟩, (by rw [show kk = (k + 1) by omega]; exact HR.out), rfl⟩, HB2.out.trans ((below_drewN _ _).mono HB2.out.size)⟩
                    case measure => simp [intOf]; omega
    · have g1 : decide (j < rs.length) = false := by simpa using hlt
      rw [List.drop_eq_nil_of_le (by omega)] at hok
      have ok : OK = true := by rw [← HOK.out, ← hok]; rfl
      subst ok
      have HBW := Lib.hid hbw
      clear hok hbw HA hz hp
      go_wp2_with (fail)
      go_ret
      exact ⟨ret_bool (by rw [Bool.true_and]; exact decide_eq_decide.2 (by omega)), HBW.out⟩
end Go.Proofs.YtcljiahpgbedhaaDoor

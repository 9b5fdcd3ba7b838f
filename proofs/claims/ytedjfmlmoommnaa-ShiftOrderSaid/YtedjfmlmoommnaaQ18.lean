-- made by wip/xprint.py of this claim's own repo
import Derived.Test.YtedjfmlmoommnaaQ0
import Derived.Test.YtedjfmlmoommnaaQ8
import Derived.Test.YtedjfmlmoommnaaQ13
import Derived.Test.YtedjfmlmoommnaaQ17
namespace Go.Proofs.Ytedjfmlmoommnaa.Q
open Go.RowKit Go.Proofs.YtedjfmlmoommnaaW.PrintWords Go.Proofs.YtedjfmlmoommnaaW.PrintLast Go.Proofs.YtedjfmlmoommnaaW.PrintMore
attribute [local go_sem] max2_int min2_int max_two min_two max_three min_three max_four min_four   -- for this text's walks alone
set_option linter.unusedVariables false
set_option linter.unusedSimpArgs false

/-! ### abecedarylaw20_ShiftOrder: function 5 -/
def abecedarylaw20_ShiftOrder.j0 : Nat → Int → Int → Int → Int → Int → Bool → Option (Bool)
  | 0, _, _, _, _, _, _ => none
  | k + 1, x12, x14, x15, x16, x17, x61 => if x61 = true then (none) else (if x12 ≤ x14 then (if x17 = x12 then ((abecedarylaw20_awake.f).bind fun t185 => (some t185)) else (none)) else (if x12 ≥ (wrap64 (x14 + x15)) then (if x17 = (wrap64 ((wrap64 (x12 + x16)) - x15)) then (if x17 = x14 then ((abecedarylaw20_awake.f).bind fun t186 => (some t186)) else ((shift_Place.f x17 x14 x16 x15).bind fun t187 => (if t187 = x12 then ((abecedarylaw20_awake.f).bind fun t188 => (some t188)) else (none)))) else (none)) else (if x17 = (wrap64 (x14 + x16)) then ((abecedarylaw20_awake.f).bind fun t189 => (some t189)) else (none))))
def abecedarylaw20_ShiftOrder.f (k : Nat) (a0 : Int) (a1 : Int) (a2 : Int) (a3 : Int) (a4 : Int) : Option (Bool) := (abecedarylaw00_Place.f a0 1000).bind fun t178 => ((abecedarylaw00_Place.f a1 1000).bind fun t179 => ((abecedarylaw00_Place.f a2 1000).bind fun t180 => ((abecedarylaw00_Place.f a3 1000).bind fun t181 => ((abecedarylaw00_Place.f a4 1000).bind fun t182 => ((shift_Place.f t178 t180 t181 t182).bind fun t183 => ((shift_Place.f t179 t180 t181 t182).bind fun t184 => (if t178 ≤ t179 then (if t183 > t184 then (none) else (if t179 ≤ t178 then (abecedarylaw20_ShiftOrder.j0 k t178 t180 t181 t182 t183 (decide (t184 > t183))) else (abecedarylaw20_ShiftOrder.j0 k t178 t180 t181 t182 t183 false))) else (if t179 ≤ t178 then (abecedarylaw20_ShiftOrder.j0 k t178 t180 t181 t182 t183 (decide (t184 > t183))) else (abecedarylaw20_ShiftOrder.j0 k t178 t180 t181 t182 t183 false)))))))))
theorem abecedarylaw20_ShiftOrder.mono_l : ∀ k, (∀ y0 y1 y2 y3 y4 y5, LeO (abecedarylaw20_ShiftOrder.j0 k y0 y1 y2 y3 y4 y5) (abecedarylaw20_ShiftOrder.j0 (k + 1) y0 y1 y2 y3 y4 y5))
  | 0 => fun _ _ _ _ _ _ r h => by simp [abecedarylaw20_ShiftOrder.j0] at h
  | k + 1 => by
    have ih0 := abecedarylaw20_ShiftOrder.mono_l k
    · intro y0 y1 y2 y3 y4 y5
      unfold abecedarylaw20_ShiftOrder.j0
      repeat' first
      | (with_reducible exact ih0 _ _ _ _ _ _)
      | (with_reducible exact LeO.refl _)
      | (with_reducible exact LeO.none _)
      | (with_reducible refine LeO.ite ?_ ?_)
      | (with_reducible refine LeO.bind ?_ (fun _ => ?_))
      | exact ih0 _ _ _ _ _ _
      | exact LeO.none _
      | refine LeO.ite ?_ ?_
      | refine LeO.bind ?_ (fun _ => ?_)
theorem abecedarylaw20_ShiftOrder.mono : ∀ a0 a1 a2 a3 a4 k, LeO (abecedarylaw20_ShiftOrder.f k a0 a1 a2 a3 a4) (abecedarylaw20_ShiftOrder.f (k + 1) a0 a1 a2 a3 a4) := by
  intro a0 a1 a2 a3 a4 k
  have ih0 := abecedarylaw20_ShiftOrder.mono_l k
  unfold abecedarylaw20_ShiftOrder.f
  repeat' first
      | (with_reducible exact ih0 _ _ _ _ _ _)
      | (with_reducible exact LeO.refl _)
      | (with_reducible exact LeO.none _)
      | (with_reducible refine LeO.ite ?_ ?_)
      | (with_reducible refine LeO.bind ?_ (fun _ => ?_))
      | exact ih0 _ _ _ _ _ _
      | exact LeO.none _
      | refine LeO.ite ?_ ?_
      | refine LeO.bind ?_ (fun _ => ?_)
set_option maxHeartbeats 8000000 in
set_option maxRecDepth 100000 in
theorem abecedarylaw20_ShiftOrder.calls (k : Nat) (a0 : Int) (a1 : Int) (a2 : Int) (a3 : Int) (a4 : Int) (r : Bool) (w : World) (h : abecedarylaw20_ShiftOrder.f k a0 a1 a2 a3 a4 = some r) :
    Calls Try.prog 5 #[.int .i64 a0, .int .i64 a1, .int .i64 a2, .int .i64 a3, .int .i64 a4] w fun e w' => e = .returned (.bool r) ∧ Below w.heap.size w w' := by
  have HB := Aside0.mk (Below.refl w.heap.size w)
  have H : ((abecedarylaw00_Place.f a0 1000).bind fun t178 => ((abecedarylaw00_Place.f a1 1000).bind fun t179 => ((abecedarylaw00_Place.f a2 1000).bind fun t180 => ((abecedarylaw00_Place.f a3 1000).bind fun t181 => ((abecedarylaw00_Place.f a4 1000).bind fun t182 => ((shift_Place.f t178 t180 t181 t182).bind fun t183 => ((shift_Place.f t179 t180 t181 t182).bind fun t184 => (if t178 ≤ t179 then (if t183 > t184 then (none) else (if t179 ≤ t178 then (abecedarylaw20_ShiftOrder.j0 k t178 t180 t181 t182 t183 (decide (t184 > t183))) else (abecedarylaw20_ShiftOrder.j0 k t178 t180 t181 t182 t183 false))) else (if t179 ≤ t178 then (abecedarylaw20_ShiftOrder.j0 k t178 t180 t181 t182 t183 (decide (t184 > t183))) else (abecedarylaw20_ShiftOrder.j0 k t178 t180 t181 t182 t183 false)))))))))) = some r := h
  clear h
  replace H := Option.bind_eq_some_iff.mp H
  obtain ⟨t178, A60, H⟩ := H
  replace H : ((abecedarylaw00_Place.f a1 1000).bind fun t179 => ((abecedarylaw00_Place.f a2 1000).bind fun t180 => ((abecedarylaw00_Place.f a3 1000).bind fun t181 => ((abecedarylaw00_Place.f a4 1000).bind fun t182 => ((shift_Place.f t178 t180 t181 t182).bind fun t183 => ((shift_Place.f t179 t180 t181 t182).bind fun t184 => (if t178 ≤ t179 then (if t183 > t184 then (none) else (if t179 ≤ t178 then (abecedarylaw20_ShiftOrder.j0 k t178 t180 t181 t182 t183 (decide (t184 > t183))) else (abecedarylaw20_ShiftOrder.j0 k t178 t180 t181 t182 t183 false))) else (if t179 ≤ t178 then (abecedarylaw20_ShiftOrder.j0 k t178 t180 t181 t182 t183 (decide (t184 > t183))) else (abecedarylaw20_ShiftOrder.j0 k t178 t180 t181 t182 t183 false))))))))) = some r := H
  have A6 := Aside0.mk A60
  clear A60
  replace H := Option.bind_eq_some_iff.mp H
  obtain ⟨t179, A70, H⟩ := H
  replace H : ((abecedarylaw00_Place.f a2 1000).bind fun t180 => ((abecedarylaw00_Place.f a3 1000).bind fun t181 => ((abecedarylaw00_Place.f a4 1000).bind fun t182 => ((shift_Place.f t178 t180 t181 t182).bind fun t183 => ((shift_Place.f t179 t180 t181 t182).bind fun t184 => (if t178 ≤ t179 then (if t183 > t184 then (none) else (if t179 ≤ t178 then (abecedarylaw20_ShiftOrder.j0 k t178 t180 t181 t182 t183 (decide (t184 > t183))) else (abecedarylaw20_ShiftOrder.j0 k t178 t180 t181 t182 t183 false))) else (if t179 ≤ t178 then (abecedarylaw20_ShiftOrder.j0 k t178 t180 t181 t182 t183 (decide (t184 > t183))) else (abecedarylaw20_ShiftOrder.j0 k t178 t180 t181 t182 t183 false)))))))) = some r := H
  have A7 := Aside0.mk A70
  clear A70
  replace H := Option.bind_eq_some_iff.mp H
  obtain ⟨t180, A80, H⟩ := H
  replace H : ((abecedarylaw00_Place.f a3 1000).bind fun t181 => ((abecedarylaw00_Place.f a4 1000).bind fun t182 => ((shift_Place.f t178 t180 t181 t182).bind fun t183 => ((shift_Place.f t179 t180 t181 t182).bind fun t184 => (if t178 ≤ t179 then (if t183 > t184 then (none) else (if t179 ≤ t178 then (abecedarylaw20_ShiftOrder.j0 k t178 t180 t181 t182 t183 (decide (t184 > t183))) else (abecedarylaw20_ShiftOrder.j0 k t178 t180 t181 t182 t183 false))) else (if t179 ≤ t178 then (abecedarylaw20_ShiftOrder.j0 k t178 t180 t181 t182 t183 (decide (t184 > t183))) else (abecedarylaw20_ShiftOrder.j0 k t178 t180 t181 t182 t183 false))))))) = some r := H
  have A8 := Aside0.mk A80
  clear A80
  replace H := Option.bind_eq_some_iff.mp H
  obtain ⟨t181, A90, H⟩ := H
  replace H : ((abecedarylaw00_Place.f a4 1000).bind fun t182 => ((shift_Place.f t178 t180 t181 t182).bind fun t183 => ((shift_Place.f t179 t180 t181 t182).bind fun t184 => (if t178 ≤ t179 then (if t183 > t184 then (none) else (if t179 ≤ t178 then (abecedarylaw20_ShiftOrder.j0 k t178 t180 t181 t182 t183 (decide (t184 > t183))) else (abecedarylaw20_ShiftOrder.j0 k t178 t180 t181 t182 t183 false))) else (if t179 ≤ t178 then (abecedarylaw20_ShiftOrder.j0 k t178 t180 t181 t182 t183 (decide (t184 > t183))) else (abecedarylaw20_ShiftOrder.j0 k t178 t180 t181 t182 t183 false)))))) = some r := H
  have A9 := Aside0.mk A90
  clear A90
  replace H := Option.bind_eq_some_iff.mp H
  obtain ⟨t182, A100, H⟩ := H
  replace H : ((shift_Place.f t178 t180 t181 t182).bind fun t183 => ((shift_Place.f t179 t180 t181 t182).bind fun t184 => (if t178 ≤ t179 then (if t183 > t184 then (none) else (if t179 ≤ t178 then (abecedarylaw20_ShiftOrder.j0 k t178 t180 t181 t182 t183 (decide (t184 > t183))) else (abecedarylaw20_ShiftOrder.j0 k t178 t180 t181 t182 t183 false))) else (if t179 ≤ t178 then (abecedarylaw20_ShiftOrder.j0 k t178 t180 t181 t182 t183 (decide (t184 > t183))) else (abecedarylaw20_ShiftOrder.j0 k t178 t180 t181 t182 t183 false))))) = some r := H
  have A10 := Aside0.mk A100
  clear A100
  replace H := Option.bind_eq_some_iff.mp H
  obtain ⟨t183, A110, H⟩ := H
  replace H : ((shift_Place.f t179 t180 t181 t182).bind fun t184 => (if t178 ≤ t179 then (if t183 > t184 then (none) else (if t179 ≤ t178 then (abecedarylaw20_ShiftOrder.j0 k t178 t180 t181 t182 t183 (decide (t184 > t183))) else (abecedarylaw20_ShiftOrder.j0 k t178 t180 t181 t182 t183 false))) else (if t179 ≤ t178 then (abecedarylaw20_ShiftOrder.j0 k t178 t180 t181 t182 t183 (decide (t184 > t183))) else (abecedarylaw20_ShiftOrder.j0 k t178 t180 t181 t182 t183 false)))) = some r := H
  have A11 := Aside0.mk A110
  clear A110
  replace H := Option.bind_eq_some_iff.mp H
  obtain ⟨t184, A120, H⟩ := H
  replace H : (if t178 ≤ t179 then (if t183 > t184 then (none) else (if t179 ≤ t178 then (abecedarylaw20_ShiftOrder.j0 k t178 t180 t181 t182 t183 (decide (t184 > t183))) else (abecedarylaw20_ShiftOrder.j0 k t178 t180 t181 t182 t183 false))) else (if t179 ≤ t178 then (abecedarylaw20_ShiftOrder.j0 k t178 t180 t181 t182 t183 (decide (t184 > t183))) else (abecedarylaw20_ShiftOrder.j0 k t178 t180 t181 t182 t183 false))) = some r := H
  have A12 := Aside0.mk A120
  clear A120
  have HC13 := Aside0.mk H
  clear H
  go_enter Try.func5, Try.ntmps5
  go_upto_region 4 with (first | ((with_reducible refine gate_callee (f := 19) rfl ?_); refine goesL_ (some 21) rfl rfl Try.func19 (by kernel_rfl) rfl #[.int .i64 a0, .int .i64 1000] rfl (by (try simp only [List.map_toArray, List.map_cons, List.map_nil]); first | done | rfl | (simp only [List.length_drop, List.length_take]; rfl)) ?_; (with_reducible refine (abecedarylaw00_Place.calls a0 1000 t178 _ A6.out).mono ?_); rintro e w' ⟨rfl, ⟨nd, rfl⟩⟩; refine ⟨_, rfl, ?_⟩) | ((with_reducible refine gate_callee (f := 19) rfl ?_); refine goesL_ (some 24) rfl rfl Try.func19 (by kernel_rfl) rfl #[.int .i64 a1, .int .i64 1000] rfl (by (try simp only [List.map_toArray, List.map_cons, List.map_nil]); first | done | rfl | (simp only [List.length_drop, List.length_take]; rfl)) ?_; (with_reducible refine (abecedarylaw00_Place.calls a1 1000 t179 _ A7.out).mono ?_); rintro e w' ⟨rfl, ⟨nd, rfl⟩⟩; refine ⟨_, rfl, ?_⟩) | ((with_reducible refine gate_callee (f := 19) rfl ?_); refine goesL_ (some 27) rfl rfl Try.func19 (by kernel_rfl) rfl #[.int .i64 a2, .int .i64 1000] rfl (by (try simp only [List.map_toArray, List.map_cons, List.map_nil]); first | done | rfl | (simp only [List.length_drop, List.length_take]; rfl)) ?_; (with_reducible refine (abecedarylaw00_Place.calls a2 1000 t180 _ A8.out).mono ?_); rintro e w' ⟨rfl, ⟨nd, rfl⟩⟩; refine ⟨_, rfl, ?_⟩) | ((with_reducible refine gate_callee (f := 19) rfl ?_); refine goesL_ (some 30) rfl rfl Try.func19 (by kernel_rfl) rfl #[.int .i64 a3, .int .i64 1000] rfl (by (try simp only [List.map_toArray, List.map_cons, List.map_nil]); first | done | rfl | (simp only [List.length_drop, List.length_take]; rfl)) ?_; (with_reducible refine (abecedarylaw00_Place.calls a3 1000 t181 _ A9.out).mono ?_); rintro e w' ⟨rfl, ⟨nd, rfl⟩⟩; refine ⟨_, rfl, ?_⟩) | ((with_reducible refine gate_callee (f := 19) rfl ?_); refine goesL_ (some 33) rfl rfl Try.func19 (by kernel_rfl) rfl #[.int .i64 a4, .int .i64 1000] rfl (by (try simp only [List.map_toArray, List.map_cons, List.map_nil]); first | done | rfl | (simp only [List.length_drop, List.length_take]; rfl)) ?_; (with_reducible refine (abecedarylaw00_Place.calls a4 1000 t182 _ A10.out).mono ?_); rintro e w' ⟨rfl, ⟨nd, rfl⟩⟩; refine ⟨_, rfl, ?_⟩) | ((with_reducible refine gate_callee (f := 20) rfl ?_); refine goesL_ (some 38) rfl rfl Try.func20 (by kernel_rfl) rfl #[.int .i64 t178, .int .i64 t180, .int .i64 t181, .int .i64 t182] rfl (by (try simp only [List.map_toArray, List.map_cons, List.map_nil]); first | done | rfl | (simp only [List.length_drop, List.length_take]; rfl)) ?_; (with_reducible refine (shift_Place.calls t178 t180 t181 t182 t183 _ A11.out).mono ?_); rintro e w14 ⟨rfl, hb⟩; refine ⟨_, rfl, ?_⟩; have n0_ := Aside0.mk (below_step (by repeat (first | (with_reducible first | exact HB.out | apply below_alloc | apply pw_below_drewN | apply below_drew1) | exact HB.out)) hb); clear HB; have HB := n0_; clear n0_; (try clear hb); (try clear hb2); (try clear hk); (try clear hi)) | ((with_reducible refine gate_callee (f := 20) rfl ?_); refine goesL_ (some 43) rfl rfl Try.func20 (by kernel_rfl) rfl #[.int .i64 t179, .int .i64 t180, .int .i64 t181, .int .i64 t182] rfl (by (try simp only [List.map_toArray, List.map_cons, List.map_nil]); first | done | rfl | (simp only [List.length_drop, List.length_take]; rfl)) ?_; (with_reducible refine (shift_Place.calls t179 t180 t181 t182 t184 _ A12.out).mono ?_); rintro e w15 ⟨rfl, hb⟩; refine ⟨_, rfl, ?_⟩; have n0_ := Aside0.mk (below_step (by repeat (first | (with_reducible first | exact HB.out | apply below_alloc | apply pw_below_drewN | apply below_drew1) | exact HB.out)) hb); clear HB; have HB := n0_; clear n0_; (try clear hb); (try clear hb2); (try clear hk); (try clear hi)))
  (try simp only [Act.put, List.setIfInBounds_toArray, List.set_cons_zero, List.set_cons_succ])
  go_cut [61] (fun v61 wc => ∃ (kq : Nat) (x61_12 : Bool), v61 = .bool x61_12 ∧ Aside0 (abecedarylaw20_ShiftOrder.j0 kq t178 t180 t181 t182 t183 x61_12 = some r) ∧ Aside0 (kq ≤ k) ∧ Aside0 (Below w.heap.size w wc))
  case first =>
    have H := HC13.out
    clear HC13
    by_cases c16 : t178 ≤ t179
    · rw [if_pos c16] at H
      have c16b0 : decide (t178 ≤ t179) = true := decide_eq_true c16
      clear c16
      (first | rw [c16b0] | (simp only [i64_w, i32_w]; rw [c16b0]) | skip)
      by_cases c17 : t183 > t184
      · rw [if_pos c17] at H
        exact absurd H (by simp)
      · rw [if_neg c17] at H
        have c17b0 : decide (t184 < t183) = false := decide_eq_false c17
        clear c17
        by_cases c18 : t179 ≤ t178
        · rw [if_pos c18] at H
          have c18b0 : decide (t179 ≤ t178) = true := decide_eq_true c18
          clear c18
          have H' := Aside0.mk H
          clear H
          go_wp2
          go_meet
          case rel => exact ⟨_, (decide (t184 > t183)), (by first | rfl | (simp; done) | (simp [*]; done)), H', ⟨by first | omega | exact Nat.le_refl _⟩, ⟨by repeat (first | (with_reducible first | exact HB.out | apply below_alloc | apply pw_below_drewN | apply below_drew1) | exact HB.out)⟩⟩
        · rw [if_neg c18] at H
          have c18b0 : decide (t179 ≤ t178) = false := decide_eq_false c18
          clear c18
          have H' := Aside0.mk H
          clear H
          go_wp2
          go_meet
          case rel => exact ⟨_, (false), (by first | rfl | (simp; done) | (simp [*]; done)), H', ⟨by first | omega | exact Nat.le_refl _⟩, ⟨by repeat (first | (with_reducible first | exact HB.out | apply below_alloc | apply pw_below_drewN | apply below_drew1) | exact HB.out)⟩⟩
    · rw [if_neg c16] at H
      have c16b0 : decide (t178 ≤ t179) = false := decide_eq_false c16
      clear c16
      (first | rw [c16b0] | (simp only [i64_w, i32_w]; rw [c16b0]) | skip)
      by_cases c19 : t179 ≤ t178
      · rw [if_pos c19] at H
        have c19b0 : decide (t179 ≤ t178) = true := decide_eq_true c19
        clear c19
        have H' := Aside0.mk H
        clear H
        go_wp2
        go_meet
        case rel => exact ⟨_, (decide (t184 > t183)), (by first | rfl | (simp; done) | (simp [*]; done)), H', ⟨by first | omega | exact Nat.le_refl _⟩, ⟨by repeat (first | (with_reducible first | exact HB.out | apply below_alloc | apply pw_below_drewN | apply below_drew1) | exact HB.out)⟩⟩
      · rw [if_neg c19] at H
        have c19b0 : decide (t179 ≤ t178) = false := decide_eq_false c19
        clear c19
        have H' := Aside0.mk H
        clear H
        go_wp2
        go_meet
        case rel => exact ⟨_, (false), (by first | rfl | (simp; done) | (simp [*]; done)), H', ⟨by first | omega | exact Nat.le_refl _⟩, ⟨by repeat (first | (with_reducible first | exact HB.out | apply below_alloc | apply pw_below_drewN | apply below_drew1) | exact HB.out)⟩⟩
  case rest =>
    clear HC13
    try clear c1
    try clear c2
    try clear p2
    try clear c5
    try clear c16
    try clear c16b0
    try clear c17
    try clear c17b0
    try clear c18
    try clear c18b0
    try clear c19
    try clear c19b0
    obtain ⟨kq, x61_12, rfl, HA, HJ12, HB⟩ := hcut
    cases kq with
    | zero => exact absurd HA.out (by simp [abecedarylaw20_ShiftOrder.j0])
    | succ kj12 =>
      have H := HA.out
      clear HA
      simp only [abecedarylaw20_ShiftOrder.j0] at H
      by_cases c20 : x61_12 = true
      · subst c20
        have H1 : (none) = some r := by rw [if_pos rfl] at H; exact H
        clear H
        have H := H1
        clear H1
        exact absurd H (by simp)
      · replace c20 := Bool.eq_false_iff.mpr c20
        subst c20
        have H1 : (if t178 ≤ t180 then (if t183 = t178 then ((abecedarylaw20_awake.f).bind fun t185 => (some t185)) else (none)) else (if t178 ≥ (wrap64 (t180 + t181)) then (if t183 = (wrap64 ((wrap64 (t178 + t182)) - t181)) then (if t183 = t180 then ((abecedarylaw20_awake.f).bind fun t186 => (some t186)) else ((shift_Place.f t183 t180 t182 t181).bind fun t187 => (if t187 = t178 then ((abecedarylaw20_awake.f).bind fun t188 => (some t188)) else (none)))) else (none)) else (if t183 = (wrap64 (t180 + t182)) then ((abecedarylaw20_awake.f).bind fun t189 => (some t189)) else (none)))) = some r := by rw [if_neg (show ¬ (false = true) by decide)] at H; exact H
        clear H
        have H := H1
        clear H1
        by_cases c21 : t178 ≤ t180
        · rw [if_pos c21] at H
          have c21b0 : decide (t178 ≤ t180) = true := decide_eq_true c21
          clear c21
          by_cases c22 : t183 = t178
          · rw [if_pos c22] at H
            have c22b0 : (t183 == t178) = true := beq_iff_eq.mpr c22
            have c22b1 : (t183 != t178) = false := bne_eq_false_iff_eq.mpr c22
            clear c22
            replace H := Option.bind_eq_some_iff.mp H
            obtain ⟨t185, A230, H⟩ := H
            replace H : (some t185) = some r := H
            have A23 := Aside0.mk A230
            clear A230
            obtain rfl := Option.some.inj H
            go_wp2_with (first | (go_at_call 21; (with_reducible refine (abecedarylaw20_awake.calls  t185 _ A23.out).mono ?_); rintro e w24 ⟨rfl, hb⟩; have n0_ := Aside0.mk (below_step (by repeat (first | (with_reducible first | exact HB.out | apply below_alloc | apply pw_below_drewN | apply below_drew1) | exact HB.out)) hb); clear HB; have HB := n0_; clear n0_; (try clear hb); (try clear hb2); (try clear hk); (try clear hi)))
            go_ret
            exact ⟨by first | rfl | (simp [errW_none, errW_some] <;> rfl) | (simp [*, errW_none, errW_some] <;> rfl), by repeat (first | (with_reducible first | exact HB.out | apply below_alloc | apply pw_below_drewN | apply below_drew1) | exact HB.out)⟩
          · rw [if_neg c22] at H
            exact absurd H (by simp)
        · rw [if_neg c21] at H
          have c21b0 : decide (t178 ≤ t180) = false := decide_eq_false c21
          clear c21
          by_cases c25 : t178 ≥ (wrap64 (t180 + t181))
          · rw [if_pos c25] at H
            have c25b0 : decide ((wrap64 (t180 + t181)) ≤ t178) = true := decide_eq_true c25
            clear c25
            by_cases c26 : t183 = (wrap64 ((wrap64 (t178 + t182)) - t181))
            · rw [if_pos c26] at H
              have c26b0 : (t183 == (wrap64 ((wrap64 (t178 + t182)) - t181))) = true := beq_iff_eq.mpr c26
              have c26b1 : (t183 != (wrap64 ((wrap64 (t178 + t182)) - t181))) = false := bne_eq_false_iff_eq.mpr c26
              clear c26
              by_cases c27 : t183 = t180
              · rw [if_pos c27] at H
                have c27b0 : (t183 == t180) = true := beq_iff_eq.mpr c27
                have c27b1 : (t183 != t180) = false := bne_eq_false_iff_eq.mpr c27
                clear c27
                replace H := Option.bind_eq_some_iff.mp H
                obtain ⟨t186, A280, H⟩ := H
                replace H : (some t186) = some r := H
                have A28 := Aside0.mk A280
                clear A280
                obtain rfl := Option.some.inj H
                go_wp2_with (first | (go_at_call 21; (with_reducible refine (abecedarylaw20_awake.calls  t186 _ A28.out).mono ?_); rintro e w29 ⟨rfl, hb⟩; have n0_ := Aside0.mk (below_step (by repeat (first | (with_reducible first | exact HB.out | apply below_alloc | apply pw_below_drewN | apply below_drew1) | exact HB.out)) hb); clear HB; have HB := n0_; clear n0_; (try clear hb); (try clear hb2); (try clear hk); (try clear hi)))
                go_ret
                exact ⟨by first | rfl | (simp [errW_none, errW_some] <;> rfl) | (simp [*, errW_none, errW_some] <;> rfl), by repeat (first | (with_reducible first | exact HB.out | apply below_alloc | apply pw_below_drewN | apply below_drew1) | exact HB.out)⟩
              · rw [if_neg c27] at H
                have c27b0 : (t183 == t180) = false := beq_eq_false_iff_ne.mpr c27
                have c27b1 : (t183 != t180) = true := bne_iff_ne.mpr c27
                replace H := Option.bind_eq_some_iff.mp H
                obtain ⟨t187, A300, H⟩ := H
                replace H : (if t187 = t178 then ((abecedarylaw20_awake.f).bind fun t188 => (some t188)) else (none)) = some r := H
                have A30 := Aside0.mk A300
                clear A300
                by_cases c31 : t187 = t178
                · rw [if_pos c31] at H
                  have c31b0 : (t187 == t178) = true := beq_iff_eq.mpr c31
                  have c31b1 : (t187 != t178) = false := bne_eq_false_iff_eq.mpr c31
                  clear c31
                  replace H := Option.bind_eq_some_iff.mp H
                  obtain ⟨t188, A320, H⟩ := H
                  replace H : (some t188) = some r := H
                  have A32 := Aside0.mk A320
                  clear A320
                  obtain rfl := Option.some.inj H
                  go_wp2_with (first | (go_at_call 20; (with_reducible refine (shift_Place.calls t183 t180 t182 t181 t187 _ A30.out).mono ?_); rintro e w33 ⟨rfl, hb⟩; have n0_ := Aside0.mk (below_step (by repeat (first | (with_reducible first | exact HB.out | apply below_alloc | apply pw_below_drewN | apply below_drew1) | exact HB.out)) hb); clear HB; have HB := n0_; clear n0_; (try clear hb); (try clear hb2); (try clear hk); (try clear hi)) | (go_at_call 21; (with_reducible refine (abecedarylaw20_awake.calls  t188 _ A32.out).mono ?_); rintro e w34 ⟨rfl, hb⟩; have n0_ := Aside0.mk (below_step (by repeat (first | (with_reducible first | exact HB.out | apply below_alloc | apply pw_below_drewN | apply below_drew1) | exact HB.out)) hb); clear HB; have HB := n0_; clear n0_; (try clear hb); (try clear hb2); (try clear hk); (try clear hi)))
                  go_ret
                  exact ⟨by first | rfl | (simp [errW_none, errW_some] <;> rfl) | (simp [*, errW_none, errW_some] <;> rfl), by repeat (first | (with_reducible first | exact HB.out | apply below_alloc | apply pw_below_drewN | apply below_drew1) | exact HB.out)⟩
                · rw [if_neg c31] at H
                  exact absurd H (by simp)
            · rw [if_neg c26] at H
              exact absurd H (by simp)
          · rw [if_neg c25] at H
            have c25b0 : decide ((wrap64 (t180 + t181)) ≤ t178) = false := decide_eq_false c25
            clear c25
            by_cases c35 : t183 = (wrap64 (t180 + t182))
            · rw [if_pos c35] at H
              have c35b0 : (t183 == (wrap64 (t180 + t182))) = true := beq_iff_eq.mpr c35
              have c35b1 : (t183 != (wrap64 (t180 + t182))) = false := bne_eq_false_iff_eq.mpr c35
              clear c35
              replace H := Option.bind_eq_some_iff.mp H
              obtain ⟨t189, A360, H⟩ := H
              replace H : (some t189) = some r := H
              have A36 := Aside0.mk A360
              clear A360
              obtain rfl := Option.some.inj H
              go_wp2_with (first | (go_at_call 21; (with_reducible refine (abecedarylaw20_awake.calls  t189 _ A36.out).mono ?_); rintro e w37 ⟨rfl, hb⟩; have n0_ := Aside0.mk (below_step (by repeat (first | (with_reducible first | exact HB.out | apply below_alloc | apply pw_below_drewN | apply below_drew1) | exact HB.out)) hb); clear HB; have HB := n0_; clear n0_; (try clear hb); (try clear hb2); (try clear hk); (try clear hi)))
              go_ret
              exact ⟨by first | rfl | (simp [errW_none, errW_some] <;> rfl) | (simp [*, errW_none, errW_some] <;> rfl), by repeat (first | (with_reducible first | exact HB.out | apply below_alloc | apply pw_below_drewN | apply below_drew1) | exact HB.out)⟩
            · rw [if_neg c35] at H
              exact absurd H (by simp)

/-- THE ONE PURE STATEMENT of abecedarylaw20_ShiftOrder: yours. -/
def abecedarylaw20_ShiftOrder.Pure : Prop := ∀ (a0 : Int) (a1 : Int) (a2 : Int) (a3 : Int) (a4 : Int), (Lit.int .i64 a0).wf = true → (Lit.int .i64 a1).wf = true → (Lit.int .i64 a2).wf = true → (Lit.int .i64 a3).wf = true → (Lit.int .i64 a4).wf = true → ∃ k, abecedarylaw20_ShiftOrder.f k a0 a1 a2 a3 a4 = some true
theorem abecedarylaw20_ShiftOrder.walk (P : abecedarylaw20_ShiftOrder.Pure) (a0 : Int) (a1 : Int) (a2 : Int) (a3 : Int) (a4 : Int) (w : World) (w0 : (Lit.int .i64 a0).wf = true) (w1 : (Lit.int .i64 a1).wf = true) (w2 : (Lit.int .i64 a2).wf = true) (w3 : (Lit.int .i64 a3).wf = true) (w4 : (Lit.int .i64 a4).wf = true) :
    Calls Try.prog 5 #[.int .i64 a0, .int .i64 a1, .int .i64 a2, .int .i64 a3, .int .i64 a4] w fun e w' => e = .returned (.bool true) ∧ Below w.heap.size w w' := by
  obtain ⟨k, h⟩ := P a0 a1 a2 a3 a4 w0 w1 w2 w3 w4
  refine (abecedarylaw20_ShiftOrder.calls k a0 a1 a2 a3 a4 true w h).mono ?_
  rintro e w' ⟨rfl, hd⟩
  exact ⟨rfl, hd⟩

end Go.Proofs.Ytedjfmlmoommnaa.Q

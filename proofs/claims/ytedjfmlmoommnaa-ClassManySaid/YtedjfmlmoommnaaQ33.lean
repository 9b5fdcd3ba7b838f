-- made by wip/xprint.py of this claim's own repo
import Derived.Test.YtedjfmlmoommnaaQ0
import Derived.Test.YtedjfmlmoommnaaQ8
import Derived.Test.YtedjfmlmoommnaaQ24
import Derived.Test.YtedjfmlmoommnaaQ25
import Derived.Test.YtedjfmlmoommnaaQ26
namespace Go.Proofs.Ytedjfmlmoommnaa.Q
open Go.RowKit Go.Proofs.YtedjfmlmoommnaaW.PrintWords Go.Proofs.YtedjfmlmoommnaaW.PrintLast Go.Proofs.YtedjfmlmoommnaaW.PrintMore
attribute [local go_sem] max2_int min2_int max_two min_two max_three min_three max_four min_four   -- for this text's walks alone
set_option linter.unusedVariables false
set_option linter.unusedSimpArgs false

/-! ### abecedarylaw02_ClassMany: function 12 -/
def abecedarylaw02_ClassMany.l0 : Nat → Int → Int → List (S43) → Int → Option (Bool)
  | 0, _, _, _, _ => none
  | k + 1, x1, x5, x6, x7 => if x7 < x5 then (if x6.length < 5864062014805 then (abecedarylaw02_ClassMany.l0 k x1 x5 (x6 ++ [(⟨wrap64 (10 * x7), wrap64 ((wrap64 (10 * x7)) + 4), wrap64 (1 + (Int.tmod x7 3))⟩ : S43)]) (wrap64 (x7 + 1))) else (none)) else ((abecedarylaw00_Place.f x1 (wrap64 (10 * x5))).bind fun t400 => (if x5 > 100 then ((class_Check.f k x6).bind fun t401 => (if t401 = true then (none) else ((class_Of.f k x6 t400).bind fun t402 => (if t402 = 0 then ((abecedarylaw02_awake.f k).bind fun t403 => (some t403)) else (none))))) else (if (Int.tmod t400 10) ≤ 4 then ((class_Check.f k x6).bind fun t404 => (if t404 = true then ((class_Of.f k x6 t400).bind fun t405 => (if t405 = (wrap64 (1 + (Int.tmod (wrap64 (Int.tdiv t400 10)) 3))) then ((abecedarylaw02_awake.f k).bind fun t406 => (some t406)) else (none))) else (none))) else ((class_Check.f k x6).bind fun t407 => (if t407 = true then ((class_Of.f k x6 t400).bind fun t408 => (if t408 = 0 then ((abecedarylaw02_awake.f k).bind fun t409 => (some t409)) else (none))) else (none))))))
def abecedarylaw02_ClassMany.f (k : Nat) (a0 : Int) (a1 : Int) : Option (Bool) := (abecedarylaw00_Place.f a0 5).bind fun t396 => (abecedarylaw02_ClassMany.l0 k a1 (wrap64 (98 + t396)) ([] : List (S43)) 0)
theorem abecedarylaw02_ClassMany.mono_l : ∀ k, (∀ y0 y1 y2 y3, LeO (abecedarylaw02_ClassMany.l0 k y0 y1 y2 y3) (abecedarylaw02_ClassMany.l0 (k + 1) y0 y1 y2 y3))
  | 0 => fun _ _ _ _ r h => by simp [abecedarylaw02_ClassMany.l0] at h
  | k + 1 => by
    have ih0 := abecedarylaw02_ClassMany.mono_l k
    · intro y0 y1 y2 y3
      unfold abecedarylaw02_ClassMany.l0
      repeat' first
      | (with_reducible exact ih0 _ _ _ _)
      | (with_reducible exact abecedarylaw02_awake.mono _)
      | (with_reducible exact class_Check.mono _ _)
      | (with_reducible exact class_Of.mono _ _ _)
      | (with_reducible exact LeO.refl _)
      | (with_reducible exact LeO.none _)
      | (with_reducible refine LeO.ite ?_ ?_)
      | (with_reducible refine LeO.bind ?_ (fun _ => ?_))
      | exact ih0 _ _ _ _
      | exact abecedarylaw02_awake.mono _
      | exact class_Check.mono _ _
      | exact class_Of.mono _ _ _
      | exact LeO.none _
      | refine LeO.ite ?_ ?_
      | refine LeO.bind ?_ (fun _ => ?_)
theorem abecedarylaw02_ClassMany.mono : ∀ a0 a1 k, LeO (abecedarylaw02_ClassMany.f k a0 a1) (abecedarylaw02_ClassMany.f (k + 1) a0 a1) := by
  intro a0 a1 k
  have ih0 := abecedarylaw02_ClassMany.mono_l k
  unfold abecedarylaw02_ClassMany.f
  repeat' first
      | (with_reducible exact ih0 _ _ _ _)
      | (with_reducible exact abecedarylaw02_awake.mono _)
      | (with_reducible exact class_Check.mono _ _)
      | (with_reducible exact class_Of.mono _ _ _)
      | (with_reducible exact LeO.refl _)
      | (with_reducible exact LeO.none _)
      | (with_reducible refine LeO.ite ?_ ?_)
      | (with_reducible refine LeO.bind ?_ (fun _ => ?_))
      | exact ih0 _ _ _ _
      | exact abecedarylaw02_awake.mono _
      | exact class_Check.mono _ _
      | exact class_Of.mono _ _ _
      | exact LeO.none _
      | refine LeO.ite ?_ ?_
      | refine LeO.bind ?_ (fun _ => ?_)
set_option maxHeartbeats 8000000 in
set_option maxRecDepth 100000 in
theorem abecedarylaw02_ClassMany.calls (k : Nat) (a0 : Int) (a1 : Int) (r : Bool) (w : World) (h : abecedarylaw02_ClassMany.f k a0 a1 = some r) :
    Calls Try.prog 12 #[.int .i64 a0, .int .i64 a1] w fun e w' => e = .returned (.bool r) ∧ Below w.heap.size w w' := by
  have hu43 := Try.underlying43
  have HB := Aside0.mk (Below.refl w.heap.size w)
  have H : ((abecedarylaw00_Place.f a0 5).bind fun t396 => (abecedarylaw02_ClassMany.l0 k a1 (wrap64 (98 + t396)) ([] : List (S43)) 0)) = some r := h
  clear h
  replace H := Option.bind_eq_some_iff.mp H
  obtain ⟨t396, A30, H⟩ := H
  replace H : (abecedarylaw02_ClassMany.l0 k a1 (wrap64 (98 + t396)) ([] : List (S43)) 0) = some r := H
  have A3 := Aside0.mk A30
  clear A30
  have H' := Aside0.mk H
  clear H
  go_enter Try.func12, Try.ntmps12
  go_wp2_with (first | ((with_reducible refine gate_callee (f := 19) rfl ?_); refine goesL_ (some 11) rfl rfl Try.func19 (by kernel_rfl) rfl #[.int .i64 a0, .int .i64 5] rfl (by (try simp only [List.map_toArray, List.map_cons, List.map_nil]); first | done | rfl | (simp only [List.length_drop, List.length_take]; rfl)) ?_; (with_reducible refine (abecedarylaw00_Place.calls a0 5 t396 _ A3.out).mono ?_); rintro e w' ⟨rfl, ⟨nd, rfl⟩⟩; refine ⟨_, rfl, ?_⟩))
  go_loopg [6, 7] k (fun kq v6 v7 w' => ∃ (x6_1 : List (S43)) (x7_1 : Int), v7 = .int .i64 x7_1 ∧ Aside0 (abecedarylaw02_ClassMany.l0 kq a1 (wrap64 (98 + t396)) x6_1 x7_1 = some r) ∧ Aside0 (kq ≤ k) ∧ Aside0 (Kd.R k43 43 w' w.heap.size (fun _ => True) v6 x6_1) ∧ Aside0 (Below w.heap.size w w'))
  case atStart => exact ⟨(([] : List (S43))), (0), (by first | rfl | (simp; done) | (simp [*]; done)), H', ⟨Nat.le_refl _⟩, ⟨by first | exact Kd.R_nil _ _ _ _ _ | exact Kd.N_nil _ _ _ _ _ | exact Kd.V_nil _ _ _ _ _ | exact Kd.Q_nil _ _ _ _ _ | exact Kd.S_nil _ _ _ _ _⟩, ⟨by repeat (first | (with_reducible first | exact HB.out | apply below_alloc | apply pw_below_drewN | apply below_drew1) | exact HB.out)⟩⟩
  case round =>
    clear H'
    try clear c1
    try clear p2
    obtain ⟨x6_1, x7_1, rfl, HA, HK1, HO_6, HB⟩ := hrel
    cases gk with
    | zero => exact absurd HA.out (by simp [abecedarylaw02_ClassMany.l0])
    | succ k1 =>
      have H := HA.out
      clear HA
      simp only [abecedarylaw02_ClassMany.l0] at H
      by_cases c4 : x7_1 < (wrap64 (98 + t396))
      · rw [if_pos c4] at H
        have c4b0 : decide (x7_1 < (wrap64 (98 + t396))) = true := decide_eq_true c4
        clear c4
        by_cases c5 : x6_1.length < 5864062014805
        · rw [if_pos c5] at H
          have LMc5 := Aside0.mk c5
          clear c5
          obtain ⟨y397, hy397⟩ : ∃ y_ : List (S43), y_ = (x6_1 ++ [(⟨wrap64 (10 * x7_1), wrap64 ((wrap64 (10 * x7_1)) + 4), wrap64 (1 + (Int.tmod x7_1 3))⟩ : S43)]) := ⟨_, rfl⟩
          replace H : (abecedarylaw02_ClassMany.l0 k1 a1 (wrap64 (98 + t396)) y397 (wrap64 (x7_1 + 1))) = some r := by first | (rw [hy397]; with_reducible exact H) | (have H2_ := (Option.bind_some _ _).symm.trans H; rw [hy397]; with_reducible exact H2_) | (have H2_ := (Option.bind_some _ _).symm.trans H; with_reducible exact H2_) | with_reducible exact H | (rw [hy397]; exact H) | exact H
          have Ny397 := Aside0.mk hy397
          clear hy397
          have H' := Aside0.mk H
          clear H
          go_wp2_with (first | ((with_reducible refine gate_builtin (b := .append) (xs := #[.tmp 18, .tmp 28]) rfl ?_); at_builtin; refine Kd.R_append k43 (w0 := w) w.heap.size rfl (.tmp 18) (.tmp 28) 39 43 (.agg #[(.int .i64 0), (.int .i64 0), (.int .i64 0)]) 24 rfl Try.underlying39 info43 rfl (by decide) (by omega) u6 x6_1 (⟨wrap64 (10 * x7_1), wrap64 ((wrap64 (10 * x7_1)) + 4), wrap64 (1 + (Int.tmod x7_1 3))⟩ : S43) [.int .i64 (wrap64 (10 * x7_1)), .int .i64 (wrap64 ((wrap64 (10 * x7_1)) + 4)), .int .i64 (wrap64 (1 + (Int.tmod x7_1 3)))] (fun _ => True) (fun _ => False) rfl rfl ?aP (fun _ hk => hk.elim) ?aF ?aO ?aB ?aS ?aL ?_; (case aP => exact k43_mkM _ _ _ (⟨wrap64 (10 * x7_1), wrap64 ((wrap64 (10 * x7_1)) + 4), wrap64 (1 + (Int.tmod x7_1 3))⟩ : S43)); (case aB => exact (by repeat (first | (with_reducible first | exact HB.out | apply below_alloc | apply pw_below_drewN | apply below_drew1) | exact HB.out))); (case aF => exact (fun _ _ => trivial)); (case aO => exact (by (with_reducible repeat (first | apply Kd.R_alloc | apply Kd.R_drewN | apply Kd.R_drew)); exact HO_6.out)); (case aS => exact (below_size (by repeat (first | (with_reducible first | exact HB.out | apply below_alloc | apply pw_below_drewN | apply below_drew1) | exact HB.out)))); (case aL => have := LMc5.out; omega); intro v398 w6 ho hb hg hat; rw [← Ny397.out] at ho; have n0_ := Aside0.mk (hb); have n1_ := Aside0.mk (ho); clear HB; clear HO_6; have HB := n0_; have HO399 := n1_; clear n0_ n1_; clear ho hb hg hat))
          go_roundg k1
          case measure => have := HK1.out; omega
          case rel => exact ⟨(y397), (wrap64 (x7_1 + 1)), (by first | rfl | (simp; done) | (simp [*]; done)), H', ⟨by have := HK1.out; omega⟩, ⟨by (with_reducible repeat (first | apply Kd.R_alloc | apply Kd.R_drewN | apply Kd.R_drew)); exact HO399.out⟩, ⟨by repeat (first | (with_reducible first | exact HB.out | apply below_alloc | apply pw_below_drewN | apply below_drew1) | exact HB.out)⟩⟩
        · rw [if_neg c5] at H
          exact absurd H (by simp)
      · rw [if_neg c4] at H
        have c4b0 : decide (x7_1 < (wrap64 (98 + t396))) = false := decide_eq_false c4
        clear c4
        replace H := Option.bind_eq_some_iff.mp H
        obtain ⟨t400, A70, H⟩ := H
        replace H : (if (wrap64 (98 + t396)) > 100 then ((class_Check.f k1 x6_1).bind fun t401 => (if t401 = true then (none) else ((class_Of.f k1 x6_1 t400).bind fun t402 => (if t402 = 0 then ((abecedarylaw02_awake.f k1).bind fun t403 => (some t403)) else (none))))) else (if (Int.tmod t400 10) ≤ 4 then ((class_Check.f k1 x6_1).bind fun t404 => (if t404 = true then ((class_Of.f k1 x6_1 t400).bind fun t405 => (if t405 = (wrap64 (1 + (Int.tmod (wrap64 (Int.tdiv t400 10)) 3))) then ((abecedarylaw02_awake.f k1).bind fun t406 => (some t406)) else (none))) else (none))) else ((class_Check.f k1 x6_1).bind fun t407 => (if t407 = true then ((class_Of.f k1 x6_1 t400).bind fun t408 => (if t408 = 0 then ((abecedarylaw02_awake.f k1).bind fun t409 => (some t409)) else (none))) else (none))))) = some r := H
        have A7 := Aside0.mk A70
        clear A70
        by_cases c8 : (wrap64 (98 + t396)) > 100
        · rw [if_pos c8] at H
          have c8b0 : decide (100 < (wrap64 (98 + t396))) = true := decide_eq_true c8
          clear c8
          replace H := Option.bind_eq_some_iff.mp H
          obtain ⟨t401, A90, H⟩ := H
          replace H : (if t401 = true then (none) else ((class_Of.f k1 x6_1 t400).bind fun t402 => (if t402 = 0 then ((abecedarylaw02_awake.f k1).bind fun t403 => (some t403)) else (none)))) = some r := H
          have A9 := Aside0.mk A90
          clear A90
          by_cases c10 : t401 = true
          · subst c10
            have H1 : (none) = some r := by rw [if_pos rfl] at H; exact H
            clear H
            have H := H1
            clear H1
            exact absurd H (by simp)
          · replace c10 := Bool.eq_false_iff.mpr c10
            subst c10
            have H1 : ((class_Of.f k1 x6_1 t400).bind fun t402 => (if t402 = 0 then ((abecedarylaw02_awake.f k1).bind fun t403 => (some t403)) else (none))) = some r := by rw [if_neg (show ¬ (false = true) by decide)] at H; exact H
            clear H
            have H := H1
            clear H1
            replace H := Option.bind_eq_some_iff.mp H
            obtain ⟨t402, A110, H⟩ := H
            replace H : (if t402 = 0 then ((abecedarylaw02_awake.f k1).bind fun t403 => (some t403)) else (none)) = some r := H
            have A11 := Aside0.mk A110
            clear A110
            by_cases c12 : t402 = 0
            · rw [if_pos c12] at H
              have c12b0 : (t402 == 0) = true := beq_iff_eq.mpr c12
              have c12b1 : (t402 != 0) = false := bne_eq_false_iff_eq.mpr c12
              clear c12
              replace H := Option.bind_eq_some_iff.mp H
              obtain ⟨t403, A130, H⟩ := H
              replace H : (some t403) = some r := H
              have A13 := Aside0.mk A130
              clear A130
              obtain rfl := Option.some.inj H
              go_wp2_with (first | ((with_reducible refine gate_callee (f := 19) rfl ?_); refine goesL_ (some 33) rfl rfl Try.func19 (by kernel_rfl) rfl #[.int .i64 a1, .int .i64 (wrap64 (10 * (wrap64 (98 + t396))))] rfl (by (try simp only [List.map_toArray, List.map_cons, List.map_nil]); first | done | rfl | (simp only [List.length_drop, List.length_take]; rfl)) ?_; (with_reducible refine (abecedarylaw00_Place.calls a1 (wrap64 (10 * (wrap64 (98 + t396)))) t400 _ A7.out).mono ?_); rintro e w' ⟨rfl, ⟨nd, rfl⟩⟩; refine ⟨_, rfl, ?_⟩; obtain ⟨Ao14, co14, eo14⟩ := Kd.R_slice HO_6.out; subst eo14) | ((with_reducible refine gate_callee (f := 25) rfl ?_); refine goesL_ (some 37) rfl rfl Try.func25 (by kernel_rfl) rfl #[.slice Ao14 x6_1.length co14] rfl (by (try simp only [List.map_toArray, List.map_cons, List.map_nil]); first | done | rfl | (simp only [List.length_drop, List.length_take]; rfl)) ?_; (with_reducible refine (class_Check.calls k1 _ _ x6_1 false _ ?side1 ?side2 A9.out).mono ?_); (case side1 => repeat (first | exact (Kd.R_reads' HO_6.out).2.2 | (with_reducible refine Kd.C_alloc ?_ _) | (with_reducible refine Kd.C_drewN ?_ _) | (with_reducible refine Kd.C_drew ?_))); (case side2 => exact (Kd.R_reads' HO_6.out).2.1); rintro e w15 ⟨rfl, hb⟩; refine ⟨_, rfl, ?_⟩; have n0_ := Aside0.mk (Kd.R_below (by (with_reducible repeat (first | apply Kd.R_alloc | apply Kd.R_drewN | apply Kd.R_drew)); exact HO_6.out) hb); have n1_ := Aside0.mk (below_step (by repeat (first | (with_reducible first | exact HB.out | apply below_alloc | apply pw_below_drewN | apply below_drew1) | exact HB.out)) hb); clear HO_6; clear HB; have HO_6 := n0_; have HB := n1_; clear n0_ n1_; (try clear hb); (try clear hb2); (try clear hk); (try clear hi)) | (go_at_call 27; (with_reducible refine (class_Of.calls k1 (fun k_ => some k_ = (.slice Ao14 x6_1.length co14 : Value).ownBlock) _ _ x6_1 t400 t402 _ ?side1 A11.out).mono ?_); (case side1 => exact Kd.R_V (Kd.R_tight rfl (HO_6.out))); rintro e w16 ⟨rfl, hb⟩; have n0_ := Aside0.mk (Kd.R_below (by (with_reducible repeat (first | apply Kd.R_alloc | apply Kd.R_drewN | apply Kd.R_drew)); exact HO_6.out) hb); have n1_ := Aside0.mk (below_step (by repeat (first | (with_reducible first | exact HB.out | apply below_alloc | apply pw_below_drewN | apply below_drew1) | exact HB.out)) hb); clear HO_6; clear HB; have HO_6 := n0_; have HB := n1_; clear n0_ n1_; (try clear hb); (try clear hb2); (try clear hk); (try clear hi)) | (go_at_call 24; (with_reducible refine (abecedarylaw02_awake.calls k1  t403 _ A13.out).mono ?_); rintro e w17 ⟨rfl, hb⟩; have n0_ := Aside0.mk (Kd.R_below (by (with_reducible repeat (first | apply Kd.R_alloc | apply Kd.R_drewN | apply Kd.R_drew)); exact HO_6.out) hb); have n1_ := Aside0.mk (below_step (by repeat (first | (with_reducible first | exact HB.out | apply below_alloc | apply pw_below_drewN | apply below_drew1) | exact HB.out)) hb); clear HO_6; clear HB; have HO_6 := n0_; have HB := n1_; clear n0_ n1_; (try clear hb); (try clear hb2); (try clear hk); (try clear hi)))
              go_ret
              exact ⟨by first | rfl | (simp [errW_none, errW_some] <;> rfl) | (simp [*, errW_none, errW_some] <;> rfl), by repeat (first | (with_reducible first | exact HB.out | apply below_alloc | apply pw_below_drewN | apply below_drew1) | exact HB.out)⟩
            · rw [if_neg c12] at H
              exact absurd H (by simp)
        · rw [if_neg c8] at H
          have c8b0 : decide (100 < (wrap64 (98 + t396))) = false := decide_eq_false c8
          clear c8
          by_cases c18 : (Int.tmod t400 10) ≤ 4
          · rw [if_pos c18] at H
            have c18b0 : decide ((Int.tmod t400 10) ≤ 4) = true := decide_eq_true c18
            clear c18
            replace H := Option.bind_eq_some_iff.mp H
            obtain ⟨t404, A190, H⟩ := H
            replace H : (if t404 = true then ((class_Of.f k1 x6_1 t400).bind fun t405 => (if t405 = (wrap64 (1 + (Int.tmod (wrap64 (Int.tdiv t400 10)) 3))) then ((abecedarylaw02_awake.f k1).bind fun t406 => (some t406)) else (none))) else (none)) = some r := H
            have A19 := Aside0.mk A190
            clear A190
            by_cases c20 : t404 = true
            · subst c20
              have H1 : ((class_Of.f k1 x6_1 t400).bind fun t405 => (if t405 = (wrap64 (1 + (Int.tmod (wrap64 (Int.tdiv t400 10)) 3))) then ((abecedarylaw02_awake.f k1).bind fun t406 => (some t406)) else (none))) = some r := by rw [if_pos rfl] at H; exact H
              clear H
              have H := H1
              clear H1
              replace H := Option.bind_eq_some_iff.mp H
              obtain ⟨t405, A210, H⟩ := H
              replace H : (if t405 = (wrap64 (1 + (Int.tmod (wrap64 (Int.tdiv t400 10)) 3))) then ((abecedarylaw02_awake.f k1).bind fun t406 => (some t406)) else (none)) = some r := H
              have A21 := Aside0.mk A210
              clear A210
              by_cases c22 : t405 = (wrap64 (1 + (Int.tmod (wrap64 (Int.tdiv t400 10)) 3)))
              · rw [if_pos c22] at H
                have c22b0 : (t405 == (wrap64 (1 + (Int.tmod (wrap64 (Int.tdiv t400 10)) 3)))) = true := beq_iff_eq.mpr c22
                have c22b1 : (t405 != (wrap64 (1 + (Int.tmod (wrap64 (Int.tdiv t400 10)) 3)))) = false := bne_eq_false_iff_eq.mpr c22
                clear c22
                replace H := Option.bind_eq_some_iff.mp H
                obtain ⟨t406, A230, H⟩ := H
                replace H : (some t406) = some r := H
                have A23 := Aside0.mk A230
                clear A230
                obtain rfl := Option.some.inj H
                go_wp2_with (first | ((with_reducible refine gate_callee (f := 19) rfl ?_); refine goesL_ (some 33) rfl rfl Try.func19 (by kernel_rfl) rfl #[.int .i64 a1, .int .i64 (wrap64 (10 * (wrap64 (98 + t396))))] rfl (by (try simp only [List.map_toArray, List.map_cons, List.map_nil]); first | done | rfl | (simp only [List.length_drop, List.length_take]; rfl)) ?_; (with_reducible refine (abecedarylaw00_Place.calls a1 (wrap64 (10 * (wrap64 (98 + t396)))) t400 _ A7.out).mono ?_); rintro e w' ⟨rfl, ⟨nd, rfl⟩⟩; refine ⟨_, rfl, ?_⟩; obtain ⟨Ao24, co24, eo24⟩ := Kd.R_slice HO_6.out; subst eo24) | ((with_reducible refine gate_callee (f := 25) rfl ?_); refine goesL_ (some 56) rfl rfl Try.func25 (by kernel_rfl) rfl #[.slice Ao24 x6_1.length co24] rfl (by (try simp only [List.map_toArray, List.map_cons, List.map_nil]); first | done | rfl | (simp only [List.length_drop, List.length_take]; rfl)) ?_; (with_reducible refine (class_Check.calls k1 _ _ x6_1 true _ ?side1 ?side2 A19.out).mono ?_); (case side1 => repeat (first | exact (Kd.R_reads' HO_6.out).2.2 | (with_reducible refine Kd.C_alloc ?_ _) | (with_reducible refine Kd.C_drewN ?_ _) | (with_reducible refine Kd.C_drew ?_))); (case side2 => exact (Kd.R_reads' HO_6.out).2.1); rintro e w25 ⟨rfl, hb⟩; refine ⟨_, rfl, ?_⟩; have n0_ := Aside0.mk (Kd.R_below (by (with_reducible repeat (first | apply Kd.R_alloc | apply Kd.R_drewN | apply Kd.R_drew)); exact HO_6.out) hb); have n1_ := Aside0.mk (below_step (by repeat (first | (with_reducible first | exact HB.out | apply below_alloc | apply pw_below_drewN | apply below_drew1) | exact HB.out)) hb); clear HO_6; clear HB; have HO_6 := n0_; have HB := n1_; clear n0_ n1_; (try clear hb); (try clear hb2); (try clear hk); (try clear hi)) | (go_at_call 27; (with_reducible refine (class_Of.calls k1 (fun k_ => some k_ = (.slice Ao24 x6_1.length co24 : Value).ownBlock) _ _ x6_1 t400 t405 _ ?side1 A21.out).mono ?_); (case side1 => exact Kd.R_V (Kd.R_tight rfl (HO_6.out))); rintro e w26 ⟨rfl, hb⟩; have n0_ := Aside0.mk (Kd.R_below (by (with_reducible repeat (first | apply Kd.R_alloc | apply Kd.R_drewN | apply Kd.R_drew)); exact HO_6.out) hb); have n1_ := Aside0.mk (below_step (by repeat (first | (with_reducible first | exact HB.out | apply below_alloc | apply pw_below_drewN | apply below_drew1) | exact HB.out)) hb); clear HO_6; clear HB; have HO_6 := n0_; have HB := n1_; clear n0_ n1_; (try clear hb); (try clear hb2); (try clear hk); (try clear hi)) | (go_at_call 24; (with_reducible refine (abecedarylaw02_awake.calls k1  t406 _ A23.out).mono ?_); rintro e w27 ⟨rfl, hb⟩; have n0_ := Aside0.mk (Kd.R_below (by (with_reducible repeat (first | apply Kd.R_alloc | apply Kd.R_drewN | apply Kd.R_drew)); exact HO_6.out) hb); have n1_ := Aside0.mk (below_step (by repeat (first | (with_reducible first | exact HB.out | apply below_alloc | apply pw_below_drewN | apply below_drew1) | exact HB.out)) hb); clear HO_6; clear HB; have HO_6 := n0_; have HB := n1_; clear n0_ n1_; (try clear hb); (try clear hb2); (try clear hk); (try clear hi)))
                go_ret
                exact ⟨by first | rfl | (simp [errW_none, errW_some] <;> rfl) | (simp [*, errW_none, errW_some] <;> rfl), by repeat (first | (with_reducible first | exact HB.out | apply below_alloc | apply pw_below_drewN | apply below_drew1) | exact HB.out)⟩
              · rw [if_neg c22] at H
                exact absurd H (by simp)
            · replace c20 := Bool.eq_false_iff.mpr c20
              subst c20
              have H1 : (none) = some r := by rw [if_neg (show ¬ (false = true) by decide)] at H; exact H
              clear H
              have H := H1
              clear H1
              exact absurd H (by simp)
          · rw [if_neg c18] at H
            have c18b0 : decide ((Int.tmod t400 10) ≤ 4) = false := decide_eq_false c18
            clear c18
            replace H := Option.bind_eq_some_iff.mp H
            obtain ⟨t407, A280, H⟩ := H
            replace H : (if t407 = true then ((class_Of.f k1 x6_1 t400).bind fun t408 => (if t408 = 0 then ((abecedarylaw02_awake.f k1).bind fun t409 => (some t409)) else (none))) else (none)) = some r := H
            have A28 := Aside0.mk A280
            clear A280
            by_cases c29 : t407 = true
            · subst c29
              have H1 : ((class_Of.f k1 x6_1 t400).bind fun t408 => (if t408 = 0 then ((abecedarylaw02_awake.f k1).bind fun t409 => (some t409)) else (none))) = some r := by rw [if_pos rfl] at H; exact H
              clear H
              have H := H1
              clear H1
              replace H := Option.bind_eq_some_iff.mp H
              obtain ⟨t408, A300, H⟩ := H
              replace H : (if t408 = 0 then ((abecedarylaw02_awake.f k1).bind fun t409 => (some t409)) else (none)) = some r := H
              have A30 := Aside0.mk A300
              clear A300
              by_cases c31 : t408 = 0
              · rw [if_pos c31] at H
                have c31b0 : (t408 == 0) = true := beq_iff_eq.mpr c31
                have c31b1 : (t408 != 0) = false := bne_eq_false_iff_eq.mpr c31
                clear c31
                replace H := Option.bind_eq_some_iff.mp H
                obtain ⟨t409, A320, H⟩ := H
                replace H : (some t409) = some r := H
                have A32 := Aside0.mk A320
                clear A320
                obtain rfl := Option.some.inj H
                go_wp2_with (first | ((with_reducible refine gate_callee (f := 19) rfl ?_); refine goesL_ (some 33) rfl rfl Try.func19 (by kernel_rfl) rfl #[.int .i64 a1, .int .i64 (wrap64 (10 * (wrap64 (98 + t396))))] rfl (by (try simp only [List.map_toArray, List.map_cons, List.map_nil]); first | done | rfl | (simp only [List.length_drop, List.length_take]; rfl)) ?_; (with_reducible refine (abecedarylaw00_Place.calls a1 (wrap64 (10 * (wrap64 (98 + t396)))) t400 _ A7.out).mono ?_); rintro e w' ⟨rfl, ⟨nd, rfl⟩⟩; refine ⟨_, rfl, ?_⟩; obtain ⟨Ao33, co33, eo33⟩ := Kd.R_slice HO_6.out; subst eo33) | ((with_reducible refine gate_callee (f := 25) rfl ?_); refine goesL_ (some 56) rfl rfl Try.func25 (by kernel_rfl) rfl #[.slice Ao33 x6_1.length co33] rfl (by (try simp only [List.map_toArray, List.map_cons, List.map_nil]); first | done | rfl | (simp only [List.length_drop, List.length_take]; rfl)) ?_; (with_reducible refine (class_Check.calls k1 _ _ x6_1 true _ ?side1 ?side2 A28.out).mono ?_); (case side1 => repeat (first | exact (Kd.R_reads' HO_6.out).2.2 | (with_reducible refine Kd.C_alloc ?_ _) | (with_reducible refine Kd.C_drewN ?_ _) | (with_reducible refine Kd.C_drew ?_))); (case side2 => exact (Kd.R_reads' HO_6.out).2.1); rintro e w34 ⟨rfl, hb⟩; refine ⟨_, rfl, ?_⟩; have n0_ := Aside0.mk (Kd.R_below (by (with_reducible repeat (first | apply Kd.R_alloc | apply Kd.R_drewN | apply Kd.R_drew)); exact HO_6.out) hb); have n1_ := Aside0.mk (below_step (by repeat (first | (with_reducible first | exact HB.out | apply below_alloc | apply pw_below_drewN | apply below_drew1) | exact HB.out)) hb); clear HO_6; clear HB; have HO_6 := n0_; have HB := n1_; clear n0_ n1_; (try clear hb); (try clear hb2); (try clear hk); (try clear hi)) | (go_at_call 27; (with_reducible refine (class_Of.calls k1 (fun k_ => some k_ = (.slice Ao33 x6_1.length co33 : Value).ownBlock) _ _ x6_1 t400 t408 _ ?side1 A30.out).mono ?_); (case side1 => exact Kd.R_V (Kd.R_tight rfl (HO_6.out))); rintro e w35 ⟨rfl, hb⟩; have n0_ := Aside0.mk (Kd.R_below (by (with_reducible repeat (first | apply Kd.R_alloc | apply Kd.R_drewN | apply Kd.R_drew)); exact HO_6.out) hb); have n1_ := Aside0.mk (below_step (by repeat (first | (with_reducible first | exact HB.out | apply below_alloc | apply pw_below_drewN | apply below_drew1) | exact HB.out)) hb); clear HO_6; clear HB; have HO_6 := n0_; have HB := n1_; clear n0_ n1_; (try clear hb); (try clear hb2); (try clear hk); (try clear hi)) | (go_at_call 24; (with_reducible refine (abecedarylaw02_awake.calls k1  t409 _ A32.out).mono ?_); rintro e w36 ⟨rfl, hb⟩; have n0_ := Aside0.mk (Kd.R_below (by (with_reducible repeat (first | apply Kd.R_alloc | apply Kd.R_drewN | apply Kd.R_drew)); exact HO_6.out) hb); have n1_ := Aside0.mk (below_step (by repeat (first | (with_reducible first | exact HB.out | apply below_alloc | apply pw_below_drewN | apply below_drew1) | exact HB.out)) hb); clear HO_6; clear HB; have HO_6 := n0_; have HB := n1_; clear n0_ n1_; (try clear hb); (try clear hb2); (try clear hk); (try clear hi)))
                go_ret
                exact ⟨by first | rfl | (simp [errW_none, errW_some] <;> rfl) | (simp [*, errW_none, errW_some] <;> rfl), by repeat (first | (with_reducible first | exact HB.out | apply below_alloc | apply pw_below_drewN | apply below_drew1) | exact HB.out)⟩
              · rw [if_neg c31] at H
                exact absurd H (by simp)
            · replace c29 := Bool.eq_false_iff.mpr c29
              subst c29
              have H1 : (none) = some r := by rw [if_neg (show ¬ (false = true) by decide)] at H; exact H
              clear H
              have H := H1
              clear H1
              exact absurd H (by simp)

/-- THE ONE PURE STATEMENT of abecedarylaw02_ClassMany: yours. -/
def abecedarylaw02_ClassMany.Pure : Prop := ∀ (a0 : Int) (a1 : Int), (Lit.int .i64 a0).wf = true → (Lit.int .i64 a1).wf = true → ∃ k, abecedarylaw02_ClassMany.f k a0 a1 = some true
theorem abecedarylaw02_ClassMany.walk (P : abecedarylaw02_ClassMany.Pure) (a0 : Int) (a1 : Int) (w : World) (w0 : (Lit.int .i64 a0).wf = true) (w1 : (Lit.int .i64 a1).wf = true) :
    Calls Try.prog 12 #[.int .i64 a0, .int .i64 a1] w fun e w' => e = .returned (.bool true) ∧ Below w.heap.size w w' := by
  obtain ⟨k, h⟩ := P a0 a1 w0 w1
  refine (abecedarylaw02_ClassMany.calls k a0 a1 true w h).mono ?_
  rintro e w' ⟨rfl, hd⟩
  exact ⟨rfl, hd⟩

end Go.Proofs.Ytedjfmlmoommnaa.Q

-- made by wip/xprint.py of this claim's own repo
import Derived.Test.YtedjfmlmoommnaaQ0
import Derived.Test.YtedjfmlmoommnaaQ1
import Derived.Test.YtedjfmlmoommnaaQ2
import Derived.Test.YtedjfmlmoommnaaQ3
import Derived.Test.YtedjfmlmoommnaaQ8
namespace Go.Proofs.Ytedjfmlmoommnaa.Q
open Go.RowKit Go.Proofs.YtedjfmlmoommnaaW.PrintWords Go.Proofs.YtedjfmlmoommnaaW.PrintLast Go.Proofs.YtedjfmlmoommnaaW.PrintMore
attribute [local go_sem] max2_int min2_int max_two min_two max_three min_three max_four min_four   -- for this text's walks alone
set_option linter.unusedVariables false
set_option linter.unusedSimpArgs false

/-! ### abecedarylaw07_EditKnown: function 4 -/
def abecedarylaw07_EditKnown.f (k : Nat) (a0 : ByteArray) (a1 : ByteArray) (a2 : ByteArray) (a3 : ByteArray) (a4 : Int) : Option (Bool) := if (wrap64 ((wrap64 ((wrap64 ((a0.size : Int) + (a1.size : Int))) + (a2.size : Int))) + (a3.size : Int))) > 2000 then ((abecedarylaw07_awake.f k).bind fun t136 => (some t136)) else (if a0.size + a1.size ≤ 9223372036854775807 then (if (a0 ++ a1).size + a2.size ≤ 9223372036854775807 then ((edit_Apply.f k ((a0 ++ a1) ++ a2) (a0.size : Int) a1 a3).bind fun bt138 => ((edit_Inverse.f (a0.size : Int) a1 a3).bind fun bt140 => ((edit_Apply.f k bt138.1 bt140.1 bt140.2.1 bt140.2.2).bind fun bt143 => ((abecedarylaw00_Place.f a4 100).bind fun t145 => ((edit_Apply.f k ((a0 ++ a1) ++ a2) (wrap64 ((wrap64 ((wrap64 ((wrap64 ((a0.size : Int) + (a1.size : Int))) + (a2.size : Int))) + 1)) + t145)) (⟨#[]⟩ : ByteArray) (⟨#[120]⟩ : ByteArray)).bind fun bt146 => ((edit_Apply.f k ((a0 ++ a1) ++ a2) (wrap64 ((-1) - t145)) (⟨#[]⟩ : ByteArray) (⟨#[]⟩ : ByteArray)).bind fun bt148 => (if a1.size + a2.size ≤ 9223372036854775807 then (if (a1 ++ a2).size + 1 ≤ 9223372036854775807 then ((edit_Apply.f k ((a0 ++ a1) ++ a2) (a0.size : Int) ((a1 ++ a2) ++ (⟨#[120]⟩ : ByteArray)) (⟨#[]⟩ : ByteArray)).bind fun bt150 => (if bt138.2 = true then (if bt143.2 = true then (if a0.size + a3.size ≤ 9223372036854775807 then (if (a0 ++ a3).size + a2.size ≤ 9223372036854775807 then (if bt138.1.toList = ((a0 ++ a3) ++ a2).toList then (if bt143.1.toList = ((a0 ++ a1) ++ a2).toList then (if bt146.2 = true then (none) else (if bt146.1.toList = ([] : List UInt8) then (if bt148.2 = true then (none) else (if bt150.2 = true then (none) else ((abecedarylaw07_awake.f k).bind fun t152 => (some t152)))) else (none))) else (none)) else (none)) else (none)) else (none)) else (none)) else (none))) else (none)) else (none)))))))) else (none)) else (none))
theorem abecedarylaw07_EditKnown.mono : ∀ a0 a1 a2 a3 a4 k, LeO (abecedarylaw07_EditKnown.f k a0 a1 a2 a3 a4) (abecedarylaw07_EditKnown.f (k + 1) a0 a1 a2 a3 a4) := by
  intro a0 a1 a2 a3 a4 k
  unfold abecedarylaw07_EditKnown.f
  repeat' first
      | (with_reducible exact abecedarylaw07_awake.mono _)
      | (with_reducible exact edit_Apply.mono _ _ _ _ _)
      | (with_reducible exact LeO.refl _)
      | (with_reducible exact LeO.none _)
      | (with_reducible refine LeO.ite ?_ ?_)
      | (with_reducible refine LeO.bind ?_ (fun _ => ?_))
      | exact abecedarylaw07_awake.mono _
      | exact edit_Apply.mono _ _ _ _ _
      | exact LeO.none _
      | refine LeO.ite ?_ ?_
      | refine LeO.bind ?_ (fun _ => ?_)
set_option maxHeartbeats 8000000 in
set_option maxRecDepth 100000 in
theorem abecedarylaw07_EditKnown.calls (k : Nat) (a0 : ByteArray) (a1 : ByteArray) (a2 : ByteArray) (a3 : ByteArray) (a4 : Int) (r : Bool) (w : World) (h : abecedarylaw07_EditKnown.f k a0 a1 a2 a3 a4 = some r) :
    Calls Try.prog 4 #[.string a0, .string a1, .string a2, .string a3, .int .i64 a4] w fun e w' => e = .returned (.bool r) ∧ Below w.heap.size w w' := by
  have hu23 := Try.underlying23
  have HB := Aside0.mk (Below.refl w.heap.size w)
  have H : (if (wrap64 ((wrap64 ((wrap64 ((a0.size : Int) + (a1.size : Int))) + (a2.size : Int))) + (a3.size : Int))) > 2000 then ((abecedarylaw07_awake.f k).bind fun t136 => (some t136)) else (if a0.size + a1.size ≤ 9223372036854775807 then (if (a0 ++ a1).size + a2.size ≤ 9223372036854775807 then ((edit_Apply.f k ((a0 ++ a1) ++ a2) (a0.size : Int) a1 a3).bind fun bt138 => ((edit_Inverse.f (a0.size : Int) a1 a3).bind fun bt140 => ((edit_Apply.f k bt138.1 bt140.1 bt140.2.1 bt140.2.2).bind fun bt143 => ((abecedarylaw00_Place.f a4 100).bind fun t145 => ((edit_Apply.f k ((a0 ++ a1) ++ a2) (wrap64 ((wrap64 ((wrap64 ((wrap64 ((a0.size : Int) + (a1.size : Int))) + (a2.size : Int))) + 1)) + t145)) (⟨#[]⟩ : ByteArray) (⟨#[120]⟩ : ByteArray)).bind fun bt146 => ((edit_Apply.f k ((a0 ++ a1) ++ a2) (wrap64 ((-1) - t145)) (⟨#[]⟩ : ByteArray) (⟨#[]⟩ : ByteArray)).bind fun bt148 => (if a1.size + a2.size ≤ 9223372036854775807 then (if (a1 ++ a2).size + 1 ≤ 9223372036854775807 then ((edit_Apply.f k ((a0 ++ a1) ++ a2) (a0.size : Int) ((a1 ++ a2) ++ (⟨#[120]⟩ : ByteArray)) (⟨#[]⟩ : ByteArray)).bind fun bt150 => (if bt138.2 = true then (if bt143.2 = true then (if a0.size + a3.size ≤ 9223372036854775807 then (if (a0 ++ a3).size + a2.size ≤ 9223372036854775807 then (if bt138.1.toList = ((a0 ++ a3) ++ a2).toList then (if bt143.1.toList = ((a0 ++ a1) ++ a2).toList then (if bt146.2 = true then (none) else (if bt146.1.toList = ([] : List UInt8) then (if bt148.2 = true then (none) else (if bt150.2 = true then (none) else ((abecedarylaw07_awake.f k).bind fun t152 => (some t152)))) else (none))) else (none)) else (none)) else (none)) else (none)) else (none)) else (none))) else (none)) else (none)))))))) else (none)) else (none))) = some r := h
  clear h
  by_cases c6 : (wrap64 ((wrap64 ((wrap64 ((a0.size : Int) + (a1.size : Int))) + (a2.size : Int))) + (a3.size : Int))) > 2000
  · rw [if_pos c6] at H
    have c6b0 : decide (2000 < (wrap64 ((wrap64 ((wrap64 ((a0.size : Int) + (a1.size : Int))) + (a2.size : Int))) + (a3.size : Int)))) = true := decide_eq_true c6
    clear c6
    replace H := Option.bind_eq_some_iff.mp H
    obtain ⟨t136, A70, H⟩ := H
    replace H : (some t136) = some r := H
    have A7 := Aside0.mk A70
    clear A70
    obtain rfl := Option.some.inj H
    go_enter Try.func4, Try.ntmps4
    go_wp2_with (first | ((with_reducible refine gate_callee (f := 13) rfl ?_); refine goesL_ (some 35) rfl rfl Try.func13 (by kernel_rfl) rfl #[] rfl (by (try simp only [List.map_toArray, List.map_cons, List.map_nil]); first | done | rfl | (simp only [List.length_drop, List.length_take]; rfl)) ?_; (with_reducible refine (abecedarylaw07_awake.calls k  t136 _ A7.out).mono ?_); rintro e w8 ⟨rfl, hb⟩; refine ⟨_, rfl, ?_⟩; have n0_ := Aside0.mk (below_step (by repeat (first | (with_reducible first | exact HB.out | apply below_alloc | apply pw_below_drewN | apply below_drew1) | exact HB.out)) hb); clear HB; have HB := n0_; clear n0_; (try clear hb); (try clear hb2); (try clear hk); (try clear hi)))
    go_ret
    exact ⟨by first | rfl | (simp [errW_none, errW_some] <;> rfl) | (simp [*, errW_none, errW_some] <;> rfl), by repeat (first | (with_reducible first | exact HB.out | apply below_alloc | apply pw_below_drewN | apply below_drew1) | exact HB.out)⟩
  · rw [if_neg c6] at H
    have c6b0 : decide (2000 < (wrap64 ((wrap64 ((wrap64 ((a0.size : Int) + (a1.size : Int))) + (a2.size : Int))) + (a3.size : Int)))) = false := decide_eq_false c6
    clear c6
    by_cases c9 : a0.size + a1.size ≤ 9223372036854775807
    · rw [if_pos c9] at H
      have c9b0 := eq_true c9
      have c9b1 : decide (a0.size + a1.size ≤ 9223372036854775807) = true := decide_eq_true c9
      try have c9b2 : (9223372036854775807 < a0.size + a1.size) = False := eq_false (Nat.not_lt.2 c9)
      try (have c9b3 := c9b2; simp only [ByteArray.size_append] at c9b3)
      have c9w : wrap64 ((a0.size : Int) + (a1.size : Int)) = (a0.size : Int) + (a1.size : Int) := by unfold wrap64; omega
      try simp only [c9w] at H
      try simp only [c9w] at c6b0
      by_cases c10 : (a0 ++ a1).size + a2.size ≤ 9223372036854775807
      · rw [if_pos c10] at H
        have c10b0 := eq_true c10
        have c10b1 : decide ((a0 ++ a1).size + a2.size ≤ 9223372036854775807) = true := decide_eq_true c10
        try have c10b2 : (9223372036854775807 < (a0 ++ a1).size + a2.size) = False := eq_false (Nat.not_lt.2 c10)
        try (have c10b3 := c10b2; simp only [ByteArray.size_append] at c10b3)
        replace H := Option.bind_eq_some_iff.mp H
        obtain ⟨⟨t138, t139⟩, A110, H⟩ := H
        replace H : ((edit_Inverse.f (a0.size : Int) a1 a3).bind fun bt140 => ((edit_Apply.f k t138 bt140.1 bt140.2.1 bt140.2.2).bind fun bt143 => ((abecedarylaw00_Place.f a4 100).bind fun t145 => ((edit_Apply.f k ((a0 ++ a1) ++ a2) (wrap64 ((wrap64 ((wrap64 (((a0.size : Int) + (a1.size : Int)) + (a2.size : Int))) + 1)) + t145)) (⟨#[]⟩ : ByteArray) (⟨#[120]⟩ : ByteArray)).bind fun bt146 => ((edit_Apply.f k ((a0 ++ a1) ++ a2) (wrap64 ((-1) - t145)) (⟨#[]⟩ : ByteArray) (⟨#[]⟩ : ByteArray)).bind fun bt148 => (if a1.size + a2.size ≤ 9223372036854775807 then (if (a1 ++ a2).size + 1 ≤ 9223372036854775807 then ((edit_Apply.f k ((a0 ++ a1) ++ a2) (a0.size : Int) ((a1 ++ a2) ++ (⟨#[120]⟩ : ByteArray)) (⟨#[]⟩ : ByteArray)).bind fun bt150 => (if t139 = true then (if bt143.2 = true then (if a0.size + a3.size ≤ 9223372036854775807 then (if (a0 ++ a3).size + a2.size ≤ 9223372036854775807 then (if t138.toList = ((a0 ++ a3) ++ a2).toList then (if bt143.1.toList = ((a0 ++ a1) ++ a2).toList then (if bt146.2 = true then (none) else (if bt146.1.toList = ([] : List UInt8) then (if bt148.2 = true then (none) else (if bt150.2 = true then (none) else ((abecedarylaw07_awake.f k).bind fun t152 => (some t152)))) else (none))) else (none)) else (none)) else (none)) else (none)) else (none)) else (none))) else (none)) else (none))))))) = some r := H
        have A11 := Aside0.mk A110
        clear A110
        replace H := Option.bind_eq_some_iff.mp H
        obtain ⟨⟨t140, t141, t142⟩, A120, H⟩ := H
        replace H : ((edit_Apply.f k t138 t140 t141 t142).bind fun bt143 => ((abecedarylaw00_Place.f a4 100).bind fun t145 => ((edit_Apply.f k ((a0 ++ a1) ++ a2) (wrap64 ((wrap64 ((wrap64 (((a0.size : Int) + (a1.size : Int)) + (a2.size : Int))) + 1)) + t145)) (⟨#[]⟩ : ByteArray) (⟨#[120]⟩ : ByteArray)).bind fun bt146 => ((edit_Apply.f k ((a0 ++ a1) ++ a2) (wrap64 ((-1) - t145)) (⟨#[]⟩ : ByteArray) (⟨#[]⟩ : ByteArray)).bind fun bt148 => (if a1.size + a2.size ≤ 9223372036854775807 then (if (a1 ++ a2).size + 1 ≤ 9223372036854775807 then ((edit_Apply.f k ((a0 ++ a1) ++ a2) (a0.size : Int) ((a1 ++ a2) ++ (⟨#[120]⟩ : ByteArray)) (⟨#[]⟩ : ByteArray)).bind fun bt150 => (if t139 = true then (if bt143.2 = true then (if a0.size + a3.size ≤ 9223372036854775807 then (if (a0 ++ a3).size + a2.size ≤ 9223372036854775807 then (if t138.toList = ((a0 ++ a3) ++ a2).toList then (if bt143.1.toList = ((a0 ++ a1) ++ a2).toList then (if bt146.2 = true then (none) else (if bt146.1.toList = ([] : List UInt8) then (if bt148.2 = true then (none) else (if bt150.2 = true then (none) else ((abecedarylaw07_awake.f k).bind fun t152 => (some t152)))) else (none))) else (none)) else (none)) else (none)) else (none)) else (none)) else (none))) else (none)) else (none)))))) = some r := H
        have A12 := Aside0.mk A120
        clear A120
        replace H := Option.bind_eq_some_iff.mp H
        obtain ⟨⟨t143, t144⟩, A130, H⟩ := H
        replace H : ((abecedarylaw00_Place.f a4 100).bind fun t145 => ((edit_Apply.f k ((a0 ++ a1) ++ a2) (wrap64 ((wrap64 ((wrap64 (((a0.size : Int) + (a1.size : Int)) + (a2.size : Int))) + 1)) + t145)) (⟨#[]⟩ : ByteArray) (⟨#[120]⟩ : ByteArray)).bind fun bt146 => ((edit_Apply.f k ((a0 ++ a1) ++ a2) (wrap64 ((-1) - t145)) (⟨#[]⟩ : ByteArray) (⟨#[]⟩ : ByteArray)).bind fun bt148 => (if a1.size + a2.size ≤ 9223372036854775807 then (if (a1 ++ a2).size + 1 ≤ 9223372036854775807 then ((edit_Apply.f k ((a0 ++ a1) ++ a2) (a0.size : Int) ((a1 ++ a2) ++ (⟨#[120]⟩ : ByteArray)) (⟨#[]⟩ : ByteArray)).bind fun bt150 => (if t139 = true then (if t144 = true then (if a0.size + a3.size ≤ 9223372036854775807 then (if (a0 ++ a3).size + a2.size ≤ 9223372036854775807 then (if t138.toList = ((a0 ++ a3) ++ a2).toList then (if t143.toList = ((a0 ++ a1) ++ a2).toList then (if bt146.2 = true then (none) else (if bt146.1.toList = ([] : List UInt8) then (if bt148.2 = true then (none) else (if bt150.2 = true then (none) else ((abecedarylaw07_awake.f k).bind fun t152 => (some t152)))) else (none))) else (none)) else (none)) else (none)) else (none)) else (none)) else (none))) else (none)) else (none))))) = some r := H
        have A13 := Aside0.mk A130
        clear A130
        replace H := Option.bind_eq_some_iff.mp H
        obtain ⟨t145, A140, H⟩ := H
        replace H : ((edit_Apply.f k ((a0 ++ a1) ++ a2) (wrap64 ((wrap64 ((wrap64 (((a0.size : Int) + (a1.size : Int)) + (a2.size : Int))) + 1)) + t145)) (⟨#[]⟩ : ByteArray) (⟨#[120]⟩ : ByteArray)).bind fun bt146 => ((edit_Apply.f k ((a0 ++ a1) ++ a2) (wrap64 ((-1) - t145)) (⟨#[]⟩ : ByteArray) (⟨#[]⟩ : ByteArray)).bind fun bt148 => (if a1.size + a2.size ≤ 9223372036854775807 then (if (a1 ++ a2).size + 1 ≤ 9223372036854775807 then ((edit_Apply.f k ((a0 ++ a1) ++ a2) (a0.size : Int) ((a1 ++ a2) ++ (⟨#[120]⟩ : ByteArray)) (⟨#[]⟩ : ByteArray)).bind fun bt150 => (if t139 = true then (if t144 = true then (if a0.size + a3.size ≤ 9223372036854775807 then (if (a0 ++ a3).size + a2.size ≤ 9223372036854775807 then (if t138.toList = ((a0 ++ a3) ++ a2).toList then (if t143.toList = ((a0 ++ a1) ++ a2).toList then (if bt146.2 = true then (none) else (if bt146.1.toList = ([] : List UInt8) then (if bt148.2 = true then (none) else (if bt150.2 = true then (none) else ((abecedarylaw07_awake.f k).bind fun t152 => (some t152)))) else (none))) else (none)) else (none)) else (none)) else (none)) else (none)) else (none))) else (none)) else (none)))) = some r := H
        have A14 := Aside0.mk A140
        clear A140
        replace H := Option.bind_eq_some_iff.mp H
        obtain ⟨⟨t146, t147⟩, A150, H⟩ := H
        replace H : ((edit_Apply.f k ((a0 ++ a1) ++ a2) (wrap64 ((-1) - t145)) (⟨#[]⟩ : ByteArray) (⟨#[]⟩ : ByteArray)).bind fun bt148 => (if a1.size + a2.size ≤ 9223372036854775807 then (if (a1 ++ a2).size + 1 ≤ 9223372036854775807 then ((edit_Apply.f k ((a0 ++ a1) ++ a2) (a0.size : Int) ((a1 ++ a2) ++ (⟨#[120]⟩ : ByteArray)) (⟨#[]⟩ : ByteArray)).bind fun bt150 => (if t139 = true then (if t144 = true then (if a0.size + a3.size ≤ 9223372036854775807 then (if (a0 ++ a3).size + a2.size ≤ 9223372036854775807 then (if t138.toList = ((a0 ++ a3) ++ a2).toList then (if t143.toList = ((a0 ++ a1) ++ a2).toList then (if t147 = true then (none) else (if t146.toList = ([] : List UInt8) then (if bt148.2 = true then (none) else (if bt150.2 = true then (none) else ((abecedarylaw07_awake.f k).bind fun t152 => (some t152)))) else (none))) else (none)) else (none)) else (none)) else (none)) else (none)) else (none))) else (none)) else (none))) = some r := H
        have A15 := Aside0.mk A150
        clear A150
        replace H := Option.bind_eq_some_iff.mp H
        obtain ⟨⟨t148, t149⟩, A160, H⟩ := H
        replace H : (if a1.size + a2.size ≤ 9223372036854775807 then (if (a1 ++ a2).size + 1 ≤ 9223372036854775807 then ((edit_Apply.f k ((a0 ++ a1) ++ a2) (a0.size : Int) ((a1 ++ a2) ++ (⟨#[120]⟩ : ByteArray)) (⟨#[]⟩ : ByteArray)).bind fun bt150 => (if t139 = true then (if t144 = true then (if a0.size + a3.size ≤ 9223372036854775807 then (if (a0 ++ a3).size + a2.size ≤ 9223372036854775807 then (if t138.toList = ((a0 ++ a3) ++ a2).toList then (if t143.toList = ((a0 ++ a1) ++ a2).toList then (if t147 = true then (none) else (if t146.toList = ([] : List UInt8) then (if t149 = true then (none) else (if bt150.2 = true then (none) else ((abecedarylaw07_awake.f k).bind fun t152 => (some t152)))) else (none))) else (none)) else (none)) else (none)) else (none)) else (none)) else (none))) else (none)) else (none)) = some r := H
        have A16 := Aside0.mk A160
        clear A160
        by_cases c17 : a1.size + a2.size ≤ 9223372036854775807
        · rw [if_pos c17] at H
          have c17b0 := eq_true c17
          have c17b1 : decide (a1.size + a2.size ≤ 9223372036854775807) = true := decide_eq_true c17
          try have c17b2 : (9223372036854775807 < a1.size + a2.size) = False := eq_false (Nat.not_lt.2 c17)
          try (have c17b3 := c17b2; simp only [ByteArray.size_append] at c17b3)
          have c17w : wrap64 ((a1.size : Int) + (a2.size : Int)) = (a1.size : Int) + (a2.size : Int) := by unfold wrap64; omega
          try simp only [c17w] at H
          by_cases c18 : (a1 ++ a2).size + 1 ≤ 9223372036854775807
          · rw [if_pos c18] at H
            have c18b0 := eq_true c18
            have c18b1 : decide ((a1 ++ a2).size + 1 ≤ 9223372036854775807) = true := decide_eq_true c18
            try have c18b2 : (9223372036854775807 < (a1 ++ a2).size + 1) = False := eq_false (Nat.not_lt.2 c18)
            try (have c18b3 := c18b2; simp only [ByteArray.size_append] at c18b3)
            replace H := Option.bind_eq_some_iff.mp H
            obtain ⟨⟨t150, t151⟩, A190, H⟩ := H
            replace H : (if t139 = true then (if t144 = true then (if a0.size + a3.size ≤ 9223372036854775807 then (if (a0 ++ a3).size + a2.size ≤ 9223372036854775807 then (if t138.toList = ((a0 ++ a3) ++ a2).toList then (if t143.toList = ((a0 ++ a1) ++ a2).toList then (if t147 = true then (none) else (if t146.toList = ([] : List UInt8) then (if t149 = true then (none) else (if t151 = true then (none) else ((abecedarylaw07_awake.f k).bind fun t152 => (some t152)))) else (none))) else (none)) else (none)) else (none)) else (none)) else (none)) else (none)) = some r := H
            have A19 := Aside0.mk A190
            clear A190
            by_cases c20 : t139 = true
            · subst c20
              have H1 : (if t144 = true then (if a0.size + a3.size ≤ 9223372036854775807 then (if (a0 ++ a3).size + a2.size ≤ 9223372036854775807 then (if t138.toList = ((a0 ++ a3) ++ a2).toList then (if t143.toList = ((a0 ++ a1) ++ a2).toList then (if t147 = true then (none) else (if t146.toList = ([] : List UInt8) then (if t149 = true then (none) else (if t151 = true then (none) else ((abecedarylaw07_awake.f k).bind fun t152 => (some t152)))) else (none))) else (none)) else (none)) else (none)) else (none)) else (none)) = some r := by rw [if_pos rfl] at H; exact H
              clear H
              have H := H1
              clear H1
              by_cases c21 : t144 = true
              · subst c21
                have H1 : (if a0.size + a3.size ≤ 9223372036854775807 then (if (a0 ++ a3).size + a2.size ≤ 9223372036854775807 then (if t138.toList = ((a0 ++ a3) ++ a2).toList then (if t143.toList = ((a0 ++ a1) ++ a2).toList then (if t147 = true then (none) else (if t146.toList = ([] : List UInt8) then (if t149 = true then (none) else (if t151 = true then (none) else ((abecedarylaw07_awake.f k).bind fun t152 => (some t152)))) else (none))) else (none)) else (none)) else (none)) else (none)) = some r := by rw [if_pos rfl] at H; exact H
                clear H
                have H := H1
                clear H1
                by_cases c22 : a0.size + a3.size ≤ 9223372036854775807
                · rw [if_pos c22] at H
                  have c22b0 := eq_true c22
                  have c22b1 : decide (a0.size + a3.size ≤ 9223372036854775807) = true := decide_eq_true c22
                  try have c22b2 : (9223372036854775807 < a0.size + a3.size) = False := eq_false (Nat.not_lt.2 c22)
                  try (have c22b3 := c22b2; simp only [ByteArray.size_append] at c22b3)
                  have c22w : wrap64 ((a0.size : Int) + (a3.size : Int)) = (a0.size : Int) + (a3.size : Int) := by unfold wrap64; omega
                  try simp only [c22w] at H
                  by_cases c23 : (a0 ++ a3).size + a2.size ≤ 9223372036854775807
                  · rw [if_pos c23] at H
                    have c23b0 := eq_true c23
                    have c23b1 : decide ((a0 ++ a3).size + a2.size ≤ 9223372036854775807) = true := decide_eq_true c23
                    try have c23b2 : (9223372036854775807 < (a0 ++ a3).size + a2.size) = False := eq_false (Nat.not_lt.2 c23)
                    try (have c23b3 := c23b2; simp only [ByteArray.size_append] at c23b3)
                    by_cases c24 : t138.toList = ((a0 ++ a3) ++ a2).toList
                    · rw [if_pos c24] at H
                      have c24b0 : (t138.toList == ((a0 ++ a3) ++ a2).toList) = true := beq_iff_eq.mpr c24
                      have c24b1 : (t138.toList != ((a0 ++ a3) ++ a2).toList) = false := bne_eq_false_iff_eq.mpr c24
                      clear c24
                      by_cases c25 : t143.toList = ((a0 ++ a1) ++ a2).toList
                      · rw [if_pos c25] at H
                        have c25b0 : (t143.toList == ((a0 ++ a1) ++ a2).toList) = true := beq_iff_eq.mpr c25
                        have c25b1 : (t143.toList != ((a0 ++ a1) ++ a2).toList) = false := bne_eq_false_iff_eq.mpr c25
                        clear c25
                        by_cases c26 : t147 = true
                        · subst c26
                          have H1 : (none) = some r := by rw [if_pos rfl] at H; exact H
                          clear H
                          have H := H1
                          clear H1
                          exact absurd H (by simp)
                        · replace c26 := Bool.eq_false_iff.mpr c26
                          subst c26
                          have H1 : (if t146.toList = ([] : List UInt8) then (if t149 = true then (none) else (if t151 = true then (none) else ((abecedarylaw07_awake.f k).bind fun t152 => (some t152)))) else (none)) = some r := by rw [if_neg (show ¬ (false = true) by decide)] at H; exact H
                          clear H
                          have H := H1
                          clear H1
                          by_cases c27 : t146.toList = ([] : List UInt8)
                          · rw [if_pos c27] at H
                            have c27b0 : (t146.toList == ([] : List UInt8)) = true := beq_iff_eq.mpr c27
                            have c27b1 : (t146.toList != ([] : List UInt8)) = false := bne_eq_false_iff_eq.mpr c27
                            clear c27
                            by_cases c28 : t149 = true
                            · subst c28
                              have H1 : (none) = some r := by rw [if_pos rfl] at H; exact H
                              clear H
                              have H := H1
                              clear H1
                              exact absurd H (by simp)
                            · replace c28 := Bool.eq_false_iff.mpr c28
                              subst c28
                              have H1 : (if t151 = true then (none) else ((abecedarylaw07_awake.f k).bind fun t152 => (some t152))) = some r := by rw [if_neg (show ¬ (false = true) by decide)] at H; exact H
                              clear H
                              have H := H1
                              clear H1
                              by_cases c29 : t151 = true
                              · subst c29
                                have H1 : (none) = some r := by rw [if_pos rfl] at H; exact H
                                clear H
                                have H := H1
                                clear H1
                                exact absurd H (by simp)
                              · replace c29 := Bool.eq_false_iff.mpr c29
                                subst c29
                                have H1 : ((abecedarylaw07_awake.f k).bind fun t152 => (some t152)) = some r := by rw [if_neg (show ¬ (false = true) by decide)] at H; exact H
                                clear H
                                have H := H1
                                clear H1
                                replace H := Option.bind_eq_some_iff.mp H
                                obtain ⟨t152, A300, H⟩ := H
                                replace H : (some t152) = some r := H
                                have A30 := Aside0.mk A300
                                clear A300
                                obtain rfl := Option.some.inj H
                                go_enter Try.func4, Try.ntmps4
                                go_wp2_with (first | ((with_reducible refine gate_dst (N := 11) rfl ?_); refine box_event ?hg (N := 11) ?hd (cs := #[.int .i64 0, .string (⟨#[]⟩ : ByteArray), .string (⟨#[]⟩ : ByteArray)]) (t := 23) ?hr ?_; (case hd => rfl); (case hg => rfl); (case hr => first | (go_simp; done) | (go_simp; rfl)); intro gb137 hg w31 hbox hb; have n0_ := Aside0.mk (below_step (by repeat (first | (with_reducible first | exact HB.out | apply below_alloc | apply pw_below_drewN | apply below_drew1) | exact HB.out)) hb); have n1_ := Aside0.mk (hbox); have n2_ := Aside0.mk ((by rw [hg]; exact (below_size (by repeat (first | (with_reducible first | exact HB.out | apply below_alloc | apply pw_below_drewN | apply below_drew1) | exact HB.out))) : w.heap.size ≤ gb137)); have n3_ := Aside0.mk ((by rw [hg]; exact (below_size (by repeat (first | (with_reducible first | exact HB.out | apply below_alloc | apply pw_below_drewN | apply below_drew1) | exact HB.out))) : w.heap.size ≤ gb137)); clear HB; have HB := n0_; have BK137 := n1_; have GW137 := n2_; have GE137 := n3_; clear n0_ n1_ n2_ n3_; clear hb hbox hg; have hcz32_0 : w31.cell? ⟨gb137, 0, none⟩ = some (.int .i64 0) := (blk_cell BK137.out 0).trans rfl; have hcz32_1 : w31.cell? ⟨gb137, 1, none⟩ = some (.string (⟨#[]⟩ : ByteArray)) := (blk_cell BK137.out 1).trans rfl; have hcz32_2 : w31.cell? ⟨gb137, 2, none⟩ = some (.string (⟨#[]⟩ : ByteArray)) := (blk_cell BK137.out 2).trans rfl; have hfz32_0 := blk_frozen BK137.out 0; have hfz32_1 := blk_frozen BK137.out 1; have hfz32_2 := blk_frozen BK137.out 2) | ((with_reducible refine gate_callee (f := 14) rfl ?_); refine goesL_ (some 48) rfl rfl Try.func14 (by kernel_rfl) rfl #[.string ((a0 ++ a1) ++ a2), .agg #[.int .i64 (a0.size : Int), .string a1, .string a3]] rfl (by (try simp only [List.map_toArray, List.map_cons, List.map_nil]); first | done | rfl | (simp only [List.length_drop, List.length_take]; rfl)) ?_; (with_reducible refine (edit_Apply.calls k ((a0 ++ a1) ++ a2) (a0.size : Int) a1 a3 t138 true _ A11.out).mono ?_); rintro e w33 ⟨rfl, hb⟩; refine ⟨_, rfl, ?_⟩; have n0_ := Aside0.mk (blk_below (g := gb137) (o := .cells #[.int .i64 (a0.size : Int), .string a1, .string a3] 23 (0, 0)) (by (with_reducible repeat (first | refine blk_drewN ?_ _ | refine blk_drew ?_ | refine blk_alloc ?_ _)); refine blk_put (cs := #[.int .i64 (a0.size : Int), .string a1, .string (⟨#[]⟩ : ByteArray)]) ?_ 2 _ rfl; (with_reducible repeat (first | refine blk_drewN ?_ _ | refine blk_drew ?_ | refine blk_alloc ?_ _)); refine blk_put (cs := #[.int .i64 (a0.size : Int), .string (⟨#[]⟩ : ByteArray), .string (⟨#[]⟩ : ByteArray)]) ?_ 1 _ rfl; (with_reducible repeat (first | refine blk_drewN ?_ _ | refine blk_drew ?_ | refine blk_alloc ?_ _)); refine blk_put (cs := #[.int .i64 0, .string (⟨#[]⟩ : ByteArray), .string (⟨#[]⟩ : ByteArray)]) ?_ 0 _ rfl; (with_reducible repeat (first | refine blk_drewN ?_ _ | refine blk_drew ?_ | refine blk_alloc ?_ _)); exact BK137.out) hb); have n1_ := Aside0.mk (below_step (by repeat (first | (with_reducible first | exact HB.out | apply below_alloc | apply pw_below_drewN | apply below_drew1 | refine below_set ?_ GE137.out) | exact HB.out)) hb); clear BK137; clear HB; have BK137 := n0_; have HB := n1_; clear n0_ n1_; (try clear hb); (try clear hb2); (try clear hk); (try clear hi); have hcz34_0 : w33.cell? ⟨gb137, 0, none⟩ = some (.int .i64 (a0.size : Int)) := (blk_cell BK137.out 0).trans rfl; have hcz34_1 : w33.cell? ⟨gb137, 1, none⟩ = some (.string a1) := (blk_cell BK137.out 1).trans rfl; have hcz34_2 : w33.cell? ⟨gb137, 2, none⟩ = some (.string a3) := (blk_cell BK137.out 2).trans rfl; have hfz34_0 := blk_frozen BK137.out 0; have hfz34_1 := blk_frozen BK137.out 1; have hfz34_2 := blk_frozen BK137.out 2) | ((with_reducible refine gate_callee (f := 17) rfl ?_); refine goesL_ (some 54) rfl rfl Try.func17 (by kernel_rfl) rfl #[.agg #[.int .i64 (a0.size : Int), .string a1, .string a3]] rfl (by (try simp only [List.map_toArray, List.map_cons, List.map_nil]); first | done | rfl | (simp only [List.length_drop, List.length_take]; rfl)) ?_; (with_reducible refine (edit_Inverse.calls (a0.size : Int) a1 a3 t140 t141 t142 _ A12.out).mono ?_); rintro e w35 ⟨rfl, hb⟩; refine ⟨_, rfl, ?_⟩; have n0_ := Aside0.mk (blk_below (g := gb137) (o := .cells #[.int .i64 (a0.size : Int), .string a1, .string a3] 23 (0, 0)) (by (with_reducible repeat (first | refine blk_drewN ?_ _ | refine blk_drew ?_ | refine blk_alloc ?_ _)); exact BK137.out) hb); have n1_ := Aside0.mk (below_step (by repeat (first | (with_reducible first | exact HB.out | apply below_alloc | apply pw_below_drewN | apply below_drew1 | refine below_set ?_ GE137.out) | exact HB.out)) hb); clear BK137; clear HB; have BK137 := n0_; have HB := n1_; clear n0_ n1_; (try clear hb); (try clear hb2); (try clear hk); (try clear hi)) | ((with_reducible refine gate_callee (f := 14) rfl ?_); refine goesL_ (some 55) rfl rfl Try.func14 (by kernel_rfl) rfl #[.string t138, .agg #[.int .i64 t140, .string t141, .string t142]] rfl (by (try simp only [List.map_toArray, List.map_cons, List.map_nil]); first | done | rfl | (simp only [List.length_drop, List.length_take]; rfl)) ?_; (with_reducible refine (edit_Apply.calls k t138 t140 t141 t142 t143 true _ A13.out).mono ?_); rintro e w36 ⟨rfl, hb⟩; refine ⟨_, rfl, ?_⟩; have n0_ := Aside0.mk (blk_below (g := gb137) (o := .cells #[.int .i64 (a0.size : Int), .string a1, .string a3] 23 (0, 0)) (by (with_reducible repeat (first | refine blk_drewN ?_ _ | refine blk_drew ?_ | refine blk_alloc ?_ _)); exact BK137.out) hb); have n1_ := Aside0.mk (below_step (by repeat (first | (with_reducible first | exact HB.out | apply below_alloc | apply pw_below_drewN | apply below_drew1 | refine below_set ?_ GE137.out) | exact HB.out)) hb); clear BK137; clear HB; have BK137 := n0_; have HB := n1_; clear n0_ n1_; (try clear hb); (try clear hb2); (try clear hk); (try clear hi)) | ((with_reducible refine gate_callee (f := 19) rfl ?_); refine goesL_ (some 59) rfl rfl Try.func19 (by kernel_rfl) rfl #[.int .i64 a4, .int .i64 100] rfl (by (try simp only [List.map_toArray, List.map_cons, List.map_nil]); first | done | rfl | (simp only [List.length_drop, List.length_take]; rfl)) ?_; (with_reducible refine (abecedarylaw00_Place.calls a4 100 t145 _ A14.out).mono ?_); rintro e w' ⟨rfl, ⟨nd, rfl⟩⟩; refine ⟨_, rfl, ?_⟩) | ((with_reducible refine gate_callee (f := 14) rfl ?_); refine goesL_ (some 78) rfl rfl Try.func14 (by kernel_rfl) rfl #[.string ((a0 ++ a1) ++ a2), .agg #[.int .i64 (wrap64 ((wrap64 ((wrap64 (((a0.size : Int) + (a1.size : Int)) + (a2.size : Int))) + 1)) + t145)), .string (⟨#[]⟩ : ByteArray), .string (⟨#[120]⟩ : ByteArray)]] rfl (by (try simp only [List.map_toArray, List.map_cons, List.map_nil]); first | done | rfl | (simp only [List.length_drop, List.length_take]; rfl)) ?_; (with_reducible refine (edit_Apply.calls k ((a0 ++ a1) ++ a2) (wrap64 ((wrap64 ((wrap64 (((a0.size : Int) + (a1.size : Int)) + (a2.size : Int))) + 1)) + t145)) (⟨#[]⟩ : ByteArray) (⟨#[120]⟩ : ByteArray) t146 false _ A15.out).mono ?_); rintro e w37 ⟨rfl, hb⟩; refine ⟨_, rfl, ?_⟩; have n0_ := Aside0.mk (blk_below (g := gb137) (o := .cells #[.int .i64 (a0.size : Int), .string a1, .string a3] 23 (0, 0)) (by (with_reducible repeat (first | refine blk_drewN ?_ _ | refine blk_drew ?_ | refine blk_alloc ?_ _)); exact BK137.out) hb); have n1_ := Aside0.mk (below_step (by repeat (first | (with_reducible first | exact HB.out | apply below_alloc | apply pw_below_drewN | apply below_drew1 | refine below_set ?_ GE137.out) | exact HB.out)) hb); clear BK137; clear HB; have BK137 := n0_; have HB := n1_; clear n0_ n1_; (try clear hb); (try clear hb2); (try clear hk); (try clear hi)) | ((with_reducible refine gate_callee (f := 14) rfl ?_); refine goesL_ (some 90) rfl rfl Try.func14 (by kernel_rfl) rfl #[.string ((a0 ++ a1) ++ a2), .agg #[.int .i64 (wrap64 ((-1) - t145)), .string (⟨#[]⟩ : ByteArray), .string (⟨#[]⟩ : ByteArray)]] rfl (by (try simp only [List.map_toArray, List.map_cons, List.map_nil]); first | done | rfl | (simp only [List.length_drop, List.length_take]; rfl)) ?_; (with_reducible refine (edit_Apply.calls k ((a0 ++ a1) ++ a2) (wrap64 ((-1) - t145)) (⟨#[]⟩ : ByteArray) (⟨#[]⟩ : ByteArray) t148 false _ A16.out).mono ?_); rintro e w38 ⟨rfl, hb⟩; refine ⟨_, rfl, ?_⟩; have n0_ := Aside0.mk (blk_below (g := gb137) (o := .cells #[.int .i64 (a0.size : Int), .string a1, .string a3] 23 (0, 0)) (by (with_reducible repeat (first | refine blk_drewN ?_ _ | refine blk_drew ?_ | refine blk_alloc ?_ _)); exact BK137.out) hb); have n1_ := Aside0.mk (below_step (by repeat (first | (with_reducible first | exact HB.out | apply below_alloc | apply pw_below_drewN | apply below_drew1 | refine below_set ?_ GE137.out) | exact HB.out)) hb); clear BK137; clear HB; have BK137 := n0_; have HB := n1_; clear n0_ n1_; (try clear hb); (try clear hb2); (try clear hk); (try clear hi)) | ((with_reducible refine gate_callee (f := 14) rfl ?_); refine goesL_ (some 106) rfl rfl Try.func14 (by kernel_rfl) rfl #[.string ((a0 ++ a1) ++ a2), .agg #[.int .i64 (a0.size : Int), .string ((a1 ++ a2) ++ (⟨#[120]⟩ : ByteArray)), .string (⟨#[]⟩ : ByteArray)]] rfl (by (try simp only [List.map_toArray, List.map_cons, List.map_nil]); first | done | rfl | (simp only [List.length_drop, List.length_take]; rfl)) ?_; (with_reducible refine (edit_Apply.calls k ((a0 ++ a1) ++ a2) (a0.size : Int) ((a1 ++ a2) ++ (⟨#[120]⟩ : ByteArray)) (⟨#[]⟩ : ByteArray) t150 false _ A19.out).mono ?_); rintro e w39 ⟨rfl, hb⟩; refine ⟨_, rfl, ?_⟩; have n0_ := Aside0.mk (blk_below (g := gb137) (o := .cells #[.int .i64 (a0.size : Int), .string a1, .string a3] 23 (0, 0)) (by (with_reducible repeat (first | refine blk_drewN ?_ _ | refine blk_drew ?_ | refine blk_alloc ?_ _)); exact BK137.out) hb); have n1_ := Aside0.mk (below_step (by repeat (first | (with_reducible first | exact HB.out | apply below_alloc | apply pw_below_drewN | apply below_drew1 | refine below_set ?_ GE137.out) | exact HB.out)) hb); clear BK137; clear HB; have BK137 := n0_; have HB := n1_; clear n0_ n1_; (try clear hb); (try clear hb2); (try clear hk); (try clear hi)) | (go_at_call 13; (with_reducible refine (abecedarylaw07_awake.calls k  t152 _ A30.out).mono ?_); rintro e w40 ⟨rfl, hb⟩; have n0_ := Aside0.mk (blk_below (g := gb137) (o := .cells #[.int .i64 (a0.size : Int), .string a1, .string a3] 23 (0, 0)) (by (with_reducible repeat (first | refine blk_drewN ?_ _ | refine blk_drew ?_ | refine blk_alloc ?_ _)); exact BK137.out) hb); have n1_ := Aside0.mk (below_step (by repeat (first | (with_reducible first | exact HB.out | apply below_alloc | apply pw_below_drewN | apply below_drew1 | refine below_set ?_ GE137.out) | exact HB.out)) hb); clear BK137; clear HB; have BK137 := n0_; have HB := n1_; clear n0_ n1_; (try clear hb); (try clear hb2); (try clear hk); (try clear hi)))
                                go_ret
                                exact ⟨by first | rfl | (simp [errW_none, errW_some] <;> rfl) | (simp [*, errW_none, errW_some] <;> rfl), by repeat (first | (with_reducible first | exact HB.out | apply below_alloc | apply pw_below_drewN | apply below_drew1 | refine below_set ?_ GE137.out) | exact HB.out)⟩
                          · rw [if_neg c27] at H
                            exact absurd H (by simp)
                      · rw [if_neg c25] at H
                        exact absurd H (by simp)
                    · rw [if_neg c24] at H
                      exact absurd H (by simp)
                  · rw [if_neg c23] at H
                    exact absurd H (by simp)
                · rw [if_neg c22] at H
                  exact absurd H (by simp)
              · replace c21 := Bool.eq_false_iff.mpr c21
                subst c21
                have H1 : (none) = some r := by rw [if_neg (show ¬ (false = true) by decide)] at H; exact H
                clear H
                have H := H1
                clear H1
                exact absurd H (by simp)
            · replace c20 := Bool.eq_false_iff.mpr c20
              subst c20
              have H1 : (none) = some r := by rw [if_neg (show ¬ (false = true) by decide)] at H; exact H
              clear H
              have H := H1
              clear H1
              exact absurd H (by simp)
          · rw [if_neg c18] at H
            exact absurd H (by simp)
        · rw [if_neg c17] at H
          exact absurd H (by simp)
      · rw [if_neg c10] at H
        exact absurd H (by simp)
    · rw [if_neg c9] at H
      exact absurd H (by simp)

/-- THE ONE PURE STATEMENT of abecedarylaw07_EditKnown: yours. -/
def abecedarylaw07_EditKnown.Pure : Prop := ∀ (a0 : ByteArray) (a1 : ByteArray) (a2 : ByteArray) (a3 : ByteArray) (a4 : Int), a0.size ≤ 140737488351232 → a1.size ≤ 140737488351232 → a2.size ≤ 140737488351232 → a3.size ≤ 140737488351232 → (Lit.int .i64 a4).wf = true → ∃ k, abecedarylaw07_EditKnown.f k a0 a1 a2 a3 a4 = some true
theorem abecedarylaw07_EditKnown.walk (P : abecedarylaw07_EditKnown.Pure) (a0 : ByteArray) (a1 : ByteArray) (a2 : ByteArray) (a3 : ByteArray) (a4 : Int) (w : World) (w0 : a0.size ≤ 140737488351232) (w1 : a1.size ≤ 140737488351232) (w2 : a2.size ≤ 140737488351232) (w3 : a3.size ≤ 140737488351232) (w4 : (Lit.int .i64 a4).wf = true) :
    Calls Try.prog 4 #[.string a0, .string a1, .string a2, .string a3, .int .i64 a4] w fun e w' => e = .returned (.bool true) ∧ Below w.heap.size w w' := by
  obtain ⟨k, h⟩ := P a0 a1 a2 a3 a4 w0 w1 w2 w3 w4
  refine (abecedarylaw07_EditKnown.calls k a0 a1 a2 a3 a4 true w h).mono ?_
  rintro e w' ⟨rfl, hd⟩
  exact ⟨rfl, hd⟩

end Go.Proofs.Ytedjfmlmoommnaa.Q

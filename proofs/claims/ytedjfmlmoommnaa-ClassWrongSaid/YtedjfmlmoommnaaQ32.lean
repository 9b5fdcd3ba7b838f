-- made by wip/xprint.py of this claim's own repo
import Derived.Test.YtedjfmlmoommnaaQ0
import Derived.Test.YtedjfmlmoommnaaQ8
import Derived.Test.YtedjfmlmoommnaaQ24
import Derived.Test.YtedjfmlmoommnaaQ25
import Derived.Test.YtedjfmlmoommnaaQ26
import Derived.Test.YtedjfmlmoommnaaQ31
namespace Go.Proofs.Ytedjfmlmoommnaa.Q
open Go.RowKit Go.Proofs.YtedjfmlmoommnaaW.PrintWords Go.Proofs.YtedjfmlmoommnaaW.PrintLast Go.Proofs.YtedjfmlmoommnaaW.PrintMore
attribute [local go_sem] max2_int min2_int max_two min_two max_three min_three max_four min_four   -- for this text's walks alone
set_option linter.unusedVariables false
set_option linter.unusedSimpArgs false

/-! ### abecedarylaw02_ClassWrong: function 11 -/
def abecedarylaw02_ClassWrong.l0 : Nat → Int → List (S43) → Option (Bool)
  | 0, _, _ => none
  | k + 1, x2, x7 => if (x7.length : Int) ≤ 100 then (if 0 ≤ (wrap64 ((x7.length : Int) - 1)) then (if (wrap64 ((x7.length : Int) - 1)) < (x7.length : Int) then (if x7.length < 5864062014805 then (abecedarylaw02_ClassWrong.l0 k x2 (x7 ++ [(⟨wrap64 (((rd_T43 x7 (wrap64 ((x7.length : Int) - 1))).f1) + 2), wrap64 (((rd_T43 x7 (wrap64 ((x7.length : Int) - 1))).f1) + 2), 1⟩ : S43)])) else (none)) else (none)) else (none)) else ((class_Check.f k x7).bind fun t392 => (if t392 = true then (none) else ((class_Of.f k x7 97).bind fun t393 => (if t393 = 0 then ((class_Of.f k x7 x2).bind fun t394 => (if t394 = 0 then ((abecedarylaw02_awake.f k).bind fun t395 => (some t395)) else (none))) else (none)))))
def abecedarylaw02_ClassWrong.f (k : Nat) (a0 : Int) (a1 : Int) (a2 : Int) : Option (Bool) := (abecedarylaw00_Table.f).bind fun t341 => ((abecedarylaw00_Place.f a1 (t341.length : Int)).bind fun t344 => ((class_Check.f k t341).bind fun t345 => (if t345 = true then ((abecedarylaw00_Place.f a0 8).bind fun t346 => (if t346 = 0 then (if 0 ≤ t344 then (if t344 < (t341.length : Int) then ((some (t341.set (t344 : Int).toNat (⟨(rd_T43 t341 t344).f0, (rd_T43 t341 t344).f1, 0⟩ : S43) : List (S43))).bind fun y347 => ((class_Check.f k y347).bind fun t348 => (if t348 = true then (none) else ((class_Of.f k y347 97).bind fun t349 => (if t349 = 0 then ((class_Of.f k y347 a2).bind fun t350 => (if t350 = 0 then ((abecedarylaw02_awake.f k).bind fun t351 => (some t351)) else (none))) else (none)))))) else (none)) else (none)) else (if t346 = 1 then (if 0 ≤ t344 then (if t344 < (t341.length : Int) then ((some (t341.set (t344 : Int).toNat (⟨(rd_T43 t341 t344).f0, (rd_T43 t341 t344).f1, 4⟩ : S43) : List (S43))).bind fun y352 => ((class_Check.f k y352).bind fun t353 => (if t353 = true then (none) else ((class_Of.f k y352 97).bind fun t354 => (if t354 = 0 then ((class_Of.f k y352 a2).bind fun t355 => (if t355 = 0 then ((abecedarylaw02_awake.f k).bind fun t356 => (some t356)) else (none))) else (none)))))) else (none)) else (none)) else (if t346 = 2 then (if 0 ≤ t344 then (if t344 < (t341.length : Int) then ((some (t341.set (t344 : Int).toNat (⟨(rd_T43 t341 t344).f0, wrap64 (((rd_T43 t341 t344).f0) - 1), (rd_T43 t341 t344).f2⟩ : S43) : List (S43))).bind fun y358 => ((class_Check.f k y358).bind fun t359 => (if t359 = true then (none) else ((class_Of.f k y358 97).bind fun t360 => (if t360 = 0 then ((class_Of.f k y358 a2).bind fun t361 => (if t361 = 0 then ((abecedarylaw02_awake.f k).bind fun t362 => (some t362)) else (none))) else (none)))))) else (none)) else (none)) else (if t346 = 3 then (if 0 ≤ t344 then (if t344 < (t341.length : Int) then ((some (t341.set (t344 : Int).toNat (⟨(-1), (rd_T43 t341 t344).f1, (rd_T43 t341 t344).f2⟩ : S43) : List (S43))).bind fun y363 => ((class_Check.f k y363).bind fun t364 => (if t364 = true then (none) else ((class_Of.f k y363 97).bind fun t365 => (if t365 = 0 then ((class_Of.f k y363 a2).bind fun t366 => (if t366 = 0 then ((abecedarylaw02_awake.f k).bind fun t367 => (some t367)) else (none))) else (none)))))) else (none)) else (none)) else (if t346 = 4 then (if 0 ≤ (wrap64 ((t341.length : Int) - 1)) then (if (wrap64 ((t341.length : Int) - 1)) < (t341.length : Int) then ((some (t341.set ((wrap64 ((t341.length : Int) - 1)) : Int).toNat (⟨(rd_T43 t341 (wrap64 ((t341.length : Int) - 1))).f0, 1114112, (rd_T43 t341 (wrap64 ((t341.length : Int) - 1))).f2⟩ : S43) : List (S43))).bind fun y368 => ((class_Check.f k y368).bind fun t369 => (if t369 = true then (none) else ((class_Of.f k y368 97).bind fun t370 => (if t370 = 0 then ((class_Of.f k y368 a2).bind fun t371 => (if t371 = 0 then ((abecedarylaw02_awake.f k).bind fun t372 => (some t372)) else (none))) else (none)))))) else (none)) else (none)) else (if t346 = 5 then (if 0 ≤ t344 then (if t344 < (t341.length : Int) then (if t341.length < 5864062014805 then ((some (t341 ++ [(⟨(rd_T43 t341 t344).f0, (rd_T43 t341 t344).f1, (rd_T43 t341 t344).f2⟩ : S43)] : List (S43))).bind fun y374 => ((class_Check.f k y374).bind fun t377 => (if t377 = true then (none) else ((class_Of.f k y374 97).bind fun t378 => (if t378 = 0 then ((class_Of.f k y374 a2).bind fun t379 => (if t379 = 0 then ((abecedarylaw02_awake.f k).bind fun t380 => (some t380)) else (none))) else (none)))))) else (none)) else (none)) else (none)) else (if t346 = 6 then (if 0 < (t341.length : Int) then (if 1 < (t341.length : Int) then ((some (t341.set (1 : Int).toNat (⟨(rd_T43 t341 0).f1, (rd_T43 t341 1).f1, (rd_T43 t341 1).f2⟩ : S43) : List (S43))).bind fun y382 => ((class_Check.f k y382).bind fun t383 => (if t383 = true then (none) else ((class_Of.f k y382 97).bind fun t384 => (if t384 = 0 then ((class_Of.f k y382 a2).bind fun t385 => (if t385 = 0 then ((abecedarylaw02_awake.f k).bind fun t386 => (some t386)) else (none))) else (none)))))) else (none)) else (none)) else (abecedarylaw02_ClassWrong.l0 k a2 t341))))))))) else (none))))
theorem abecedarylaw02_ClassWrong.mono_l : ∀ k, (∀ y0 y1, LeO (abecedarylaw02_ClassWrong.l0 k y0 y1) (abecedarylaw02_ClassWrong.l0 (k + 1) y0 y1))
  | 0 => fun _ _ r h => by simp [abecedarylaw02_ClassWrong.l0] at h
  | k + 1 => by
    have ih0 := abecedarylaw02_ClassWrong.mono_l k
    · intro y0 y1
      unfold abecedarylaw02_ClassWrong.l0
      repeat' first
      | (with_reducible exact ih0 _ _)
      | (with_reducible exact abecedarylaw02_awake.mono _)
      | (with_reducible exact class_Check.mono _ _)
      | (with_reducible exact class_Of.mono _ _ _)
      | (with_reducible exact LeO.refl _)
      | (with_reducible exact LeO.none _)
      | (with_reducible refine LeO.ite ?_ ?_)
      | (with_reducible refine LeO.bind ?_ (fun _ => ?_))
      | exact ih0 _ _
      | exact abecedarylaw02_awake.mono _
      | exact class_Check.mono _ _
      | exact class_Of.mono _ _ _
      | exact LeO.none _
      | refine LeO.ite ?_ ?_
      | refine LeO.bind ?_ (fun _ => ?_)
theorem abecedarylaw02_ClassWrong.mono : ∀ a0 a1 a2 k, LeO (abecedarylaw02_ClassWrong.f k a0 a1 a2) (abecedarylaw02_ClassWrong.f (k + 1) a0 a1 a2) := by
  intro a0 a1 a2 k
  have ih0 := abecedarylaw02_ClassWrong.mono_l k
  unfold abecedarylaw02_ClassWrong.f
  repeat' first
      | (with_reducible exact ih0 _ _)
      | (with_reducible exact abecedarylaw02_awake.mono _)
      | (with_reducible exact class_Check.mono _ _)
      | (with_reducible exact class_Of.mono _ _ _)
      | (with_reducible exact LeO.refl _)
      | (with_reducible exact LeO.none _)
      | (with_reducible refine LeO.ite ?_ ?_)
      | (with_reducible refine LeO.bind ?_ (fun _ => ?_))
      | exact ih0 _ _
      | exact abecedarylaw02_awake.mono _
      | exact class_Check.mono _ _
      | exact class_Of.mono _ _ _
      | exact LeO.none _
      | refine LeO.ite ?_ ?_
      | refine LeO.bind ?_ (fun _ => ?_)
def abecedarylaw02_ClassWrong.T7 : Bool × List (List Nat × List Nat) := (true, [([], []), ([], []), ([], []), ([2], [2]), ([3], [3]), ([1, 4], [1, 4]), ([5], [5]), ([6], [6]), ([7], [7]), ([], []), ([], []), ([10], [10]), ([11], [11]), ([9, 12], [9, 12]), ([13], [13]), ([14], [14]), ([15], [15]), ([8, 16], [8, 16]), ([17], [17]), ([0, 18], [0, 18]), ([19, 19, 0, 1, 2, 3, 4, 5, 6, 7, 8, 9, 10, 11, 12, 13, 14, 15, 16, 17, 18, 19], [0, 1, 2, 9, 10, 19])])
def abecedarylaw02_ClassWrong.B7 : List Nat := [0, 0, 0, 4, 12, 30, 62, 126, 254, 0, 0, 1024, 3072, 7680, 15872, 32256, 65024, 131070, 262142, 524287, 1048575]
theorem abecedarylaw02_ClassWrong.tab7 : rtab .any (opsOf Try.f11 7) = abecedarylaw02_ClassWrong.T7 := by kernel_rfl
theorem abecedarylaw02_ClassWrong.bits7 : waitsOk abecedarylaw02_ClassWrong.T7.2 abecedarylaw02_ClassWrong.B7 = true := by kernel_rfl
set_option maxHeartbeats 8000000 in
set_option maxRecDepth 100000 in
theorem abecedarylaw02_ClassWrong.calls (k : Nat) (a0 : Int) (a1 : Int) (a2 : Int) (r : Bool) (w : World) (h : abecedarylaw02_ClassWrong.f k a0 a1 a2 = some r) :
    Calls Try.prog 11 #[.int .i64 a0, .int .i64 a1, .int .i64 a2] w fun e w' => e = .returned (.bool r) ∧ Below w.heap.size w w' := by
  have hu43 := Try.underlying43
  have HB := Aside0.mk (Below.refl w.heap.size w)
  have H : ((abecedarylaw00_Table.f).bind fun t341 => ((abecedarylaw00_Place.f a1 (t341.length : Int)).bind fun t344 => ((class_Check.f k t341).bind fun t345 => (if t345 = true then ((abecedarylaw00_Place.f a0 8).bind fun t346 => (if t346 = 0 then (if 0 ≤ t344 then (if t344 < (t341.length : Int) then ((some (t341.set (t344 : Int).toNat (⟨(rd_T43 t341 t344).f0, (rd_T43 t341 t344).f1, 0⟩ : S43) : List (S43))).bind fun y347 => ((class_Check.f k y347).bind fun t348 => (if t348 = true then (none) else ((class_Of.f k y347 97).bind fun t349 => (if t349 = 0 then ((class_Of.f k y347 a2).bind fun t350 => (if t350 = 0 then ((abecedarylaw02_awake.f k).bind fun t351 => (some t351)) else (none))) else (none)))))) else (none)) else (none)) else (if t346 = 1 then (if 0 ≤ t344 then (if t344 < (t341.length : Int) then ((some (t341.set (t344 : Int).toNat (⟨(rd_T43 t341 t344).f0, (rd_T43 t341 t344).f1, 4⟩ : S43) : List (S43))).bind fun y352 => ((class_Check.f k y352).bind fun t353 => (if t353 = true then (none) else ((class_Of.f k y352 97).bind fun t354 => (if t354 = 0 then ((class_Of.f k y352 a2).bind fun t355 => (if t355 = 0 then ((abecedarylaw02_awake.f k).bind fun t356 => (some t356)) else (none))) else (none)))))) else (none)) else (none)) else (if t346 = 2 then (if 0 ≤ t344 then (if t344 < (t341.length : Int) then ((some (t341.set (t344 : Int).toNat (⟨(rd_T43 t341 t344).f0, wrap64 (((rd_T43 t341 t344).f0) - 1), (rd_T43 t341 t344).f2⟩ : S43) : List (S43))).bind fun y358 => ((class_Check.f k y358).bind fun t359 => (if t359 = true then (none) else ((class_Of.f k y358 97).bind fun t360 => (if t360 = 0 then ((class_Of.f k y358 a2).bind fun t361 => (if t361 = 0 then ((abecedarylaw02_awake.f k).bind fun t362 => (some t362)) else (none))) else (none)))))) else (none)) else (none)) else (if t346 = 3 then (if 0 ≤ t344 then (if t344 < (t341.length : Int) then ((some (t341.set (t344 : Int).toNat (⟨(-1), (rd_T43 t341 t344).f1, (rd_T43 t341 t344).f2⟩ : S43) : List (S43))).bind fun y363 => ((class_Check.f k y363).bind fun t364 => (if t364 = true then (none) else ((class_Of.f k y363 97).bind fun t365 => (if t365 = 0 then ((class_Of.f k y363 a2).bind fun t366 => (if t366 = 0 then ((abecedarylaw02_awake.f k).bind fun t367 => (some t367)) else (none))) else (none)))))) else (none)) else (none)) else (if t346 = 4 then (if 0 ≤ (wrap64 ((t341.length : Int) - 1)) then (if (wrap64 ((t341.length : Int) - 1)) < (t341.length : Int) then ((some (t341.set ((wrap64 ((t341.length : Int) - 1)) : Int).toNat (⟨(rd_T43 t341 (wrap64 ((t341.length : Int) - 1))).f0, 1114112, (rd_T43 t341 (wrap64 ((t341.length : Int) - 1))).f2⟩ : S43) : List (S43))).bind fun y368 => ((class_Check.f k y368).bind fun t369 => (if t369 = true then (none) else ((class_Of.f k y368 97).bind fun t370 => (if t370 = 0 then ((class_Of.f k y368 a2).bind fun t371 => (if t371 = 0 then ((abecedarylaw02_awake.f k).bind fun t372 => (some t372)) else (none))) else (none)))))) else (none)) else (none)) else (if t346 = 5 then (if 0 ≤ t344 then (if t344 < (t341.length : Int) then (if t341.length < 5864062014805 then ((some (t341 ++ [(⟨(rd_T43 t341 t344).f0, (rd_T43 t341 t344).f1, (rd_T43 t341 t344).f2⟩ : S43)] : List (S43))).bind fun y374 => ((class_Check.f k y374).bind fun t377 => (if t377 = true then (none) else ((class_Of.f k y374 97).bind fun t378 => (if t378 = 0 then ((class_Of.f k y374 a2).bind fun t379 => (if t379 = 0 then ((abecedarylaw02_awake.f k).bind fun t380 => (some t380)) else (none))) else (none)))))) else (none)) else (none)) else (none)) else (if t346 = 6 then (if 0 < (t341.length : Int) then (if 1 < (t341.length : Int) then ((some (t341.set (1 : Int).toNat (⟨(rd_T43 t341 0).f1, (rd_T43 t341 1).f1, (rd_T43 t341 1).f2⟩ : S43) : List (S43))).bind fun y382 => ((class_Check.f k y382).bind fun t383 => (if t383 = true then (none) else ((class_Of.f k y382 97).bind fun t384 => (if t384 = 0 then ((class_Of.f k y382 a2).bind fun t385 => (if t385 = 0 then ((abecedarylaw02_awake.f k).bind fun t386 => (some t386)) else (none))) else (none)))))) else (none)) else (none)) else (abecedarylaw02_ClassWrong.l0 k a2 t341))))))))) else (none))))) = some r := h
  clear h
  replace H := Option.bind_eq_some_iff.mp H
  obtain ⟨t341, A40, H⟩ := H
  replace H : ((abecedarylaw00_Place.f a1 (t341.length : Int)).bind fun t344 => ((class_Check.f k t341).bind fun t345 => (if t345 = true then ((abecedarylaw00_Place.f a0 8).bind fun t346 => (if t346 = 0 then (if 0 ≤ t344 then (if t344 < (t341.length : Int) then ((some (t341.set (t344 : Int).toNat (⟨(rd_T43 t341 t344).f0, (rd_T43 t341 t344).f1, 0⟩ : S43) : List (S43))).bind fun y347 => ((class_Check.f k y347).bind fun t348 => (if t348 = true then (none) else ((class_Of.f k y347 97).bind fun t349 => (if t349 = 0 then ((class_Of.f k y347 a2).bind fun t350 => (if t350 = 0 then ((abecedarylaw02_awake.f k).bind fun t351 => (some t351)) else (none))) else (none)))))) else (none)) else (none)) else (if t346 = 1 then (if 0 ≤ t344 then (if t344 < (t341.length : Int) then ((some (t341.set (t344 : Int).toNat (⟨(rd_T43 t341 t344).f0, (rd_T43 t341 t344).f1, 4⟩ : S43) : List (S43))).bind fun y352 => ((class_Check.f k y352).bind fun t353 => (if t353 = true then (none) else ((class_Of.f k y352 97).bind fun t354 => (if t354 = 0 then ((class_Of.f k y352 a2).bind fun t355 => (if t355 = 0 then ((abecedarylaw02_awake.f k).bind fun t356 => (some t356)) else (none))) else (none)))))) else (none)) else (none)) else (if t346 = 2 then (if 0 ≤ t344 then (if t344 < (t341.length : Int) then ((some (t341.set (t344 : Int).toNat (⟨(rd_T43 t341 t344).f0, wrap64 (((rd_T43 t341 t344).f0) - 1), (rd_T43 t341 t344).f2⟩ : S43) : List (S43))).bind fun y358 => ((class_Check.f k y358).bind fun t359 => (if t359 = true then (none) else ((class_Of.f k y358 97).bind fun t360 => (if t360 = 0 then ((class_Of.f k y358 a2).bind fun t361 => (if t361 = 0 then ((abecedarylaw02_awake.f k).bind fun t362 => (some t362)) else (none))) else (none)))))) else (none)) else (none)) else (if t346 = 3 then (if 0 ≤ t344 then (if t344 < (t341.length : Int) then ((some (t341.set (t344 : Int).toNat (⟨(-1), (rd_T43 t341 t344).f1, (rd_T43 t341 t344).f2⟩ : S43) : List (S43))).bind fun y363 => ((class_Check.f k y363).bind fun t364 => (if t364 = true then (none) else ((class_Of.f k y363 97).bind fun t365 => (if t365 = 0 then ((class_Of.f k y363 a2).bind fun t366 => (if t366 = 0 then ((abecedarylaw02_awake.f k).bind fun t367 => (some t367)) else (none))) else (none)))))) else (none)) else (none)) else (if t346 = 4 then (if 0 ≤ (wrap64 ((t341.length : Int) - 1)) then (if (wrap64 ((t341.length : Int) - 1)) < (t341.length : Int) then ((some (t341.set ((wrap64 ((t341.length : Int) - 1)) : Int).toNat (⟨(rd_T43 t341 (wrap64 ((t341.length : Int) - 1))).f0, 1114112, (rd_T43 t341 (wrap64 ((t341.length : Int) - 1))).f2⟩ : S43) : List (S43))).bind fun y368 => ((class_Check.f k y368).bind fun t369 => (if t369 = true then (none) else ((class_Of.f k y368 97).bind fun t370 => (if t370 = 0 then ((class_Of.f k y368 a2).bind fun t371 => (if t371 = 0 then ((abecedarylaw02_awake.f k).bind fun t372 => (some t372)) else (none))) else (none)))))) else (none)) else (none)) else (if t346 = 5 then (if 0 ≤ t344 then (if t344 < (t341.length : Int) then (if t341.length < 5864062014805 then ((some (t341 ++ [(⟨(rd_T43 t341 t344).f0, (rd_T43 t341 t344).f1, (rd_T43 t341 t344).f2⟩ : S43)] : List (S43))).bind fun y374 => ((class_Check.f k y374).bind fun t377 => (if t377 = true then (none) else ((class_Of.f k y374 97).bind fun t378 => (if t378 = 0 then ((class_Of.f k y374 a2).bind fun t379 => (if t379 = 0 then ((abecedarylaw02_awake.f k).bind fun t380 => (some t380)) else (none))) else (none)))))) else (none)) else (none)) else (none)) else (if t346 = 6 then (if 0 < (t341.length : Int) then (if 1 < (t341.length : Int) then ((some (t341.set (1 : Int).toNat (⟨(rd_T43 t341 0).f1, (rd_T43 t341 1).f1, (rd_T43 t341 1).f2⟩ : S43) : List (S43))).bind fun y382 => ((class_Check.f k y382).bind fun t383 => (if t383 = true then (none) else ((class_Of.f k y382 97).bind fun t384 => (if t384 = 0 then ((class_Of.f k y382 a2).bind fun t385 => (if t385 = 0 then ((abecedarylaw02_awake.f k).bind fun t386 => (some t386)) else (none))) else (none)))))) else (none)) else (none)) else (abecedarylaw02_ClassWrong.l0 k a2 t341))))))))) else (none)))) = some r := H
  have A4 := Aside0.mk A40
  clear A40
  replace H := Option.bind_eq_some_iff.mp H
  obtain ⟨t344, A50, H⟩ := H
  replace H : ((class_Check.f k t341).bind fun t345 => (if t345 = true then ((abecedarylaw00_Place.f a0 8).bind fun t346 => (if t346 = 0 then (if 0 ≤ t344 then (if t344 < (t341.length : Int) then ((some (t341.set (t344 : Int).toNat (⟨(rd_T43 t341 t344).f0, (rd_T43 t341 t344).f1, 0⟩ : S43) : List (S43))).bind fun y347 => ((class_Check.f k y347).bind fun t348 => (if t348 = true then (none) else ((class_Of.f k y347 97).bind fun t349 => (if t349 = 0 then ((class_Of.f k y347 a2).bind fun t350 => (if t350 = 0 then ((abecedarylaw02_awake.f k).bind fun t351 => (some t351)) else (none))) else (none)))))) else (none)) else (none)) else (if t346 = 1 then (if 0 ≤ t344 then (if t344 < (t341.length : Int) then ((some (t341.set (t344 : Int).toNat (⟨(rd_T43 t341 t344).f0, (rd_T43 t341 t344).f1, 4⟩ : S43) : List (S43))).bind fun y352 => ((class_Check.f k y352).bind fun t353 => (if t353 = true then (none) else ((class_Of.f k y352 97).bind fun t354 => (if t354 = 0 then ((class_Of.f k y352 a2).bind fun t355 => (if t355 = 0 then ((abecedarylaw02_awake.f k).bind fun t356 => (some t356)) else (none))) else (none)))))) else (none)) else (none)) else (if t346 = 2 then (if 0 ≤ t344 then (if t344 < (t341.length : Int) then ((some (t341.set (t344 : Int).toNat (⟨(rd_T43 t341 t344).f0, wrap64 (((rd_T43 t341 t344).f0) - 1), (rd_T43 t341 t344).f2⟩ : S43) : List (S43))).bind fun y358 => ((class_Check.f k y358).bind fun t359 => (if t359 = true then (none) else ((class_Of.f k y358 97).bind fun t360 => (if t360 = 0 then ((class_Of.f k y358 a2).bind fun t361 => (if t361 = 0 then ((abecedarylaw02_awake.f k).bind fun t362 => (some t362)) else (none))) else (none)))))) else (none)) else (none)) else (if t346 = 3 then (if 0 ≤ t344 then (if t344 < (t341.length : Int) then ((some (t341.set (t344 : Int).toNat (⟨(-1), (rd_T43 t341 t344).f1, (rd_T43 t341 t344).f2⟩ : S43) : List (S43))).bind fun y363 => ((class_Check.f k y363).bind fun t364 => (if t364 = true then (none) else ((class_Of.f k y363 97).bind fun t365 => (if t365 = 0 then ((class_Of.f k y363 a2).bind fun t366 => (if t366 = 0 then ((abecedarylaw02_awake.f k).bind fun t367 => (some t367)) else (none))) else (none)))))) else (none)) else (none)) else (if t346 = 4 then (if 0 ≤ (wrap64 ((t341.length : Int) - 1)) then (if (wrap64 ((t341.length : Int) - 1)) < (t341.length : Int) then ((some (t341.set ((wrap64 ((t341.length : Int) - 1)) : Int).toNat (⟨(rd_T43 t341 (wrap64 ((t341.length : Int) - 1))).f0, 1114112, (rd_T43 t341 (wrap64 ((t341.length : Int) - 1))).f2⟩ : S43) : List (S43))).bind fun y368 => ((class_Check.f k y368).bind fun t369 => (if t369 = true then (none) else ((class_Of.f k y368 97).bind fun t370 => (if t370 = 0 then ((class_Of.f k y368 a2).bind fun t371 => (if t371 = 0 then ((abecedarylaw02_awake.f k).bind fun t372 => (some t372)) else (none))) else (none)))))) else (none)) else (none)) else (if t346 = 5 then (if 0 ≤ t344 then (if t344 < (t341.length : Int) then (if t341.length < 5864062014805 then ((some (t341 ++ [(⟨(rd_T43 t341 t344).f0, (rd_T43 t341 t344).f1, (rd_T43 t341 t344).f2⟩ : S43)] : List (S43))).bind fun y374 => ((class_Check.f k y374).bind fun t377 => (if t377 = true then (none) else ((class_Of.f k y374 97).bind fun t378 => (if t378 = 0 then ((class_Of.f k y374 a2).bind fun t379 => (if t379 = 0 then ((abecedarylaw02_awake.f k).bind fun t380 => (some t380)) else (none))) else (none)))))) else (none)) else (none)) else (none)) else (if t346 = 6 then (if 0 < (t341.length : Int) then (if 1 < (t341.length : Int) then ((some (t341.set (1 : Int).toNat (⟨(rd_T43 t341 0).f1, (rd_T43 t341 1).f1, (rd_T43 t341 1).f2⟩ : S43) : List (S43))).bind fun y382 => ((class_Check.f k y382).bind fun t383 => (if t383 = true then (none) else ((class_Of.f k y382 97).bind fun t384 => (if t384 = 0 then ((class_Of.f k y382 a2).bind fun t385 => (if t385 = 0 then ((abecedarylaw02_awake.f k).bind fun t386 => (some t386)) else (none))) else (none)))))) else (none)) else (none)) else (abecedarylaw02_ClassWrong.l0 k a2 t341))))))))) else (none))) = some r := H
  have A5 := Aside0.mk A50
  clear A50
  replace H := Option.bind_eq_some_iff.mp H
  obtain ⟨t345, A60, H⟩ := H
  replace H : (if t345 = true then ((abecedarylaw00_Place.f a0 8).bind fun t346 => (if t346 = 0 then (if 0 ≤ t344 then (if t344 < (t341.length : Int) then ((some (t341.set (t344 : Int).toNat (⟨(rd_T43 t341 t344).f0, (rd_T43 t341 t344).f1, 0⟩ : S43) : List (S43))).bind fun y347 => ((class_Check.f k y347).bind fun t348 => (if t348 = true then (none) else ((class_Of.f k y347 97).bind fun t349 => (if t349 = 0 then ((class_Of.f k y347 a2).bind fun t350 => (if t350 = 0 then ((abecedarylaw02_awake.f k).bind fun t351 => (some t351)) else (none))) else (none)))))) else (none)) else (none)) else (if t346 = 1 then (if 0 ≤ t344 then (if t344 < (t341.length : Int) then ((some (t341.set (t344 : Int).toNat (⟨(rd_T43 t341 t344).f0, (rd_T43 t341 t344).f1, 4⟩ : S43) : List (S43))).bind fun y352 => ((class_Check.f k y352).bind fun t353 => (if t353 = true then (none) else ((class_Of.f k y352 97).bind fun t354 => (if t354 = 0 then ((class_Of.f k y352 a2).bind fun t355 => (if t355 = 0 then ((abecedarylaw02_awake.f k).bind fun t356 => (some t356)) else (none))) else (none)))))) else (none)) else (none)) else (if t346 = 2 then (if 0 ≤ t344 then (if t344 < (t341.length : Int) then ((some (t341.set (t344 : Int).toNat (⟨(rd_T43 t341 t344).f0, wrap64 (((rd_T43 t341 t344).f0) - 1), (rd_T43 t341 t344).f2⟩ : S43) : List (S43))).bind fun y358 => ((class_Check.f k y358).bind fun t359 => (if t359 = true then (none) else ((class_Of.f k y358 97).bind fun t360 => (if t360 = 0 then ((class_Of.f k y358 a2).bind fun t361 => (if t361 = 0 then ((abecedarylaw02_awake.f k).bind fun t362 => (some t362)) else (none))) else (none)))))) else (none)) else (none)) else (if t346 = 3 then (if 0 ≤ t344 then (if t344 < (t341.length : Int) then ((some (t341.set (t344 : Int).toNat (⟨(-1), (rd_T43 t341 t344).f1, (rd_T43 t341 t344).f2⟩ : S43) : List (S43))).bind fun y363 => ((class_Check.f k y363).bind fun t364 => (if t364 = true then (none) else ((class_Of.f k y363 97).bind fun t365 => (if t365 = 0 then ((class_Of.f k y363 a2).bind fun t366 => (if t366 = 0 then ((abecedarylaw02_awake.f k).bind fun t367 => (some t367)) else (none))) else (none)))))) else (none)) else (none)) else (if t346 = 4 then (if 0 ≤ (wrap64 ((t341.length : Int) - 1)) then (if (wrap64 ((t341.length : Int) - 1)) < (t341.length : Int) then ((some (t341.set ((wrap64 ((t341.length : Int) - 1)) : Int).toNat (⟨(rd_T43 t341 (wrap64 ((t341.length : Int) - 1))).f0, 1114112, (rd_T43 t341 (wrap64 ((t341.length : Int) - 1))).f2⟩ : S43) : List (S43))).bind fun y368 => ((class_Check.f k y368).bind fun t369 => (if t369 = true then (none) else ((class_Of.f k y368 97).bind fun t370 => (if t370 = 0 then ((class_Of.f k y368 a2).bind fun t371 => (if t371 = 0 then ((abecedarylaw02_awake.f k).bind fun t372 => (some t372)) else (none))) else (none)))))) else (none)) else (none)) else (if t346 = 5 then (if 0 ≤ t344 then (if t344 < (t341.length : Int) then (if t341.length < 5864062014805 then ((some (t341 ++ [(⟨(rd_T43 t341 t344).f0, (rd_T43 t341 t344).f1, (rd_T43 t341 t344).f2⟩ : S43)] : List (S43))).bind fun y374 => ((class_Check.f k y374).bind fun t377 => (if t377 = true then (none) else ((class_Of.f k y374 97).bind fun t378 => (if t378 = 0 then ((class_Of.f k y374 a2).bind fun t379 => (if t379 = 0 then ((abecedarylaw02_awake.f k).bind fun t380 => (some t380)) else (none))) else (none)))))) else (none)) else (none)) else (none)) else (if t346 = 6 then (if 0 < (t341.length : Int) then (if 1 < (t341.length : Int) then ((some (t341.set (1 : Int).toNat (⟨(rd_T43 t341 0).f1, (rd_T43 t341 1).f1, (rd_T43 t341 1).f2⟩ : S43) : List (S43))).bind fun y382 => ((class_Check.f k y382).bind fun t383 => (if t383 = true then (none) else ((class_Of.f k y382 97).bind fun t384 => (if t384 = 0 then ((class_Of.f k y382 a2).bind fun t385 => (if t385 = 0 then ((abecedarylaw02_awake.f k).bind fun t386 => (some t386)) else (none))) else (none)))))) else (none)) else (none)) else (abecedarylaw02_ClassWrong.l0 k a2 t341))))))))) else (none)) = some r := H
  have A6 := Aside0.mk A60
  clear A60
  by_cases c7 : t345 = true
  · subst c7
    have H1 : ((abecedarylaw00_Place.f a0 8).bind fun t346 => (if t346 = 0 then (if 0 ≤ t344 then (if t344 < (t341.length : Int) then ((some (t341.set (t344 : Int).toNat (⟨(rd_T43 t341 t344).f0, (rd_T43 t341 t344).f1, 0⟩ : S43) : List (S43))).bind fun y347 => ((class_Check.f k y347).bind fun t348 => (if t348 = true then (none) else ((class_Of.f k y347 97).bind fun t349 => (if t349 = 0 then ((class_Of.f k y347 a2).bind fun t350 => (if t350 = 0 then ((abecedarylaw02_awake.f k).bind fun t351 => (some t351)) else (none))) else (none)))))) else (none)) else (none)) else (if t346 = 1 then (if 0 ≤ t344 then (if t344 < (t341.length : Int) then ((some (t341.set (t344 : Int).toNat (⟨(rd_T43 t341 t344).f0, (rd_T43 t341 t344).f1, 4⟩ : S43) : List (S43))).bind fun y352 => ((class_Check.f k y352).bind fun t353 => (if t353 = true then (none) else ((class_Of.f k y352 97).bind fun t354 => (if t354 = 0 then ((class_Of.f k y352 a2).bind fun t355 => (if t355 = 0 then ((abecedarylaw02_awake.f k).bind fun t356 => (some t356)) else (none))) else (none)))))) else (none)) else (none)) else (if t346 = 2 then (if 0 ≤ t344 then (if t344 < (t341.length : Int) then ((some (t341.set (t344 : Int).toNat (⟨(rd_T43 t341 t344).f0, wrap64 (((rd_T43 t341 t344).f0) - 1), (rd_T43 t341 t344).f2⟩ : S43) : List (S43))).bind fun y358 => ((class_Check.f k y358).bind fun t359 => (if t359 = true then (none) else ((class_Of.f k y358 97).bind fun t360 => (if t360 = 0 then ((class_Of.f k y358 a2).bind fun t361 => (if t361 = 0 then ((abecedarylaw02_awake.f k).bind fun t362 => (some t362)) else (none))) else (none)))))) else (none)) else (none)) else (if t346 = 3 then (if 0 ≤ t344 then (if t344 < (t341.length : Int) then ((some (t341.set (t344 : Int).toNat (⟨(-1), (rd_T43 t341 t344).f1, (rd_T43 t341 t344).f2⟩ : S43) : List (S43))).bind fun y363 => ((class_Check.f k y363).bind fun t364 => (if t364 = true then (none) else ((class_Of.f k y363 97).bind fun t365 => (if t365 = 0 then ((class_Of.f k y363 a2).bind fun t366 => (if t366 = 0 then ((abecedarylaw02_awake.f k).bind fun t367 => (some t367)) else (none))) else (none)))))) else (none)) else (none)) else (if t346 = 4 then (if 0 ≤ (wrap64 ((t341.length : Int) - 1)) then (if (wrap64 ((t341.length : Int) - 1)) < (t341.length : Int) then ((some (t341.set ((wrap64 ((t341.length : Int) - 1)) : Int).toNat (⟨(rd_T43 t341 (wrap64 ((t341.length : Int) - 1))).f0, 1114112, (rd_T43 t341 (wrap64 ((t341.length : Int) - 1))).f2⟩ : S43) : List (S43))).bind fun y368 => ((class_Check.f k y368).bind fun t369 => (if t369 = true then (none) else ((class_Of.f k y368 97).bind fun t370 => (if t370 = 0 then ((class_Of.f k y368 a2).bind fun t371 => (if t371 = 0 then ((abecedarylaw02_awake.f k).bind fun t372 => (some t372)) else (none))) else (none)))))) else (none)) else (none)) else (if t346 = 5 then (if 0 ≤ t344 then (if t344 < (t341.length : Int) then (if t341.length < 5864062014805 then ((some (t341 ++ [(⟨(rd_T43 t341 t344).f0, (rd_T43 t341 t344).f1, (rd_T43 t341 t344).f2⟩ : S43)] : List (S43))).bind fun y374 => ((class_Check.f k y374).bind fun t377 => (if t377 = true then (none) else ((class_Of.f k y374 97).bind fun t378 => (if t378 = 0 then ((class_Of.f k y374 a2).bind fun t379 => (if t379 = 0 then ((abecedarylaw02_awake.f k).bind fun t380 => (some t380)) else (none))) else (none)))))) else (none)) else (none)) else (none)) else (if t346 = 6 then (if 0 < (t341.length : Int) then (if 1 < (t341.length : Int) then ((some (t341.set (1 : Int).toNat (⟨(rd_T43 t341 0).f1, (rd_T43 t341 1).f1, (rd_T43 t341 1).f2⟩ : S43) : List (S43))).bind fun y382 => ((class_Check.f k y382).bind fun t383 => (if t383 = true then (none) else ((class_Of.f k y382 97).bind fun t384 => (if t384 = 0 then ((class_Of.f k y382 a2).bind fun t385 => (if t385 = 0 then ((abecedarylaw02_awake.f k).bind fun t386 => (some t386)) else (none))) else (none)))))) else (none)) else (none)) else (abecedarylaw02_ClassWrong.l0 k a2 t341))))))))) = some r := by rw [if_pos rfl] at H; exact H
    clear H
    have H := H1
    clear H1
    replace H := Option.bind_eq_some_iff.mp H
    obtain ⟨t346, A80, H⟩ := H
    replace H : (if t346 = 0 then (if 0 ≤ t344 then (if t344 < (t341.length : Int) then ((some (t341.set (t344 : Int).toNat (⟨(rd_T43 t341 t344).f0, (rd_T43 t341 t344).f1, 0⟩ : S43) : List (S43))).bind fun y347 => ((class_Check.f k y347).bind fun t348 => (if t348 = true then (none) else ((class_Of.f k y347 97).bind fun t349 => (if t349 = 0 then ((class_Of.f k y347 a2).bind fun t350 => (if t350 = 0 then ((abecedarylaw02_awake.f k).bind fun t351 => (some t351)) else (none))) else (none)))))) else (none)) else (none)) else (if t346 = 1 then (if 0 ≤ t344 then (if t344 < (t341.length : Int) then ((some (t341.set (t344 : Int).toNat (⟨(rd_T43 t341 t344).f0, (rd_T43 t341 t344).f1, 4⟩ : S43) : List (S43))).bind fun y352 => ((class_Check.f k y352).bind fun t353 => (if t353 = true then (none) else ((class_Of.f k y352 97).bind fun t354 => (if t354 = 0 then ((class_Of.f k y352 a2).bind fun t355 => (if t355 = 0 then ((abecedarylaw02_awake.f k).bind fun t356 => (some t356)) else (none))) else (none)))))) else (none)) else (none)) else (if t346 = 2 then (if 0 ≤ t344 then (if t344 < (t341.length : Int) then ((some (t341.set (t344 : Int).toNat (⟨(rd_T43 t341 t344).f0, wrap64 (((rd_T43 t341 t344).f0) - 1), (rd_T43 t341 t344).f2⟩ : S43) : List (S43))).bind fun y358 => ((class_Check.f k y358).bind fun t359 => (if t359 = true then (none) else ((class_Of.f k y358 97).bind fun t360 => (if t360 = 0 then ((class_Of.f k y358 a2).bind fun t361 => (if t361 = 0 then ((abecedarylaw02_awake.f k).bind fun t362 => (some t362)) else (none))) else (none)))))) else (none)) else (none)) else (if t346 = 3 then (if 0 ≤ t344 then (if t344 < (t341.length : Int) then ((some (t341.set (t344 : Int).toNat (⟨(-1), (rd_T43 t341 t344).f1, (rd_T43 t341 t344).f2⟩ : S43) : List (S43))).bind fun y363 => ((class_Check.f k y363).bind fun t364 => (if t364 = true then (none) else ((class_Of.f k y363 97).bind fun t365 => (if t365 = 0 then ((class_Of.f k y363 a2).bind fun t366 => (if t366 = 0 then ((abecedarylaw02_awake.f k).bind fun t367 => (some t367)) else (none))) else (none)))))) else (none)) else (none)) else (if t346 = 4 then (if 0 ≤ (wrap64 ((t341.length : Int) - 1)) then (if (wrap64 ((t341.length : Int) - 1)) < (t341.length : Int) then ((some (t341.set ((wrap64 ((t341.length : Int) - 1)) : Int).toNat (⟨(rd_T43 t341 (wrap64 ((t341.length : Int) - 1))).f0, 1114112, (rd_T43 t341 (wrap64 ((t341.length : Int) - 1))).f2⟩ : S43) : List (S43))).bind fun y368 => ((class_Check.f k y368).bind fun t369 => (if t369 = true then (none) else ((class_Of.f k y368 97).bind fun t370 => (if t370 = 0 then ((class_Of.f k y368 a2).bind fun t371 => (if t371 = 0 then ((abecedarylaw02_awake.f k).bind fun t372 => (some t372)) else (none))) else (none)))))) else (none)) else (none)) else (if t346 = 5 then (if 0 ≤ t344 then (if t344 < (t341.length : Int) then (if t341.length < 5864062014805 then ((some (t341 ++ [(⟨(rd_T43 t341 t344).f0, (rd_T43 t341 t344).f1, (rd_T43 t341 t344).f2⟩ : S43)] : List (S43))).bind fun y374 => ((class_Check.f k y374).bind fun t377 => (if t377 = true then (none) else ((class_Of.f k y374 97).bind fun t378 => (if t378 = 0 then ((class_Of.f k y374 a2).bind fun t379 => (if t379 = 0 then ((abecedarylaw02_awake.f k).bind fun t380 => (some t380)) else (none))) else (none)))))) else (none)) else (none)) else (none)) else (if t346 = 6 then (if 0 < (t341.length : Int) then (if 1 < (t341.length : Int) then ((some (t341.set (1 : Int).toNat (⟨(rd_T43 t341 0).f1, (rd_T43 t341 1).f1, (rd_T43 t341 1).f2⟩ : S43) : List (S43))).bind fun y382 => ((class_Check.f k y382).bind fun t383 => (if t383 = true then (none) else ((class_Of.f k y382 97).bind fun t384 => (if t384 = 0 then ((class_Of.f k y382 a2).bind fun t385 => (if t385 = 0 then ((abecedarylaw02_awake.f k).bind fun t386 => (some t386)) else (none))) else (none)))))) else (none)) else (none)) else (abecedarylaw02_ClassWrong.l0 k a2 t341)))))))) = some r := H
    have A8 := Aside0.mk A80
    clear A80
    by_cases c9 : t346 = 0
    · rw [if_pos c9] at H
      have c9b0 : (t346 == 0) = true := beq_iff_eq.mpr c9
      have c9b1 : (t346 != 0) = false := bne_eq_false_iff_eq.mpr c9
      clear c9
      by_cases c10 : 0 ≤ t344
      · rw [if_pos c10] at H
        have c10b0 : decide (0 ≤ t344) = true := decide_eq_true c10
        clear c10
        by_cases c11 : t344 < (t341.length : Int)
        · rw [if_pos c11] at H
          have c11b0 : decide (t344 < (t341.length : Int)) = true := decide_eq_true c11
          clear c11
          obtain ⟨y347, hy347⟩ : ∃ y_ : List (S43), y_ = (t341.set (t344 : Int).toNat (⟨(rd_T43 t341 t344).f0, (rd_T43 t341 t344).f1, 0⟩ : S43)) := ⟨_, rfl⟩
          replace H : ((class_Check.f k y347).bind fun t348 => (if t348 = true then (none) else ((class_Of.f k y347 97).bind fun t349 => (if t349 = 0 then ((class_Of.f k y347 a2).bind fun t350 => (if t350 = 0 then ((abecedarylaw02_awake.f k).bind fun t351 => (some t351)) else (none))) else (none))))) = some r := by first | (rw [hy347]; with_reducible exact H) | (have H2_ := (Option.bind_some _ _).symm.trans H; rw [hy347]; with_reducible exact H2_) | (have H2_ := (Option.bind_some _ _).symm.trans H; with_reducible exact H2_) | with_reducible exact H | (rw [hy347]; exact H) | exact H
          have Ny347 := Aside0.mk hy347
          clear hy347
          replace H := Option.bind_eq_some_iff.mp H
          obtain ⟨t348, A130, H⟩ := H
          replace H : (if t348 = true then (none) else ((class_Of.f k y347 97).bind fun t349 => (if t349 = 0 then ((class_Of.f k y347 a2).bind fun t350 => (if t350 = 0 then ((abecedarylaw02_awake.f k).bind fun t351 => (some t351)) else (none))) else (none)))) = some r := H
          have A13 := Aside0.mk A130
          clear A130
          by_cases c14 : t348 = true
          · subst c14
            have H1 : (none) = some r := by rw [if_pos rfl] at H; exact H
            clear H
            have H := H1
            clear H1
            exact absurd H (by simp)
          · replace c14 := Bool.eq_false_iff.mpr c14
            subst c14
            have H1 : ((class_Of.f k y347 97).bind fun t349 => (if t349 = 0 then ((class_Of.f k y347 a2).bind fun t350 => (if t350 = 0 then ((abecedarylaw02_awake.f k).bind fun t351 => (some t351)) else (none))) else (none))) = some r := by rw [if_neg (show ¬ (false = true) by decide)] at H; exact H
            clear H
            have H := H1
            clear H1
            replace H := Option.bind_eq_some_iff.mp H
            obtain ⟨t349, A150, H⟩ := H
            replace H : (if t349 = 0 then ((class_Of.f k y347 a2).bind fun t350 => (if t350 = 0 then ((abecedarylaw02_awake.f k).bind fun t351 => (some t351)) else (none))) else (none)) = some r := H
            have A15 := Aside0.mk A150
            clear A150
            by_cases c16 : t349 = 0
            · rw [if_pos c16] at H
              have c16b0 : (t349 == 0) = true := beq_iff_eq.mpr c16
              have c16b1 : (t349 != 0) = false := bne_eq_false_iff_eq.mpr c16
              clear c16
              replace H := Option.bind_eq_some_iff.mp H
              obtain ⟨t350, A170, H⟩ := H
              replace H : (if t350 = 0 then ((abecedarylaw02_awake.f k).bind fun t351 => (some t351)) else (none)) = some r := H
              have A17 := Aside0.mk A170
              clear A170
              by_cases c18 : t350 = 0
              · rw [if_pos c18] at H
                have c18b0 : (t350 == 0) = true := beq_iff_eq.mpr c18
                have c18b1 : (t350 != 0) = false := bne_eq_false_iff_eq.mpr c18
                clear c18
                replace H := Option.bind_eq_some_iff.mp H
                obtain ⟨t351, A190, H⟩ := H
                replace H : (some t351) = some r := H
                have A19 := Aside0.mk A190
                clear A190
                obtain rfl := Option.some.inj H
                go_enter Try.func11, Try.ntmps11
                go_wp2_with (first | ((with_reducible refine gate_callee (f := 29) rfl ?_); refine goesL_ (some 9) rfl rfl Try.func29 (by kernel_rfl) rfl #[] rfl (by (try simp only [List.map_toArray, List.map_cons, List.map_nil]); first | done | rfl | (simp only [List.length_drop, List.length_take]; rfl)) ?_; (with_reducible refine (abecedarylaw00_Table.calls  t341 _ A4.out).mono ?_); rintro e w20 ⟨v342, rfl, ho0, hb⟩; refine ⟨_, rfl, ?_⟩; have n0_ := Aside0.mk (Kd.R_lower ho0 (below_size (by repeat (first | (with_reducible first | exact HB.out | apply below_alloc | apply pw_below_drewN | apply below_drew1) | exact HB.out)))); have n1_ := Aside0.mk (below_step (by repeat (first | (with_reducible first | exact HB.out | apply below_alloc | apply pw_below_drewN | apply below_drew1) | exact HB.out)) hb); clear HB; have HO343 := n0_; have HB := n1_; clear n0_ n1_; (try clear hb); (try clear hb2); (try clear hk); (try clear hi); (try clear ho0); obtain ⟨Ao21, co21, eo21⟩ := Kd.R_slice HO343.out; subst eo21) | ((with_reducible refine gate_callee (f := 19) rfl ?_); refine goesL_ (some 13) rfl rfl Try.func19 (by kernel_rfl) rfl #[.int .i64 a1, .int .i64 (t341.length : Int)] rfl (by (try simp only [List.map_toArray, List.map_cons, List.map_nil]); first | done | rfl | (simp only [List.length_drop, List.length_take]; rfl)) ?_; (with_reducible refine (abecedarylaw00_Place.calls a1 (t341.length : Int) t344 _ A5.out).mono ?_); rintro e w' ⟨rfl, ⟨nd, rfl⟩⟩; refine ⟨_, rfl, ?_⟩; (try (rw [drewN_self w20]; generalize hq_ : World.drewN w20 _ = w20; have n0_ : Aside0 (Kd.R k43 43 w20 w.heap.size (fun _ => True) (.slice Ao21 t341.length co21) t341) := ⟨by rw [← hq_]; exact (by (with_reducible repeat (first | apply Kd.R_alloc | apply Kd.R_drewN | apply Kd.R_drew)); exact HO343.out)⟩; have n1_ : Aside0 (Below w.heap.size w w20) := ⟨by rw [← hq_]; exact (by repeat (first | (with_reducible first | exact HB.out | apply below_alloc | apply pw_below_drewN | apply below_drew1) | exact HB.out))⟩; clear HO343 HB hq_; have HO343 := n0_; have HB := n1_; clear n0_ n1_))) | ((with_reducible refine gate_callee (f := 25) rfl ?_); refine goesL_ (some 15) rfl rfl Try.func25 (by kernel_rfl) rfl #[.slice Ao21 t341.length co21] rfl (by (try simp only [List.map_toArray, List.map_cons, List.map_nil]); first | done | rfl | (simp only [List.length_drop, List.length_take]; rfl)) ?_; (with_reducible refine (class_Check.calls k _ _ t341 true _ ?side1 ?side2 A6.out).mono ?_); (case side1 => repeat (first | exact (Kd.R_reads' HO343.out).2.2 | (with_reducible refine Kd.C_alloc ?_ _) | (with_reducible refine Kd.C_drewN ?_ _) | (with_reducible refine Kd.C_drew ?_))); (case side2 => exact (Kd.R_reads' HO343.out).2.1); rintro e w22 ⟨rfl, hb⟩; refine ⟨_, rfl, ?_⟩; have n0_ := Aside0.mk (Kd.R_below (by (with_reducible repeat (first | apply Kd.R_alloc | apply Kd.R_drewN | apply Kd.R_drew)); exact HO343.out) hb); have n1_ := Aside0.mk (below_step (by repeat (first | (with_reducible first | exact HB.out | apply below_alloc | apply pw_below_drewN | apply below_drew1) | exact HB.out)) hb); clear HO343; clear HB; have HO343 := n0_; have HB := n1_; clear n0_ n1_; (try clear hb); (try clear hb2); (try clear hk); (try clear hi)) | ((with_reducible refine gate_callee (f := 19) rfl ?_); refine goesL_ (some 18) rfl rfl Try.func19 (by kernel_rfl) rfl #[.int .i64 a0, .int .i64 8] rfl (by (try simp only [List.map_toArray, List.map_cons, List.map_nil]); first | done | rfl | (simp only [List.length_drop, List.length_take]; rfl)) ?_; (with_reducible refine (abecedarylaw00_Place.calls a0 8 t346 _ A8.out).mono ?_); rintro e w' ⟨rfl, ⟨nd, rfl⟩⟩; refine ⟨_, rfl, ?_⟩; (try (rw [drewN_self w22]; generalize hq_ : World.drewN w22 _ = w22; have n0_ : Aside0 (Kd.R k43 43 w22 w.heap.size (fun _ => True) (.slice Ao21 t341.length co21) t341) := ⟨by rw [← hq_]; exact (by (with_reducible repeat (first | apply Kd.R_alloc | apply Kd.R_drewN | apply Kd.R_drew)); exact HO343.out)⟩; have n1_ : Aside0 (Below w.heap.size w w22) := ⟨by rw [← hq_]; exact (by repeat (first | (with_reducible first | exact HB.out | apply below_alloc | apply pw_below_drewN | apply below_drew1) | exact HB.out))⟩; clear HO343 HB hq_; have HO343 := n0_; have HB := n1_; clear n0_ n1_)); have p12 : 0 ≤ (t344 : Int) := of_decide_eq_true (by first | (with_reducible assumption) | assumption); have q12 : (t344 : Int) < ((t341.length : Int) : Int) := of_decide_eq_true (by first | (with_reducible assumption) | assumption); obtain ⟨go12, co12, eo12, gb12, gl12, cl12, HG12⟩ := Kd.R_form HO343.out (by omega); (first | cases eo12 | (injection eo12 with ea_ en_ ec_; (first | subst ea_ | (injection ea_ with ea_; subst ea_)); subst ec_; clear en_)); have GB12 := Aside0.mk gb12; have GG12 := Aside0.mk HG12; clear gb12 gl12 HG12; obtain ⟨ce12, hcl12, hM12, hcc12, hfr12⟩ := Kd.R_elem HO343.out z43 (t344 : Int) p12 q12; obtain rfl := k43_openM hM12; have hx12_0 : w22.cell? ⟨go12, (t344 : Int).toNat * 3, none⟩ = some (.int .i64 ((rd_T43 t341 t344).f0)) := hcc12 0 _ rfl; have hx12_1 : w22.cell? ⟨go12, (t344 : Int).toNat * 3 + 1, none⟩ = some (.int .i64 ((rd_T43 t341 t344).f1)) := hcc12 1 _ rfl; have hx12_2 : w22.cell? ⟨go12, (t344 : Int).toNat * 3 + 2, none⟩ = some (.int .i64 ((rd_T43 t341 t344).f2)) := hcc12 2 _ rfl; have hf12_0 : w22.frozen? ⟨go12, (t344 : Int).toNat * 3, none⟩ = false := hfr12 0; have hf12_1 : w22.frozen? ⟨go12, (t344 : Int).toNat * 3 + 1, none⟩ = false := hfr12 1; have hf12_2 : w22.frozen? ⟨go12, (t344 : Int).toNat * 3 + 2, none⟩ = false := hfr12 2; clear hcl12 hcc12 hfr12 hM12; replace p12 := eq_true p12; replace q12 := eq_true q12; have HX23 := Aside0.mk (show Kd.R k43 43 w22 w.heap.size (fun _ => True) (.slice (some ⟨go12, 0, none⟩) t341.length co21) t341 from (by (with_reducible repeat (first | apply Kd.R_alloc | apply Kd.R_drewN | apply Kd.R_drew)); exact HO343.out)); obtain ⟨ce23, hcl23, hM23, hcc23, hfr23⟩ := Kd.R_elem HX23.out z43 (t344 : Int) (of_decide_eq_true (by first | (with_reducible assumption) | assumption)) (by have h_ : (t344 : Int) < ((t341.length : Int) : Int) := of_decide_eq_true (by first | (with_reducible assumption) | assumption); first | exact h_ | (have e_ := (Kd.R_reads' HO343.out).1; omega) | simpa using h_); obtain rfl := k43_openM hM23; have HP23 := Kd.R_seg HX23.out (t344 : Int) (of_decide_eq_true (by first | (with_reducible assumption) | assumption)) (by have h_ : (t344 : Int) < ((t341.length : Int) : Int) := of_decide_eq_true (by first | (with_reducible assumption) | assumption); first | exact h_ | (have e_ := (Kd.R_reads' HO343.out).1; omega) | simpa using h_) (seg := [.int .i64 0]) (j := 2) hcl23 hcc23 (show 3 ≤ 3 from by decide) (x' := (⟨(rd_T43 t341 t344).f0, (rd_T43 t341 t344).f1, 0⟩ : S43)) (k43_mkM _ _ _ (⟨(rd_T43 t341 t344).f0, (rd_T43 t341 t344).f1, 0⟩ : S43) ) (fun _ hk => hk); have hx23_2 := hcc23 2 _ rfl; (try simp only [show (k43).sz = 3 from rfl, Nat.mul_one, Nat.add_zero] at hx23_2); have hf23_2 := hfr23 2; (try simp only [show (k43).sz = 3 from rfl, Nat.mul_one, Nat.add_zero] at hf23_2); clear hcl23 hcc23 hfr23 hM23) | ((with_reducible refine gate_store (t := 3) (p := 47) rfl ?_); refine store_event (t := 3) (p := 47) (v := ?vo_w24) (w1 := (w22.setCell ⟨go12, (t344 : Int).toNat * 3 + 2, none⟩ (.int .i64 0))) ?hg ?ho ?hn ?hr ?_; (case ho => rfl); (case hg => rfl); (case hn => rfl); (case hr => first | (go_simp; done) | (go_simp; rfl)); intro w24 hw; have hg : w22.grownBy w24 (some go12) := (by rw [hw]; exact HP23.2); have hp_ : Kd.R k43 43 w24 w.heap.size (fun _ => True) (.slice (some ⟨go12, 0, none⟩) t341.length co21) y347 := (by rw [hw, Ny347.out]; exact HP23.1); clear HP23; have n0_ := Aside0.mk (hp_); have n1_ := Aside0.mk ((by rw [hw]; exact below_set (HB.out) GB12.out : Below w.heap.size w w24)); clear HO343; clear HB; have HO343 := n0_; have HB := n1_; clear n0_ n1_; clear hg hw hp_) | ((with_reducible refine gate_callee (f := 25) rfl ?_); refine goesL_ (some 99) rfl rfl Try.func25 (by kernel_rfl) rfl #[.slice (some ⟨go12, 0, none⟩) y347.length co21] rfl (by (try simp only [List.map_toArray, List.map_cons, List.map_nil]); first | done | (rw [show y347.length = t341.length from (Kd.R_reads' HO343.out).1.symm] <;> rfl) | rfl | (simp only [List.length_drop, List.length_take]; rfl)) ?_; (with_reducible refine (class_Check.calls k _ _ y347 false _ ?side1 ?side2 A13.out).mono ?_); (case side1 => repeat (first | exact (Kd.R_reads' HO343.out).2.2 | (with_reducible refine Kd.C_alloc ?_ _) | (with_reducible refine Kd.C_drewN ?_ _) | (with_reducible refine Kd.C_drew ?_))); (case side2 => rw [show y347.length = t341.length from (Kd.R_reads' HO343.out).1.symm]; exact (Kd.R_reads' HO343.out).2.1); rintro e w25 ⟨rfl, hb⟩; refine ⟨_, rfl, ?_⟩; have n0_ := Aside0.mk (Kd.R_below (by (with_reducible repeat (first | apply Kd.R_alloc | apply Kd.R_drewN | apply Kd.R_drew)); exact HO343.out) hb); have n1_ := Aside0.mk (below_step (by repeat (first | (with_reducible first | exact HB.out | apply below_alloc | apply pw_below_drewN | apply below_drew1) | exact HB.out)) hb); clear HO343; clear HB; have HO343 := n0_; have HB := n1_; clear n0_ n1_; (try clear hb); (try clear hb2); (try clear hk); (try clear hi)) | (go_at_call 27; refine calls_of_args (args' := #[.slice (some ⟨go12, 0, none⟩) y347.length co21, .int .i64 97]) (by first | (rw [show y347.length = t341.length from (Kd.R_reads' HO343.out).1.symm] <;> rfl) | rfl) ?_; (with_reducible refine (class_Of.calls k (fun k_ => some k_ = (.slice (some ⟨go12, 0, none⟩) t341.length co21 : Value).ownBlock) _ _ y347 97 t349 _ ?side1 A15.out).mono ?_); (case side1 => rw [show y347.length = t341.length from (Kd.R_reads' HO343.out).1.symm]; exact Kd.R_V (Kd.R_tight rfl (HO343.out))); rintro e w26 ⟨rfl, hb⟩; have n0_ := Aside0.mk (Kd.R_below (by (with_reducible repeat (first | apply Kd.R_alloc | apply Kd.R_drewN | apply Kd.R_drew)); exact HO343.out) hb); have n1_ := Aside0.mk (below_step (by repeat (first | (with_reducible first | exact HB.out | apply below_alloc | apply pw_below_drewN | apply below_drew1) | exact HB.out)) hb); clear HO343; clear HB; have HO343 := n0_; have HB := n1_; clear n0_ n1_; (try clear hb); (try clear hb2); (try clear hk); (try clear hi)) | (go_at_call 27; refine calls_of_args (args' := #[.slice (some ⟨go12, 0, none⟩) y347.length co21, .int .i64 a2]) (by first | (rw [show y347.length = t341.length from (Kd.R_reads' HO343.out).1.symm] <;> rfl) | rfl) ?_; (with_reducible refine (class_Of.calls k (fun k_ => some k_ = (.slice (some ⟨go12, 0, none⟩) t341.length co21 : Value).ownBlock) _ _ y347 a2 t350 _ ?side1 A17.out).mono ?_); (case side1 => rw [show y347.length = t341.length from (Kd.R_reads' HO343.out).1.symm]; exact Kd.R_V (Kd.R_tight rfl (HO343.out))); rintro e w27 ⟨rfl, hb⟩; have n0_ := Aside0.mk (Kd.R_below (by (with_reducible repeat (first | apply Kd.R_alloc | apply Kd.R_drewN | apply Kd.R_drew)); exact HO343.out) hb); have n1_ := Aside0.mk (below_step (by repeat (first | (with_reducible first | exact HB.out | apply below_alloc | apply pw_below_drewN | apply below_drew1) | exact HB.out)) hb); clear HO343; clear HB; have HO343 := n0_; have HB := n1_; clear n0_ n1_; (try clear hb); (try clear hb2); (try clear hk); (try clear hi)) | (go_at_call 24; (with_reducible refine (abecedarylaw02_awake.calls k  t351 _ A19.out).mono ?_); rintro e w28 ⟨rfl, hb⟩; have n0_ := Aside0.mk (Kd.R_below (by (with_reducible repeat (first | apply Kd.R_alloc | apply Kd.R_drewN | apply Kd.R_drew)); exact HO343.out) hb); have n1_ := Aside0.mk (below_step (by repeat (first | (with_reducible first | exact HB.out | apply below_alloc | apply pw_below_drewN | apply below_drew1) | exact HB.out)) hb); clear HO343; clear HB; have HO343 := n0_; have HB := n1_; clear n0_ n1_; (try clear hb); (try clear hb2); (try clear hk); (try clear hi)))
                go_ret
                exact ⟨by first | rfl | (simp [errW_none, errW_some] <;> rfl) | (simp [*, errW_none, errW_some] <;> rfl), by repeat (first | (with_reducible first | exact HB.out | apply below_alloc | apply pw_below_drewN | apply below_drew1) | exact HB.out)⟩
              · rw [if_neg c18] at H
                exact absurd H (by simp)
            · rw [if_neg c16] at H
              exact absurd H (by simp)
        · rw [if_neg c11] at H
          exact absurd H (by simp)
      · rw [if_neg c10] at H
        exact absurd H (by simp)
    · rw [if_neg c9] at H
      have c9b0 : (t346 == 0) = false := beq_eq_false_iff_ne.mpr c9
      have c9b1 : (t346 != 0) = true := bne_iff_ne.mpr c9
      by_cases c29 : t346 = 1
      · rw [if_pos c29] at H
        have c29b0 : (t346 == 1) = true := beq_iff_eq.mpr c29
        have c29b1 : (t346 != 1) = false := bne_eq_false_iff_eq.mpr c29
        clear c29
        by_cases c30 : 0 ≤ t344
        · rw [if_pos c30] at H
          have c30b0 : decide (0 ≤ t344) = true := decide_eq_true c30
          clear c30
          by_cases c31 : t344 < (t341.length : Int)
          · rw [if_pos c31] at H
            have c31b0 : decide (t344 < (t341.length : Int)) = true := decide_eq_true c31
            clear c31
            obtain ⟨y352, hy352⟩ : ∃ y_ : List (S43), y_ = (t341.set (t344 : Int).toNat (⟨(rd_T43 t341 t344).f0, (rd_T43 t341 t344).f1, 4⟩ : S43)) := ⟨_, rfl⟩
            replace H : ((class_Check.f k y352).bind fun t353 => (if t353 = true then (none) else ((class_Of.f k y352 97).bind fun t354 => (if t354 = 0 then ((class_Of.f k y352 a2).bind fun t355 => (if t355 = 0 then ((abecedarylaw02_awake.f k).bind fun t356 => (some t356)) else (none))) else (none))))) = some r := by first | (rw [hy352]; with_reducible exact H) | (have H2_ := (Option.bind_some _ _).symm.trans H; rw [hy352]; with_reducible exact H2_) | (have H2_ := (Option.bind_some _ _).symm.trans H; with_reducible exact H2_) | with_reducible exact H | (rw [hy352]; exact H) | exact H
            have Ny352 := Aside0.mk hy352
            clear hy352
            replace H := Option.bind_eq_some_iff.mp H
            obtain ⟨t353, A330, H⟩ := H
            replace H : (if t353 = true then (none) else ((class_Of.f k y352 97).bind fun t354 => (if t354 = 0 then ((class_Of.f k y352 a2).bind fun t355 => (if t355 = 0 then ((abecedarylaw02_awake.f k).bind fun t356 => (some t356)) else (none))) else (none)))) = some r := H
            have A33 := Aside0.mk A330
            clear A330
            by_cases c34 : t353 = true
            · subst c34
              have H1 : (none) = some r := by rw [if_pos rfl] at H; exact H
              clear H
              have H := H1
              clear H1
              exact absurd H (by simp)
            · replace c34 := Bool.eq_false_iff.mpr c34
              subst c34
              have H1 : ((class_Of.f k y352 97).bind fun t354 => (if t354 = 0 then ((class_Of.f k y352 a2).bind fun t355 => (if t355 = 0 then ((abecedarylaw02_awake.f k).bind fun t356 => (some t356)) else (none))) else (none))) = some r := by rw [if_neg (show ¬ (false = true) by decide)] at H; exact H
              clear H
              have H := H1
              clear H1
              replace H := Option.bind_eq_some_iff.mp H
              obtain ⟨t354, A350, H⟩ := H
              replace H : (if t354 = 0 then ((class_Of.f k y352 a2).bind fun t355 => (if t355 = 0 then ((abecedarylaw02_awake.f k).bind fun t356 => (some t356)) else (none))) else (none)) = some r := H
              have A35 := Aside0.mk A350
              clear A350
              by_cases c36 : t354 = 0
              · rw [if_pos c36] at H
                have c36b0 : (t354 == 0) = true := beq_iff_eq.mpr c36
                have c36b1 : (t354 != 0) = false := bne_eq_false_iff_eq.mpr c36
                clear c36
                replace H := Option.bind_eq_some_iff.mp H
                obtain ⟨t355, A370, H⟩ := H
                replace H : (if t355 = 0 then ((abecedarylaw02_awake.f k).bind fun t356 => (some t356)) else (none)) = some r := H
                have A37 := Aside0.mk A370
                clear A370
                by_cases c38 : t355 = 0
                · rw [if_pos c38] at H
                  have c38b0 : (t355 == 0) = true := beq_iff_eq.mpr c38
                  have c38b1 : (t355 != 0) = false := bne_eq_false_iff_eq.mpr c38
                  clear c38
                  replace H := Option.bind_eq_some_iff.mp H
                  obtain ⟨t356, A390, H⟩ := H
                  replace H : (some t356) = some r := H
                  have A39 := Aside0.mk A390
                  clear A390
                  obtain rfl := Option.some.inj H
                  go_enter Try.func11, Try.ntmps11
                  go_wp2_with (first | ((with_reducible refine gate_callee (f := 29) rfl ?_); refine goesL_ (some 9) rfl rfl Try.func29 (by kernel_rfl) rfl #[] rfl (by (try simp only [List.map_toArray, List.map_cons, List.map_nil]); first | done | rfl | (simp only [List.length_drop, List.length_take]; rfl)) ?_; (with_reducible refine (abecedarylaw00_Table.calls  t341 _ A4.out).mono ?_); rintro e w40 ⟨v342, rfl, ho0, hb⟩; refine ⟨_, rfl, ?_⟩; have n0_ := Aside0.mk (Kd.R_lower ho0 (below_size (by repeat (first | (with_reducible first | exact HB.out | apply below_alloc | apply pw_below_drewN | apply below_drew1) | exact HB.out)))); have n1_ := Aside0.mk (below_step (by repeat (first | (with_reducible first | exact HB.out | apply below_alloc | apply pw_below_drewN | apply below_drew1) | exact HB.out)) hb); clear HB; have HO343 := n0_; have HB := n1_; clear n0_ n1_; (try clear hb); (try clear hb2); (try clear hk); (try clear hi); (try clear ho0); obtain ⟨Ao41, co41, eo41⟩ := Kd.R_slice HO343.out; subst eo41) | ((with_reducible refine gate_callee (f := 19) rfl ?_); refine goesL_ (some 13) rfl rfl Try.func19 (by kernel_rfl) rfl #[.int .i64 a1, .int .i64 (t341.length : Int)] rfl (by (try simp only [List.map_toArray, List.map_cons, List.map_nil]); first | done | rfl | (simp only [List.length_drop, List.length_take]; rfl)) ?_; (with_reducible refine (abecedarylaw00_Place.calls a1 (t341.length : Int) t344 _ A5.out).mono ?_); rintro e w' ⟨rfl, ⟨nd, rfl⟩⟩; refine ⟨_, rfl, ?_⟩; (try (rw [drewN_self w40]; generalize hq_ : World.drewN w40 _ = w40; have n0_ : Aside0 (Kd.R k43 43 w40 w.heap.size (fun _ => True) (.slice Ao41 t341.length co41) t341) := ⟨by rw [← hq_]; exact (by (with_reducible repeat (first | apply Kd.R_alloc | apply Kd.R_drewN | apply Kd.R_drew)); exact HO343.out)⟩; have n1_ : Aside0 (Below w.heap.size w w40) := ⟨by rw [← hq_]; exact (by repeat (first | (with_reducible first | exact HB.out | apply below_alloc | apply pw_below_drewN | apply below_drew1) | exact HB.out))⟩; clear HO343 HB hq_; have HO343 := n0_; have HB := n1_; clear n0_ n1_))) | ((with_reducible refine gate_callee (f := 25) rfl ?_); refine goesL_ (some 15) rfl rfl Try.func25 (by kernel_rfl) rfl #[.slice Ao41 t341.length co41] rfl (by (try simp only [List.map_toArray, List.map_cons, List.map_nil]); first | done | rfl | (simp only [List.length_drop, List.length_take]; rfl)) ?_; (with_reducible refine (class_Check.calls k _ _ t341 true _ ?side1 ?side2 A6.out).mono ?_); (case side1 => repeat (first | exact (Kd.R_reads' HO343.out).2.2 | (with_reducible refine Kd.C_alloc ?_ _) | (with_reducible refine Kd.C_drewN ?_ _) | (with_reducible refine Kd.C_drew ?_))); (case side2 => exact (Kd.R_reads' HO343.out).2.1); rintro e w42 ⟨rfl, hb⟩; refine ⟨_, rfl, ?_⟩; have n0_ := Aside0.mk (Kd.R_below (by (with_reducible repeat (first | apply Kd.R_alloc | apply Kd.R_drewN | apply Kd.R_drew)); exact HO343.out) hb); have n1_ := Aside0.mk (below_step (by repeat (first | (with_reducible first | exact HB.out | apply below_alloc | apply pw_below_drewN | apply below_drew1) | exact HB.out)) hb); clear HO343; clear HB; have HO343 := n0_; have HB := n1_; clear n0_ n1_; (try clear hb); (try clear hb2); (try clear hk); (try clear hi)) | ((with_reducible refine gate_callee (f := 19) rfl ?_); refine goesL_ (some 18) rfl rfl Try.func19 (by kernel_rfl) rfl #[.int .i64 a0, .int .i64 8] rfl (by (try simp only [List.map_toArray, List.map_cons, List.map_nil]); first | done | rfl | (simp only [List.length_drop, List.length_take]; rfl)) ?_; (with_reducible refine (abecedarylaw00_Place.calls a0 8 t346 _ A8.out).mono ?_); rintro e w' ⟨rfl, ⟨nd, rfl⟩⟩; refine ⟨_, rfl, ?_⟩; (try (rw [drewN_self w42]; generalize hq_ : World.drewN w42 _ = w42; have n0_ : Aside0 (Kd.R k43 43 w42 w.heap.size (fun _ => True) (.slice Ao41 t341.length co41) t341) := ⟨by rw [← hq_]; exact (by (with_reducible repeat (first | apply Kd.R_alloc | apply Kd.R_drewN | apply Kd.R_drew)); exact HO343.out)⟩; have n1_ : Aside0 (Below w.heap.size w w42) := ⟨by rw [← hq_]; exact (by repeat (first | (with_reducible first | exact HB.out | apply below_alloc | apply pw_below_drewN | apply below_drew1) | exact HB.out))⟩; clear HO343 HB hq_; have HO343 := n0_; have HB := n1_; clear n0_ n1_)); have p32 : 0 ≤ (t344 : Int) := of_decide_eq_true (by first | (with_reducible assumption) | assumption); have q32 : (t344 : Int) < ((t341.length : Int) : Int) := of_decide_eq_true (by first | (with_reducible assumption) | assumption); obtain ⟨go32, co32, eo32, gb32, gl32, cl32, HG32⟩ := Kd.R_form HO343.out (by omega); (first | cases eo32 | (injection eo32 with ea_ en_ ec_; (first | subst ea_ | (injection ea_ with ea_; subst ea_)); subst ec_; clear en_)); have GB32 := Aside0.mk gb32; have GG32 := Aside0.mk HG32; clear gb32 gl32 HG32; obtain ⟨ce32, hcl32, hM32, hcc32, hfr32⟩ := Kd.R_elem HO343.out z43 (t344 : Int) p32 q32; obtain rfl := k43_openM hM32; have hx32_0 : w42.cell? ⟨go32, (t344 : Int).toNat * 3, none⟩ = some (.int .i64 ((rd_T43 t341 t344).f0)) := hcc32 0 _ rfl; have hx32_1 : w42.cell? ⟨go32, (t344 : Int).toNat * 3 + 1, none⟩ = some (.int .i64 ((rd_T43 t341 t344).f1)) := hcc32 1 _ rfl; have hx32_2 : w42.cell? ⟨go32, (t344 : Int).toNat * 3 + 2, none⟩ = some (.int .i64 ((rd_T43 t341 t344).f2)) := hcc32 2 _ rfl; have hf32_0 : w42.frozen? ⟨go32, (t344 : Int).toNat * 3, none⟩ = false := hfr32 0; have hf32_1 : w42.frozen? ⟨go32, (t344 : Int).toNat * 3 + 1, none⟩ = false := hfr32 1; have hf32_2 : w42.frozen? ⟨go32, (t344 : Int).toNat * 3 + 2, none⟩ = false := hfr32 2; clear hcl32 hcc32 hfr32 hM32; replace p32 := eq_true p32; replace q32 := eq_true q32; have HX43 := Aside0.mk (show Kd.R k43 43 w42 w.heap.size (fun _ => True) (.slice (some ⟨go32, 0, none⟩) t341.length co41) t341 from (by (with_reducible repeat (first | apply Kd.R_alloc | apply Kd.R_drewN | apply Kd.R_drew)); exact HO343.out)); obtain ⟨ce43, hcl43, hM43, hcc43, hfr43⟩ := Kd.R_elem HX43.out z43 (t344 : Int) (of_decide_eq_true (by first | (with_reducible assumption) | assumption)) (by have h_ : (t344 : Int) < ((t341.length : Int) : Int) := of_decide_eq_true (by first | (with_reducible assumption) | assumption); first | exact h_ | (have e_ := (Kd.R_reads' HO343.out).1; omega) | simpa using h_); obtain rfl := k43_openM hM43; have HP43 := Kd.R_seg HX43.out (t344 : Int) (of_decide_eq_true (by first | (with_reducible assumption) | assumption)) (by have h_ : (t344 : Int) < ((t341.length : Int) : Int) := of_decide_eq_true (by first | (with_reducible assumption) | assumption); first | exact h_ | (have e_ := (Kd.R_reads' HO343.out).1; omega) | simpa using h_) (seg := [.int .i64 4]) (j := 2) hcl43 hcc43 (show 3 ≤ 3 from by decide) (x' := (⟨(rd_T43 t341 t344).f0, (rd_T43 t341 t344).f1, 4⟩ : S43)) (k43_mkM _ _ _ (⟨(rd_T43 t341 t344).f0, (rd_T43 t341 t344).f1, 4⟩ : S43) ) (fun _ hk => hk); have hx43_2 := hcc43 2 _ rfl; (try simp only [show (k43).sz = 3 from rfl, Nat.mul_one, Nat.add_zero] at hx43_2); have hf43_2 := hfr43 2; (try simp only [show (k43).sz = 3 from rfl, Nat.mul_one, Nat.add_zero] at hf43_2); clear hcl43 hcc43 hfr43 hM43) | ((with_reducible refine gate_store (t := 3) (p := 53) rfl ?_); refine store_event (t := 3) (p := 53) (v := ?vo_w44) (w1 := (w42.setCell ⟨go32, (t344 : Int).toNat * 3 + 2, none⟩ (.int .i64 4))) ?hg ?ho ?hn ?hr ?_; (case ho => rfl); (case hg => rfl); (case hn => rfl); (case hr => first | (go_simp; done) | (go_simp; rfl)); intro w44 hw; have hg : w42.grownBy w44 (some go32) := (by rw [hw]; exact HP43.2); have hp_ : Kd.R k43 43 w44 w.heap.size (fun _ => True) (.slice (some ⟨go32, 0, none⟩) t341.length co41) y352 := (by rw [hw, Ny352.out]; exact HP43.1); clear HP43; have n0_ := Aside0.mk (hp_); have n1_ := Aside0.mk ((by rw [hw]; exact below_set (HB.out) GB32.out : Below w.heap.size w w44)); clear HO343; clear HB; have HO343 := n0_; have HB := n1_; clear n0_ n1_; clear hg hw hp_) | ((with_reducible refine gate_callee (f := 25) rfl ?_); refine goesL_ (some 99) rfl rfl Try.func25 (by kernel_rfl) rfl #[.slice (some ⟨go32, 0, none⟩) y352.length co41] rfl (by (try simp only [List.map_toArray, List.map_cons, List.map_nil]); first | done | (rw [show y352.length = t341.length from (Kd.R_reads' HO343.out).1.symm] <;> rfl) | rfl | (simp only [List.length_drop, List.length_take]; rfl)) ?_; (with_reducible refine (class_Check.calls k _ _ y352 false _ ?side1 ?side2 A33.out).mono ?_); (case side1 => repeat (first | exact (Kd.R_reads' HO343.out).2.2 | (with_reducible refine Kd.C_alloc ?_ _) | (with_reducible refine Kd.C_drewN ?_ _) | (with_reducible refine Kd.C_drew ?_))); (case side2 => rw [show y352.length = t341.length from (Kd.R_reads' HO343.out).1.symm]; exact (Kd.R_reads' HO343.out).2.1); rintro e w45 ⟨rfl, hb⟩; refine ⟨_, rfl, ?_⟩; have n0_ := Aside0.mk (Kd.R_below (by (with_reducible repeat (first | apply Kd.R_alloc | apply Kd.R_drewN | apply Kd.R_drew)); exact HO343.out) hb); have n1_ := Aside0.mk (below_step (by repeat (first | (with_reducible first | exact HB.out | apply below_alloc | apply pw_below_drewN | apply below_drew1) | exact HB.out)) hb); clear HO343; clear HB; have HO343 := n0_; have HB := n1_; clear n0_ n1_; (try clear hb); (try clear hb2); (try clear hk); (try clear hi)) | (go_at_call 27; refine calls_of_args (args' := #[.slice (some ⟨go32, 0, none⟩) y352.length co41, .int .i64 97]) (by first | (rw [show y352.length = t341.length from (Kd.R_reads' HO343.out).1.symm] <;> rfl) | rfl) ?_; (with_reducible refine (class_Of.calls k (fun k_ => some k_ = (.slice (some ⟨go32, 0, none⟩) t341.length co41 : Value).ownBlock) _ _ y352 97 t354 _ ?side1 A35.out).mono ?_); (case side1 => rw [show y352.length = t341.length from (Kd.R_reads' HO343.out).1.symm]; exact Kd.R_V (Kd.R_tight rfl (HO343.out))); rintro e w46 ⟨rfl, hb⟩; have n0_ := Aside0.mk (Kd.R_below (by (with_reducible repeat (first | apply Kd.R_alloc | apply Kd.R_drewN | apply Kd.R_drew)); exact HO343.out) hb); have n1_ := Aside0.mk (below_step (by repeat (first | (with_reducible first | exact HB.out | apply below_alloc | apply pw_below_drewN | apply below_drew1) | exact HB.out)) hb); clear HO343; clear HB; have HO343 := n0_; have HB := n1_; clear n0_ n1_; (try clear hb); (try clear hb2); (try clear hk); (try clear hi)) | (go_at_call 27; refine calls_of_args (args' := #[.slice (some ⟨go32, 0, none⟩) y352.length co41, .int .i64 a2]) (by first | (rw [show y352.length = t341.length from (Kd.R_reads' HO343.out).1.symm] <;> rfl) | rfl) ?_; (with_reducible refine (class_Of.calls k (fun k_ => some k_ = (.slice (some ⟨go32, 0, none⟩) t341.length co41 : Value).ownBlock) _ _ y352 a2 t355 _ ?side1 A37.out).mono ?_); (case side1 => rw [show y352.length = t341.length from (Kd.R_reads' HO343.out).1.symm]; exact Kd.R_V (Kd.R_tight rfl (HO343.out))); rintro e w47 ⟨rfl, hb⟩; have n0_ := Aside0.mk (Kd.R_below (by (with_reducible repeat (first | apply Kd.R_alloc | apply Kd.R_drewN | apply Kd.R_drew)); exact HO343.out) hb); have n1_ := Aside0.mk (below_step (by repeat (first | (with_reducible first | exact HB.out | apply below_alloc | apply pw_below_drewN | apply below_drew1) | exact HB.out)) hb); clear HO343; clear HB; have HO343 := n0_; have HB := n1_; clear n0_ n1_; (try clear hb); (try clear hb2); (try clear hk); (try clear hi)) | (go_at_call 24; (with_reducible refine (abecedarylaw02_awake.calls k  t356 _ A39.out).mono ?_); rintro e w48 ⟨rfl, hb⟩; have n0_ := Aside0.mk (Kd.R_below (by (with_reducible repeat (first | apply Kd.R_alloc | apply Kd.R_drewN | apply Kd.R_drew)); exact HO343.out) hb); have n1_ := Aside0.mk (below_step (by repeat (first | (with_reducible first | exact HB.out | apply below_alloc | apply pw_below_drewN | apply below_drew1) | exact HB.out)) hb); clear HO343; clear HB; have HO343 := n0_; have HB := n1_; clear n0_ n1_; (try clear hb); (try clear hb2); (try clear hk); (try clear hi)))
                  go_ret
                  exact ⟨by first | rfl | (simp [errW_none, errW_some] <;> rfl) | (simp [*, errW_none, errW_some] <;> rfl), by repeat (first | (with_reducible first | exact HB.out | apply below_alloc | apply pw_below_drewN | apply below_drew1) | exact HB.out)⟩
                · rw [if_neg c38] at H
                  exact absurd H (by simp)
              · rw [if_neg c36] at H
                exact absurd H (by simp)
          · rw [if_neg c31] at H
            exact absurd H (by simp)
        · rw [if_neg c30] at H
          exact absurd H (by simp)
      · rw [if_neg c29] at H
        have c29b0 : (t346 == 1) = false := beq_eq_false_iff_ne.mpr c29
        have c29b1 : (t346 != 1) = true := bne_iff_ne.mpr c29
        by_cases c49 : t346 = 2
        · rw [if_pos c49] at H
          have c49b0 : (t346 == 2) = true := beq_iff_eq.mpr c49
          have c49b1 : (t346 != 2) = false := bne_eq_false_iff_eq.mpr c49
          clear c49
          by_cases c50 : 0 ≤ t344
          · rw [if_pos c50] at H
            have c50b0 : decide (0 ≤ t344) = true := decide_eq_true c50
            clear c50
            by_cases c51 : t344 < (t341.length : Int)
            · rw [if_pos c51] at H
              have c51b0 : decide (t344 < (t341.length : Int)) = true := decide_eq_true c51
              clear c51
              obtain ⟨y358, hy358⟩ : ∃ y_ : List (S43), y_ = (t341.set (t344 : Int).toNat (⟨(rd_T43 t341 t344).f0, wrap64 (((rd_T43 t341 t344).f0) - 1), (rd_T43 t341 t344).f2⟩ : S43)) := ⟨_, rfl⟩
              replace H : ((class_Check.f k y358).bind fun t359 => (if t359 = true then (none) else ((class_Of.f k y358 97).bind fun t360 => (if t360 = 0 then ((class_Of.f k y358 a2).bind fun t361 => (if t361 = 0 then ((abecedarylaw02_awake.f k).bind fun t362 => (some t362)) else (none))) else (none))))) = some r := by first | (rw [hy358]; with_reducible exact H) | (have H2_ := (Option.bind_some _ _).symm.trans H; rw [hy358]; with_reducible exact H2_) | (have H2_ := (Option.bind_some _ _).symm.trans H; with_reducible exact H2_) | with_reducible exact H | (rw [hy358]; exact H) | exact H
              have Ny358 := Aside0.mk hy358
              clear hy358
              replace H := Option.bind_eq_some_iff.mp H
              obtain ⟨t359, A530, H⟩ := H
              replace H : (if t359 = true then (none) else ((class_Of.f k y358 97).bind fun t360 => (if t360 = 0 then ((class_Of.f k y358 a2).bind fun t361 => (if t361 = 0 then ((abecedarylaw02_awake.f k).bind fun t362 => (some t362)) else (none))) else (none)))) = some r := H
              have A53 := Aside0.mk A530
              clear A530
              by_cases c54 : t359 = true
              · subst c54
                have H1 : (none) = some r := by rw [if_pos rfl] at H; exact H
                clear H
                have H := H1
                clear H1
                exact absurd H (by simp)
              · replace c54 := Bool.eq_false_iff.mpr c54
                subst c54
                have H1 : ((class_Of.f k y358 97).bind fun t360 => (if t360 = 0 then ((class_Of.f k y358 a2).bind fun t361 => (if t361 = 0 then ((abecedarylaw02_awake.f k).bind fun t362 => (some t362)) else (none))) else (none))) = some r := by rw [if_neg (show ¬ (false = true) by decide)] at H; exact H
                clear H
                have H := H1
                clear H1
                replace H := Option.bind_eq_some_iff.mp H
                obtain ⟨t360, A550, H⟩ := H
                replace H : (if t360 = 0 then ((class_Of.f k y358 a2).bind fun t361 => (if t361 = 0 then ((abecedarylaw02_awake.f k).bind fun t362 => (some t362)) else (none))) else (none)) = some r := H
                have A55 := Aside0.mk A550
                clear A550
                by_cases c56 : t360 = 0
                · rw [if_pos c56] at H
                  have c56b0 : (t360 == 0) = true := beq_iff_eq.mpr c56
                  have c56b1 : (t360 != 0) = false := bne_eq_false_iff_eq.mpr c56
                  clear c56
                  replace H := Option.bind_eq_some_iff.mp H
                  obtain ⟨t361, A570, H⟩ := H
                  replace H : (if t361 = 0 then ((abecedarylaw02_awake.f k).bind fun t362 => (some t362)) else (none)) = some r := H
                  have A57 := Aside0.mk A570
                  clear A570
                  by_cases c58 : t361 = 0
                  · rw [if_pos c58] at H
                    have c58b0 : (t361 == 0) = true := beq_iff_eq.mpr c58
                    have c58b1 : (t361 != 0) = false := bne_eq_false_iff_eq.mpr c58
                    clear c58
                    replace H := Option.bind_eq_some_iff.mp H
                    obtain ⟨t362, A590, H⟩ := H
                    replace H : (some t362) = some r := H
                    have A59 := Aside0.mk A590
                    clear A590
                    obtain rfl := Option.some.inj H
                    go_enter Try.func11, Try.ntmps11
                    go_wp2_with (first | ((with_reducible refine gate_callee (f := 29) rfl ?_); refine goesL_ (some 9) rfl rfl Try.func29 (by kernel_rfl) rfl #[] rfl (by (try simp only [List.map_toArray, List.map_cons, List.map_nil]); first | done | rfl | (simp only [List.length_drop, List.length_take]; rfl)) ?_; (with_reducible refine (abecedarylaw00_Table.calls  t341 _ A4.out).mono ?_); rintro e w60 ⟨v342, rfl, ho0, hb⟩; refine ⟨_, rfl, ?_⟩; have n0_ := Aside0.mk (Kd.R_lower ho0 (below_size (by repeat (first | (with_reducible first | exact HB.out | apply below_alloc | apply pw_below_drewN | apply below_drew1) | exact HB.out)))); have n1_ := Aside0.mk (below_step (by repeat (first | (with_reducible first | exact HB.out | apply below_alloc | apply pw_below_drewN | apply below_drew1) | exact HB.out)) hb); clear HB; have HO343 := n0_; have HB := n1_; clear n0_ n1_; (try clear hb); (try clear hb2); (try clear hk); (try clear hi); (try clear ho0); obtain ⟨Ao61, co61, eo61⟩ := Kd.R_slice HO343.out; subst eo61) | ((with_reducible refine gate_callee (f := 19) rfl ?_); refine goesL_ (some 13) rfl rfl Try.func19 (by kernel_rfl) rfl #[.int .i64 a1, .int .i64 (t341.length : Int)] rfl (by (try simp only [List.map_toArray, List.map_cons, List.map_nil]); first | done | rfl | (simp only [List.length_drop, List.length_take]; rfl)) ?_; (with_reducible refine (abecedarylaw00_Place.calls a1 (t341.length : Int) t344 _ A5.out).mono ?_); rintro e w' ⟨rfl, ⟨nd, rfl⟩⟩; refine ⟨_, rfl, ?_⟩; (try (rw [drewN_self w60]; generalize hq_ : World.drewN w60 _ = w60; have n0_ : Aside0 (Kd.R k43 43 w60 w.heap.size (fun _ => True) (.slice Ao61 t341.length co61) t341) := ⟨by rw [← hq_]; exact (by (with_reducible repeat (first | apply Kd.R_alloc | apply Kd.R_drewN | apply Kd.R_drew)); exact HO343.out)⟩; have n1_ : Aside0 (Below w.heap.size w w60) := ⟨by rw [← hq_]; exact (by repeat (first | (with_reducible first | exact HB.out | apply below_alloc | apply pw_below_drewN | apply below_drew1) | exact HB.out))⟩; clear HO343 HB hq_; have HO343 := n0_; have HB := n1_; clear n0_ n1_))) | ((with_reducible refine gate_callee (f := 25) rfl ?_); refine goesL_ (some 15) rfl rfl Try.func25 (by kernel_rfl) rfl #[.slice Ao61 t341.length co61] rfl (by (try simp only [List.map_toArray, List.map_cons, List.map_nil]); first | done | rfl | (simp only [List.length_drop, List.length_take]; rfl)) ?_; (with_reducible refine (class_Check.calls k _ _ t341 true _ ?side1 ?side2 A6.out).mono ?_); (case side1 => repeat (first | exact (Kd.R_reads' HO343.out).2.2 | (with_reducible refine Kd.C_alloc ?_ _) | (with_reducible refine Kd.C_drewN ?_ _) | (with_reducible refine Kd.C_drew ?_))); (case side2 => exact (Kd.R_reads' HO343.out).2.1); rintro e w62 ⟨rfl, hb⟩; refine ⟨_, rfl, ?_⟩; have n0_ := Aside0.mk (Kd.R_below (by (with_reducible repeat (first | apply Kd.R_alloc | apply Kd.R_drewN | apply Kd.R_drew)); exact HO343.out) hb); have n1_ := Aside0.mk (below_step (by repeat (first | (with_reducible first | exact HB.out | apply below_alloc | apply pw_below_drewN | apply below_drew1) | exact HB.out)) hb); clear HO343; clear HB; have HO343 := n0_; have HB := n1_; clear n0_ n1_; (try clear hb); (try clear hb2); (try clear hk); (try clear hi)) | ((with_reducible refine gate_callee (f := 19) rfl ?_); refine goesL_ (some 18) rfl rfl Try.func19 (by kernel_rfl) rfl #[.int .i64 a0, .int .i64 8] rfl (by (try simp only [List.map_toArray, List.map_cons, List.map_nil]); first | done | rfl | (simp only [List.length_drop, List.length_take]; rfl)) ?_; (with_reducible refine (abecedarylaw00_Place.calls a0 8 t346 _ A8.out).mono ?_); rintro e w' ⟨rfl, ⟨nd, rfl⟩⟩; refine ⟨_, rfl, ?_⟩; (try (rw [drewN_self w62]; generalize hq_ : World.drewN w62 _ = w62; have n0_ : Aside0 (Kd.R k43 43 w62 w.heap.size (fun _ => True) (.slice Ao61 t341.length co61) t341) := ⟨by rw [← hq_]; exact (by (with_reducible repeat (first | apply Kd.R_alloc | apply Kd.R_drewN | apply Kd.R_drew)); exact HO343.out)⟩; have n1_ : Aside0 (Below w.heap.size w w62) := ⟨by rw [← hq_]; exact (by repeat (first | (with_reducible first | exact HB.out | apply below_alloc | apply pw_below_drewN | apply below_drew1) | exact HB.out))⟩; clear HO343 HB hq_; have HO343 := n0_; have HB := n1_; clear n0_ n1_)); have p357 : 0 ≤ (t344 : Int) := of_decide_eq_true (by first | (with_reducible assumption) | assumption); have q357 : t344 < (t341.length : Int) := of_decide_eq_true (by first | (with_reducible assumption) | assumption); obtain ⟨ad357, e357, hx357_0, hx357_1, hx357_2⟩ := at_T43 (Kd.R_reads' HO343.out).2.2 t344 p357 q357; cases e357; replace p357 := eq_true p357; replace q357 := eq_true q357; have p52 : 0 ≤ (t344 : Int) := of_decide_eq_true (by first | (with_reducible assumption) | assumption); have q52 : (t344 : Int) < ((t341.length : Int) : Int) := of_decide_eq_true (by first | (with_reducible assumption) | assumption); obtain ⟨go52, co52, eo52, gb52, gl52, cl52, HG52⟩ := Kd.R_form HO343.out (by omega); (first | cases eo52 | (injection eo52 with ea_ en_ ec_; (first | subst ea_ | (injection ea_ with ea_; subst ea_)); subst ec_; clear en_)); have GB52 := Aside0.mk gb52; have GG52 := Aside0.mk HG52; clear gb52 gl52 HG52; (first | simp only [add_plain] at hx357_0 | skip); (first | simp only [add_plain] at hx357_1 | skip); (first | simp only [add_plain] at hx357_2 | skip); obtain ⟨ce52, hcl52, hM52, hcc52, hfr52⟩ := Kd.R_elem HO343.out z43 (t344 : Int) p52 q52; obtain rfl := k43_openM hM52; have hx52_0 : w62.cell? ⟨go52, (t344 : Int).toNat * 3, none⟩ = some (.int .i64 ((rd_T43 t341 t344).f0)) := hcc52 0 _ rfl; have hx52_1 : w62.cell? ⟨go52, (t344 : Int).toNat * 3 + 1, none⟩ = some (.int .i64 ((rd_T43 t341 t344).f1)) := hcc52 1 _ rfl; have hx52_2 : w62.cell? ⟨go52, (t344 : Int).toNat * 3 + 2, none⟩ = some (.int .i64 ((rd_T43 t341 t344).f2)) := hcc52 2 _ rfl; have hf52_0 : w62.frozen? ⟨go52, (t344 : Int).toNat * 3, none⟩ = false := hfr52 0; have hf52_1 : w62.frozen? ⟨go52, (t344 : Int).toNat * 3 + 1, none⟩ = false := hfr52 1; have hf52_2 : w62.frozen? ⟨go52, (t344 : Int).toNat * 3 + 2, none⟩ = false := hfr52 2; clear hcl52 hcc52 hfr52 hM52; replace p52 := eq_true p52; replace q52 := eq_true q52; have HX63 := Aside0.mk (show Kd.R k43 43 w62 w.heap.size (fun _ => True) (.slice (some ⟨go52, 0, none⟩) t341.length co61) t341 from (by (with_reducible repeat (first | apply Kd.R_alloc | apply Kd.R_drewN | apply Kd.R_drew)); exact HO343.out)); obtain ⟨ce63, hcl63, hM63, hcc63, hfr63⟩ := Kd.R_elem HX63.out z43 (t344 : Int) (of_decide_eq_true (by first | (with_reducible assumption) | assumption)) (by have h_ : (t344 : Int) < ((t341.length : Int) : Int) := of_decide_eq_true (by first | (with_reducible assumption) | assumption); first | exact h_ | (have e_ := (Kd.R_reads' HO343.out).1; omega) | simpa using h_); obtain rfl := k43_openM hM63; have HP63 := Kd.R_seg HX63.out (t344 : Int) (of_decide_eq_true (by first | (with_reducible assumption) | assumption)) (by have h_ : (t344 : Int) < ((t341.length : Int) : Int) := of_decide_eq_true (by first | (with_reducible assumption) | assumption); first | exact h_ | (have e_ := (Kd.R_reads' HO343.out).1; omega) | simpa using h_) (seg := [.int .i64 (wrap64 (((rd_T43 t341 t344).f0) - 1))]) (j := 1) hcl63 hcc63 (show 2 ≤ 3 from by decide) (x' := (⟨(rd_T43 t341 t344).f0, wrap64 (((rd_T43 t341 t344).f0) - 1), (rd_T43 t341 t344).f2⟩ : S43)) (k43_mkM _ _ _ (⟨(rd_T43 t341 t344).f0, wrap64 (((rd_T43 t341 t344).f0) - 1), (rd_T43 t341 t344).f2⟩ : S43) ) (fun _ hk => hk); have hx63_1 := hcc63 1 _ rfl; (try simp only [show (k43).sz = 3 from rfl, Nat.mul_one, Nat.add_zero] at hx63_1); have hf63_1 := hfr63 1; (try simp only [show (k43).sz = 3 from rfl, Nat.mul_one, Nat.add_zero] at hf63_1); clear hcl63 hcc63 hfr63 hM63) | ((with_reducible refine gate_store (t := 3) (p := 65) rfl ?_); refine store_event (t := 3) (p := 65) (v := ?vo_w64) (w1 := (w62.setCell ⟨go52, (t344 : Int).toNat * 3 + 1, none⟩ (.int .i64 (wrap64 (((rd_T43 t341 t344).f0) - 1))))) ?hg ?ho ?hn ?hr ?_; (case ho => rfl); (case hg => rfl); (case hn => rfl); (case hr => first | (go_simp; done) | (go_simp; rfl)); intro w64 hw; have hg : w62.grownBy w64 (some go52) := (by rw [hw]; exact HP63.2); have hp_ : Kd.R k43 43 w64 w.heap.size (fun _ => True) (.slice (some ⟨go52, 0, none⟩) t341.length co61) y358 := (by rw [hw, Ny358.out]; exact HP63.1); clear HP63; have n0_ := Aside0.mk (hp_); have n1_ := Aside0.mk ((by rw [hw]; exact below_set (HB.out) GB52.out : Below w.heap.size w w64)); clear HO343; clear HB; have HO343 := n0_; have HB := n1_; clear n0_ n1_; clear hg hw hp_) | ((with_reducible refine gate_callee (f := 25) rfl ?_); refine goesL_ (some 99) rfl rfl Try.func25 (by kernel_rfl) rfl #[.slice (some ⟨go52, 0, none⟩) y358.length co61] rfl (by (try simp only [List.map_toArray, List.map_cons, List.map_nil]); first | done | (rw [show y358.length = t341.length from (Kd.R_reads' HO343.out).1.symm] <;> rfl) | rfl | (simp only [List.length_drop, List.length_take]; rfl)) ?_; (with_reducible refine (class_Check.calls k _ _ y358 false _ ?side1 ?side2 A53.out).mono ?_); (case side1 => repeat (first | exact (Kd.R_reads' HO343.out).2.2 | (with_reducible refine Kd.C_alloc ?_ _) | (with_reducible refine Kd.C_drewN ?_ _) | (with_reducible refine Kd.C_drew ?_))); (case side2 => rw [show y358.length = t341.length from (Kd.R_reads' HO343.out).1.symm]; exact (Kd.R_reads' HO343.out).2.1); rintro e w65 ⟨rfl, hb⟩; refine ⟨_, rfl, ?_⟩; have n0_ := Aside0.mk (Kd.R_below (by (with_reducible repeat (first | apply Kd.R_alloc | apply Kd.R_drewN | apply Kd.R_drew)); exact HO343.out) hb); have n1_ := Aside0.mk (below_step (by repeat (first | (with_reducible first | exact HB.out | apply below_alloc | apply pw_below_drewN | apply below_drew1) | exact HB.out)) hb); clear HO343; clear HB; have HO343 := n0_; have HB := n1_; clear n0_ n1_; (try clear hb); (try clear hb2); (try clear hk); (try clear hi)) | (go_at_call 27; refine calls_of_args (args' := #[.slice (some ⟨go52, 0, none⟩) y358.length co61, .int .i64 97]) (by first | (rw [show y358.length = t341.length from (Kd.R_reads' HO343.out).1.symm] <;> rfl) | rfl) ?_; (with_reducible refine (class_Of.calls k (fun k_ => some k_ = (.slice (some ⟨go52, 0, none⟩) t341.length co61 : Value).ownBlock) _ _ y358 97 t360 _ ?side1 A55.out).mono ?_); (case side1 => rw [show y358.length = t341.length from (Kd.R_reads' HO343.out).1.symm]; exact Kd.R_V (Kd.R_tight rfl (HO343.out))); rintro e w66 ⟨rfl, hb⟩; have n0_ := Aside0.mk (Kd.R_below (by (with_reducible repeat (first | apply Kd.R_alloc | apply Kd.R_drewN | apply Kd.R_drew)); exact HO343.out) hb); have n1_ := Aside0.mk (below_step (by repeat (first | (with_reducible first | exact HB.out | apply below_alloc | apply pw_below_drewN | apply below_drew1) | exact HB.out)) hb); clear HO343; clear HB; have HO343 := n0_; have HB := n1_; clear n0_ n1_; (try clear hb); (try clear hb2); (try clear hk); (try clear hi)) | (go_at_call 27; refine calls_of_args (args' := #[.slice (some ⟨go52, 0, none⟩) y358.length co61, .int .i64 a2]) (by first | (rw [show y358.length = t341.length from (Kd.R_reads' HO343.out).1.symm] <;> rfl) | rfl) ?_; (with_reducible refine (class_Of.calls k (fun k_ => some k_ = (.slice (some ⟨go52, 0, none⟩) t341.length co61 : Value).ownBlock) _ _ y358 a2 t361 _ ?side1 A57.out).mono ?_); (case side1 => rw [show y358.length = t341.length from (Kd.R_reads' HO343.out).1.symm]; exact Kd.R_V (Kd.R_tight rfl (HO343.out))); rintro e w67 ⟨rfl, hb⟩; have n0_ := Aside0.mk (Kd.R_below (by (with_reducible repeat (first | apply Kd.R_alloc | apply Kd.R_drewN | apply Kd.R_drew)); exact HO343.out) hb); have n1_ := Aside0.mk (below_step (by repeat (first | (with_reducible first | exact HB.out | apply below_alloc | apply pw_below_drewN | apply below_drew1) | exact HB.out)) hb); clear HO343; clear HB; have HO343 := n0_; have HB := n1_; clear n0_ n1_; (try clear hb); (try clear hb2); (try clear hk); (try clear hi)) | (go_at_call 24; (with_reducible refine (abecedarylaw02_awake.calls k  t362 _ A59.out).mono ?_); rintro e w68 ⟨rfl, hb⟩; have n0_ := Aside0.mk (Kd.R_below (by (with_reducible repeat (first | apply Kd.R_alloc | apply Kd.R_drewN | apply Kd.R_drew)); exact HO343.out) hb); have n1_ := Aside0.mk (below_step (by repeat (first | (with_reducible first | exact HB.out | apply below_alloc | apply pw_below_drewN | apply below_drew1) | exact HB.out)) hb); clear HO343; clear HB; have HO343 := n0_; have HB := n1_; clear n0_ n1_; (try clear hb); (try clear hb2); (try clear hk); (try clear hi)))
                    go_ret
                    exact ⟨by first | rfl | (simp [errW_none, errW_some] <;> rfl) | (simp [*, errW_none, errW_some] <;> rfl), by repeat (first | (with_reducible first | exact HB.out | apply below_alloc | apply pw_below_drewN | apply below_drew1) | exact HB.out)⟩
                  · rw [if_neg c58] at H
                    exact absurd H (by simp)
                · rw [if_neg c56] at H
                  exact absurd H (by simp)
            · rw [if_neg c51] at H
              exact absurd H (by simp)
          · rw [if_neg c50] at H
            exact absurd H (by simp)
        · rw [if_neg c49] at H
          have c49b0 : (t346 == 2) = false := beq_eq_false_iff_ne.mpr c49
          have c49b1 : (t346 != 2) = true := bne_iff_ne.mpr c49
          by_cases c69 : t346 = 3
          · rw [if_pos c69] at H
            have c69b0 : (t346 == 3) = true := beq_iff_eq.mpr c69
            have c69b1 : (t346 != 3) = false := bne_eq_false_iff_eq.mpr c69
            clear c69
            by_cases c70 : 0 ≤ t344
            · rw [if_pos c70] at H
              have c70b0 : decide (0 ≤ t344) = true := decide_eq_true c70
              clear c70
              by_cases c71 : t344 < (t341.length : Int)
              · rw [if_pos c71] at H
                have c71b0 : decide (t344 < (t341.length : Int)) = true := decide_eq_true c71
                clear c71
                obtain ⟨y363, hy363⟩ : ∃ y_ : List (S43), y_ = (t341.set (t344 : Int).toNat (⟨(-1), (rd_T43 t341 t344).f1, (rd_T43 t341 t344).f2⟩ : S43)) := ⟨_, rfl⟩
                replace H : ((class_Check.f k y363).bind fun t364 => (if t364 = true then (none) else ((class_Of.f k y363 97).bind fun t365 => (if t365 = 0 then ((class_Of.f k y363 a2).bind fun t366 => (if t366 = 0 then ((abecedarylaw02_awake.f k).bind fun t367 => (some t367)) else (none))) else (none))))) = some r := by first | (rw [hy363]; with_reducible exact H) | (have H2_ := (Option.bind_some _ _).symm.trans H; rw [hy363]; with_reducible exact H2_) | (have H2_ := (Option.bind_some _ _).symm.trans H; with_reducible exact H2_) | with_reducible exact H | (rw [hy363]; exact H) | exact H
                have Ny363 := Aside0.mk hy363
                clear hy363
                replace H := Option.bind_eq_some_iff.mp H
                obtain ⟨t364, A730, H⟩ := H
                replace H : (if t364 = true then (none) else ((class_Of.f k y363 97).bind fun t365 => (if t365 = 0 then ((class_Of.f k y363 a2).bind fun t366 => (if t366 = 0 then ((abecedarylaw02_awake.f k).bind fun t367 => (some t367)) else (none))) else (none)))) = some r := H
                have A73 := Aside0.mk A730
                clear A730
                by_cases c74 : t364 = true
                · subst c74
                  have H1 : (none) = some r := by rw [if_pos rfl] at H; exact H
                  clear H
                  have H := H1
                  clear H1
                  exact absurd H (by simp)
                · replace c74 := Bool.eq_false_iff.mpr c74
                  subst c74
                  have H1 : ((class_Of.f k y363 97).bind fun t365 => (if t365 = 0 then ((class_Of.f k y363 a2).bind fun t366 => (if t366 = 0 then ((abecedarylaw02_awake.f k).bind fun t367 => (some t367)) else (none))) else (none))) = some r := by rw [if_neg (show ¬ (false = true) by decide)] at H; exact H
                  clear H
                  have H := H1
                  clear H1
                  replace H := Option.bind_eq_some_iff.mp H
                  obtain ⟨t365, A750, H⟩ := H
                  replace H : (if t365 = 0 then ((class_Of.f k y363 a2).bind fun t366 => (if t366 = 0 then ((abecedarylaw02_awake.f k).bind fun t367 => (some t367)) else (none))) else (none)) = some r := H
                  have A75 := Aside0.mk A750
                  clear A750
                  by_cases c76 : t365 = 0
                  · rw [if_pos c76] at H
                    have c76b0 : (t365 == 0) = true := beq_iff_eq.mpr c76
                    have c76b1 : (t365 != 0) = false := bne_eq_false_iff_eq.mpr c76
                    clear c76
                    replace H := Option.bind_eq_some_iff.mp H
                    obtain ⟨t366, A770, H⟩ := H
                    replace H : (if t366 = 0 then ((abecedarylaw02_awake.f k).bind fun t367 => (some t367)) else (none)) = some r := H
                    have A77 := Aside0.mk A770
                    clear A770
                    by_cases c78 : t366 = 0
                    · rw [if_pos c78] at H
                      have c78b0 : (t366 == 0) = true := beq_iff_eq.mpr c78
                      have c78b1 : (t366 != 0) = false := bne_eq_false_iff_eq.mpr c78
                      clear c78
                      replace H := Option.bind_eq_some_iff.mp H
                      obtain ⟨t367, A790, H⟩ := H
                      replace H : (some t367) = some r := H
                      have A79 := Aside0.mk A790
                      clear A790
                      obtain rfl := Option.some.inj H
                      go_enter Try.func11, Try.ntmps11
                      go_wp2_with (first | ((with_reducible refine gate_callee (f := 29) rfl ?_); refine goesL_ (some 9) rfl rfl Try.func29 (by kernel_rfl) rfl #[] rfl (by (try simp only [List.map_toArray, List.map_cons, List.map_nil]); first | done | rfl | (simp only [List.length_drop, List.length_take]; rfl)) ?_; (with_reducible refine (abecedarylaw00_Table.calls  t341 _ A4.out).mono ?_); rintro e w80 ⟨v342, rfl, ho0, hb⟩; refine ⟨_, rfl, ?_⟩; have n0_ := Aside0.mk (Kd.R_lower ho0 (below_size (by repeat (first | (with_reducible first | exact HB.out | apply below_alloc | apply pw_below_drewN | apply below_drew1) | exact HB.out)))); have n1_ := Aside0.mk (below_step (by repeat (first | (with_reducible first | exact HB.out | apply below_alloc | apply pw_below_drewN | apply below_drew1) | exact HB.out)) hb); clear HB; have HO343 := n0_; have HB := n1_; clear n0_ n1_; (try clear hb); (try clear hb2); (try clear hk); (try clear hi); (try clear ho0); obtain ⟨Ao81, co81, eo81⟩ := Kd.R_slice HO343.out; subst eo81) | ((with_reducible refine gate_callee (f := 19) rfl ?_); refine goesL_ (some 13) rfl rfl Try.func19 (by kernel_rfl) rfl #[.int .i64 a1, .int .i64 (t341.length : Int)] rfl (by (try simp only [List.map_toArray, List.map_cons, List.map_nil]); first | done | rfl | (simp only [List.length_drop, List.length_take]; rfl)) ?_; (with_reducible refine (abecedarylaw00_Place.calls a1 (t341.length : Int) t344 _ A5.out).mono ?_); rintro e w' ⟨rfl, ⟨nd, rfl⟩⟩; refine ⟨_, rfl, ?_⟩; (try (rw [drewN_self w80]; generalize hq_ : World.drewN w80 _ = w80; have n0_ : Aside0 (Kd.R k43 43 w80 w.heap.size (fun _ => True) (.slice Ao81 t341.length co81) t341) := ⟨by rw [← hq_]; exact (by (with_reducible repeat (first | apply Kd.R_alloc | apply Kd.R_drewN | apply Kd.R_drew)); exact HO343.out)⟩; have n1_ : Aside0 (Below w.heap.size w w80) := ⟨by rw [← hq_]; exact (by repeat (first | (with_reducible first | exact HB.out | apply below_alloc | apply pw_below_drewN | apply below_drew1) | exact HB.out))⟩; clear HO343 HB hq_; have HO343 := n0_; have HB := n1_; clear n0_ n1_))) | ((with_reducible refine gate_callee (f := 25) rfl ?_); refine goesL_ (some 15) rfl rfl Try.func25 (by kernel_rfl) rfl #[.slice Ao81 t341.length co81] rfl (by (try simp only [List.map_toArray, List.map_cons, List.map_nil]); first | done | rfl | (simp only [List.length_drop, List.length_take]; rfl)) ?_; (with_reducible refine (class_Check.calls k _ _ t341 true _ ?side1 ?side2 A6.out).mono ?_); (case side1 => repeat (first | exact (Kd.R_reads' HO343.out).2.2 | (with_reducible refine Kd.C_alloc ?_ _) | (with_reducible refine Kd.C_drewN ?_ _) | (with_reducible refine Kd.C_drew ?_))); (case side2 => exact (Kd.R_reads' HO343.out).2.1); rintro e w82 ⟨rfl, hb⟩; refine ⟨_, rfl, ?_⟩; have n0_ := Aside0.mk (Kd.R_below (by (with_reducible repeat (first | apply Kd.R_alloc | apply Kd.R_drewN | apply Kd.R_drew)); exact HO343.out) hb); have n1_ := Aside0.mk (below_step (by repeat (first | (with_reducible first | exact HB.out | apply below_alloc | apply pw_below_drewN | apply below_drew1) | exact HB.out)) hb); clear HO343; clear HB; have HO343 := n0_; have HB := n1_; clear n0_ n1_; (try clear hb); (try clear hb2); (try clear hk); (try clear hi)) | ((with_reducible refine gate_callee (f := 19) rfl ?_); refine goesL_ (some 18) rfl rfl Try.func19 (by kernel_rfl) rfl #[.int .i64 a0, .int .i64 8] rfl (by (try simp only [List.map_toArray, List.map_cons, List.map_nil]); first | done | rfl | (simp only [List.length_drop, List.length_take]; rfl)) ?_; (with_reducible refine (abecedarylaw00_Place.calls a0 8 t346 _ A8.out).mono ?_); rintro e w' ⟨rfl, ⟨nd, rfl⟩⟩; refine ⟨_, rfl, ?_⟩; (try (rw [drewN_self w82]; generalize hq_ : World.drewN w82 _ = w82; have n0_ : Aside0 (Kd.R k43 43 w82 w.heap.size (fun _ => True) (.slice Ao81 t341.length co81) t341) := ⟨by rw [← hq_]; exact (by (with_reducible repeat (first | apply Kd.R_alloc | apply Kd.R_drewN | apply Kd.R_drew)); exact HO343.out)⟩; have n1_ : Aside0 (Below w.heap.size w w82) := ⟨by rw [← hq_]; exact (by repeat (first | (with_reducible first | exact HB.out | apply below_alloc | apply pw_below_drewN | apply below_drew1) | exact HB.out))⟩; clear HO343 HB hq_; have HO343 := n0_; have HB := n1_; clear n0_ n1_)); have p72 : 0 ≤ (t344 : Int) := of_decide_eq_true (by first | (with_reducible assumption) | assumption); have q72 : (t344 : Int) < ((t341.length : Int) : Int) := of_decide_eq_true (by first | (with_reducible assumption) | assumption); obtain ⟨go72, co72, eo72, gb72, gl72, cl72, HG72⟩ := Kd.R_form HO343.out (by omega); (first | cases eo72 | (injection eo72 with ea_ en_ ec_; (first | subst ea_ | (injection ea_ with ea_; subst ea_)); subst ec_; clear en_)); have GB72 := Aside0.mk gb72; have GG72 := Aside0.mk HG72; clear gb72 gl72 HG72; obtain ⟨ce72, hcl72, hM72, hcc72, hfr72⟩ := Kd.R_elem HO343.out z43 (t344 : Int) p72 q72; obtain rfl := k43_openM hM72; have hx72_0 : w82.cell? ⟨go72, (t344 : Int).toNat * 3, none⟩ = some (.int .i64 ((rd_T43 t341 t344).f0)) := hcc72 0 _ rfl; have hx72_1 : w82.cell? ⟨go72, (t344 : Int).toNat * 3 + 1, none⟩ = some (.int .i64 ((rd_T43 t341 t344).f1)) := hcc72 1 _ rfl; have hx72_2 : w82.cell? ⟨go72, (t344 : Int).toNat * 3 + 2, none⟩ = some (.int .i64 ((rd_T43 t341 t344).f2)) := hcc72 2 _ rfl; have hf72_0 : w82.frozen? ⟨go72, (t344 : Int).toNat * 3, none⟩ = false := hfr72 0; have hf72_1 : w82.frozen? ⟨go72, (t344 : Int).toNat * 3 + 1, none⟩ = false := hfr72 1; have hf72_2 : w82.frozen? ⟨go72, (t344 : Int).toNat * 3 + 2, none⟩ = false := hfr72 2; clear hcl72 hcc72 hfr72 hM72; replace p72 := eq_true p72; replace q72 := eq_true q72; have HX83 := Aside0.mk (show Kd.R k43 43 w82 w.heap.size (fun _ => True) (.slice (some ⟨go72, 0, none⟩) t341.length co81) t341 from (by (with_reducible repeat (first | apply Kd.R_alloc | apply Kd.R_drewN | apply Kd.R_drew)); exact HO343.out)); obtain ⟨ce83, hcl83, hM83, hcc83, hfr83⟩ := Kd.R_elem HX83.out z43 (t344 : Int) (of_decide_eq_true (by first | (with_reducible assumption) | assumption)) (by have h_ : (t344 : Int) < ((t341.length : Int) : Int) := of_decide_eq_true (by first | (with_reducible assumption) | assumption); first | exact h_ | (have e_ := (Kd.R_reads' HO343.out).1; omega) | simpa using h_); obtain rfl := k43_openM hM83; have HP83 := Kd.R_seg HX83.out (t344 : Int) (of_decide_eq_true (by first | (with_reducible assumption) | assumption)) (by have h_ : (t344 : Int) < ((t341.length : Int) : Int) := of_decide_eq_true (by first | (with_reducible assumption) | assumption); first | exact h_ | (have e_ := (Kd.R_reads' HO343.out).1; omega) | simpa using h_) (seg := [.int .i64 (-1)]) (j := 0) hcl83 hcc83 (show 1 ≤ 3 from by decide) (x' := (⟨(-1), (rd_T43 t341 t344).f1, (rd_T43 t341 t344).f2⟩ : S43)) (k43_mkM _ _ _ (⟨(-1), (rd_T43 t341 t344).f1, (rd_T43 t341 t344).f2⟩ : S43) ) (fun _ hk => hk); have hx83_0 := hcc83 0 _ rfl; (try simp only [show (k43).sz = 3 from rfl, Nat.mul_one, Nat.add_zero] at hx83_0); have hf83_0 := hfr83 0; (try simp only [show (k43).sz = 3 from rfl, Nat.mul_one, Nat.add_zero] at hf83_0); clear hcl83 hcc83 hfr83 hM83) | ((with_reducible refine gate_store (t := 3) (p := 71) rfl ?_); refine store_event (t := 3) (p := 71) (v := ?vo_w84) (w1 := (w82.setCell ⟨go72, (t344 : Int).toNat * 3, none⟩ (.int .i64 (-1)))) ?hg ?ho ?hn ?hr ?_; (case ho => rfl); (case hg => rfl); (case hn => rfl); (case hr => first | (go_simp; done) | (go_simp; rfl)); intro w84 hw; have hg : w82.grownBy w84 (some go72) := (by rw [hw]; exact HP83.2); have hp_ : Kd.R k43 43 w84 w.heap.size (fun _ => True) (.slice (some ⟨go72, 0, none⟩) t341.length co81) y363 := (by rw [hw, Ny363.out]; exact HP83.1); clear HP83; have n0_ := Aside0.mk (hp_); have n1_ := Aside0.mk ((by rw [hw]; exact below_set (HB.out) GB72.out : Below w.heap.size w w84)); clear HO343; clear HB; have HO343 := n0_; have HB := n1_; clear n0_ n1_; clear hg hw hp_) | ((with_reducible refine gate_callee (f := 25) rfl ?_); refine goesL_ (some 99) rfl rfl Try.func25 (by kernel_rfl) rfl #[.slice (some ⟨go72, 0, none⟩) y363.length co81] rfl (by (try simp only [List.map_toArray, List.map_cons, List.map_nil]); first | done | (rw [show y363.length = t341.length from (Kd.R_reads' HO343.out).1.symm] <;> rfl) | rfl | (simp only [List.length_drop, List.length_take]; rfl)) ?_; (with_reducible refine (class_Check.calls k _ _ y363 false _ ?side1 ?side2 A73.out).mono ?_); (case side1 => repeat (first | exact (Kd.R_reads' HO343.out).2.2 | (with_reducible refine Kd.C_alloc ?_ _) | (with_reducible refine Kd.C_drewN ?_ _) | (with_reducible refine Kd.C_drew ?_))); (case side2 => rw [show y363.length = t341.length from (Kd.R_reads' HO343.out).1.symm]; exact (Kd.R_reads' HO343.out).2.1); rintro e w85 ⟨rfl, hb⟩; refine ⟨_, rfl, ?_⟩; have n0_ := Aside0.mk (Kd.R_below (by (with_reducible repeat (first | apply Kd.R_alloc | apply Kd.R_drewN | apply Kd.R_drew)); exact HO343.out) hb); have n1_ := Aside0.mk (below_step (by repeat (first | (with_reducible first | exact HB.out | apply below_alloc | apply pw_below_drewN | apply below_drew1) | exact HB.out)) hb); clear HO343; clear HB; have HO343 := n0_; have HB := n1_; clear n0_ n1_; (try clear hb); (try clear hb2); (try clear hk); (try clear hi)) | (go_at_call 27; refine calls_of_args (args' := #[.slice (some ⟨go72, 0, none⟩) y363.length co81, .int .i64 97]) (by first | (rw [show y363.length = t341.length from (Kd.R_reads' HO343.out).1.symm] <;> rfl) | rfl) ?_; (with_reducible refine (class_Of.calls k (fun k_ => some k_ = (.slice (some ⟨go72, 0, none⟩) t341.length co81 : Value).ownBlock) _ _ y363 97 t365 _ ?side1 A75.out).mono ?_); (case side1 => rw [show y363.length = t341.length from (Kd.R_reads' HO343.out).1.symm]; exact Kd.R_V (Kd.R_tight rfl (HO343.out))); rintro e w86 ⟨rfl, hb⟩; have n0_ := Aside0.mk (Kd.R_below (by (with_reducible repeat (first | apply Kd.R_alloc | apply Kd.R_drewN | apply Kd.R_drew)); exact HO343.out) hb); have n1_ := Aside0.mk (below_step (by repeat (first | (with_reducible first | exact HB.out | apply below_alloc | apply pw_below_drewN | apply below_drew1) | exact HB.out)) hb); clear HO343; clear HB; have HO343 := n0_; have HB := n1_; clear n0_ n1_; (try clear hb); (try clear hb2); (try clear hk); (try clear hi)) | (go_at_call 27; refine calls_of_args (args' := #[.slice (some ⟨go72, 0, none⟩) y363.length co81, .int .i64 a2]) (by first | (rw [show y363.length = t341.length from (Kd.R_reads' HO343.out).1.symm] <;> rfl) | rfl) ?_; (with_reducible refine (class_Of.calls k (fun k_ => some k_ = (.slice (some ⟨go72, 0, none⟩) t341.length co81 : Value).ownBlock) _ _ y363 a2 t366 _ ?side1 A77.out).mono ?_); (case side1 => rw [show y363.length = t341.length from (Kd.R_reads' HO343.out).1.symm]; exact Kd.R_V (Kd.R_tight rfl (HO343.out))); rintro e w87 ⟨rfl, hb⟩; have n0_ := Aside0.mk (Kd.R_below (by (with_reducible repeat (first | apply Kd.R_alloc | apply Kd.R_drewN | apply Kd.R_drew)); exact HO343.out) hb); have n1_ := Aside0.mk (below_step (by repeat (first | (with_reducible first | exact HB.out | apply below_alloc | apply pw_below_drewN | apply below_drew1) | exact HB.out)) hb); clear HO343; clear HB; have HO343 := n0_; have HB := n1_; clear n0_ n1_; (try clear hb); (try clear hb2); (try clear hk); (try clear hi)) | (go_at_call 24; (with_reducible refine (abecedarylaw02_awake.calls k  t367 _ A79.out).mono ?_); rintro e w88 ⟨rfl, hb⟩; have n0_ := Aside0.mk (Kd.R_below (by (with_reducible repeat (first | apply Kd.R_alloc | apply Kd.R_drewN | apply Kd.R_drew)); exact HO343.out) hb); have n1_ := Aside0.mk (below_step (by repeat (first | (with_reducible first | exact HB.out | apply below_alloc | apply pw_below_drewN | apply below_drew1) | exact HB.out)) hb); clear HO343; clear HB; have HO343 := n0_; have HB := n1_; clear n0_ n1_; (try clear hb); (try clear hb2); (try clear hk); (try clear hi)))
                      go_ret
                      exact ⟨by first | rfl | (simp [errW_none, errW_some] <;> rfl) | (simp [*, errW_none, errW_some] <;> rfl), by repeat (first | (with_reducible first | exact HB.out | apply below_alloc | apply pw_below_drewN | apply below_drew1) | exact HB.out)⟩
                    · rw [if_neg c78] at H
                      exact absurd H (by simp)
                  · rw [if_neg c76] at H
                    exact absurd H (by simp)
              · rw [if_neg c71] at H
                exact absurd H (by simp)
            · rw [if_neg c70] at H
              exact absurd H (by simp)
          · rw [if_neg c69] at H
            have c69b0 : (t346 == 3) = false := beq_eq_false_iff_ne.mpr c69
            have c69b1 : (t346 != 3) = true := bne_iff_ne.mpr c69
            by_cases c89 : t346 = 4
            · rw [if_pos c89] at H
              have c89b0 : (t346 == 4) = true := beq_iff_eq.mpr c89
              have c89b1 : (t346 != 4) = false := bne_eq_false_iff_eq.mpr c89
              clear c89
              obtain ⟨ji90, hji90⟩ : ∃ j_ : Int, (wrap64 ((t341.length : Int) - 1)) = j_ := ⟨_, rfl⟩
              replace H : (if 0 ≤ (ji90) then (if (ji90) < (t341.length : Int) then ((some (t341.set ((ji90) : Int).toNat (⟨(rd_T43 t341 (ji90)).f0, 1114112, (rd_T43 t341 (ji90)).f2⟩ : S43) : List (S43))).bind fun y368 => ((class_Check.f k y368).bind fun t369 => (if t369 = true then (none) else ((class_Of.f k y368 97).bind fun t370 => (if t370 = 0 then ((class_Of.f k y368 a2).bind fun t371 => (if t371 = 0 then ((abecedarylaw02_awake.f k).bind fun t372 => (some t372)) else (none))) else (none)))))) else (none)) else (none)) = some r := by first | (rw [hji90] at H; exact H) | (simp only [hji90] at H ⊢; exact H)
              (try rw [hji90] at A4)
              (try rw [hji90] at A5)
              (try rw [hji90] at A6)
              (try rw [hji90] at A8)
              have hji90w : (IntKind.i64.wrap ((t341.length : Int) - 1)) = ji90 := (i64_w _).trans hji90
              by_cases c91 : 0 ≤ (ji90)
              · rw [if_pos c91] at H
                have c91b0 : decide (0 ≤ (ji90)) = true := decide_eq_true c91
                clear c91
                by_cases c92 : (ji90) < (t341.length : Int)
                · rw [if_pos c92] at H
                  have c92b0 : decide ((ji90) < (t341.length : Int)) = true := decide_eq_true c92
                  clear c92
                  obtain ⟨y368, hy368⟩ : ∃ y_ : List (S43), y_ = (t341.set ((ji90) : Int).toNat (⟨(rd_T43 t341 (ji90)).f0, 1114112, (rd_T43 t341 (ji90)).f2⟩ : S43)) := ⟨_, rfl⟩
                  replace H : ((class_Check.f k y368).bind fun t369 => (if t369 = true then (none) else ((class_Of.f k y368 97).bind fun t370 => (if t370 = 0 then ((class_Of.f k y368 a2).bind fun t371 => (if t371 = 0 then ((abecedarylaw02_awake.f k).bind fun t372 => (some t372)) else (none))) else (none))))) = some r := by first | (rw [hy368]; with_reducible exact H) | (have H2_ := (Option.bind_some _ _).symm.trans H; rw [hy368]; with_reducible exact H2_) | (have H2_ := (Option.bind_some _ _).symm.trans H; with_reducible exact H2_) | with_reducible exact H | (rw [hy368]; exact H) | exact H
                  have Ny368 := Aside0.mk hy368
                  clear hy368
                  replace H := Option.bind_eq_some_iff.mp H
                  obtain ⟨t369, A940, H⟩ := H
                  replace H : (if t369 = true then (none) else ((class_Of.f k y368 97).bind fun t370 => (if t370 = 0 then ((class_Of.f k y368 a2).bind fun t371 => (if t371 = 0 then ((abecedarylaw02_awake.f k).bind fun t372 => (some t372)) else (none))) else (none)))) = some r := H
                  have A94 := Aside0.mk A940
                  clear A940
                  by_cases c95 : t369 = true
                  · subst c95
                    have H1 : (none) = some r := by rw [if_pos rfl] at H; exact H
                    clear H
                    have H := H1
                    clear H1
                    exact absurd H (by simp)
                  · replace c95 := Bool.eq_false_iff.mpr c95
                    subst c95
                    have H1 : ((class_Of.f k y368 97).bind fun t370 => (if t370 = 0 then ((class_Of.f k y368 a2).bind fun t371 => (if t371 = 0 then ((abecedarylaw02_awake.f k).bind fun t372 => (some t372)) else (none))) else (none))) = some r := by rw [if_neg (show ¬ (false = true) by decide)] at H; exact H
                    clear H
                    have H := H1
                    clear H1
                    replace H := Option.bind_eq_some_iff.mp H
                    obtain ⟨t370, A960, H⟩ := H
                    replace H : (if t370 = 0 then ((class_Of.f k y368 a2).bind fun t371 => (if t371 = 0 then ((abecedarylaw02_awake.f k).bind fun t372 => (some t372)) else (none))) else (none)) = some r := H
                    have A96 := Aside0.mk A960
                    clear A960
                    by_cases c97 : t370 = 0
                    · rw [if_pos c97] at H
                      have c97b0 : (t370 == 0) = true := beq_iff_eq.mpr c97
                      have c97b1 : (t370 != 0) = false := bne_eq_false_iff_eq.mpr c97
                      clear c97
                      replace H := Option.bind_eq_some_iff.mp H
                      obtain ⟨t371, A980, H⟩ := H
                      replace H : (if t371 = 0 then ((abecedarylaw02_awake.f k).bind fun t372 => (some t372)) else (none)) = some r := H
                      have A98 := Aside0.mk A980
                      clear A980
                      by_cases c99 : t371 = 0
                      · rw [if_pos c99] at H
                        have c99b0 : (t371 == 0) = true := beq_iff_eq.mpr c99
                        have c99b1 : (t371 != 0) = false := bne_eq_false_iff_eq.mpr c99
                        clear c99
                        replace H := Option.bind_eq_some_iff.mp H
                        obtain ⟨t372, A1000, H⟩ := H
                        replace H : (some t372) = some r := H
                        have A100 := Aside0.mk A1000
                        clear A1000
                        obtain rfl := Option.some.inj H
                        go_enter Try.func11, Try.ntmps11
                        go_wp2_with (first | ((with_reducible refine gate_callee (f := 29) rfl ?_); refine goesL_ (some 9) rfl rfl Try.func29 (by kernel_rfl) rfl #[] rfl (by (try simp only [List.map_toArray, List.map_cons, List.map_nil]); first | done | rfl | (simp only [List.length_drop, List.length_take]; rfl)) ?_; (with_reducible refine (abecedarylaw00_Table.calls  t341 _ A4.out).mono ?_); rintro e w101 ⟨v342, rfl, ho0, hb⟩; refine ⟨_, rfl, ?_⟩; have n0_ := Aside0.mk (Kd.R_lower ho0 (below_size (by repeat (first | (with_reducible first | exact HB.out | apply below_alloc | apply pw_below_drewN | apply below_drew1) | exact HB.out)))); have n1_ := Aside0.mk (below_step (by repeat (first | (with_reducible first | exact HB.out | apply below_alloc | apply pw_below_drewN | apply below_drew1) | exact HB.out)) hb); clear HB; have HO343 := n0_; have HB := n1_; clear n0_ n1_; (try clear hb); (try clear hb2); (try clear hk); (try clear hi); (try clear ho0); obtain ⟨Ao102, co102, eo102⟩ := Kd.R_slice HO343.out; subst eo102) | ((with_reducible refine gate_callee (f := 19) rfl ?_); refine goesL_ (some 13) rfl rfl Try.func19 (by kernel_rfl) rfl #[.int .i64 a1, .int .i64 (t341.length : Int)] rfl (by (try simp only [List.map_toArray, List.map_cons, List.map_nil]); first | done | rfl | (simp only [List.length_drop, List.length_take]; rfl)) ?_; (with_reducible refine (abecedarylaw00_Place.calls a1 (t341.length : Int) t344 _ A5.out).mono ?_); rintro e w' ⟨rfl, ⟨nd, rfl⟩⟩; refine ⟨_, rfl, ?_⟩; (try (rw [drewN_self w101]; generalize hq_ : World.drewN w101 _ = w101; have n0_ : Aside0 (Kd.R k43 43 w101 w.heap.size (fun _ => True) (.slice Ao102 t341.length co102) t341) := ⟨by rw [← hq_]; exact (by (with_reducible repeat (first | apply Kd.R_alloc | apply Kd.R_drewN | apply Kd.R_drew)); exact HO343.out)⟩; have n1_ : Aside0 (Below w.heap.size w w101) := ⟨by rw [← hq_]; exact (by repeat (first | (with_reducible first | exact HB.out | apply below_alloc | apply pw_below_drewN | apply below_drew1) | exact HB.out))⟩; clear HO343 HB hq_; have HO343 := n0_; have HB := n1_; clear n0_ n1_))) | ((with_reducible refine gate_callee (f := 25) rfl ?_); refine goesL_ (some 15) rfl rfl Try.func25 (by kernel_rfl) rfl #[.slice Ao102 t341.length co102] rfl (by (try simp only [List.map_toArray, List.map_cons, List.map_nil]); first | done | rfl | (simp only [List.length_drop, List.length_take]; rfl)) ?_; (with_reducible refine (class_Check.calls k _ _ t341 true _ ?side1 ?side2 A6.out).mono ?_); (case side1 => repeat (first | exact (Kd.R_reads' HO343.out).2.2 | (with_reducible refine Kd.C_alloc ?_ _) | (with_reducible refine Kd.C_drewN ?_ _) | (with_reducible refine Kd.C_drew ?_))); (case side2 => exact (Kd.R_reads' HO343.out).2.1); rintro e w103 ⟨rfl, hb⟩; refine ⟨_, rfl, ?_⟩; have n0_ := Aside0.mk (Kd.R_below (by (with_reducible repeat (first | apply Kd.R_alloc | apply Kd.R_drewN | apply Kd.R_drew)); exact HO343.out) hb); have n1_ := Aside0.mk (below_step (by repeat (first | (with_reducible first | exact HB.out | apply below_alloc | apply pw_below_drewN | apply below_drew1) | exact HB.out)) hb); clear HO343; clear HB; have HO343 := n0_; have HB := n1_; clear n0_ n1_; (try clear hb); (try clear hb2); (try clear hk); (try clear hi)) | ((with_reducible refine gate_callee (f := 19) rfl ?_); refine goesL_ (some 18) rfl rfl Try.func19 (by kernel_rfl) rfl #[.int .i64 a0, .int .i64 8] rfl (by (try simp only [List.map_toArray, List.map_cons, List.map_nil]); first | done | rfl | (simp only [List.length_drop, List.length_take]; rfl)) ?_; (with_reducible refine (abecedarylaw00_Place.calls a0 8 t346 _ A8.out).mono ?_); rintro e w' ⟨rfl, ⟨nd, rfl⟩⟩; refine ⟨_, rfl, ?_⟩; (try (rw [drewN_self w103]; generalize hq_ : World.drewN w103 _ = w103; have n0_ : Aside0 (Kd.R k43 43 w103 w.heap.size (fun _ => True) (.slice Ao102 t341.length co102) t341) := ⟨by rw [← hq_]; exact (by (with_reducible repeat (first | apply Kd.R_alloc | apply Kd.R_drewN | apply Kd.R_drew)); exact HO343.out)⟩; have n1_ : Aside0 (Below w.heap.size w w103) := ⟨by rw [← hq_]; exact (by repeat (first | (with_reducible first | exact HB.out | apply below_alloc | apply pw_below_drewN | apply below_drew1) | exact HB.out))⟩; clear HO343 HB hq_; have HO343 := n0_; have HB := n1_; clear n0_ n1_)); have p93 : 0 ≤ ((ji90) : Int) := of_decide_eq_true (by first | (with_reducible assumption) | assumption); have q93 : ((ji90) : Int) < ((t341.length : Int) : Int) := of_decide_eq_true (by first | (with_reducible assumption) | assumption); obtain ⟨go93, co93, eo93, gb93, gl93, cl93, HG93⟩ := Kd.R_form HO343.out (by omega); (first | cases eo93 | (injection eo93 with ea_ en_ ec_; (first | subst ea_ | (injection ea_ with ea_; subst ea_)); subst ec_; clear en_)); have GB93 := Aside0.mk gb93; have GG93 := Aside0.mk HG93; clear gb93 gl93 HG93; obtain ⟨ce93, hcl93, hM93, hcc93, hfr93⟩ := Kd.R_elem HO343.out z43 ((ji90) : Int) p93 q93; obtain rfl := k43_openM hM93; have hx93_0 : w103.cell? ⟨go93, ((ji90) : Int).toNat * 3, none⟩ = some (.int .i64 ((rd_T43 t341 (ji90)).f0)) := hcc93 0 _ rfl; have hx93_1 : w103.cell? ⟨go93, ((ji90) : Int).toNat * 3 + 1, none⟩ = some (.int .i64 ((rd_T43 t341 (ji90)).f1)) := hcc93 1 _ rfl; have hx93_2 : w103.cell? ⟨go93, ((ji90) : Int).toNat * 3 + 2, none⟩ = some (.int .i64 ((rd_T43 t341 (ji90)).f2)) := hcc93 2 _ rfl; have hf93_0 : w103.frozen? ⟨go93, ((ji90) : Int).toNat * 3, none⟩ = false := hfr93 0; have hf93_1 : w103.frozen? ⟨go93, ((ji90) : Int).toNat * 3 + 1, none⟩ = false := hfr93 1; have hf93_2 : w103.frozen? ⟨go93, ((ji90) : Int).toNat * 3 + 2, none⟩ = false := hfr93 2; clear hcl93 hcc93 hfr93 hM93; replace p93 := eq_true p93; replace q93 := eq_true q93; have HX104 := Aside0.mk (show Kd.R k43 43 w103 w.heap.size (fun _ => True) (.slice (some ⟨go93, 0, none⟩) t341.length co102) t341 from (by (with_reducible repeat (first | apply Kd.R_alloc | apply Kd.R_drewN | apply Kd.R_drew)); exact HO343.out)); obtain ⟨ce104, hcl104, hM104, hcc104, hfr104⟩ := Kd.R_elem HX104.out z43 ((ji90) : Int) (of_decide_eq_true (by first | (with_reducible assumption) | assumption)) (by have h_ : ((ji90) : Int) < ((t341.length : Int) : Int) := of_decide_eq_true (by first | (with_reducible assumption) | assumption); first | exact h_ | (have e_ := (Kd.R_reads' HO343.out).1; omega) | simpa using h_); obtain rfl := k43_openM hM104; have HP104 := Kd.R_seg HX104.out ((ji90) : Int) (of_decide_eq_true (by first | (with_reducible assumption) | assumption)) (by have h_ : ((ji90) : Int) < ((t341.length : Int) : Int) := of_decide_eq_true (by first | (with_reducible assumption) | assumption); first | exact h_ | (have e_ := (Kd.R_reads' HO343.out).1; omega) | simpa using h_) (seg := [.int .i64 1114112]) (j := 1) hcl104 hcc104 (show 2 ≤ 3 from by decide) (x' := (⟨(rd_T43 t341 (ji90)).f0, 1114112, (rd_T43 t341 (ji90)).f2⟩ : S43)) (k43_mkM _ _ _ (⟨(rd_T43 t341 (ji90)).f0, 1114112, (rd_T43 t341 (ji90)).f2⟩ : S43) ) (fun _ hk => hk); have hx104_1 := hcc104 1 _ rfl; (try simp only [show (k43).sz = 3 from rfl, Nat.mul_one, Nat.add_zero] at hx104_1); have hf104_1 := hfr104 1; (try simp only [show (k43).sz = 3 from rfl, Nat.mul_one, Nat.add_zero] at hf104_1); clear hcl104 hcc104 hfr104 hM104) | ((with_reducible refine gate_store (t := 3) (p := 79) rfl ?_); refine store_event (t := 3) (p := 79) (v := ?vo_w105) (w1 := (w103.setCell ⟨go93, ((ji90) : Int).toNat * 3 + 1, none⟩ (.int .i64 1114112))) ?hg ?ho ?hn ?hr ?_; (case ho => rfl); (case hg => rfl); (case hn => rfl); (case hr => first | (go_simp; done) | (go_simp; rfl)); intro w105 hw; have hg : w103.grownBy w105 (some go93) := (by rw [hw]; exact HP104.2); have hp_ : Kd.R k43 43 w105 w.heap.size (fun _ => True) (.slice (some ⟨go93, 0, none⟩) t341.length co102) y368 := (by rw [hw, Ny368.out]; exact HP104.1); clear HP104; have n0_ := Aside0.mk (hp_); have n1_ := Aside0.mk ((by rw [hw]; exact below_set (HB.out) GB93.out : Below w.heap.size w w105)); clear HO343; clear HB; have HO343 := n0_; have HB := n1_; clear n0_ n1_; clear hg hw hp_) | ((with_reducible refine gate_callee (f := 25) rfl ?_); refine goesL_ (some 99) rfl rfl Try.func25 (by kernel_rfl) rfl #[.slice (some ⟨go93, 0, none⟩) y368.length co102] rfl (by (try simp only [List.map_toArray, List.map_cons, List.map_nil]); first | done | (rw [show y368.length = t341.length from (Kd.R_reads' HO343.out).1.symm] <;> rfl) | rfl | (simp only [List.length_drop, List.length_take]; rfl)) ?_; (with_reducible refine (class_Check.calls k _ _ y368 false _ ?side1 ?side2 A94.out).mono ?_); (case side1 => repeat (first | exact (Kd.R_reads' HO343.out).2.2 | (with_reducible refine Kd.C_alloc ?_ _) | (with_reducible refine Kd.C_drewN ?_ _) | (with_reducible refine Kd.C_drew ?_))); (case side2 => rw [show y368.length = t341.length from (Kd.R_reads' HO343.out).1.symm]; exact (Kd.R_reads' HO343.out).2.1); rintro e w106 ⟨rfl, hb⟩; refine ⟨_, rfl, ?_⟩; have n0_ := Aside0.mk (Kd.R_below (by (with_reducible repeat (first | apply Kd.R_alloc | apply Kd.R_drewN | apply Kd.R_drew)); exact HO343.out) hb); have n1_ := Aside0.mk (below_step (by repeat (first | (with_reducible first | exact HB.out | apply below_alloc | apply pw_below_drewN | apply below_drew1) | exact HB.out)) hb); clear HO343; clear HB; have HO343 := n0_; have HB := n1_; clear n0_ n1_; (try clear hb); (try clear hb2); (try clear hk); (try clear hi)) | (go_at_call 27; refine calls_of_args (args' := #[.slice (some ⟨go93, 0, none⟩) y368.length co102, .int .i64 97]) (by first | (rw [show y368.length = t341.length from (Kd.R_reads' HO343.out).1.symm] <;> rfl) | rfl) ?_; (with_reducible refine (class_Of.calls k (fun k_ => some k_ = (.slice (some ⟨go93, 0, none⟩) t341.length co102 : Value).ownBlock) _ _ y368 97 t370 _ ?side1 A96.out).mono ?_); (case side1 => rw [show y368.length = t341.length from (Kd.R_reads' HO343.out).1.symm]; exact Kd.R_V (Kd.R_tight rfl (HO343.out))); rintro e w107 ⟨rfl, hb⟩; have n0_ := Aside0.mk (Kd.R_below (by (with_reducible repeat (first | apply Kd.R_alloc | apply Kd.R_drewN | apply Kd.R_drew)); exact HO343.out) hb); have n1_ := Aside0.mk (below_step (by repeat (first | (with_reducible first | exact HB.out | apply below_alloc | apply pw_below_drewN | apply below_drew1) | exact HB.out)) hb); clear HO343; clear HB; have HO343 := n0_; have HB := n1_; clear n0_ n1_; (try clear hb); (try clear hb2); (try clear hk); (try clear hi)) | (go_at_call 27; refine calls_of_args (args' := #[.slice (some ⟨go93, 0, none⟩) y368.length co102, .int .i64 a2]) (by first | (rw [show y368.length = t341.length from (Kd.R_reads' HO343.out).1.symm] <;> rfl) | rfl) ?_; (with_reducible refine (class_Of.calls k (fun k_ => some k_ = (.slice (some ⟨go93, 0, none⟩) t341.length co102 : Value).ownBlock) _ _ y368 a2 t371 _ ?side1 A98.out).mono ?_); (case side1 => rw [show y368.length = t341.length from (Kd.R_reads' HO343.out).1.symm]; exact Kd.R_V (Kd.R_tight rfl (HO343.out))); rintro e w108 ⟨rfl, hb⟩; have n0_ := Aside0.mk (Kd.R_below (by (with_reducible repeat (first | apply Kd.R_alloc | apply Kd.R_drewN | apply Kd.R_drew)); exact HO343.out) hb); have n1_ := Aside0.mk (below_step (by repeat (first | (with_reducible first | exact HB.out | apply below_alloc | apply pw_below_drewN | apply below_drew1) | exact HB.out)) hb); clear HO343; clear HB; have HO343 := n0_; have HB := n1_; clear n0_ n1_; (try clear hb); (try clear hb2); (try clear hk); (try clear hi)) | (go_at_call 24; (with_reducible refine (abecedarylaw02_awake.calls k  t372 _ A100.out).mono ?_); rintro e w109 ⟨rfl, hb⟩; have n0_ := Aside0.mk (Kd.R_below (by (with_reducible repeat (first | apply Kd.R_alloc | apply Kd.R_drewN | apply Kd.R_drew)); exact HO343.out) hb); have n1_ := Aside0.mk (below_step (by repeat (first | (with_reducible first | exact HB.out | apply below_alloc | apply pw_below_drewN | apply below_drew1) | exact HB.out)) hb); clear HO343; clear HB; have HO343 := n0_; have HB := n1_; clear n0_ n1_; (try clear hb); (try clear hb2); (try clear hk); (try clear hi)))
                        go_ret
                        exact ⟨by first | rfl | (simp [errW_none, errW_some] <;> rfl) | (simp only [← hji90]; first | rfl | (simp [errW_none, errW_some] <;> rfl)) | (simp [*, errW_none, errW_some] <;> rfl), by repeat (first | (with_reducible first | exact HB.out | apply below_alloc | apply pw_below_drewN | apply below_drew1) | exact HB.out)⟩
                      · rw [if_neg c99] at H
                        exact absurd H (by simp)
                    · rw [if_neg c97] at H
                      exact absurd H (by simp)
                · rw [if_neg c92] at H
                  exact absurd H (by simp)
              · rw [if_neg c91] at H
                exact absurd H (by simp)
            · rw [if_neg c89] at H
              have c89b0 : (t346 == 4) = false := beq_eq_false_iff_ne.mpr c89
              have c89b1 : (t346 != 4) = true := bne_iff_ne.mpr c89
              by_cases c110 : t346 = 5
              · rw [if_pos c110] at H
                have c110b0 : (t346 == 5) = true := beq_iff_eq.mpr c110
                have c110b1 : (t346 != 5) = false := bne_eq_false_iff_eq.mpr c110
                clear c110
                by_cases c111 : 0 ≤ t344
                · rw [if_pos c111] at H
                  have c111b0 : decide (0 ≤ t344) = true := decide_eq_true c111
                  clear c111
                  by_cases c112 : t344 < (t341.length : Int)
                  · rw [if_pos c112] at H
                    have c112b0 : decide (t344 < (t341.length : Int)) = true := decide_eq_true c112
                    clear c112
                    by_cases c113 : t341.length < 5864062014805
                    · rw [if_pos c113] at H
                      have LMc113 := Aside0.mk c113
                      clear c113
                      obtain ⟨y374, hy374⟩ : ∃ y_ : List (S43), y_ = (t341 ++ [(⟨(rd_T43 t341 t344).f0, (rd_T43 t341 t344).f1, (rd_T43 t341 t344).f2⟩ : S43)]) := ⟨_, rfl⟩
                      replace H : ((class_Check.f k y374).bind fun t377 => (if t377 = true then (none) else ((class_Of.f k y374 97).bind fun t378 => (if t378 = 0 then ((class_Of.f k y374 a2).bind fun t379 => (if t379 = 0 then ((abecedarylaw02_awake.f k).bind fun t380 => (some t380)) else (none))) else (none))))) = some r := by first | (rw [hy374]; with_reducible exact H) | (have H2_ := (Option.bind_some _ _).symm.trans H; rw [hy374]; with_reducible exact H2_) | (have H2_ := (Option.bind_some _ _).symm.trans H; with_reducible exact H2_) | with_reducible exact H | (rw [hy374]; exact H) | exact H
                      have Ny374 := Aside0.mk hy374
                      clear hy374
                      replace H := Option.bind_eq_some_iff.mp H
                      obtain ⟨t377, A1140, H⟩ := H
                      replace H : (if t377 = true then (none) else ((class_Of.f k y374 97).bind fun t378 => (if t378 = 0 then ((class_Of.f k y374 a2).bind fun t379 => (if t379 = 0 then ((abecedarylaw02_awake.f k).bind fun t380 => (some t380)) else (none))) else (none)))) = some r := H
                      have A114 := Aside0.mk A1140
                      clear A1140
                      by_cases c115 : t377 = true
                      · subst c115
                        have H1 : (none) = some r := by rw [if_pos rfl] at H; exact H
                        clear H
                        have H := H1
                        clear H1
                        exact absurd H (by simp)
                      · replace c115 := Bool.eq_false_iff.mpr c115
                        subst c115
                        have H1 : ((class_Of.f k y374 97).bind fun t378 => (if t378 = 0 then ((class_Of.f k y374 a2).bind fun t379 => (if t379 = 0 then ((abecedarylaw02_awake.f k).bind fun t380 => (some t380)) else (none))) else (none))) = some r := by rw [if_neg (show ¬ (false = true) by decide)] at H; exact H
                        clear H
                        have H := H1
                        clear H1
                        replace H := Option.bind_eq_some_iff.mp H
                        obtain ⟨t378, A1160, H⟩ := H
                        replace H : (if t378 = 0 then ((class_Of.f k y374 a2).bind fun t379 => (if t379 = 0 then ((abecedarylaw02_awake.f k).bind fun t380 => (some t380)) else (none))) else (none)) = some r := H
                        have A116 := Aside0.mk A1160
                        clear A1160
                        by_cases c117 : t378 = 0
                        · rw [if_pos c117] at H
                          have c117b0 : (t378 == 0) = true := beq_iff_eq.mpr c117
                          have c117b1 : (t378 != 0) = false := bne_eq_false_iff_eq.mpr c117
                          clear c117
                          replace H := Option.bind_eq_some_iff.mp H
                          obtain ⟨t379, A1180, H⟩ := H
                          replace H : (if t379 = 0 then ((abecedarylaw02_awake.f k).bind fun t380 => (some t380)) else (none)) = some r := H
                          have A118 := Aside0.mk A1180
                          clear A1180
                          by_cases c119 : t379 = 0
                          · rw [if_pos c119] at H
                            have c119b0 : (t379 == 0) = true := beq_iff_eq.mpr c119
                            have c119b1 : (t379 != 0) = false := bne_eq_false_iff_eq.mpr c119
                            clear c119
                            replace H := Option.bind_eq_some_iff.mp H
                            obtain ⟨t380, A1200, H⟩ := H
                            replace H : (some t380) = some r := H
                            have A120 := Aside0.mk A1200
                            clear A1200
                            obtain rfl := Option.some.inj H
                            go_enter Try.func11, Try.ntmps11
                            go_wp2_with (first | ((with_reducible refine gate_callee (f := 29) rfl ?_); refine goesL_ (some 9) rfl rfl Try.func29 (by kernel_rfl) rfl #[] rfl (by (try simp only [List.map_toArray, List.map_cons, List.map_nil]); first | done | rfl | (simp only [List.length_drop, List.length_take]; rfl)) ?_; (with_reducible refine (abecedarylaw00_Table.calls  t341 _ A4.out).mono ?_); rintro e w121 ⟨v342, rfl, ho0, hb⟩; refine ⟨_, rfl, ?_⟩; have n0_ := Aside0.mk (Kd.R_lower ho0 (below_size (by repeat (first | (with_reducible first | exact HB.out | apply below_alloc | apply pw_below_drewN | apply below_drew1) | exact HB.out)))); have n1_ := Aside0.mk (below_step (by repeat (first | (with_reducible first | exact HB.out | apply below_alloc | apply pw_below_drewN | apply below_drew1) | exact HB.out)) hb); clear HB; have HO343 := n0_; have HB := n1_; clear n0_ n1_; (try clear hb); (try clear hb2); (try clear hk); (try clear hi); (try clear ho0); obtain ⟨Ao122, co122, eo122⟩ := Kd.R_slice HO343.out; subst eo122) | ((with_reducible refine gate_callee (f := 19) rfl ?_); refine goesL_ (some 13) rfl rfl Try.func19 (by kernel_rfl) rfl #[.int .i64 a1, .int .i64 (t341.length : Int)] rfl (by (try simp only [List.map_toArray, List.map_cons, List.map_nil]); first | done | rfl | (simp only [List.length_drop, List.length_take]; rfl)) ?_; (with_reducible refine (abecedarylaw00_Place.calls a1 (t341.length : Int) t344 _ A5.out).mono ?_); rintro e w' ⟨rfl, ⟨nd, rfl⟩⟩; refine ⟨_, rfl, ?_⟩) | ((with_reducible refine gate_callee (f := 25) rfl ?_); refine goesL_ (some 15) rfl rfl Try.func25 (by kernel_rfl) rfl #[.slice Ao122 t341.length co122] rfl (by (try simp only [List.map_toArray, List.map_cons, List.map_nil]); first | done | rfl | (simp only [List.length_drop, List.length_take]; rfl)) ?_; (with_reducible refine (class_Check.calls k _ _ t341 true _ ?side1 ?side2 A6.out).mono ?_); (case side1 => repeat (first | exact (Kd.R_reads' HO343.out).2.2 | (with_reducible refine Kd.C_alloc ?_ _) | (with_reducible refine Kd.C_drewN ?_ _) | (with_reducible refine Kd.C_drew ?_))); (case side2 => exact (Kd.R_reads' HO343.out).2.1); rintro e w123 ⟨rfl, hb⟩; refine ⟨_, rfl, ?_⟩; have n0_ := Aside0.mk (Kd.R_below (by (with_reducible repeat (first | apply Kd.R_alloc | apply Kd.R_drewN | apply Kd.R_drew)); exact HO343.out) hb); have n1_ := Aside0.mk (below_step (by repeat (first | (with_reducible first | exact HB.out | apply below_alloc | apply pw_below_drewN | apply below_drew1) | exact HB.out)) hb); clear HO343; clear HB; have HO343 := n0_; have HB := n1_; clear n0_ n1_; (try clear hb); (try clear hb2); (try clear hk); (try clear hi)) | ((with_reducible refine gate_callee (f := 19) rfl ?_); refine goesL_ (some 18) rfl rfl Try.func19 (by kernel_rfl) rfl #[.int .i64 a0, .int .i64 8] rfl (by (try simp only [List.map_toArray, List.map_cons, List.map_nil]); first | done | rfl | (simp only [List.length_drop, List.length_take]; rfl)) ?_; (with_reducible refine (abecedarylaw00_Place.calls a0 8 t346 _ A8.out).mono ?_); rintro e w' ⟨rfl, ⟨nd, rfl⟩⟩; refine ⟨_, rfl, ?_⟩; have p373 : 0 ≤ (t344 : Int) := of_decide_eq_true (by first | (with_reducible assumption) | assumption); have q373 : t344 < (t341.length : Int) := of_decide_eq_true (by first | (with_reducible assumption) | assumption); obtain ⟨ad373, e373, hx373_0, hx373_1, hx373_2⟩ := at_T43 (Kd.R_reads' HO343.out).2.2 t344 p373 q373; cases e373; replace p373 := eq_true p373; replace q373 := eq_true q373) | ((with_reducible refine gate_builtin (b := .append) (xs := #[.tmp 82, .tmp 87]) rfl ?_); at_builtin; refine Kd.R_append k43 (w0 := w) w.heap.size rfl (.tmp 82) (.tmp 87) 39 43 (.agg #[(.int .i64 0), (.int .i64 0), (.int .i64 0)]) 24 rfl Try.underlying39 info43 rfl (by decide) (by omega) (.slice (some ad373) t341.length co122) t341 (⟨(rd_T43 t341 t344).f0, (rd_T43 t341 t344).f1, (rd_T43 t341 t344).f2⟩ : S43) [.int .i64 ((rd_T43 t341 t344).f0), .int .i64 ((rd_T43 t341 t344).f1), .int .i64 ((rd_T43 t341 t344).f2)] (fun _ => True) (fun _ => False) rfl rfl ?aP (fun _ hk => hk.elim) ?aF ?aO ?aB ?aS ?aL ?_; (case aP => exact k43_mkM _ _ _ (⟨(rd_T43 t341 t344).f0, (rd_T43 t341 t344).f1, (rd_T43 t341 t344).f2⟩ : S43)); (case aB => exact (by repeat (first | (with_reducible first | exact HB.out | apply below_alloc | apply pw_below_drewN | apply below_drew1) | exact HB.out))); (case aF => exact (fun _ _ => trivial)); (case aO => exact (by (with_reducible repeat (first | apply Kd.R_alloc | apply Kd.R_drewN | apply Kd.R_drew)); exact HO343.out)); (case aS => exact (below_size (by repeat (first | (with_reducible first | exact HB.out | apply below_alloc | apply pw_below_drewN | apply below_drew1) | exact HB.out)))); (case aL => have := LMc113.out; omega); intro v375 w124 ho hb hg hat; rw [← Ny374.out] at ho; have n0_ := Aside0.mk (hb); have n1_ := Aside0.mk (ho); clear HB; clear HO343; have HB := n0_; have HO376 := n1_; clear n0_ n1_; clear ho hb hg hat; obtain ⟨Ao125, co125, eo125⟩ := Kd.R_slice HO376.out; subst eo125) | ((with_reducible refine gate_callee (f := 25) rfl ?_); refine goesL_ (some 99) rfl rfl Try.func25 (by kernel_rfl) rfl #[.slice Ao125 y374.length co125] rfl (by (try simp only [List.map_toArray, List.map_cons, List.map_nil]); first | done | rfl | (simp only [List.length_drop, List.length_take]; rfl)) ?_; (with_reducible refine (class_Check.calls k _ _ y374 false _ ?side1 ?side2 A114.out).mono ?_); (case side1 => repeat (first | exact (Kd.R_reads' HO376.out).2.2 | (with_reducible refine Kd.C_alloc ?_ _) | (with_reducible refine Kd.C_drewN ?_ _) | (with_reducible refine Kd.C_drew ?_))); (case side2 => exact (Kd.R_reads' HO376.out).2.1); rintro e w126 ⟨rfl, hb⟩; refine ⟨_, rfl, ?_⟩; have n0_ := Aside0.mk (Kd.R_below (by (with_reducible repeat (first | apply Kd.R_alloc | apply Kd.R_drewN | apply Kd.R_drew)); exact HO376.out) hb); have n1_ := Aside0.mk (below_step (by repeat (first | (with_reducible first | exact HB.out | apply below_alloc | apply pw_below_drewN | apply below_drew1) | exact HB.out)) hb); clear HO376; clear HB; have HO376 := n0_; have HB := n1_; clear n0_ n1_; (try clear hb); (try clear hb2); (try clear hk); (try clear hi)) | (go_at_call 27; (with_reducible refine (class_Of.calls k (fun k_ => some k_ = (.slice Ao125 y374.length co125 : Value).ownBlock) _ _ y374 97 t378 _ ?side1 A116.out).mono ?_); (case side1 => exact Kd.R_V (Kd.R_tight rfl (HO376.out))); rintro e w127 ⟨rfl, hb⟩; have n0_ := Aside0.mk (Kd.R_below (by (with_reducible repeat (first | apply Kd.R_alloc | apply Kd.R_drewN | apply Kd.R_drew)); exact HO376.out) hb); have n1_ := Aside0.mk (below_step (by repeat (first | (with_reducible first | exact HB.out | apply below_alloc | apply pw_below_drewN | apply below_drew1) | exact HB.out)) hb); clear HO376; clear HB; have HO376 := n0_; have HB := n1_; clear n0_ n1_; (try clear hb); (try clear hb2); (try clear hk); (try clear hi)) | (go_at_call 27; (with_reducible refine (class_Of.calls k (fun k_ => some k_ = (.slice Ao125 y374.length co125 : Value).ownBlock) _ _ y374 a2 t379 _ ?side1 A118.out).mono ?_); (case side1 => exact Kd.R_V (Kd.R_tight rfl (HO376.out))); rintro e w128 ⟨rfl, hb⟩; have n0_ := Aside0.mk (Kd.R_below (by (with_reducible repeat (first | apply Kd.R_alloc | apply Kd.R_drewN | apply Kd.R_drew)); exact HO376.out) hb); have n1_ := Aside0.mk (below_step (by repeat (first | (with_reducible first | exact HB.out | apply below_alloc | apply pw_below_drewN | apply below_drew1) | exact HB.out)) hb); clear HO376; clear HB; have HO376 := n0_; have HB := n1_; clear n0_ n1_; (try clear hb); (try clear hb2); (try clear hk); (try clear hi)) | (go_at_call 24; (with_reducible refine (abecedarylaw02_awake.calls k  t380 _ A120.out).mono ?_); rintro e w129 ⟨rfl, hb⟩; have n0_ := Aside0.mk (Kd.R_below (by (with_reducible repeat (first | apply Kd.R_alloc | apply Kd.R_drewN | apply Kd.R_drew)); exact HO376.out) hb); have n1_ := Aside0.mk (below_step (by repeat (first | (with_reducible first | exact HB.out | apply below_alloc | apply pw_below_drewN | apply below_drew1) | exact HB.out)) hb); clear HO376; clear HB; have HO376 := n0_; have HB := n1_; clear n0_ n1_; (try clear hb); (try clear hb2); (try clear hk); (try clear hi)))
                            go_ret
                            exact ⟨by first | rfl | (simp [errW_none, errW_some] <;> rfl) | (simp [*, errW_none, errW_some] <;> rfl), by repeat (first | (with_reducible first | exact HB.out | apply below_alloc | apply pw_below_drewN | apply below_drew1) | exact HB.out)⟩
                          · rw [if_neg c119] at H
                            exact absurd H (by simp)
                        · rw [if_neg c117] at H
                          exact absurd H (by simp)
                    · rw [if_neg c113] at H
                      exact absurd H (by simp)
                  · rw [if_neg c112] at H
                    exact absurd H (by simp)
                · rw [if_neg c111] at H
                  exact absurd H (by simp)
              · rw [if_neg c110] at H
                have c110b0 : (t346 == 5) = false := beq_eq_false_iff_ne.mpr c110
                have c110b1 : (t346 != 5) = true := bne_iff_ne.mpr c110
                by_cases c130 : t346 = 6
                · rw [if_pos c130] at H
                  have c130b0 : (t346 == 6) = true := beq_iff_eq.mpr c130
                  have c130b1 : (t346 != 6) = false := bne_eq_false_iff_eq.mpr c130
                  clear c130
                  by_cases c131 : 0 < (t341.length : Int)
                  · rw [if_pos c131] at H
                    have c131b0 : decide (0 < (t341.length : Int)) = true := decide_eq_true c131
                    have c131b1 : decide (0 < t341.length) = true := decide_eq_true (by omega)
                    clear c131
                    by_cases c132 : 1 < (t341.length : Int)
                    · rw [if_pos c132] at H
                      have c132b0 : decide (1 < (t341.length : Int)) = true := decide_eq_true c132
                      have c132b1 : decide (1 < t341.length) = true := decide_eq_true (by omega)
                      clear c132
                      obtain ⟨y382, hy382⟩ : ∃ y_ : List (S43), y_ = (t341.set (1 : Int).toNat (⟨(rd_T43 t341 0).f1, (rd_T43 t341 1).f1, (rd_T43 t341 1).f2⟩ : S43)) := ⟨_, rfl⟩
                      replace H : ((class_Check.f k y382).bind fun t383 => (if t383 = true then (none) else ((class_Of.f k y382 97).bind fun t384 => (if t384 = 0 then ((class_Of.f k y382 a2).bind fun t385 => (if t385 = 0 then ((abecedarylaw02_awake.f k).bind fun t386 => (some t386)) else (none))) else (none))))) = some r := by first | (rw [hy382]; with_reducible exact H) | (have H2_ := (Option.bind_some _ _).symm.trans H; rw [hy382]; with_reducible exact H2_) | (have H2_ := (Option.bind_some _ _).symm.trans H; with_reducible exact H2_) | with_reducible exact H | (rw [hy382]; exact H) | exact H
                      have Ny382 := Aside0.mk hy382
                      clear hy382
                      replace H := Option.bind_eq_some_iff.mp H
                      obtain ⟨t383, A1340, H⟩ := H
                      replace H : (if t383 = true then (none) else ((class_Of.f k y382 97).bind fun t384 => (if t384 = 0 then ((class_Of.f k y382 a2).bind fun t385 => (if t385 = 0 then ((abecedarylaw02_awake.f k).bind fun t386 => (some t386)) else (none))) else (none)))) = some r := H
                      have A134 := Aside0.mk A1340
                      clear A1340
                      by_cases c135 : t383 = true
                      · subst c135
                        have H1 : (none) = some r := by rw [if_pos rfl] at H; exact H
                        clear H
                        have H := H1
                        clear H1
                        exact absurd H (by simp)
                      · replace c135 := Bool.eq_false_iff.mpr c135
                        subst c135
                        have H1 : ((class_Of.f k y382 97).bind fun t384 => (if t384 = 0 then ((class_Of.f k y382 a2).bind fun t385 => (if t385 = 0 then ((abecedarylaw02_awake.f k).bind fun t386 => (some t386)) else (none))) else (none))) = some r := by rw [if_neg (show ¬ (false = true) by decide)] at H; exact H
                        clear H
                        have H := H1
                        clear H1
                        replace H := Option.bind_eq_some_iff.mp H
                        obtain ⟨t384, A1360, H⟩ := H
                        replace H : (if t384 = 0 then ((class_Of.f k y382 a2).bind fun t385 => (if t385 = 0 then ((abecedarylaw02_awake.f k).bind fun t386 => (some t386)) else (none))) else (none)) = some r := H
                        have A136 := Aside0.mk A1360
                        clear A1360
                        by_cases c137 : t384 = 0
                        · rw [if_pos c137] at H
                          have c137b0 : (t384 == 0) = true := beq_iff_eq.mpr c137
                          have c137b1 : (t384 != 0) = false := bne_eq_false_iff_eq.mpr c137
                          clear c137
                          replace H := Option.bind_eq_some_iff.mp H
                          obtain ⟨t385, A1380, H⟩ := H
                          replace H : (if t385 = 0 then ((abecedarylaw02_awake.f k).bind fun t386 => (some t386)) else (none)) = some r := H
                          have A138 := Aside0.mk A1380
                          clear A1380
                          by_cases c139 : t385 = 0
                          · rw [if_pos c139] at H
                            have c139b0 : (t385 == 0) = true := beq_iff_eq.mpr c139
                            have c139b1 : (t385 != 0) = false := bne_eq_false_iff_eq.mpr c139
                            clear c139
                            replace H := Option.bind_eq_some_iff.mp H
                            obtain ⟨t386, A1400, H⟩ := H
                            replace H : (some t386) = some r := H
                            have A140 := Aside0.mk A1400
                            clear A1400
                            obtain rfl := Option.some.inj H
                            go_enter Try.func11, Try.ntmps11
                            go_wp2_with (first | ((with_reducible refine gate_callee (f := 29) rfl ?_); refine goesL_ (some 9) rfl rfl Try.func29 (by kernel_rfl) rfl #[] rfl (by (try simp only [List.map_toArray, List.map_cons, List.map_nil]); first | done | rfl | (simp only [List.length_drop, List.length_take]; rfl)) ?_; (with_reducible refine (abecedarylaw00_Table.calls  t341 _ A4.out).mono ?_); rintro e w141 ⟨v342, rfl, ho0, hb⟩; refine ⟨_, rfl, ?_⟩; have n0_ := Aside0.mk (Kd.R_lower ho0 (below_size (by repeat (first | (with_reducible first | exact HB.out | apply below_alloc | apply pw_below_drewN | apply below_drew1) | exact HB.out)))); have n1_ := Aside0.mk (below_step (by repeat (first | (with_reducible first | exact HB.out | apply below_alloc | apply pw_below_drewN | apply below_drew1) | exact HB.out)) hb); clear HB; have HO343 := n0_; have HB := n1_; clear n0_ n1_; (try clear hb); (try clear hb2); (try clear hk); (try clear hi); (try clear ho0); obtain ⟨Ao142, co142, eo142⟩ := Kd.R_slice HO343.out; subst eo142) | ((with_reducible refine gate_callee (f := 19) rfl ?_); refine goesL_ (some 13) rfl rfl Try.func19 (by kernel_rfl) rfl #[.int .i64 a1, .int .i64 (t341.length : Int)] rfl (by (try simp only [List.map_toArray, List.map_cons, List.map_nil]); first | done | rfl | (simp only [List.length_drop, List.length_take]; rfl)) ?_; (with_reducible refine (abecedarylaw00_Place.calls a1 (t341.length : Int) t344 _ A5.out).mono ?_); rintro e w' ⟨rfl, ⟨nd, rfl⟩⟩; refine ⟨_, rfl, ?_⟩; (try (rw [drewN_self w141]; generalize hq_ : World.drewN w141 _ = w141; have n0_ : Aside0 (Kd.R k43 43 w141 w.heap.size (fun _ => True) (.slice Ao142 t341.length co142) t341) := ⟨by rw [← hq_]; exact (by (with_reducible repeat (first | apply Kd.R_alloc | apply Kd.R_drewN | apply Kd.R_drew)); exact HO343.out)⟩; have n1_ : Aside0 (Below w.heap.size w w141) := ⟨by rw [← hq_]; exact (by repeat (first | (with_reducible first | exact HB.out | apply below_alloc | apply pw_below_drewN | apply below_drew1) | exact HB.out))⟩; clear HO343 HB hq_; have HO343 := n0_; have HB := n1_; clear n0_ n1_))) | ((with_reducible refine gate_callee (f := 25) rfl ?_); refine goesL_ (some 15) rfl rfl Try.func25 (by kernel_rfl) rfl #[.slice Ao142 t341.length co142] rfl (by (try simp only [List.map_toArray, List.map_cons, List.map_nil]); first | done | rfl | (simp only [List.length_drop, List.length_take]; rfl)) ?_; (with_reducible refine (class_Check.calls k _ _ t341 true _ ?side1 ?side2 A6.out).mono ?_); (case side1 => repeat (first | exact (Kd.R_reads' HO343.out).2.2 | (with_reducible refine Kd.C_alloc ?_ _) | (with_reducible refine Kd.C_drewN ?_ _) | (with_reducible refine Kd.C_drew ?_))); (case side2 => exact (Kd.R_reads' HO343.out).2.1); rintro e w143 ⟨rfl, hb⟩; refine ⟨_, rfl, ?_⟩; have n0_ := Aside0.mk (Kd.R_below (by (with_reducible repeat (first | apply Kd.R_alloc | apply Kd.R_drewN | apply Kd.R_drew)); exact HO343.out) hb); have n1_ := Aside0.mk (below_step (by repeat (first | (with_reducible first | exact HB.out | apply below_alloc | apply pw_below_drewN | apply below_drew1) | exact HB.out)) hb); clear HO343; clear HB; have HO343 := n0_; have HB := n1_; clear n0_ n1_; (try clear hb); (try clear hb2); (try clear hk); (try clear hi)) | ((with_reducible refine gate_callee (f := 19) rfl ?_); refine goesL_ (some 18) rfl rfl Try.func19 (by kernel_rfl) rfl #[.int .i64 a0, .int .i64 8] rfl (by (try simp only [List.map_toArray, List.map_cons, List.map_nil]); first | done | rfl | (simp only [List.length_drop, List.length_take]; rfl)) ?_; (with_reducible refine (abecedarylaw00_Place.calls a0 8 t346 _ A8.out).mono ?_); rintro e w' ⟨rfl, ⟨nd, rfl⟩⟩; refine ⟨_, rfl, ?_⟩; (try (rw [drewN_self w143]; generalize hq_ : World.drewN w143 _ = w143; have n0_ : Aside0 (Kd.R k43 43 w143 w.heap.size (fun _ => True) (.slice Ao142 t341.length co142) t341) := ⟨by rw [← hq_]; exact (by (with_reducible repeat (first | apply Kd.R_alloc | apply Kd.R_drewN | apply Kd.R_drew)); exact HO343.out)⟩; have n1_ : Aside0 (Below w.heap.size w w143) := ⟨by rw [← hq_]; exact (by repeat (first | (with_reducible first | exact HB.out | apply below_alloc | apply pw_below_drewN | apply below_drew1) | exact HB.out))⟩; clear HO343 HB hq_; have HO343 := n0_; have HB := n1_; clear n0_ n1_)); have p381 : 0 ≤ (0 : Int) := (by omega); have q381 : 0 < (t341.length : Int) := of_decide_eq_true (by first | (with_reducible assumption) | assumption); obtain ⟨ad381, e381, hx381_0, hx381_1, hx381_2⟩ := at_T43 (Kd.R_reads' HO343.out).2.2 0 p381 q381; cases e381; have qi381 : (0 < t341.length) = True := eq_true (by omega); (try rw [show ((0 : Int)).toNat = 0 from rfl] at hx381_0); (try rw [show 0 * 3 = 0 from rfl] at hx381_0); (try rw [Addr.add_zero'] at hx381_0); (try rw [show ((0 : Int)).toNat = 0 from rfl] at hx381_1); (try rw [show 0 * 3 = 0 from rfl] at hx381_1); (try rw [Addr.add_zero'] at hx381_1); (try rw [show ((0 : Int)).toNat = 0 from rfl] at hx381_2); (try rw [show 0 * 3 = 0 from rfl] at hx381_2); (try rw [Addr.add_zero'] at hx381_2); replace p381 := eq_true p381; replace q381 := eq_true q381; have p133 : 0 ≤ (1 : Int) := (by omega); have q133 : (1 : Int) < ((t341.length : Int) : Int) := of_decide_eq_true (by first | (with_reducible assumption) | assumption); have qi133 : (1 < t341.length) = True := eq_true (by omega); obtain ⟨go133, co133, eo133, gb133, gl133, cl133, HG133⟩ := Kd.R_form HO343.out (by omega); (first | cases eo133 | (injection eo133 with ea_ en_ ec_; (first | subst ea_ | (injection ea_ with ea_; subst ea_)); subst ec_; clear en_)); have GB133 := Aside0.mk gb133; have GG133 := Aside0.mk HG133; clear gb133 gl133 HG133; (first | simp only [add_plain] at hx381_0 | skip); (first | simp only [add_plain] at hx381_1 | skip); (first | simp only [add_plain] at hx381_2 | skip); obtain ⟨ce133, hcl133, hM133, hcc133, hfr133⟩ := Kd.R_elem HO343.out z43 (1 : Int) p133 q133; obtain rfl := k43_openM hM133; have hx133_0 : w143.cell? ⟨go133, (1 : Int).toNat * 3, none⟩ = some (.int .i64 ((rd_T43 t341 1).f0)) := hcc133 0 _ rfl; have hx133_1 : w143.cell? ⟨go133, (1 : Int).toNat * 3 + 1, none⟩ = some (.int .i64 ((rd_T43 t341 1).f1)) := hcc133 1 _ rfl; have hx133_2 : w143.cell? ⟨go133, (1 : Int).toNat * 3 + 2, none⟩ = some (.int .i64 ((rd_T43 t341 1).f2)) := hcc133 2 _ rfl; have hf133_0 : w143.frozen? ⟨go133, (1 : Int).toNat * 3, none⟩ = false := hfr133 0; have hf133_1 : w143.frozen? ⟨go133, (1 : Int).toNat * 3 + 1, none⟩ = false := hfr133 1; have hf133_2 : w143.frozen? ⟨go133, (1 : Int).toNat * 3 + 2, none⟩ = false := hfr133 2; clear hcl133 hcc133 hfr133 hM133; (try rw [show ((1 : Int)).toNat = 1 from rfl] at hx133_0); (try simp only [Nat.reduceMul, Nat.zero_mul, Nat.zero_add, Nat.reduceAdd] at hx133_0); (try rw [show ((1 : Int)).toNat = 1 from rfl] at hf133_0); (try simp only [Nat.reduceMul, Nat.zero_mul, Nat.zero_add, Nat.reduceAdd] at hf133_0); (try rw [show ((1 : Int)).toNat = 1 from rfl] at hx133_1); (try simp only [Nat.reduceMul, Nat.zero_mul, Nat.zero_add, Nat.reduceAdd] at hx133_1); (try rw [show ((1 : Int)).toNat = 1 from rfl] at hf133_1); (try simp only [Nat.reduceMul, Nat.zero_mul, Nat.zero_add, Nat.reduceAdd] at hf133_1); (try rw [show ((1 : Int)).toNat = 1 from rfl] at hx133_2); (try simp only [Nat.reduceMul, Nat.zero_mul, Nat.zero_add, Nat.reduceAdd] at hx133_2); (try rw [show ((1 : Int)).toNat = 1 from rfl] at hf133_2); (try simp only [Nat.reduceMul, Nat.zero_mul, Nat.zero_add, Nat.reduceAdd] at hf133_2); replace p133 := eq_true p133; replace q133 := eq_true q133; have HX144 := Aside0.mk (show Kd.R k43 43 w143 w.heap.size (fun _ => True) (.slice (some ⟨go133, 0, none⟩) t341.length co142) t341 from (by (with_reducible repeat (first | apply Kd.R_alloc | apply Kd.R_drewN | apply Kd.R_drew)); exact HO343.out)); obtain ⟨ce144, hcl144, hM144, hcc144, hfr144⟩ := Kd.R_elem HX144.out z43 (1 : Int) (by omega) (by have h_ : (1 : Int) < ((t341.length : Int) : Int) := of_decide_eq_true (by first | (with_reducible assumption) | assumption); first | exact h_ | (have e_ := (Kd.R_reads' HO343.out).1; omega) | simpa using h_); obtain rfl := k43_openM hM144; have HP144 := Kd.R_seg HX144.out (1 : Int) (by omega) (by have h_ : (1 : Int) < ((t341.length : Int) : Int) := of_decide_eq_true (by first | (with_reducible assumption) | assumption); first | exact h_ | (have e_ := (Kd.R_reads' HO343.out).1; omega) | simpa using h_) (seg := [.int .i64 ((rd_T43 t341 0).f1)]) (j := 0) hcl144 hcc144 (show 1 ≤ 3 from by decide) (x' := (⟨(rd_T43 t341 0).f1, (rd_T43 t341 1).f1, (rd_T43 t341 1).f2⟩ : S43)) (k43_mkM _ _ _ (⟨(rd_T43 t341 0).f1, (rd_T43 t341 1).f1, (rd_T43 t341 1).f2⟩ : S43) ) (fun _ hk => hk); have hx144_0 := hcc144 0 _ rfl; (try simp only [show (k43).sz = 3 from rfl, Nat.mul_one, Nat.add_zero] at hx144_0); (try rw [show ((1 : Int)).toNat = 1 from rfl] at hx144_0); (try simp only [Nat.reduceMul, Nat.zero_mul, Nat.zero_add, Nat.reduceAdd] at hx144_0); have hf144_0 := hfr144 0; (try simp only [show (k43).sz = 3 from rfl, Nat.mul_one, Nat.add_zero] at hf144_0); (try rw [show ((1 : Int)).toNat = 1 from rfl] at hf144_0); (try simp only [Nat.reduceMul, Nat.zero_mul, Nat.zero_add, Nat.reduceAdd] at hf144_0); clear hcl144 hcc144 hfr144 hM144) | ((with_reducible refine gate_store (t := 3) (p := 97) rfl ?_); refine store_event (t := 3) (p := 97) (v := ?vo_w145) (w1 := (w143.setCell ⟨go133, 3, none⟩ (.int .i64 ((rd_T43 t341 0).f1)))) ?hg ?ho ?hn ?hr ?_; (case ho => rfl); (case hg => rfl); (case hn => rfl); (case hr => first | (go_simp; done) | (go_simp; rfl)); intro w145 hw; have hg : w143.grownBy w145 (some go133) := (by rw [hw]; exact HP144.2); have hp_ : Kd.R k43 43 w145 w.heap.size (fun _ => True) (.slice (some ⟨go133, 0, none⟩) t341.length co142) y382 := (by rw [hw, Ny382.out]; exact HP144.1); clear HP144; have n0_ := Aside0.mk (hp_); have n1_ := Aside0.mk ((by rw [hw]; exact below_set (HB.out) GB133.out : Below w.heap.size w w145)); clear HO343; clear HB; have HO343 := n0_; have HB := n1_; clear n0_ n1_; clear hg hw hp_) | ((with_reducible refine gate_callee (f := 25) rfl ?_); refine goesL_ (some 99) rfl rfl Try.func25 (by kernel_rfl) rfl #[.slice (some ⟨go133, 0, none⟩) y382.length co142] rfl (by (try simp only [List.map_toArray, List.map_cons, List.map_nil]); first | done | (rw [show y382.length = t341.length from (Kd.R_reads' HO343.out).1.symm] <;> rfl) | rfl | (simp only [List.length_drop, List.length_take]; rfl)) ?_; (with_reducible refine (class_Check.calls k _ _ y382 false _ ?side1 ?side2 A134.out).mono ?_); (case side1 => repeat (first | exact (Kd.R_reads' HO343.out).2.2 | (with_reducible refine Kd.C_alloc ?_ _) | (with_reducible refine Kd.C_drewN ?_ _) | (with_reducible refine Kd.C_drew ?_))); (case side2 => rw [show y382.length = t341.length from (Kd.R_reads' HO343.out).1.symm]; exact (Kd.R_reads' HO343.out).2.1); rintro e w146 ⟨rfl, hb⟩; refine ⟨_, rfl, ?_⟩; have n0_ := Aside0.mk (Kd.R_below (by (with_reducible repeat (first | apply Kd.R_alloc | apply Kd.R_drewN | apply Kd.R_drew)); exact HO343.out) hb); have n1_ := Aside0.mk (below_step (by repeat (first | (with_reducible first | exact HB.out | apply below_alloc | apply pw_below_drewN | apply below_drew1) | exact HB.out)) hb); clear HO343; clear HB; have HO343 := n0_; have HB := n1_; clear n0_ n1_; (try clear hb); (try clear hb2); (try clear hk); (try clear hi)) | (go_at_call 27; refine calls_of_args (args' := #[.slice (some ⟨go133, 0, none⟩) y382.length co142, .int .i64 97]) (by first | (rw [show y382.length = t341.length from (Kd.R_reads' HO343.out).1.symm] <;> rfl) | rfl) ?_; (with_reducible refine (class_Of.calls k (fun k_ => some k_ = (.slice (some ⟨go133, 0, none⟩) t341.length co142 : Value).ownBlock) _ _ y382 97 t384 _ ?side1 A136.out).mono ?_); (case side1 => rw [show y382.length = t341.length from (Kd.R_reads' HO343.out).1.symm]; exact Kd.R_V (Kd.R_tight rfl (HO343.out))); rintro e w147 ⟨rfl, hb⟩; have n0_ := Aside0.mk (Kd.R_below (by (with_reducible repeat (first | apply Kd.R_alloc | apply Kd.R_drewN | apply Kd.R_drew)); exact HO343.out) hb); have n1_ := Aside0.mk (below_step (by repeat (first | (with_reducible first | exact HB.out | apply below_alloc | apply pw_below_drewN | apply below_drew1) | exact HB.out)) hb); clear HO343; clear HB; have HO343 := n0_; have HB := n1_; clear n0_ n1_; (try clear hb); (try clear hb2); (try clear hk); (try clear hi)) | (go_at_call 27; refine calls_of_args (args' := #[.slice (some ⟨go133, 0, none⟩) y382.length co142, .int .i64 a2]) (by first | (rw [show y382.length = t341.length from (Kd.R_reads' HO343.out).1.symm] <;> rfl) | rfl) ?_; (with_reducible refine (class_Of.calls k (fun k_ => some k_ = (.slice (some ⟨go133, 0, none⟩) t341.length co142 : Value).ownBlock) _ _ y382 a2 t385 _ ?side1 A138.out).mono ?_); (case side1 => rw [show y382.length = t341.length from (Kd.R_reads' HO343.out).1.symm]; exact Kd.R_V (Kd.R_tight rfl (HO343.out))); rintro e w148 ⟨rfl, hb⟩; have n0_ := Aside0.mk (Kd.R_below (by (with_reducible repeat (first | apply Kd.R_alloc | apply Kd.R_drewN | apply Kd.R_drew)); exact HO343.out) hb); have n1_ := Aside0.mk (below_step (by repeat (first | (with_reducible first | exact HB.out | apply below_alloc | apply pw_below_drewN | apply below_drew1) | exact HB.out)) hb); clear HO343; clear HB; have HO343 := n0_; have HB := n1_; clear n0_ n1_; (try clear hb); (try clear hb2); (try clear hk); (try clear hi)) | (go_at_call 24; (with_reducible refine (abecedarylaw02_awake.calls k  t386 _ A140.out).mono ?_); rintro e w149 ⟨rfl, hb⟩; have n0_ := Aside0.mk (Kd.R_below (by (with_reducible repeat (first | apply Kd.R_alloc | apply Kd.R_drewN | apply Kd.R_drew)); exact HO343.out) hb); have n1_ := Aside0.mk (below_step (by repeat (first | (with_reducible first | exact HB.out | apply below_alloc | apply pw_below_drewN | apply below_drew1) | exact HB.out)) hb); clear HO343; clear HB; have HO343 := n0_; have HB := n1_; clear n0_ n1_; (try clear hb); (try clear hb2); (try clear hk); (try clear hi)))
                            go_ret
                            exact ⟨by first | rfl | (simp [errW_none, errW_some] <;> rfl) | (simp [*, errW_none, errW_some] <;> rfl), by repeat (first | (with_reducible first | exact HB.out | apply below_alloc | apply pw_below_drewN | apply below_drew1) | exact HB.out)⟩
                          · rw [if_neg c139] at H
                            exact absurd H (by simp)
                        · rw [if_neg c137] at H
                          exact absurd H (by simp)
                    · rw [if_neg c132] at H
                      exact absurd H (by simp)
                  · rw [if_neg c131] at H
                    exact absurd H (by simp)
                · rw [if_neg c130] at H
                  have c130b0 : (t346 == 6) = false := beq_eq_false_iff_ne.mpr c130
                  have c130b1 : (t346 != 6) = true := bne_iff_ne.mpr c130
                  have H' := Aside0.mk H
                  clear H
                  go_enter Try.func11, Try.ntmps11
                  go_wp2_with (first | ((with_reducible refine gate_callee (f := 29) rfl ?_); refine goesL_ (some 9) rfl rfl Try.func29 (by kernel_rfl) rfl #[] rfl (by (try simp only [List.map_toArray, List.map_cons, List.map_nil]); first | done | rfl | (simp only [List.length_drop, List.length_take]; rfl)) ?_; (with_reducible refine (abecedarylaw00_Table.calls  t341 _ A4.out).mono ?_); rintro e w150 ⟨v342, rfl, ho0, hb⟩; refine ⟨_, rfl, ?_⟩; have n0_ := Aside0.mk (Kd.R_lower ho0 (below_size (by repeat (first | (with_reducible first | exact HB.out | apply below_alloc | apply pw_below_drewN | apply below_drew1) | exact HB.out)))); have n1_ := Aside0.mk (below_step (by repeat (first | (with_reducible first | exact HB.out | apply below_alloc | apply pw_below_drewN | apply below_drew1) | exact HB.out)) hb); clear HB; have HO343 := n0_; have HB := n1_; clear n0_ n1_; (try clear hb); (try clear hb2); (try clear hk); (try clear hi); (try clear ho0); obtain ⟨Ao151, co151, eo151⟩ := Kd.R_slice HO343.out; subst eo151) | ((with_reducible refine gate_callee (f := 19) rfl ?_); refine goesL_ (some 13) rfl rfl Try.func19 (by kernel_rfl) rfl #[.int .i64 a1, .int .i64 (t341.length : Int)] rfl (by (try simp only [List.map_toArray, List.map_cons, List.map_nil]); first | done | rfl | (simp only [List.length_drop, List.length_take]; rfl)) ?_; (with_reducible refine (abecedarylaw00_Place.calls a1 (t341.length : Int) t344 _ A5.out).mono ?_); rintro e w' ⟨rfl, ⟨nd, rfl⟩⟩; refine ⟨_, rfl, ?_⟩) | ((with_reducible refine gate_callee (f := 25) rfl ?_); refine goesL_ (some 15) rfl rfl Try.func25 (by kernel_rfl) rfl #[.slice Ao151 t341.length co151] rfl (by (try simp only [List.map_toArray, List.map_cons, List.map_nil]); first | done | rfl | (simp only [List.length_drop, List.length_take]; rfl)) ?_; (with_reducible refine (class_Check.calls k _ _ t341 true _ ?side1 ?side2 A6.out).mono ?_); (case side1 => repeat (first | exact (Kd.R_reads' HO343.out).2.2 | (with_reducible refine Kd.C_alloc ?_ _) | (with_reducible refine Kd.C_drewN ?_ _) | (with_reducible refine Kd.C_drew ?_))); (case side2 => exact (Kd.R_reads' HO343.out).2.1); rintro e w152 ⟨rfl, hb⟩; refine ⟨_, rfl, ?_⟩; have n0_ := Aside0.mk (Kd.R_below (by (with_reducible repeat (first | apply Kd.R_alloc | apply Kd.R_drewN | apply Kd.R_drew)); exact HO343.out) hb); have n1_ := Aside0.mk (below_step (by repeat (first | (with_reducible first | exact HB.out | apply below_alloc | apply pw_below_drewN | apply below_drew1) | exact HB.out)) hb); clear HO343; clear HB; have HO343 := n0_; have HB := n1_; clear n0_ n1_; (try clear hb); (try clear hb2); (try clear hk); (try clear hi)) | ((with_reducible refine gate_callee (f := 19) rfl ?_); refine goesL_ (some 18) rfl rfl Try.func19 (by kernel_rfl) rfl #[.int .i64 a0, .int .i64 8] rfl (by (try simp only [List.map_toArray, List.map_cons, List.map_nil]); first | done | rfl | (simp only [List.length_drop, List.length_take]; rfl)) ?_; (with_reducible refine (abecedarylaw00_Place.calls a0 8 t346 _ A8.out).mono ?_); rintro e w' ⟨rfl, ⟨nd, rfl⟩⟩; refine ⟨_, rfl, ?_⟩))
                  go_loopg [7] k (fun kq v7 w' => ∃ (x7_1 : List (S43)), Aside0 (abecedarylaw02_ClassWrong.l0 kq a2 x7_1 = some r) ∧ Aside0 (kq ≤ k) ∧ Aside0 (Kd.R k43 43 w' w.heap.size (fun _ => True) v7 x7_1) ∧ Aside0 (Below w.heap.size w w'))
                  case atStart => exact ⟨(t341), H', ⟨Nat.le_refl _⟩, ⟨by (with_reducible repeat (first | apply Kd.R_alloc | apply Kd.R_drewN | apply Kd.R_drew)); exact HO343.out⟩, ⟨by repeat (first | (with_reducible first | exact HB.out | apply below_alloc | apply pw_below_drewN | apply below_drew1) | exact HB.out)⟩⟩
                  case round =>
                    clear H'
                    try clear c1
                    try clear p1
                    try clear q1
                    try clear hx1
                    try clear qi1
                    try clear c2
                    try clear p2
                    try clear hx2
                    try clear c3
                    try clear p3
                    try clear q3
                    try clear hx3
                    try clear qi3
                    try clear hf3
                    try clear c4
                    try clear hx4
                    try clear hf4
                    try clear c5
                    try clear p5
                    try clear q5
                    try clear hx5
                    try clear hf5
                    try clear c6
                    try clear p6
                    try clear hx6
                    try clear hf6
                    try clear c7
                    try clear p7
                    try clear q7
                    try clear hx7
                    try clear hf7
                    try clear c8
                    try clear hx8
                    try clear hf8
                    try clear c9
                    try clear c9b0
                    try clear c9b1
                    try clear p9
                    try clear q9
                    try clear hx9
                    try clear hf9
                    try clear c10
                    try clear c10b0
                    try clear hx10
                    try clear hf10
                    try clear c11
                    try clear c11b0
                    try clear c12
                    try clear p12
                    try clear q12
                    try clear hx12
                    try clear hf12
                    try clear c13
                    try clear p13
                    try clear q13
                    try clear hx13
                    try clear qi13
                    try clear hf13
                    try clear c14
                    try clear hx14
                    try clear hf14
                    try clear c16
                    try clear c16b0
                    try clear c16b1
                    try clear c18
                    try clear c18b0
                    try clear c18b1
                    try clear c19
                    try clear c23
                    try clear hx23
                    try clear hf23
                    try clear c25
                    try clear c29
                    try clear c29b0
                    try clear c29b1
                    try clear c30
                    try clear c30b0
                    try clear c31
                    try clear c31b0
                    try clear c32
                    try clear p32
                    try clear q32
                    try clear hx32
                    try clear hf32
                    try clear c34
                    try clear p35
                    try clear q35
                    try clear hx35
                    try clear c36
                    try clear c36b0
                    try clear c36b1
                    try clear p37
                    try clear q37
                    try clear hx37
                    try clear c38
                    try clear c38b0
                    try clear c38b1
                    try clear p38
                    try clear q38
                    try clear hx38
                    try clear qi38
                    try clear c43
                    try clear hx43
                    try clear hf43
                    try clear c49
                    try clear c49b0
                    try clear c49b1
                    try clear c50
                    try clear c50b0
                    try clear c51
                    try clear c51b0
                    try clear c52
                    try clear p52
                    try clear q52
                    try clear hx52
                    try clear hf52
                    try clear c54
                    try clear c56
                    try clear c56b0
                    try clear c56b1
                    try clear c58
                    try clear c58b0
                    try clear c58b1
                    try clear c63
                    try clear hx63
                    try clear hf63
                    try clear p64
                    try clear c69
                    try clear c69b0
                    try clear c69b1
                    try clear c70
                    try clear c70b0
                    try clear c71
                    try clear c71b0
                    try clear c72
                    try clear p72
                    try clear q72
                    try clear hx72
                    try clear hf72
                    try clear c74
                    try clear c76
                    try clear c76b0
                    try clear c76b1
                    try clear c78
                    try clear c78b0
                    try clear c78b1
                    try clear c83
                    try clear hx83
                    try clear hf83
                    try clear c89
                    try clear c89b0
                    try clear c89b1
                    try clear c91
                    try clear c91b0
                    try clear c92
                    try clear c92b0
                    try clear c93
                    try clear p93
                    try clear q93
                    try clear hx93
                    try clear hf93
                    try clear c95
                    try clear c97
                    try clear c97b0
                    try clear c97b1
                    try clear c99
                    try clear c99b0
                    try clear c99b1
                    try clear c104
                    try clear hx104
                    try clear hf104
                    try clear c110
                    try clear c110b0
                    try clear c110b1
                    try clear c111
                    try clear c111b0
                    try clear c112
                    try clear c112b0
                    try clear c113
                    try clear c115
                    try clear c117
                    try clear c117b0
                    try clear c117b1
                    try clear c119
                    try clear c119b0
                    try clear c119b1
                    try clear c130
                    try clear c130b0
                    try clear c130b1
                    try clear c131
                    try clear c131b0
                    try clear c131b1
                    try clear c132
                    try clear c132b0
                    try clear c132b1
                    try clear c133
                    try clear p133
                    try clear q133
                    try clear hx133
                    try clear qi133
                    try clear hf133
                    try clear c135
                    try clear c137
                    try clear c137b0
                    try clear c137b1
                    try clear c139
                    try clear c139b0
                    try clear c139b1
                    try clear c144
                    try clear hx144
                    try clear hf144
                    try clear hx104_1
                    try clear hx12_0
                    try clear hx12_1
                    try clear hx12_2
                    try clear hx133_0
                    try clear hx133_1
                    try clear hx133_2
                    try clear hx144_0
                    try clear hx23_2
                    try clear hx32_0
                    try clear hx32_1
                    try clear hx32_2
                    try clear hx357_0
                    try clear hx357_1
                    try clear hx357_2
                    try clear hx373_0
                    try clear hx373_1
                    try clear hx373_2
                    try clear hx381_0
                    try clear hx381_1
                    try clear hx381_2
                    try clear hx43_2
                    try clear hx52_0
                    try clear hx52_1
                    try clear hx52_2
                    try clear hx63_1
                    try clear hx72_0
                    try clear hx72_1
                    try clear hx72_2
                    try clear hx83_0
                    try clear hx93_0
                    try clear hx93_1
                    try clear hx93_2
                    try clear p12
                    try clear p133
                    try clear p32
                    try clear p357
                    try clear p373
                    try clear p381
                    try clear p52
                    try clear p72
                    try clear p93
                    try clear q12
                    try clear q133
                    try clear q32
                    try clear q357
                    try clear q373
                    try clear q381
                    try clear q52
                    try clear q72
                    try clear q93
                    obtain ⟨x7_1, HA, HK1, HO_7, HB⟩ := hrel
                    cases gk with
                    | zero => exact absurd HA.out (by simp [abecedarylaw02_ClassWrong.l0])
                    | succ k1 =>
                      have H := HA.out
                      clear HA
                      simp only [abecedarylaw02_ClassWrong.l0] at H
                      by_cases c153 : (x7_1.length : Int) ≤ 100
                      · rw [if_pos c153] at H
                        have c153b0 : decide ((x7_1.length : Int) ≤ 100) = true := decide_eq_true c153
                        have c153b1 : decide (x7_1.length ≤ 100) = true := decide_eq_true (by omega)
                        clear c153
                        obtain ⟨ji154, hji154⟩ : ∃ j_ : Int, (wrap64 ((x7_1.length : Int) - 1)) = j_ := ⟨_, rfl⟩
                        replace H : (if 0 ≤ (ji154) then (if (ji154) < (x7_1.length : Int) then (if x7_1.length < 5864062014805 then (abecedarylaw02_ClassWrong.l0 k1 a2 (x7_1 ++ [(⟨wrap64 (((rd_T43 x7_1 (ji154)).f1) + 2), wrap64 (((rd_T43 x7_1 (ji154)).f1) + 2), 1⟩ : S43)])) else (none)) else (none)) else (none)) = some r := by first | (rw [hji154] at H; exact H) | (simp only [hji154] at H ⊢; exact H)
                        have hji154w : (IntKind.i64.wrap ((x7_1.length : Int) - 1)) = ji154 := (i64_w _).trans hji154
                        by_cases c155 : 0 ≤ (ji154)
                        · rw [if_pos c155] at H
                          have c155b0 : decide (0 ≤ (ji154)) = true := decide_eq_true c155
                          clear c155
                          by_cases c156 : (ji154) < (x7_1.length : Int)
                          · rw [if_pos c156] at H
                            have c156b0 : decide ((ji154) < (x7_1.length : Int)) = true := decide_eq_true c156
                            clear c156
                            by_cases c157 : x7_1.length < 5864062014805
                            · rw [if_pos c157] at H
                              have LMc157 := Aside0.mk c157
                              clear c157
                              obtain ⟨y389, hy389⟩ : ∃ y_ : List (S43), y_ = (x7_1 ++ [(⟨wrap64 (((rd_T43 x7_1 (ji154)).f1) + 2), wrap64 (((rd_T43 x7_1 (ji154)).f1) + 2), 1⟩ : S43)]) := ⟨_, rfl⟩
                              replace H : (abecedarylaw02_ClassWrong.l0 k1 a2 y389) = some r := by first | (rw [hy389]; with_reducible exact H) | (have H2_ := (Option.bind_some _ _).symm.trans H; rw [hy389]; with_reducible exact H2_) | (have H2_ := (Option.bind_some _ _).symm.trans H; with_reducible exact H2_) | with_reducible exact H | (rw [hy389]; exact H) | exact H
                              have Ny389 := Aside0.mk hy389
                              clear hy389
                              have H' := Aside0.mk H
                              clear H
                              obtain ⟨Ao158, co158, eo158⟩ := Kd.R_slice HO_7.out
                              subst eo158
                              try go_wp2
                              have n0_ := Aside0.mk (Kd.R_drew HO_7.out)
                              have n1_ := Aside0.mk (below_drew1 HB.out)
                              clear HO_7
                              clear HB
                              have HO_7 := n0_
                              have HB := n1_
                              clear n0_ n1_
                              have p387 : 0 ≤ ((ji154) : Int) := of_decide_eq_true (by first | (with_reducible assumption) | assumption)
                              have q387 : (ji154) < (x7_1.length : Int) := of_decide_eq_true (by first | (with_reducible assumption) | assumption)
                              obtain ⟨ad387, e387, hx387_0, hx387_1, hx387_2⟩ := at_T43 (Kd.R_reads' HO_7.out).2.2 (ji154) p387 q387
                              cases e387
                              replace p387 := eq_true p387
                              replace q387 := eq_true q387
                              have p388 : 0 ≤ ((ji154) : Int) := of_decide_eq_true (by first | (with_reducible assumption) | assumption)
                              have q388 : (ji154) < (x7_1.length : Int) := of_decide_eq_true (by first | (with_reducible assumption) | assumption)
                              obtain ⟨ad388, e388, hx388_0, hx388_1, hx388_2⟩ := at_T43 (Kd.R_reads' HO_7.out).2.2 (ji154) p388 q388
                              obtain rfl : ad387 = ad388 := (by injection e388)
                              replace p388 := eq_true p388
                              replace q388 := eq_true q388
                              refine start_ (n := 21) (S := fun w' => w'.cell? (ad387.add (((ji154)).toNat * 3)) = some (.int .i64 ((rd_T43 x7_1 (ji154)).f0)) ∧ w'.cell? ⟨(ad387.add (((ji154)).toNat * 3)).block, (ad387.add (((ji154)).toNat * 3)).off + 1, none⟩ = some (.int .i64 ((rd_T43 x7_1 (ji154)).f1)) ∧ w'.cell? ⟨(ad387.add (((ji154)).toNat * 3)).block, (ad387.add (((ji154)).toNat * 3)).off + 2, none⟩ = some (.int .i64 ((rd_T43 x7_1 (ji154)).f2)) ∧ w'.cell? (ad387.add (((ji154)).toNat * 3)) = some (.int .i64 ((rd_T43 x7_1 (ji154)).f0)) ∧ w'.cell? ⟨(ad387.add (((ji154)).toNat * 3)).block, (ad387.add (((ji154)).toNat * 3)).off + 1, none⟩ = some (.int .i64 ((rd_T43 x7_1 (ji154)).f1)) ∧ w'.cell? ⟨(ad387.add (((ji154)).toNat * 3)).block, (ad387.add (((ji154)).toNat * 3)).off + 2, none⟩ = some (.int .i64 ((rd_T43 x7_1 (ji154)).f2))) (ds := [18, 19]) #[false, false, false, false, false, false, false, false, false, false, false, false, false, false, false, false, false, false, false, false, false] (by kernel_rfl) rfl rfl ⟨hx387_0, hx387_1, hx387_2, hx388_0, hx388_1, hx388_2⟩ (fun hHeld => ?_); refine with_tabW abecedarylaw02_ClassWrong.tab7 abecedarylaw02_ClassWrong.bits7 (fun HT_ HW_ => ?_)
                              generalize wr.drew = w159 at HO_7 HB hx387_0 hx387_1 hx387_2 hx388_0 hx388_1 hx388_2 hHeld ⊢
                              refine pure_ (i := 0) (N := some 22) (v := ?_) (a' := ?_) #[true, false, false, false, false, false, false, false, false, false, false, false, false, false, false, false, false, false, false, false, false] rfl rfl (any_of HT_.out (by kernel_rfl)) (fun _ _ _ h => h) (Or.inl ⟨by rfl, ?_⟩) ?_ ?_
                              rotate_left
                              · intro w'
                                go_simp
                                with_reducible rfl
                              rotate_left
                              · simp only [Act.put, List.setIfInBounds_toArray, List.set_cons_zero, List.set_cons_succ, i64_w, i32_w]
                                rfl
                              refine pure_ (i := 1) (N := some 23) (v := ?_) (a' := ?_) #[true, true, false, false, false, false, false, false, false, false, false, false, false, false, false, false, false, false, false, false, false] rfl rfl (any_of HT_.out (by kernel_rfl)) (fun _ _ _ h => h) (Or.inl ⟨by rfl, ?_⟩) ?_ ?_
                              rotate_left
                              · intro w'
                                go_simp
                                with_reducible rfl
                              rotate_left
                              · simp only [Act.put, List.setIfInBounds_toArray, List.set_cons_zero, List.set_cons_succ, i64_w, i32_w]
                                rfl
                              refine pure_ (i := 2) (N := some 24) (v := ?_) (a' := ?_) #[true, true, true, false, false, false, false, false, false, false, false, false, false, false, false, false, false, false, false, false, false] rfl rfl (any_of HT_.out (by kernel_rfl)) (fun _ _ _ h => h) (Or.inl ⟨by rfl, ?_⟩) ?_ ?_
                              rotate_left
                              · intro w'
                                go_simp
                                with_reducible rfl
                              rotate_left
                              · simp only [Act.put, List.setIfInBounds_toArray, List.set_cons_zero, List.set_cons_succ, i64_w, i32_w]
                                rfl
                              refine pure_ (i := 3) (N := some 25) (v := ?_) (a' := ?_) #[true, true, true, true, false, false, false, false, false, false, false, false, false, false, false, false, false, false, false, false, false] rfl rfl (any_of HT_.out (by kernel_rfl)) (fun _ _ _ h => h) (Or.inl ⟨by rfl, ?_⟩) ?_ ?_
                              rotate_left
                              · intro w'
                                go_simp
                                with_reducible rfl
                              rotate_left
                              · simp only [Act.put, List.setIfInBounds_toArray, List.set_cons_zero, List.set_cons_succ, i64_w, i32_w]
                                rfl
                              refine pure_ (i := 4) (N := some 26) (v := ?_) (a' := ?_) #[true, true, true, true, true, false, false, false, false, false, false, false, false, false, false, false, false, false, false, false, false] rfl rfl (any_of HT_.out (by kernel_rfl)) (fun _ _ _ h => h) (Or.inl ⟨by rfl, ?_⟩) ?_ ?_
                              rotate_left
                              · intro w'
                                go_simp
                                with_reducible rfl
                              rotate_left
                              · simp only [Act.put, List.setIfInBounds_toArray, List.set_cons_zero, List.set_cons_succ, i64_w, i32_w]
                                rfl
                              refine pure_ (i := 5) (N := some 27) (v := ?_) (a' := ?_) #[true, true, true, true, true, true, false, false, false, false, false, false, false, false, false, false, false, false, false, false, false] rfl rfl (any_of HT_.out (by kernel_rfl)) (fun _ _ _ h => h) (Or.inl ⟨by rfl, ?_⟩) ?_ ?_
                              rotate_left
                              · intro w'
                                go_simp
                                with_reducible rfl
                              rotate_left
                              · simp only [Act.put, List.setIfInBounds_toArray, List.set_cons_zero, List.set_cons_succ, i64_w, i32_w]
                                rfl
                              refine pure_ (i := 6) (N := some 28) (v := ?_) (a' := ?_) #[true, true, true, true, true, true, true, false, false, false, false, false, false, false, false, false, false, false, false, false, false] rfl rfl (any_of HT_.out (by kernel_rfl)) (fun _ _ _ h => h) (Or.inl ⟨by rfl, ?_⟩) ?_ ?_
                              rotate_left
                              · intro w'
                                go_simp
                                with_reducible rfl
                              rotate_left
                              · simp only [Act.put, List.setIfInBounds_toArray, List.set_cons_zero, List.set_cons_succ, i64_w, i32_w]
                                rfl
                              refine pure_ (i := 9) (N := some 31) (v := ?_) (a' := ?_) #[true, true, true, true, true, true, true, false, false, true, false, false, false, false, false, false, false, false, false, false, false] rfl rfl (any_of HT_.out (by kernel_rfl)) (fun _ _ _ h => h) (Or.inl ⟨by rfl, ?_⟩) ?_ ?_
                              rotate_left
                              · intro w'
                                go_simp
                                with_reducible rfl
                              rotate_left
                              · simp only [Act.put, List.setIfInBounds_toArray, List.set_cons_zero, List.set_cons_succ, i64_w, i32_w]
                                rfl
                              refine pure_ (i := 10) (N := some 32) (v := ?_) (a' := ?_) #[true, true, true, true, true, true, true, false, false, true, true, false, false, false, false, false, false, false, false, false, false] rfl rfl (any_of HT_.out (by kernel_rfl)) (fun _ _ _ h => h) (Or.inl ⟨by rfl, ?_⟩) ?_ ?_
                              rotate_left
                              · intro w'
                                go_simp
                                with_reducible rfl
                              rotate_left
                              · simp only [Act.put, List.setIfInBounds_toArray, List.set_cons_zero, List.set_cons_succ, i64_w, i32_w]
                                rfl
                              refine pure_ (i := 11) (N := some 33) (v := ?_) (a' := ?_) #[true, true, true, true, true, true, true, false, false, true, true, true, false, false, false, false, false, false, false, false, false] rfl rfl (any_of HT_.out (by kernel_rfl)) (fun _ _ _ h => h) (Or.inl ⟨by rfl, ?_⟩) ?_ ?_
                              rotate_left
                              · intro w'
                                go_simp
                                with_reducible rfl
                              rotate_left
                              · simp only [Act.put, List.setIfInBounds_toArray, List.set_cons_zero, List.set_cons_succ, i64_w, i32_w]
                                rfl
                              refine pure_ (i := 12) (N := some 34) (v := ?_) (a' := ?_) #[true, true, true, true, true, true, true, false, false, true, true, true, true, false, false, false, false, false, false, false, false] rfl rfl (any_of HT_.out (by kernel_rfl)) (fun _ _ _ h => h) (Or.inl ⟨by rfl, ?_⟩) ?_ ?_
                              rotate_left
                              · intro w'
                                go_simp
                                with_reducible rfl
                              rotate_left
                              · simp only [Act.put, List.setIfInBounds_toArray, List.set_cons_zero, List.set_cons_succ, i64_w, i32_w]
                                rfl
                              refine pure_ (i := 13) (N := some 35) (v := ?_) (a' := ?_) #[true, true, true, true, true, true, true, false, false, true, true, true, true, true, false, false, false, false, false, false, false] rfl rfl (any_of HT_.out (by kernel_rfl)) (fun _ _ _ h => h) (Or.inl ⟨by rfl, ?_⟩) ?_ ?_
                              rotate_left
                              · intro w'
                                go_simp
                                with_reducible rfl
                              rotate_left
                              · simp only [Act.put, List.setIfInBounds_toArray, List.set_cons_zero, List.set_cons_succ, i64_w, i32_w]
                                rfl
                              refine pure_ (i := 14) (N := some 36) (v := ?_) (a' := ?_) #[true, true, true, true, true, true, true, false, false, true, true, true, true, true, true, false, false, false, false, false, false] rfl rfl (any_of HT_.out (by kernel_rfl)) (fun _ _ _ h => h) (Or.inl ⟨by rfl, ?_⟩) ?_ ?_
                              rotate_left
                              · intro w'
                                go_simp
                                with_reducible rfl
                              rotate_left
                              · simp only [Act.put, List.setIfInBounds_toArray, List.set_cons_zero, List.set_cons_succ, i64_w, i32_w]
                                rfl
                              refine take_ (i := 7) (N := some 29) (v := ?_) (a' := ?_) #[true, true, true, true, true, true, true, true, false, true, true, true, true, true, true, false, false, false, false, false, false] rfl rfl (take_ofW HT_.out HW_.out (by kernel_rfl)) (fun _ _ _ h => h) (Or.inl ⟨by rfl, ?_⟩) hHeld ?_ ?_
                              rotate_left
                              · rintro w' ⟨s0, s1, s2, s3, s4, s5⟩
                                go_simp
                                with_reducible rfl
                              rotate_left
                              · simp only [Act.put, List.setIfInBounds_toArray, List.set_cons_zero, List.set_cons_succ, i64_w, i32_w]
                                rfl
                              refine pure_ (i := 8) (N := some 30) (v := ?_) (a' := ?_) #[true, true, true, true, true, true, true, true, true, true, true, true, true, true, true, false, false, false, false, false, false] rfl rfl (any_of HT_.out (by kernel_rfl)) (fun _ _ _ h => h) (Or.inl ⟨by rfl, ?_⟩) ?_ ?_
                              rotate_left
                              · intro w'
                                go_simp
                                with_reducible rfl
                              rotate_left
                              · simp only [Act.put, List.setIfInBounds_toArray, List.set_cons_zero, List.set_cons_succ, i64_w, i32_w]
                                rfl
                              refine take_ (i := 15) (N := some 37) (v := ?_) (a' := ?_) #[true, true, true, true, true, true, true, true, true, true, true, true, true, true, true, true, false, false, false, false, false] rfl rfl (take_ofW HT_.out HW_.out (by kernel_rfl)) (fun _ _ _ h => h) (Or.inl ⟨by rfl, ?_⟩) hHeld ?_ ?_
                              rotate_left
                              · rintro w' ⟨s0, s1, s2, s3, s4, s5⟩
                                go_simp
                                with_reducible rfl
                              rotate_left
                              · simp only [Act.put, List.setIfInBounds_toArray, List.set_cons_zero, List.set_cons_succ, i64_w, i32_w]
                                rfl
                              refine pure_ (i := 16) (N := some 38) (v := ?_) (a' := ?_) #[true, true, true, true, true, true, true, true, true, true, true, true, true, true, true, true, true, false, false, false, false] rfl rfl (any_of HT_.out (by kernel_rfl)) (fun _ _ _ h => h) (Or.inl ⟨by rfl, ?_⟩) ?_ ?_
                              rotate_left
                              · intro w'
                                go_simp
                                with_reducible rfl
                              rotate_left
                              · simp only [Act.put, List.setIfInBounds_toArray, List.set_cons_zero, List.set_cons_succ, i64_w, i32_w]
                                rfl
                              refine pure_ (i := 17) (N := some 39) (v := ?_) (a' := ?_) #[true, true, true, true, true, true, true, true, true, true, true, true, true, true, true, true, true, true, false, false, false] rfl rfl (any_of HT_.out (by kernel_rfl)) (fun _ _ _ h => h) (Or.inl ⟨by rfl, ?_⟩) ?_ ?_
                              rotate_left
                              · intro w'
                                go_simp
                                with_reducible rfl
                              rotate_left
                              · simp only [Act.put, List.setIfInBounds_toArray, List.set_cons_zero, List.set_cons_succ, i64_w, i32_w]
                                rfl
                              refine last_ (i := 18) (N := some 40) #[true, true, true, true, true, true, true, true, true, true, true, true, true, true, true, true, true, true, true, false, false] rfl rfl (one_of HT_.out (by kernel_rfl)) (by decide) (fun K hK => ?_)
                              refine value_ (w1 := ?_) (v := ?_) (by rfl) rfl ?_ ?_
                              rotate_left 2
                              · go_simp
                                constructor
                                · rfl
                                · rfl
                              refine hK.out _ _ ?_
                              clear hK K
                              refine norm_ (a' := ?_) ?_ ?_
                              rotate_left
                              · show Act.put _ (some 40) _ = _
                                simp only [Act.put, List.setIfInBounds_toArray, List.set_cons_zero, List.set_cons_succ, i64_w, i32_w]
                                rfl
                              refine last_ (i := 19) (N := some 41) #[true, true, true, true, true, true, true, true, true, true, true, true, true, true, true, true, true, true, true, true, false] rfl rfl (one_of HT_.out (by kernel_rfl)) (by decide) (fun K hK => ?_)
                              refine Kd.R_append_step k43 (w0 := w) w.heap.size (by rfl) (.tmp 22) (.tmp 40) 39 43 (.agg #[(.int .i64 0), (.int .i64 0), (.int .i64 0)]) 24 rfl Try.underlying39 info43 rfl (by decide) (by omega) (.slice (some ad387) x7_1.length co158) x7_1 (⟨wrap64 (((rd_T43 x7_1 (ji154)).f1) + 2), wrap64 (((rd_T43 x7_1 (ji154)).f1) + 2), 1⟩ : S43) [.int .i64 (wrap64 (((rd_T43 x7_1 (ji154)).f1) + 2)), .int .i64 (wrap64 (((rd_T43 x7_1 (ji154)).f1) + 2)), .int .i64 1] (fun _ => True) (fun _ => False) rfl rfl ?aP (fun _ hk => hk.elim) ?aF ?aO ?aB ?aS ?aL ?_
                              (case aP => exact k43_mkM _ _ _ (⟨wrap64 (((rd_T43 x7_1 (ji154)).f1) + 2), wrap64 (((rd_T43 x7_1 (ji154)).f1) + 2), 1⟩ : S43))
                              (case aB => exact (by repeat (first | (with_reducible first | exact HB.out | apply below_alloc | apply pw_below_drewN | apply below_drew1) | exact HB.out)))
                              (case aF => exact (fun _ _ => trivial))
                              (case aO => exact (by (with_reducible repeat (first | apply Kd.R_alloc | apply Kd.R_drewN | apply Kd.R_drew)); exact HO_7.out))
                              (case aS => exact (below_size (by repeat (first | (with_reducible first | exact HB.out | apply below_alloc | apply pw_below_drewN | apply below_drew1) | exact HB.out))))
                              (case aL => have := LMc157.out; omega)
                              intro v390 w160 ho hb hg hat
                              rw [← Ny389.out] at ho
                              have n0_ := Aside0.mk (hb)
                              have n1_ := Aside0.mk (ho)
                              clear HB
                              clear HO_7
                              have HB := n0_
                              have HO391 := n1_
                              clear n0_ n1_
                              clear ho hb hg hat
                              refine hK.out _ _ ?_
                              clear hK K
                              refine norm_ (a' := ?_) ?_ ?_
                              rotate_left
                              · show Act.put _ (some 41) _ = _
                                simp only [Act.put, List.setIfInBounds_toArray, List.set_cons_zero, List.set_cons_succ, i64_w, i32_w]
                                rfl
                              refine pure_ (i := 20) (N := some 7) (v := ?_) (a' := ?_) #[true, true, true, true, true, true, true, true, true, true, true, true, true, true, true, true, true, true, true, true, true] rfl rfl (any_of HT_.out (by kernel_rfl)) (fun _ _ _ h => h) (Or.inl ⟨by rfl, ?_⟩) ?_ ?_
                              rotate_left
                              · intro w'
                                go_simp
                                with_reducible rfl
                              rotate_left
                              · simp only [Act.put, List.setIfInBounds_toArray, List.set_cons_zero, List.set_cons_succ, i64_w, i32_w]
                                rfl
                              refine done_ (done_of HT_.out (by kernel_rfl)) ?_
                              try go_wp2
                              go_roundg k1
                              case measure => have := HK1.out; omega
                              case rel => exact ⟨(y389), H', ⟨by have := HK1.out; omega⟩, ⟨by (with_reducible repeat (first | apply Kd.R_alloc | apply Kd.R_drewN | apply Kd.R_drew)); exact HO391.out⟩, ⟨by repeat (first | (with_reducible first | exact HB.out | apply below_alloc | apply pw_below_drewN | apply below_drew1) | exact HB.out)⟩⟩
                            · rw [if_neg c157] at H
                              exact absurd H (by simp)
                          · rw [if_neg c156] at H
                            exact absurd H (by simp)
                        · rw [if_neg c155] at H
                          exact absurd H (by simp)
                      · rw [if_neg c153] at H
                        have c153b0 : decide ((x7_1.length : Int) ≤ 100) = false := decide_eq_false c153
                        have c153b1 : decide (x7_1.length ≤ 100) = false := decide_eq_false (by omega)
                        clear c153
                        replace H := Option.bind_eq_some_iff.mp H
                        obtain ⟨t392, A1610, H⟩ := H
                        replace H : (if t392 = true then (none) else ((class_Of.f k1 x7_1 97).bind fun t393 => (if t393 = 0 then ((class_Of.f k1 x7_1 a2).bind fun t394 => (if t394 = 0 then ((abecedarylaw02_awake.f k1).bind fun t395 => (some t395)) else (none))) else (none)))) = some r := H
                        have A161 := Aside0.mk A1610
                        clear A1610
                        by_cases c162 : t392 = true
                        · subst c162
                          have H1 : (none) = some r := by rw [if_pos rfl] at H; exact H
                          clear H
                          have H := H1
                          clear H1
                          exact absurd H (by simp)
                        · replace c162 := Bool.eq_false_iff.mpr c162
                          subst c162
                          have H1 : ((class_Of.f k1 x7_1 97).bind fun t393 => (if t393 = 0 then ((class_Of.f k1 x7_1 a2).bind fun t394 => (if t394 = 0 then ((abecedarylaw02_awake.f k1).bind fun t395 => (some t395)) else (none))) else (none))) = some r := by rw [if_neg (show ¬ (false = true) by decide)] at H; exact H
                          clear H
                          have H := H1
                          clear H1
                          replace H := Option.bind_eq_some_iff.mp H
                          obtain ⟨t393, A1630, H⟩ := H
                          replace H : (if t393 = 0 then ((class_Of.f k1 x7_1 a2).bind fun t394 => (if t394 = 0 then ((abecedarylaw02_awake.f k1).bind fun t395 => (some t395)) else (none))) else (none)) = some r := H
                          have A163 := Aside0.mk A1630
                          clear A1630
                          by_cases c164 : t393 = 0
                          · rw [if_pos c164] at H
                            have c164b0 : (t393 == 0) = true := beq_iff_eq.mpr c164
                            have c164b1 : (t393 != 0) = false := bne_eq_false_iff_eq.mpr c164
                            clear c164
                            replace H := Option.bind_eq_some_iff.mp H
                            obtain ⟨t394, A1650, H⟩ := H
                            replace H : (if t394 = 0 then ((abecedarylaw02_awake.f k1).bind fun t395 => (some t395)) else (none)) = some r := H
                            have A165 := Aside0.mk A1650
                            clear A1650
                            by_cases c166 : t394 = 0
                            · rw [if_pos c166] at H
                              have c166b0 : (t394 == 0) = true := beq_iff_eq.mpr c166
                              have c166b1 : (t394 != 0) = false := bne_eq_false_iff_eq.mpr c166
                              clear c166
                              replace H := Option.bind_eq_some_iff.mp H
                              obtain ⟨t395, A1670, H⟩ := H
                              replace H : (some t395) = some r := H
                              have A167 := Aside0.mk A1670
                              clear A1670
                              obtain rfl := Option.some.inj H
                              obtain ⟨Ao168, co168, eo168⟩ := Kd.R_slice HO_7.out
                              subst eo168
                              go_wp2_with (first | ((with_reducible refine gate_callee (f := 25) rfl ?_); refine goesL_ (some 99) rfl rfl Try.func25 (by kernel_rfl) rfl #[.slice Ao168 x7_1.length co168] rfl (by (try simp only [List.map_toArray, List.map_cons, List.map_nil]); first | done | rfl | (simp only [List.length_drop, List.length_take]; rfl)) ?_; (with_reducible refine (class_Check.calls k1 _ _ x7_1 false _ ?side1 ?side2 A161.out).mono ?_); (case side1 => repeat (first | exact (Kd.R_reads' HO_7.out).2.2 | (with_reducible refine Kd.C_alloc ?_ _) | (with_reducible refine Kd.C_drewN ?_ _) | (with_reducible refine Kd.C_drew ?_))); (case side2 => exact (Kd.R_reads' HO_7.out).2.1); rintro e w169 ⟨rfl, hb⟩; refine ⟨_, rfl, ?_⟩; have n0_ := Aside0.mk (Kd.R_below (by (with_reducible repeat (first | apply Kd.R_alloc | apply Kd.R_drewN | apply Kd.R_drew)); exact HO_7.out) hb); have n1_ := Aside0.mk (below_step (by repeat (first | (with_reducible first | exact HB.out | apply below_alloc | apply pw_below_drewN | apply below_drew1) | exact HB.out)) hb); clear HO_7; clear HB; have HO_7 := n0_; have HB := n1_; clear n0_ n1_; (try clear hb); (try clear hb2); (try clear hk); (try clear hi)) | (go_at_call 27; (with_reducible refine (class_Of.calls k1 (fun k_ => some k_ = (.slice Ao168 x7_1.length co168 : Value).ownBlock) _ _ x7_1 97 t393 _ ?side1 A163.out).mono ?_); (case side1 => exact Kd.R_V (Kd.R_tight rfl (HO_7.out))); rintro e w170 ⟨rfl, hb⟩; have n0_ := Aside0.mk (Kd.R_below (by (with_reducible repeat (first | apply Kd.R_alloc | apply Kd.R_drewN | apply Kd.R_drew)); exact HO_7.out) hb); have n1_ := Aside0.mk (below_step (by repeat (first | (with_reducible first | exact HB.out | apply below_alloc | apply pw_below_drewN | apply below_drew1) | exact HB.out)) hb); clear HO_7; clear HB; have HO_7 := n0_; have HB := n1_; clear n0_ n1_; (try clear hb); (try clear hb2); (try clear hk); (try clear hi)) | (go_at_call 27; (with_reducible refine (class_Of.calls k1 (fun k_ => some k_ = (.slice Ao168 x7_1.length co168 : Value).ownBlock) _ _ x7_1 a2 t394 _ ?side1 A165.out).mono ?_); (case side1 => exact Kd.R_V (Kd.R_tight rfl (HO_7.out))); rintro e w171 ⟨rfl, hb⟩; have n0_ := Aside0.mk (Kd.R_below (by (with_reducible repeat (first | apply Kd.R_alloc | apply Kd.R_drewN | apply Kd.R_drew)); exact HO_7.out) hb); have n1_ := Aside0.mk (below_step (by repeat (first | (with_reducible first | exact HB.out | apply below_alloc | apply pw_below_drewN | apply below_drew1) | exact HB.out)) hb); clear HO_7; clear HB; have HO_7 := n0_; have HB := n1_; clear n0_ n1_; (try clear hb); (try clear hb2); (try clear hk); (try clear hi)) | (go_at_call 24; (with_reducible refine (abecedarylaw02_awake.calls k1  t395 _ A167.out).mono ?_); rintro e w172 ⟨rfl, hb⟩; have n0_ := Aside0.mk (Kd.R_below (by (with_reducible repeat (first | apply Kd.R_alloc | apply Kd.R_drewN | apply Kd.R_drew)); exact HO_7.out) hb); have n1_ := Aside0.mk (below_step (by repeat (first | (with_reducible first | exact HB.out | apply below_alloc | apply pw_below_drewN | apply below_drew1) | exact HB.out)) hb); clear HO_7; clear HB; have HO_7 := n0_; have HB := n1_; clear n0_ n1_; (try clear hb); (try clear hb2); (try clear hk); (try clear hi)))
                              go_ret
                              exact ⟨by first | rfl | (simp [errW_none, errW_some] <;> rfl) | (simp [*, errW_none, errW_some] <;> rfl), by repeat (first | (with_reducible first | exact HB.out | apply below_alloc | apply pw_below_drewN | apply below_drew1) | exact HB.out)⟩
                            · rw [if_neg c166] at H
                              exact absurd H (by simp)
                          · rw [if_neg c164] at H
                            exact absurd H (by simp)
  · replace c7 := Bool.eq_false_iff.mpr c7
    subst c7
    have H1 : (none) = some r := by rw [if_neg (show ¬ (false = true) by decide)] at H; exact H
    clear H
    have H := H1
    clear H1
    exact absurd H (by simp)

/-- THE ONE PURE STATEMENT of abecedarylaw02_ClassWrong: yours. -/
def abecedarylaw02_ClassWrong.Pure : Prop := ∀ (a0 : Int) (a1 : Int) (a2 : Int), (Lit.int .i64 a0).wf = true → (Lit.int .i64 a1).wf = true → (Lit.int .i64 a2).wf = true → ∃ k, abecedarylaw02_ClassWrong.f k a0 a1 a2 = some true
theorem abecedarylaw02_ClassWrong.walk (P : abecedarylaw02_ClassWrong.Pure) (a0 : Int) (a1 : Int) (a2 : Int) (w : World) (w0 : (Lit.int .i64 a0).wf = true) (w1 : (Lit.int .i64 a1).wf = true) (w2 : (Lit.int .i64 a2).wf = true) :
    Calls Try.prog 11 #[.int .i64 a0, .int .i64 a1, .int .i64 a2] w fun e w' => e = .returned (.bool true) ∧ Below w.heap.size w w' := by
  obtain ⟨k, h⟩ := P a0 a1 a2 w0 w1 w2
  refine (abecedarylaw02_ClassWrong.calls k a0 a1 a2 true w h).mono ?_
  rintro e w' ⟨rfl, hd⟩
  exact ⟨rfl, hd⟩

end Go.Proofs.Ytedjfmlmoommnaa.Q

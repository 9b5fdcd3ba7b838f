/- dist: Near, the laws' example. -/
import Derived.Test.YtenfaneaihdppaaFar1
namespace Go.Proofs.Ytenfaneaihdppaa
set_option linter.unusedVariables false
open Go.RowKit Go.Deep Go.Own
theorem near_calls (A B : Option Addr) (ca cb : Nat) (a b : List Int) (m : Int) (w : World) (ha : a.length ≤ 1000) (hb : b.length ≤ 1000) (hA : Reads w A a) (hB : Reads w B b) :
    Calls Try.prog 9 #[.slice A a.length ca, .slice B b.length cb, .int .i64 m] w fun e w' => e = .returned (.tuple #[.int .i64 (if m < (Dst.far a b : Nat) then 0 else (Dst.far a b : Nat)), .bool (decide ((Dst.far a b : Nat) ≤ m))]) ∧ Below w.heap.size w w' := by
  have HA := Lib.hid hA
  have HB := Lib.hid hB
  clear hA hB
  by_cases h : m < (Dst.far a b : Nat)
  · rw [if_pos h, decide_eq_false (by omega)]
    go_enter Try.func9, Try.ntmps9
    go_wp2_with (go_at_call 10; refine (far_calls A B ca cb a b _ ha hb HA.out HB.out).mono ?_; rintro e w' ⟨rfl, hbl⟩)
    go_ret2
    exact ⟨rfl, hbl⟩
  · rw [if_neg h, decide_eq_true (by omega)]
    go_enter Try.func9, Try.ntmps9
    go_wp2_with (go_at_call 10; refine (far_calls A B ca cb a b _ ha hb HA.out HB.out).mono ?_; rintro e w' ⟨rfl, hbl⟩)
    go_ret2
    exact ⟨rfl, hbl⟩
theorem far12 : Dst.far [1, 2] [2, 1] = 1 := by decide
theorem far31 : Dst.far [3, 1] [1, 2, 3] = 3 := by decide
theorem awake_calls (w : World) : Calls Try.prog 7 #[] w fun e w' => e = .returned (.bool true) ∧ Below w.heap.size w w' := by
  have c1 : ∀ w : World, Calls Try.prog 9 #[.slice (some ⟨w.heap.size, 0, none⟩) 2 2, .slice (some ⟨w.heap.size + 1, 0, none⟩) 2 2, .int .i64 1] ((w.alloc (.cells #[.int .i64 1, .int .i64 2] 3)).alloc (.cells #[.int .i64 2, .int .i64 1] 3)) fun e w' => e = .returned (.tuple #[.int .i64 1, .bool true]) ∧ Below w.heap.size w w' := by
    intro w
    have h2 := reads2 (w.alloc (.cells #[.int .i64 1, .int .i64 2] 3)) 2 1
    rw [World.size_alloc] at h2
    refine (near_calls _ _ 2 2 [1, 2] [2, 1] 1 _ (by decide) (by decide) ((reads2 w 1 2).alloc _) h2).mono fun e w' ⟨he, hb⟩ => ⟨?_, ?_⟩
    · rw [he, far12]; rfl
    · exact (((Below.refl _ _).alloc (Nat.le_refl _) _).alloc (by simp) _).trans (hb.mono (by simp; omega))
  have c2 : ∀ w : World, Calls Try.prog 10 #[.slice (some ⟨w.heap.size, 0, none⟩) 2 2, .slice (some ⟨w.heap.size + 1, 0, none⟩) 2 2] ((w.alloc (.cells #[.int .i64 1, .int .i64 2] 3)).alloc (.cells #[.int .i64 2, .int .i64 1] 3)) fun e w' => e = .returned (.int .i64 1) ∧ Below w.heap.size w w' := by
    intro w
    have h2 := reads2 (w.alloc (.cells #[.int .i64 1, .int .i64 2] 3)) 2 1
    rw [World.size_alloc] at h2
    refine (far_calls _ _ 2 2 [1, 2] [2, 1] _ (by decide) (by decide) ((reads2 w 1 2).alloc _) h2).mono fun e w' ⟨he, hb⟩ => ⟨?_, ?_⟩
    · rw [he, far12]; rfl
    · exact (((Below.refl _ _).alloc (Nat.le_refl _) _).alloc (by simp) _).trans (hb.mono (by simp; omega))
  have c3 : ∀ w : World, Calls Try.prog 10 #[.slice (some ⟨w.heap.size, 0, none⟩) 2 2, .slice (some ⟨w.heap.size + 1, 0, none⟩) 3 3] ((w.alloc (.cells #[.int .i64 3, .int .i64 1] 3)).alloc (.cells #[.int .i64 1, .int .i64 2, .int .i64 3] 3)) fun e w' => e = .returned (.int .i64 3) ∧ Below w.heap.size w w' := by
    intro w
    have h2 := reads3 (w.alloc (.cells #[.int .i64 3, .int .i64 1] 3)) 1 2 3
    rw [World.size_alloc] at h2
    refine (far_calls _ _ 2 3 [3, 1] [1, 2, 3] _ (by decide) (by decide) ((reads2 w 3 1).alloc _) h2).mono fun e w' ⟨he, hb⟩ => ⟨?_, ?_⟩
    · rw [he, far31]; rfl
    · exact (((Below.refl _ _).alloc (Nat.le_refl _) _).alloc (by simp) _).trans (hb.mono (by simp; omega))
  go_enter Try.func7, Try.ntmps7
  go_wp2_with fail
  refine (c1 _).mono ?_
  rintro e w1 ⟨rfl, h1⟩
  go_wp2_with fail
  refine (c2 _).mono ?_
  rintro e w2 ⟨rfl, h2⟩
  go_wp2_with fail
  refine (c3 _).mono ?_
  rintro e w3 ⟨rfl, h3⟩
  go_wp2_with fail
  go_ret
  exact ⟨rfl, (h1.trans (h2.mono h1.size)).trans (h3.mono (Nat.le_trans h1.size h2.size))⟩
end Go.Proofs.Ytenfaneaihdppaa

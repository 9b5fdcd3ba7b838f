/- SameInts, Place. -/
import Derived.Test.YtenfaneaihdppaaDistB
import Derived.Test.YtenfaneaihdppaaAp
namespace Go.Proofs.Ytenfaneaihdppaa
set_option linter.unusedVariables false
open Go.RowKit Go.Deep Go.Own
theorem tmod_neg {v n : Int} (hn : 0 < n) (h : v.tmod n < 0) : v % n = v.tmod n + n := by
  have h0 := Int.emod_nonneg v (show n ≠ 0 by omega)
  have h1 := Int.emod_lt_of_pos v hn
  rw [Int.tmod_eq_emod] at h ⊢
  split at h
  · omega
  · rename_i hh; rw [if_neg hh]; simp only [Int.natAbs_of_nonneg (show 0 ≤ n by omega)]; omega
theorem tmod_pos {v n : Int} (hn : 0 < n) (h : ¬ v.tmod n < 0) : v % n = v.tmod n := by
  have h0 := Int.emod_nonneg v (show n ≠ 0 by omega)
  have h1 := Int.emod_lt_of_pos v hn
  rw [Int.tmod_eq_emod] at h ⊢
  split at h
  · rename_i hh; rw [if_pos hh]; omega
  · rename_i hh; simp only [Int.natAbs_of_nonneg (show 0 ≤ n by omega)] at h; omega
theorem place_calls (v n : Int) (w : World) (hn : 0 < n) (hn' : n ≤ 1099511627776) :
    Calls Try.prog 12 #[.int .i64 v, .int .i64 n] w fun e w' => e = .returned (.int .i64 (v % n)) ∧ w = w' := by
  have hne : (n == 0) = false := by simp; omega
  have hne1 : (n == -1) = false := by simp; omega
  have t1 := Int.tmod_lt_of_pos v hn
  have t2 : -n < v.tmod n := Int.lt_tmod_of_pos v hn
  by_cases h : v.tmod n < 0
  · have E := Lib.hid (tmod_neg hn h)
    go_enter Try.func12, Try.ntmps12
    go_wp2
    go_ret
    exact ⟨ret_int E.out.symm, rfl⟩
  · have E := Lib.hid (tmod_pos hn h)
    go_enter Try.func12, Try.ntmps12
    go_wp2
    go_ret
    exact ⟨ret_int E.out.symm, rfl⟩
theorem same_calls (A : Option Addr) (ca : Nat) (a : List Int) (B : Option Addr) (cb : Nat) (b : List Int) (w : World) (hA : Reads w A a) (hB : Reads w B b) (hla : a.length ≤ 9223372036854775807) (hlb : b.length ≤ 9223372036854775807) :
    Calls Try.prog 11 #[.slice A a.length ca, .slice B b.length cb] w fun e w' => e = .returned (.bool (decide (a = b))) ∧ Below w.heap.size w w' := by
  by_cases hl : a.length = b.length
  · have Hl := Lib.hid hl
    have g1' : ((a.length : Int) != (b.length : Int)) = false := by rw [hl]; simp
    clear hl
    go_enter Try.func11, Try.ntmps11
    go_wp2
    go_loopw [5] (fun t wr => ∃ i : Nat, i ≤ a.length ∧ t = .int .i64 (i : Nat) ∧ Below w.heap.size w wr ∧ ∀ j, j < i → a.getD j 0 = b.getD j 0) (fun t _ => a.length - (intOf t).toNat)
    case atStart => exact ⟨0, by omega, rfl, Below.refl _ _, fun j h => by omega⟩
    case round =>
      obtain ⟨i, hi, rfl, hbl, hS⟩ := hrel
      by_cases hin : i < a.length
      · obtain ⟨ba, oa, rfl, hA'⟩ := hA (by omega)
        obtain ⟨bb, ob, rfl, hB'⟩ := hB (by have := Hl.out; omega)
        have hib : i < b.length := by have := Hl.out; omega
        have x1 := hA' _ (since_of_below hbl) i hin
        have x2 := hB' _ (since_of_below hbl) i hib
        obtain ⟨x, hx⟩ : ∃ x, x = a.getD i 0 := ⟨_, rfl⟩
        obtain ⟨y, hy⟩ : ∃ y, y = b.getD i 0 := ⟨_, rfl⟩
        rw [← hx] at x1
        rw [← hy] at x2
        have HX := Lib.hid hx
        have HY := Lib.hid hy
        clear hx hy hA hB hA' hB'
        by_cases hxy : x = y
        · have g2 : (x != y) = false := by simpa using hxy
          have HXY := Lib.hid hxy
          clear hxy
          go_wp2
          go_quiet (fail)
          go_wp2
          go_roundw
          case rel => exact ⟨i + 1, by omega, by go_num, ⟨hbl.os, hbl.tape, hbl.output, hbl.size, hbl.block⟩, fun j hj => by
            by_cases e : j = i
            · subst e; rw [← HX.out, ← HY.out, HXY.out]
            · exact hS j (by omega)⟩
          case measure => simp [intOf]; omega
        · have g2 : (x != y) = true := by simpa using hxy
          have HXY := Lib.hid hxy
          clear hxy
          go_wp2
          go_quiet (fail)
          go_wp2
          go_ret
          refine ⟨?_, ⟨hbl.os, hbl.tape, hbl.output, hbl.size, hbl.block⟩⟩
          rw [decide_eq_false]; · rfl
          intro e; apply HXY.out; rw [HX.out, HY.out, e]
      · have hin' : i = a.length := by omega
        have HI := Lib.hid hin'
        clear hin'
        go_wp2
        go_ret
        refine ⟨?_, hbl⟩
        rw [decide_eq_true]; · rfl
        refine List.ext_getElem Hl.out fun j hj hj' => ?_
        have := hS j (by have := HI.out; omega)
        simpa [List.getD_eq_getElem?_getD, hj, hj'] using this
  · have g1' : ((a.length : Int) != (b.length : Int)) = true := by simp; omega
    have Hl := Lib.hid hl
    clear hl
    go_enter Try.func11, Try.ntmps11
    go_wp2
    go_ret
    refine ⟨?_, Below.refl _ _⟩
    rw [decide_eq_false]; · rfl
    intro e; exact Hl.out (by rw [e])
end Go.Proofs.Ytenfaneaihdppaa

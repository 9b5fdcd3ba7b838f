/- The laws' Place. -/
import Derived.Test.YtmcnnfpeicnnjaaDoorRow
import Derived.Test.YtmcnnfpeicnnjaaDoorProg
import Derived.Lib.Hide
namespace Go.Proofs.YtmcnnfpeicnnjaaDoor
open Go.RowKit Go.Deep Go.Own
set_option linter.unusedVariables false
theorem tmod_neg {v n : Int} (hn : 0 < n) (h : v.tmod n < 0) : v % n = v.tmod n + n := by
  have h0 := Int.emod_nonneg v (show n ≠ 0 by omega)
  have h1 := Int.emod_lt_of_pos v hn
  rw [Int.tmod_eq_emod] at h ⊢
  split at h
  · omega
  · rename_i hh; rw [if_neg hh]; simp only [Int.natAbs_of_nonneg (show 0 ≤ n by omega)]; omega
theorem tmod_pos {v n : Int} (hn : 0 < n) (h : ¬ v.tmod n < 0) : v % n = v.tmod n := by
  have h0 := Int.emod_nonneg v (show n ≠ 0 by omega)
  have h1 := Int.emod_lt_of_pos v hn
  rw [Int.tmod_eq_emod] at h ⊢
  split at h
  · rename_i hh; rw [if_pos hh]; omega
  · rename_i hh; simp only [Int.natAbs_of_nonneg (show 0 ≤ n by omega)] at h; omega
theorem place_calls (v n : Int) (w : World) (hn : 0 < n) (hn' : n ≤ 1099511627776) :
    Calls Tryd.prog 11 #[.int .i64 v, .int .i64 n] w fun e w' => e = .returned (.int .i64 (v % n)) ∧ w = w' := by
  have hne : (n == 0) = false := by simp; omega
  have hne1 : (n == -1) = false := by simp; omega
  have t1 := Int.tmod_lt_of_pos v hn
  have t2 : -n < v.tmod n := Int.lt_tmod_of_pos v hn
  by_cases h : v.tmod n < 0
  · have E := Lib.hid (tmod_neg hn h)
    go_enter Tryd.func11, Tryd.ntmps11
    go_wp2
    go_ret
    exact ⟨ret_int E.out.symm, rfl⟩
  · have E := Lib.hid (tmod_pos hn h)
    go_enter Tryd.func11, Tryd.ntmps11
    go_wp2
    go_ret
    exact ⟨ret_int E.out.symm, rfl⟩
theorem place_nat (v : Int) (n : Nat) (hn : 0 < n) (hn' : n ≤ 1099511627776) : ∃ k : Nat, k < n ∧ v % (n : Int) = (k : Int) ∧ ∀ w : World, Calls Tryd.prog 11 #[.int .i64 v, .int .i64 (n : Int)] w fun e w' => e = .returned (.int .i64 (k : Nat)) ∧ w = w' := by
  have h0 := Int.emod_nonneg v (show (n : Int) ≠ 0 by omega)
  have h1 := Int.emod_lt_of_pos v (show (0 : Int) < n by omega)
  refine ⟨(v % (n : Int)).toNat, by omega, by omega, fun w => ?_⟩
  have := place_calls v n w (by omega) (by omega)
  rw [show (((v % (n : Int)).toNat : Nat) : Int) = v % (n : Int) by omega]
  exact this
end Go.Proofs.YtmcnnfpeicnnjaaDoor

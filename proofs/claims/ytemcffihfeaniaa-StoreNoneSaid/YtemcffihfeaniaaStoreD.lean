/- Store's laws: StoreNone, StoreEmpty. -/
import Derived.Test.YtemcffihfeaniaaStoreC
namespace Go.Proofs.Ytemcffihfeaniaa
open Go.RowKit Go.Deep Go.Own
set_option linter.unusedVariables false
set_option maxRecDepth 100000 in
set_option maxHeartbeats 4000000 in
theorem storeNone_walk (x : ByteArray) (f n : Int) (W : World) (hx : x.size ≤ 140737488351232) (hf : (Lit.int .i64 f).wf = true) (hn : (Lit.int .i64 n).wf = true) :
    Calls Try.prog 4 #[.string x, .int .i64 f, .int .i64 n] W fun e w' => e = .returned (.bool true) ∧ Below W.heap.size W w' := by
  by_cases h5 : 500 < x.size
  · go_enter Try.func4, Try.ntmps4
    go_wp2_with (first | (go_at_call 15; refine (awake_calls _).mono ?_; rintro e w1 ⟨rfl, h1⟩))
    go_ret
    exact ⟨rfl, h1⟩
  · have hsl : x.data.toList.length = x.size := by simp
    have HSL := Lib.hid hsl
    by_cases hin : 0 ≤ f ∧ 0 ≤ n ∧ f ≤ x.size ∧ n ≤ x.size - f
    · obtain ⟨h1, h2, h3, h4⟩ := hin
      obtain ⟨f, rfl⟩ : ∃ k : Nat, f = (k : Int) := ⟨f.toNat, by omega⟩
      obtain ⟨n, rfl⟩ : ∃ k : Nat, n = (k : Int) := ⟨n.toNat, by omega⟩
      have a1 : decide ((0 : Int) ≤ (f : Int)) = true := by simp
      have a2 : decide ((0 : Int) ≤ (n : Int)) = true := by simp
      have a3 : decide (f ≤ x.size) = true := by simp; omega
      have a4 : decide ((n : Int) ≤ (x.size : Int) - (f : Int)) = true := by simp; omega
      have hfn : f + n ≤ x.size := by omega
      have sl : ∀ w : World, (Instr.slice 9 (.string x) (some (.int .i64 (f : Nat))) (some (.int .i64 ((f : Int) + (n : Int)))) none).run Try.prog w = .ok (.string (x.extract f (f + n))) w := fun w => by
        have e : ((f : Int) + (n : Int)) = ((f + n : Nat) : Int) := by omega
        rw [e, run_slice_string (t := 9) (s := x) (k := .i64) (k' := .i64) (i := (f : Nat)) (j := ((f + n : Nat) : Int)) (h := Try.underlying9)]
        · have e2 : ((f : Int) + (n : Int)).toNat = f + n := by omega
          simp [e2]
        all_goals omega
      clear h1 h2 h3 h4 hf hn
      go_enter Try.func4, Try.ntmps4
      go_wp2_with (first
        | (go_at_call 16; refine (st_new x _ (by omega)).mono ?_; rintro e w1 ⟨rfl, h1⟩)
        | (go_at_call 19; refine (st_slice f n h1 (by rw [HSL.out]; exact hfn) (by rw [HSL.out]; omega) _ (cutB_extract x f n)).mono ?_; rintro e w2 ⟨rfl, h2⟩; clear h1)
        | (go_at_call 15; refine (awake_calls _).mono ?_; rintro e w3 ⟨rfl, h3⟩))
      go_ret
      exact ⟨rfl, h2.below.trans (h3.mono h2.below.size)⟩
    · have HF := Lib.hid hf
      have HN := Lib.hid hn
      have HIN := Lib.hid (show ¬ (0 ≤ f ∧ 0 ≤ n ∧ f ≤ x.data.toList.length ∧ n ≤ x.data.toList.length - f) from by rw [hsl]; exact hin)
      clear hsl hf hn
      by_cases h1 : 0 ≤ f
      · have a1 : decide (0 ≤ f) = true := by simpa using h1
        by_cases h2 : 0 ≤ n
        · have a2 : decide (0 ≤ n) = true := by simpa using h2
          obtain ⟨f, rfl⟩ : ∃ k : Nat, f = (k : Int) := ⟨f.toNat, by omega⟩
          obtain ⟨n, rfl⟩ : ∃ k : Nat, n = (k : Int) := ⟨n.toNat, by omega⟩
          by_cases h3 : f ≤ x.size
          · have a3 : decide (f ≤ x.size) = true := by simpa using h3
            have a4 : decide ((n : Int) ≤ (x.size : Int) - (f : Int)) = false := by
              apply decide_eq_false
              intro h
              exact hin ⟨h1, h2, by omega, h⟩
            clear h1 h2 hin
            go_enter Try.func4, Try.ntmps4
            go_wp2_with (first
              | (go_at_call 16; refine (st_new x _ (by omega)).mono ?_; rintro e w1 ⟨rfl, h1⟩)
              | (go_at_call 19; refine (st_slice_no _ _ h1 HF.out HN.out HIN.out (by rw [HSL.out]; omega)).mono ?_; rintro e w2 ⟨rfl, h2⟩; clear h1)
              | (go_at_call 15; refine (awake_calls _).mono ?_; rintro e w3 ⟨rfl, h3⟩))
            go_ret
            exact ⟨rfl, h2.below.trans (h3.mono h2.below.size)⟩
          · have a3 : decide (f ≤ x.size) = false := by simpa using h3
            clear h1 h2 hin h3
            go_enter Try.func4, Try.ntmps4
            go_wp2_with (first
              | (go_at_call 16; refine (st_new x _ (by omega)).mono ?_; rintro e w1 ⟨rfl, h1⟩)
              | (go_at_call 19; refine (st_slice_no _ _ h1 HF.out HN.out HIN.out (by rw [HSL.out]; omega)).mono ?_; rintro e w2 ⟨rfl, h2⟩; clear h1)
              | (go_at_call 15; refine (awake_calls _).mono ?_; rintro e w3 ⟨rfl, h3⟩))
            go_ret
            exact ⟨rfl, h2.below.trans (h3.mono h2.below.size)⟩
        · have a2 : decide (0 ≤ n) = false := by simpa using h2
          clear h1 h2 hin
          go_enter Try.func4, Try.ntmps4
          go_wp2_with (first
            | (go_at_call 16; refine (st_new x _ (by omega)).mono ?_; rintro e w1 ⟨rfl, h1⟩)
            | (go_at_call 19; refine (st_slice_no _ _ h1 HF.out HN.out HIN.out (by rw [HSL.out]; omega)).mono ?_; rintro e w2 ⟨rfl, h2⟩; clear h1)
            | (go_at_call 15; refine (awake_calls _).mono ?_; rintro e w3 ⟨rfl, h3⟩))
          go_ret
          exact ⟨rfl, h2.below.trans (h3.mono h2.below.size)⟩
      · have a1 : decide (0 ≤ f) = false := by simpa using h1
        clear h1 hin
        go_enter Try.func4, Try.ntmps4
        go_wp2_with (first
          | (go_at_call 16; refine (st_new x _ (by omega)).mono ?_; rintro e w1 ⟨rfl, h1⟩)
          | (go_at_call 19; refine (st_slice_no _ _ h1 HF.out HN.out HIN.out (by rw [HSL.out]; omega)).mono ?_; rintro e w2 ⟨rfl, h2⟩; clear h1)
          | (go_at_call 15; refine (awake_calls _).mono ?_; rintro e w3 ⟨rfl, h3⟩))
        go_ret
        exact ⟨rfl, h2.below.trans (h3.mono h2.below.size)⟩
end Go.Proofs.Ytemcffihfeaniaa

/- The document's word of a list. -/
import Derived.Test.YtmpckoincdkeeaaDoorRLin
namespace Go.Proofs.YtmpckoincdkeeaaDoor
open Go.RowKit Go.Deep Go.Own
set_option linter.unusedVariables false
def badB (u : Nat) : Bool := decide (u < 33) || (u == 47) || (u == 35)
def wordR (s : ByteArray) : Bool := ((List.range s.size).all fun j => !badB (uB s j)) && (!s.toList.isEmpty && okU s)
theorem all_of {n : Nat} {f : Nat → Bool} (h : ∀ j, j < n → f j = true) : (List.range n).all f = true := List.all_eq_true.2 fun j hj => h j (List.mem_range.1 hj)
theorem all_not {n : Nat} {f : Nat → Bool} {j : Nat} (hj : j < n) (h : f j = false) : (List.range n).all f = false := by
  rw [Bool.eq_false_iff]
  intro e
  have := List.all_eq_true.1 e j (List.mem_range.2 hj)
  rw [h] at this
  cases this
set_option maxRecDepth 100000 in
set_option maxHeartbeats 8000000 in
theorem word_calls' (s : ByteArray) (w : World) (hs : s.size ≤ 1000000) : Calls Tryd.prog 58 #[.string s] w fun e w' => e = .returned (.bool (wordR s)) ∧ Below w.heap.size w w' := by
  have CV := Lib.hid (rvalid_calls s w (by omega))
  obtain ⟨W, hW⟩ : ∃ W, W = wordR s := ⟨_, rfl⟩
  have HW := Lib.hid hW
  rw [← hW]
  clear hW
  go_enter Tryd.func58, Tryd.ntmps58
  go_wp2_with (fail)
  go_loopw [3] (fun iv wr => ∃ i : Nat, i ≤ s.size ∧ iv = .int .i64 (i : Nat) ∧ w = wr ∧ ∀ j, j < i → badB (uB s j) = false) (fun iv _ => s.size - (intOf iv).toNat)
  case atStart => exact ⟨0, Nat.zero_le _, rfl, rfl, fun j hj => absurd hj (Nat.not_lt_zero _)⟩
  case round =>
    obtain ⟨i, hi, rfl, rfl, hal⟩ := hrel
    have HA := Lib.hid hal
    clear hal
    by_cases hlt : i < s.size
    · have g1 : decide (i < s.size) = true := by simpa using hlt
      have hix : ∀ w : World, (Instr.index 9 (.string s) (.int .i64 (i : Nat))).run Tryd.prog w = .ok (.int .u8 (uB s i : Nat)) w := fun w => s_index s i hlt w
      obtain ⟨u, hu⟩ : ∃ u, u = uB s i := ⟨_, rfl⟩
      rw [← hu] at hix
      have HU := Lib.hid hu
      clear hu
      by_cases hb : badB u = true
      · have hw0 : W = false := by
          rw [HW.out]
          unfold wordR
          rw [all_not hlt (by rw [← HU.out, hb]; rfl), Bool.false_and]
        subst hw0
        have hcs : u < 33 ∨ (¬ u < 33 ∧ u = 47) ∨ (¬ u < 33 ∧ ¬ u = 47 ∧ u = 35) := by
          unfold badB at hb
          simp only [Bool.or_eq_true, decide_eq_true_eq, beq_iff_eq] at hb
          omega
        clear hb
        rcases hcs with h1 | ⟨h1, h2⟩ | ⟨h1, h2, h3⟩
        · have k1 : decide ((u : Int) < 33) = true := by simp; omega
          have k1' : decide (u < 33) = true := by simpa using h1
          clear h1 HU
          go_wp2_with (fail)
          go_ret
          exact ⟨rfl, Below.refl _ _⟩
        · subst h2
          clear h1 HU
          go_wp2_with (fail)
          go_ret
          exact ⟨rfl, Below.refl _ _⟩
        · subst h3
          clear h1 h2 HU
          go_wp2_with (fail)
          go_ret
          exact ⟨rfl, Below.refl _ _⟩
      · have hb0 : badB u = false := by simpa using hb
        have hcs : ¬ u < 33 ∧ ¬ u = 47 ∧ ¬ u = 35 := by
          unfold badB at hb
          simp only [Bool.or_eq_true, decide_eq_true_eq, beq_iff_eq] at hb
          omega
        obtain ⟨h1, h2, h3⟩ := hcs
        have k1 : decide ((u : Int) < 33) = false := by simp; omega
        have k1' : decide (u < 33) = false := by simpa using h1
        have k2 : ((u : Int) == 47) = false := by simp; omega
        have k2' : (u == 47) = false := by simpa using h2
        have k3 : ((u : Int) == 35) = false := by simp; omega
        have k3' : (u == 35) = false := by simpa using h3
        have HB0 := Lib.hid hb0
        clear h1 h2 h3 hb hb0
        go_wp2_with (fail)
        go_roundw
        case rel => exact ⟨i + 1, hlt, by go_num, by first | rfl | trivial, fun j hj => by
          by_cases h : j < i
          · exact HA.out j h
          · obtain rfl : j = i := by omega
            rw [← HU.out]; exact HB0.out⟩
        case measure => simp [intOf]; omega
    · obtain rfl : i = s.size := by omega
      have g1 : decide (s.size < s.size) = false := by simp
      have hall : W = (!s.toList.isEmpty && okU s) := by
        rw [HW.out]
        unfold wordR
        rw [all_of (fun j hj => by rw [HA.out j hj]; rfl), Bool.true_and]
      have HAL := Lib.hid hall
      clear hall HW
      cases he : s.toList.isEmpty with
      | true =>
        obtain rfl : W = false := by have := HAL.out; rw [he] at this; exact this
        go_wp2_with (fail)
        go_ret
        exact ⟨rfl, Below.refl _ _⟩
      | false =>
        obtain rfl : W = okU s := by have := HAL.out; rw [he] at this; exact this
        clear HAL
        go_wp2_with (fail)
        refine CV.out.mono ?_
        rintro e w1 ⟨rfl, b1⟩
        go_wp2_with (fail)
        go_ret
        exact ⟨rfl, b1⟩
end Go.Proofs.YtmpckoincdkeeaaDoor

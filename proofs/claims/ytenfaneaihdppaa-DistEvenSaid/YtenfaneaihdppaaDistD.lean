/- DistEven's walk. -/
import Derived.Test.YtenfaneaihdppaaDistC
namespace Go.Proofs.Ytenfaneaihdppaa
set_option linter.unusedVariables false
open Go.RowKit Go.Deep Go.Own
attribute [local go_sem] Own.own_max2 Own.own_max_two
set_option maxRecDepth 100000 in
set_option maxHeartbeats 1000000 in
theorem distEven_walk (A : Option Addr) (ca : Nat) (a : List Int) (B : Option Addr) (cb : Nat) (b : List Int) (C : Option Addr) (cc : Nat) (c : List Int) (W : World) (hA : Reads W A a) (hla : a.length * 8 ≤ 140737488351232) (hB : Reads W B b) (hlb : b.length * 8 ≤ 140737488351232) (hC : Reads W C c) (hlc : c.length * 8 ≤ 140737488351232) :
    Calls Try.prog 4 #[.slice A a.length ca, .slice B b.length cb, .slice C c.length cc] W fun e w' => e = .returned (.bool true) ∧ Below W.heap.size W w' := by
  have HA := Lib.hid hA
  have HB := Lib.hid hB
  have HC := Lib.hid hC
  clear hA hB hC
  by_cases h1 : a.length + c.length ≤ 60
  · by_cases h2 : b.length + c.length ≤ 60
    · have g1 : decide ((60 : Int) < (a.length : Int) + (c.length : Int)) = false := by simp; omega
      have g2 : decide ((60 : Int) < (b.length : Int) + (c.length : Int)) = false := by simp; omega
      have hla' : a.length ≤ 9223372036854775807 := by omega
      have hlb' : b.length ≤ 9223372036854775807 := by omega
      obtain ⟨i0, hi, hz0, hz1, hz2⟩ := info_parts info3
      have m1 : 0 + c.length ≤ maxLen := by simp only [maxLen]; omega
      have m2 : (0 + c.length) * 8 ≤ 140737488355328 := by omega
      have m3 : 0 + c.length + a.length ≤ maxLen := by simp only [maxLen]; omega
      have m4 : (0 + c.length + a.length) * 8 ≤ 140737488355328 := by omega
      have m5 : 0 + c.length + b.length ≤ maxLen := by simp only [maxLen]; omega
      have m6 : (0 + c.length + b.length) * 8 ≤ 140737488355328 := by omega
      have l1 := Dst.far_le a b
      have l2 := Dst.far_ge a b
      have l3 := Dst.far_pre a b c
      have g3 : decide (((Dst.far a b : Nat) : Int) ≤ imax (a.length : Int) (b.length : Int)) = true := by rw [imax_eq]; simp; omega
      have g4 : decide ((a.length : Int) - (b.length : Int) ≤ ((Dst.far a b : Nat) : Int)) = true := by simp; omega
      have g5 : decide ((b.length : Int) - (a.length : Int) ≤ ((Dst.far a b : Nat) : Int)) = true := by simp; omega
      have g6 : decide (((Dst.far (c ++ a) (c ++ b) : Nat) : Int) ≤ ((Dst.far a b : Nat) : Int)) = true := by simp; omega
      have g7 : ((((Dst.far a b : Nat) : Int) == 0) == decide (a = b)) = true := by
        by_cases h : a = b
        · subst h; rw [Dst.far_self]; simp
        · have : Dst.far a b ≠ 0 := fun e => h (Dst.far_zero _ _ e)
          simp [h]; omega
      obtain ⟨z, hz⟩ : ∃ z, z = (((Dst.far a b : Nat) : Int) == 0) := ⟨_, rfl⟩
      obtain ⟨y, hy⟩ : ∃ y, y = decide (a = b) := ⟨_, rfl⟩
      rw [← hz, ← hy] at g7
      have hzy : z = y := by simpa using g7
      subst hzy
      have hz' : (((Dst.far a b : Nat) : Int) == 0) = z := hz.symm
      have HY := Lib.hid hy
      clear hz hy g7
      go_enter Try.func4, Try.ntmps4
      go_wp2_with fail
      refine (far_calls A B ca cb a b W (by omega) (by omega) HA.out HB.out).mono ?_
      rintro e w1 ⟨rfl, b1⟩
      go_wp2_with (first
        | (at_builtin; refine own_append rfl (.const (.slice none 0 0)) (.tmp 28) 22 22 rfl w1.heap.size 3 i0 (.int .i64 0) 1 8 Try.underlying22 hi hz0 hz1 hz2 rfl (by decide) (.slice none 0 0) 0 [] rfl (World.ownsRow_nil _ _ _ _) (.slice C c.length cc) rfl c.length _ (src_reads Try.underlying22 cc (HC.out.later b1)) m1 m2 (Nat.le_refl _) ?_; intro v2 w2 o2 q2)
        | (at_builtin; refine own_append rfl (.tmp 29) (.tmp 30) 22 22 rfl w1.heap.size 3 i0 (.int .i64 0) 1 8 Try.underlying22 hi hz0 hz1 hz2 rfl (by decide) v2 _ _ rfl o2 (.slice A a.length ca) rfl a.length _ (src_reads Try.underlying22 ca (HA.out.later (b1.trans ((below_grown q2 (Nat.le_refl _) (fun k h => by cases h)).mono b1.size)))) m3 m4 q2.size ?_; intro v3 w3 o3 q3; have b2 := below_grown q2 (Nat.le_refl _) (fun k h => by cases h); have b3 := below_grown q3 q2.size (fun k h => (own_block_lt o2 h).1); have b13 := b2.trans b3; clear q2 q3 b2 b3 o2)
        | (at_builtin; refine own_append rfl (.const (.slice none 0 0)) (.tmp 32) 22 22 rfl w3.heap.size 3 i0 (.int .i64 0) 1 8 Try.underlying22 hi hz0 hz1 hz2 rfl (by decide) (.slice none 0 0) 0 [] rfl (World.ownsRow_nil _ _ _ _) (.slice C c.length cc) rfl c.length _ (src_reads Try.underlying22 cc ((HC.out.later b1).later b13)) m1 m2 (Nat.le_refl _) ?_; intro v4 w4 o4 q4)
        | (at_builtin; refine own_append rfl (.tmp 33) (.tmp 34) 22 22 rfl w3.heap.size 3 i0 (.int .i64 0) 1 8 Try.underlying22 hi hz0 hz1 hz2 rfl (by decide) v4 _ _ rfl o4 (.slice B b.length cb) rfl b.length _ (src_reads Try.underlying22 cb (((HB.out.later b1).later b13).later (below_grown q4 (Nat.le_refl _) (fun k h => by cases h)))) m5 m6 q4.size ?_; intro v5 w5 o5 q5; have b2 := below_grown q4 (Nat.le_refl _) (fun k h => by cases h); have b3 := below_grown q5 q4.size (fun k h => (own_block_lt o4 h).1); have b35 := b2.trans b3; clear q4 q5 b2 b3 o4))
      have P3 : OwnI w5 w1.heap.size 3 v3 (c ++ a) := by
        have o3' : OwnI w3 w1.heap.size 3 v3 (c ++ a) := by unfold OwnI; simpa using o3
        exact o3'.later b35
      have P5 : OwnI w5 w3.heap.size 3 v5 (c ++ b) := by unfold OwnI; simpa using o5
      obtain ⟨A3, c3, e3, _, r3⟩ := P3.reads
      obtain ⟨A5, c5, e5, _, r5⟩ := P5.reads
      rw [e3, e5]
      have R3 := Lib.hid r3
      have R5 := Lib.hid r5
      have HA5 := Lib.hid (((HA.out.later b1).later b13).later b35)
      have HB5 := Lib.hid (((HB.out.later b1).later b13).later b35)
      have b5 := (b1.trans (b13.mono b1.size)).trans (b35.mono (Nat.le_trans b1.size b13.size))
      clear o3 o5 P3 P5 e3 e5 r3 r5 b35 b13 b1
      go_wp2_with fail
      refine (far_calls B A cb ca b a w5 (by omega) (by omega) HB5.out HA5.out).mono ?_
      rintro e w6 ⟨rfl, b6⟩
      rw [Dst.far_comm b a]
      go_wp2_with fail
      refine (same_calls A ca a B cb b w6 (HA5.out.later b6) (HB5.out.later b6) hla' hlb').mono ?_
      rintro e w7 ⟨rfl, b7⟩
      rw [← HY.out]
      go_wp2_with fail
      have cpq := far_calls A3 A5 c3 c5 (c ++ a) (c ++ b) w7 (by rw [List.length_append]; omega) (by rw [List.length_append]; omega) ((R3.out.later b6).later b7) ((R5.out.later b6).later b7)
      rw [List.length_append, List.length_append] at cpq
      refine cpq.mono ?_
      rintro e w8 ⟨rfl, b8⟩
      go_wp2_with fail
      refine (awake_calls w8).mono ?_
      rintro e w9 ⟨rfl, b9⟩
      go_wp2_with fail
      go_ret
      exact ⟨rfl, (((b5.trans (b6.mono b5.size)).trans (b7.mono (Nat.le_trans b5.size b6.size))).trans (b8.mono (Nat.le_trans (Nat.le_trans b5.size b6.size) b7.size))).trans (b9.mono (Nat.le_trans (Nat.le_trans (Nat.le_trans b5.size b6.size) b7.size) b8.size))⟩
    · have g1 : decide ((60 : Int) < (a.length : Int) + (c.length : Int)) = false := by simp; omega
      have g2 : decide ((60 : Int) < (b.length : Int) + (c.length : Int)) = true := by simp; omega
      go_enter Try.func4, Try.ntmps4
      go_wp2_with (go_at_call 7; refine (awake_calls _).mono ?_; rintro e w' ⟨rfl, hb⟩)
      go_ret
      exact ⟨rfl, hb⟩
  · have g1 : decide ((60 : Int) < (a.length : Int) + (c.length : Int)) = true := by simp; omega
    go_enter Try.func4, Try.ntmps4
    go_wp2_with (go_at_call 7; refine (awake_calls _).mono ?_; rintro e w' ⟨rfl, hb⟩)
    go_ret
    exact ⟨rfl, hb⟩
end Go.Proofs.Ytenfaneaihdppaa

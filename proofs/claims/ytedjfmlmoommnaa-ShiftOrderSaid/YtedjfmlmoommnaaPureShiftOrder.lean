/- ShiftOrder holds: places keep their order behind a change, each behind it is as much further, and undone they are where they were, but those within. No condition. -/
import Derived.Test.YtedjfmlmoommnaaQ18
namespace Go.Proofs.Ytedjfmlmoommnaa.Pure
open Go.RowKit Go.Proofs.Ytedjfmlmoommnaa.Q Go.Proofs.YtedjfmlmoommnaaW.PrintWords Go.Proofs.YtedjfmlmoommnaaW.PrintLast
set_option linter.unusedVariables false
set_option linter.unusedSimpArgs false
theorem place_eq (a n : Int) (h0 : 0 < n) (h1 : n ≤ 1099511627776) : abecedarylaw00_Place.f a n = some (a % n) := by
  have e : Int.tmod a n = a % n - if 0 ≤ a ∨ n ∣ a then 0 else n.natAbs := Int.tmod_eq_emod
  have b0 := Int.emod_nonneg a (show n ≠ 0 by omega)
  have b1 := Int.emod_lt_of_pos a h0
  unfold abecedarylaw00_Place.f
  rw [if_neg (by omega)]
  by_cases hd : 0 ≤ a ∨ n ∣ a
  · rw [if_pos hd] at e
    rw [if_neg (by omega)]
    rw [show a.tmod n = a % n by omega]
  · rw [if_neg hd] at e
    have hz : a % n ≠ 0 := fun hz => hd (.inr (Int.dvd_of_emod_eq_zero hz))
    rw [if_pos (by omega)]
    congr 1
    unfold wrap64
    omega

theorem cut_id (v : Int) (h0 : 0 ≤ v) (h1 : v ≤ 1099511627776) : shift_cut.f v = some v := by
  unfold shift_cut.f mx mn
  congr 1
  (repeat' split) <;> omega
theorem cut_neg (v : Int) (h0 : v ≤ 0) : shift_cut.f v = some 0 := by
  unfold shift_cut.f mx mn
  congr 1
  (repeat' split) <;> omega
def P (p a d i : Int) : Int := if p ≤ a then p else if p < a + d then a + i else p + i - d
theorem plc (p a d i : Int) (hp : 0 ≤ p) (hp' : p ≤ 1099511627776) (ha : 0 ≤ a) (ha' : a ≤ 1099511627776) (hd : 0 ≤ d) (hd' : d ≤ 1099511627776) (hi : 0 ≤ i) (hi' : i ≤ 1099511627776) : shift_change_place.f a d i p = some (P p a d i) := by
  have w1 : wrap64 (a + d) = a + d := by unfold wrap64; omega
  have w2 : wrap64 (a + i) = a + i := by unfold wrap64; omega
  have w3 : wrap64 (p + i) = p + i := by unfold wrap64; omega
  have w4 : wrap64 (p + i - d) = p + i - d := by unfold wrap64; omega
  unfold shift_change_place.f P
  rw [cut_id p hp hp']
  simp only [Option.bind_some, w1, w2, w3, w4]
  (repeat' split) <;> rfl
theorem place (p a d i : Int) (hp : 0 ≤ p) (hp' : p ≤ 1099511627776) (ha : 0 ≤ a) (ha' : a ≤ 1099511627776) (hd : 0 ≤ d) (hd' : d ≤ 1099511627776) (hi : 0 ≤ i) (hi' : i ≤ 1099511627776) : shift_Place.f p a d i = some (P p a d i) := by
  unfold shift_Place.f shift_of.f
  rw [cut_id a ha ha', cut_id d hd hd', cut_id i hi hi']
  simp only [Option.bind_some]
  rw [plc p a d i hp hp' ha ha' hd hd' hi hi']
  rfl
theorem em (a n : Int) (h : 0 < n) : 0 ≤ a % n ∧ a % n < n := ⟨Int.emod_nonneg a (by omega), Int.emod_lt_of_pos a h⟩
theorem aw : abecedarylaw20_awake.f = some true := by kernel_rfl

theorem j0_false (k : Nat) (a c d e : Int) (ha : 0 ≤ a) (ha' : a < 1000) (hc : 0 ≤ c) (hc' : c < 1000) (hd : 0 ≤ d) (hd' : d < 1000) (he : 0 ≤ e) (he' : e < 1000) :
    abecedarylaw20_ShiftOrder.j0 (k + 1) a c d e (P a c d e) false = some true := by
  have w1 : wrap64 (c + d) = c + d := by unfold wrap64; omega
  have w2 : wrap64 (a + e) = a + e := by unfold wrap64; omega
  have w3 : wrap64 (a + e - d) = a + e - d := by unfold wrap64; omega
  have w4 : wrap64 (c + e) = c + e := by unfold wrap64; omega
  simp only [abecedarylaw20_ShiftOrder.j0, Bool.false_eq_true, if_false, w1, w2, w3, w4, aw, Option.bind_some]
  by_cases h1 : a ≤ c
  · rw [if_pos h1, if_pos (by unfold P; rw [if_pos h1])]
  · rw [if_neg h1]
    by_cases h2 : a ≥ c + d
    · have hP : P a c d e = a + e - d := by unfold P; rw [if_neg h1, if_neg (by omega)]
      rw [if_pos h2, hP, if_pos rfl]
      by_cases h3 : a + e - d = c
      · rw [if_pos h3]
      · rw [if_neg h3, place _ _ _ _ (by omega) (by omega) hc (by omega) he (by omega) hd (by omega)]
        simp only [Option.bind_some]
        rw [if_pos (by unfold P; (repeat' split) <;> omega)]
    · rw [if_neg h2, if_pos (by unfold P; rw [if_neg h1, if_pos (by omega)])]
theorem ShiftOrder : abecedarylaw20_ShiftOrder.Pure := by
  intro a0 a1 a2 a3 a4 _ _ _ _ _
  refine ⟨1, ?_⟩
  unfold abecedarylaw20_ShiftOrder.f
  simp only [place_eq _ 1000 (by decide) (by decide), Option.bind_some]
  obtain ⟨p0, p1⟩ := em a0 1000 (by decide)
  obtain ⟨q0, q1⟩ := em a1 1000 (by decide)
  obtain ⟨c0, c1⟩ := em a2 1000 (by decide)
  obtain ⟨d0, d1⟩ := em a3 1000 (by decide)
  obtain ⟨e0, e1⟩ := em a4 1000 (by decide)
  generalize a0 % 1000 = a at *
  generalize a1 % 1000 = b at *
  generalize a2 % 1000 = c at *
  generalize a3 % 1000 = d at *
  generalize a4 % 1000 = e at *
  rw [place a c d e p0 (by omega) c0 (by omega) d0 (by omega) e0 (by omega), place b c d e q0 (by omega) c0 (by omega) d0 (by omega) e0 (by omega)]
  simp only [Option.bind_some]
  have J := j0_false 0 a c d e p0 p1 c0 c1 d0 d1 e0 e1
  have mono : ∀ x y, x ≤ y → P x c d e ≤ P y c d e := by
    intro x y h
    unfold P
    (repeat' split) <;> omega
  by_cases h1 : a ≤ b
  · have h2 := mono a b h1
    rw [if_pos h1, if_neg (by omega)]
    by_cases h3 : b ≤ a
    · have h4 := mono b a h3
      rw [if_pos h3, show decide (P b c d e > P a c d e) = false from decide_eq_false (by omega)]
      exact J
    · rw [if_neg h3]
      exact J
  · have h4 := mono b a (by omega)
    rw [if_neg h1, if_pos (by omega), show decide (P b c d e > P a c d e) = false from decide_eq_false (by omega)]
    exact J

end Go.Proofs.Ytedjfmlmoommnaa.Pure

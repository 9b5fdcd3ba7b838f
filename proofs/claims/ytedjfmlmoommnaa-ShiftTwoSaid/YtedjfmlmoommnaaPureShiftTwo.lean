/- ShiftTwo holds: two changes one behind the other, far apart, come to the same in either order, and what is clipped keeps its kind and stands where its ends do. No condition. -/
import Derived.Test.YtedjfmlmoommnaaQ22
namespace Go.Proofs.Ytedjfmlmoommnaa.Pure
open Go.RowKit Go.Proofs.Ytedjfmlmoommnaa.Q Go.Proofs.YtedjfmlmoommnaaW.PrintWords Go.Proofs.YtedjfmlmoommnaaW.PrintLast
set_option linter.unusedVariables false
set_option linter.unusedSimpArgs false
theorem place_eq (a n : Int) (h0 : 0 < n) (h1 : n ≤ 1099511627776) : abecedarylaw00_Place.f a n = some (a % n) := by
  have e : Int.tmod a n = a % n - if 0 ≤ a ∨ n ∣ a then 0 else n.natAbs := Int.tmod_eq_emod
  have b0 := Int.emod_nonneg a (show n ≠ 0 by omega)
  have b1 := Int.emod_lt_of_pos a h0
  unfold abecedarylaw00_Place.f
  rw [if_neg (by omega)]
  by_cases hd : 0 ≤ a ∨ n ∣ a
  · rw [if_pos hd] at e
    rw [if_neg (by omega)]
    rw [show a.tmod n = a % n by omega]
  · rw [if_neg hd] at e
    have hz : a % n ≠ 0 := fun hz => hd (.inr (Int.dvd_of_emod_eq_zero hz))
    rw [if_pos (by omega)]
    congr 1
    unfold wrap64
    omega

theorem cut_id (v : Int) (h0 : 0 ≤ v) (h1 : v ≤ 1099511627776) : shift_cut.f v = some v := by
  unfold shift_cut.f mx mn
  congr 1
  (repeat' split) <;> omega
theorem cut_neg (v : Int) (h0 : v ≤ 0) : shift_cut.f v = some 0 := by
  unfold shift_cut.f mx mn
  congr 1
  (repeat' split) <;> omega
def P (p a d i : Int) : Int := if p ≤ a then p else if p < a + d then a + i else p + i - d
theorem plc (p a d i : Int) (hp : 0 ≤ p) (hp' : p ≤ 1099511627776) (ha : 0 ≤ a) (ha' : a ≤ 1099511627776) (hd : 0 ≤ d) (hd' : d ≤ 1099511627776) (hi : 0 ≤ i) (hi' : i ≤ 1099511627776) : shift_change_place.f a d i p = some (P p a d i) := by
  have w1 : wrap64 (a + d) = a + d := by unfold wrap64; omega
  have w2 : wrap64 (a + i) = a + i := by unfold wrap64; omega
  have w3 : wrap64 (p + i) = p + i := by unfold wrap64; omega
  have w4 : wrap64 (p + i - d) = p + i - d := by unfold wrap64; omega
  unfold shift_change_place.f P
  rw [cut_id p hp hp']
  simp only [Option.bind_some, w1, w2, w3, w4]
  (repeat' split) <;> rfl
theorem place (p a d i : Int) (hp : 0 ≤ p) (hp' : p ≤ 1099511627776) (ha : 0 ≤ a) (ha' : a ≤ 1099511627776) (hd : 0 ≤ d) (hd' : d ≤ 1099511627776) (hi : 0 ≤ i) (hi' : i ≤ 1099511627776) : shift_Place.f p a d i = some (P p a d i) := by
  unfold shift_Place.f shift_of.f
  rw [cut_id a ha ha', cut_id d hd hd', cut_id i hi hi']
  simp only [Option.bind_some]
  rw [plc p a d i hp hp' ha ha' hd hd' hi hi']
  rfl
theorem em (a n : Int) (h : 0 < n) : 0 ≤ a % n ∧ a % n < n := ⟨Int.emod_nonneg a (by omega), Int.emod_lt_of_pos a h⟩
theorem aw : abecedarylaw20_awake.f = some true := by kernel_rfl

theorem clip (s t k a d i : Int) (hs : 0 ≤ s) (hs' : s ≤ 1099511627776) (ht : 0 ≤ t) (ht' : t ≤ 1099511627776) (ha : 0 ≤ a) (ha' : a ≤ 1099511627776) (hd : 0 ≤ d) (hd' : d ≤ 1099511627776) (hi : 0 ≤ i) (hi' : i ≤ 1099511627776) :
    shift_Clip.f s t k a d i = if P s a d i ≥ P t a d i then some (0, 0, 0, false) else some (P s a d i, P t a d i, k, true) := by
  unfold shift_Clip.f shift_of.f shift_change_empty.f
  rw [cut_id a ha ha', cut_id d hd hd', cut_id i hi hi']
  simp only [Option.bind_some]
  rw [plc s a d i hs hs' ha ha' hd hd' hi hi', plc t a d i ht ht' ha ha' hd hd' hi hi']
  simp only [Option.bind_some, decide_eq_true_eq]
theorem anchor (s t k a d i : Int) (hs : 0 ≤ s) (hs' : s ≤ 1099511627776) (ht : 0 ≤ t) (ht' : t ≤ 1099511627776) (ha : 0 ≤ a) (ha' : a ≤ 1099511627776) (hd : 0 ≤ d) (hd' : d ≤ 1099511627776) (hi : 0 ≤ i) (hi' : i ≤ 1099511627776) :
    shift_Anchor.f s t k a d i = if s ≤ a + d ∧ t ≥ a then some (0, 0, 0, false) else some (P s a d i, P t a d i, k, true) := by
  have w1 : wrap64 (a + d) = a + d := by unfold wrap64; omega
  unfold shift_Anchor.f shift_of.f shift_change_touched.f
  rw [cut_id a ha ha', cut_id d hd hd', cut_id i hi hi', cut_id s hs hs', cut_id t ht ht']
  simp only [Option.bind_some, w1]
  rw [plc s a d i hs hs' ha ha' hd hd' hi hi', plc t a d i ht ht' ha ha' hd hd' hi hi']
  by_cases h1 : s ≤ a + d
  · rw [if_pos h1]
    by_cases h2 : t ≥ a
    · rw [if_pos ⟨h1, h2⟩]; simp [h2]
    · rw [if_neg (fun h => h2 h.2)]; simp [h2]
  · rw [if_neg h1, if_neg (fun h => h1 h.1)]; simp

theorem ShiftTwo : abecedarylaw20_ShiftTwo.Pure := by
  intro a0 a1 a2 a3 a4 _ _ _ _ _
  unfold abecedarylaw20_ShiftTwo.f
  simp only [place_eq _ 2000 (by decide) (by decide), place_eq _ 50 (by decide) (by decide), place_eq _ 500 (by decide) (by decide), Option.bind_some]
  obtain ⟨x0, x1⟩ := em a0 2000 (by decide)
  obtain ⟨d0, d1⟩ := em a3 50 (by decide)
  obtain ⟨i0, i1⟩ := em a4 50 (by decide)
  obtain ⟨k0, k1⟩ := em a1 500 (by decide)
  obtain ⟨m0, m1⟩ := em a2 500 (by decide)
  generalize a0 % 2000 = x at *
  generalize a3 % 50 = d at *
  generalize a4 % 50 = i at *
  generalize a1 % 500 = k at *
  generalize a2 % 500 = b at *
  have w1 : wrap64 (wrap64 (wrap64 (k + d) + 1) + b) = k + d + 1 + b := by unfold wrap64; omega
  have w2 : wrap64 (wrap64 (k + d + 1 + b + i) - d) = k + d + 1 + b + i - d := by unfold wrap64; omega
  have w3 : wrap64 (x + 1000) = x + 1000 := by unfold wrap64; omega
  rw [w1, w2, w3]
  have bd : ∀ p a, 0 ≤ p → 0 ≤ a → a < 1100 → 0 ≤ P p a d i ∧ P p a d i ≤ p + 1200 := by
    intro p a h1 h2 h3
    unfold P
    (repeat' split) <;> omega
  have b1 := bd x k (by omega) (by omega) (by omega)
  have b2 := bd x (k + d + 1 + b) (by omega) (by omega) (by omega)
  rw [place x k d i (by omega) (by omega) (by omega) (by omega) (by omega) (by omega) (by omega) (by omega)]
  simp only [Option.bind_some]
  rw [place (P x k d i) (k + d + 1 + b + i - d) d i (by omega) (by omega) (by omega) (by omega) (by omega) (by omega) (by omega) (by omega)]
  simp only [Option.bind_some]
  rw [place x (k + d + 1 + b) d i (by omega) (by omega) (by omega) (by omega) (by omega) (by omega) (by omega) (by omega)]
  simp only [Option.bind_some]
  rw [place (P x (k + d + 1 + b) d i) k d i (by omega) (by omega) (by omega) (by omega) (by omega) (by omega) (by omega) (by omega)]
  simp only [Option.bind_some]
  rw [clip x (x + 1000) 7 k d i (by omega) (by omega) (by omega) (by omega) (by omega) (by omega) (by omega) (by omega) (by omega) (by omega)]
  rw [place (x + 1000) k d i (by omega) (by omega) (by omega) (by omega) (by omega) (by omega) (by omega) (by omega)]
  have e : P (P x k d i) (k + d + 1 + b + i - d) d i = P (P x (k + d + 1 + b) d i) k d i := by
    unfold P
    (repeat' split) <;> omega
  by_cases hc : P x k d i ≥ P (x + 1000) k d i
  · rw [if_pos hc]
    simp only [Option.bind_some]
    rw [if_pos e]
    simp [aw]
  · rw [if_neg hc]
    simp only [Option.bind_some]
    rw [if_pos e]
    simp [aw]

end Go.Proofs.Ytedjfmlmoommnaa.Pure

/- ShiftNone holds: a change that takes and brings nothing moves nothing, and numbers below 0 are 0. No condition. -/
import Derived.Test.YtedjfmlmoommnaaQ23
namespace Go.Proofs.Ytedjfmlmoommnaa.Pure
open Go.RowKit Go.Proofs.Ytedjfmlmoommnaa.Q Go.Proofs.YtedjfmlmoommnaaW.PrintWords Go.Proofs.YtedjfmlmoommnaaW.PrintLast
set_option linter.unusedVariables false
set_option linter.unusedSimpArgs false
theorem place_eq (a n : Int) (h0 : 0 < n) (h1 : n ≤ 1099511627776) : abecedarylaw00_Place.f a n = some (a % n) := by
  have e : Int.tmod a n = a % n - if 0 ≤ a ∨ n ∣ a then 0 else n.natAbs := Int.tmod_eq_emod
  have b0 := Int.emod_nonneg a (show n ≠ 0 by omega)
  have b1 := Int.emod_lt_of_pos a h0
  unfold abecedarylaw00_Place.f
  rw [if_neg (by omega)]
  by_cases hd : 0 ≤ a ∨ n ∣ a
  · rw [if_pos hd] at e
    rw [if_neg (by omega)]
    rw [show a.tmod n = a % n by omega]
  · rw [if_neg hd] at e
    have hz : a % n ≠ 0 := fun hz => hd (.inr (Int.dvd_of_emod_eq_zero hz))
    rw [if_pos (by omega)]
    congr 1
    unfold wrap64
    omega

theorem cut_id (v : Int) (h0 : 0 ≤ v) (h1 : v ≤ 1099511627776) : shift_cut.f v = some v := by
  unfold shift_cut.f mx mn
  congr 1
  (repeat' split) <;> omega
theorem cut_neg (v : Int) (h0 : v ≤ 0) : shift_cut.f v = some 0 := by
  unfold shift_cut.f mx mn
  congr 1
  (repeat' split) <;> omega
def P (p a d i : Int) : Int := if p ≤ a then p else if p < a + d then a + i else p + i - d
theorem plc (p a d i : Int) (hp : 0 ≤ p) (hp' : p ≤ 1099511627776) (ha : 0 ≤ a) (ha' : a ≤ 1099511627776) (hd : 0 ≤ d) (hd' : d ≤ 1099511627776) (hi : 0 ≤ i) (hi' : i ≤ 1099511627776) : shift_change_place.f a d i p = some (P p a d i) := by
  have w1 : wrap64 (a + d) = a + d := by unfold wrap64; omega
  have w2 : wrap64 (a + i) = a + i := by unfold wrap64; omega
  have w3 : wrap64 (p + i) = p + i := by unfold wrap64; omega
  have w4 : wrap64 (p + i - d) = p + i - d := by unfold wrap64; omega
  unfold shift_change_place.f P
  rw [cut_id p hp hp']
  simp only [Option.bind_some, w1, w2, w3, w4]
  (repeat' split) <;> rfl
theorem place (p a d i : Int) (hp : 0 ≤ p) (hp' : p ≤ 1099511627776) (ha : 0 ≤ a) (ha' : a ≤ 1099511627776) (hd : 0 ≤ d) (hd' : d ≤ 1099511627776) (hi : 0 ≤ i) (hi' : i ≤ 1099511627776) : shift_Place.f p a d i = some (P p a d i) := by
  unfold shift_Place.f shift_of.f
  rw [cut_id a ha ha', cut_id d hd hd', cut_id i hi hi']
  simp only [Option.bind_some]
  rw [plc p a d i hp hp' ha ha' hd hd' hi hi']
  rfl
theorem em (a n : Int) (h : 0 < n) : 0 ≤ a % n ∧ a % n < n := ⟨Int.emod_nonneg a (by omega), Int.emod_lt_of_pos a h⟩
theorem aw : abecedarylaw20_awake.f = some true := by kernel_rfl

theorem clip (s t k a d i : Int) (hs : 0 ≤ s) (hs' : s ≤ 1099511627776) (ht : 0 ≤ t) (ht' : t ≤ 1099511627776) (ha : 0 ≤ a) (ha' : a ≤ 1099511627776) (hd : 0 ≤ d) (hd' : d ≤ 1099511627776) (hi : 0 ≤ i) (hi' : i ≤ 1099511627776) :
    shift_Clip.f s t k a d i = if P s a d i ≥ P t a d i then some (0, 0, 0, false) else some (P s a d i, P t a d i, k, true) := by
  unfold shift_Clip.f shift_of.f shift_change_empty.f
  rw [cut_id a ha ha', cut_id d hd hd', cut_id i hi hi']
  simp only [Option.bind_some]
  rw [plc s a d i hs hs' ha ha' hd hd' hi hi', plc t a d i ht ht' ha ha' hd hd' hi hi']
  simp only [Option.bind_some, decide_eq_true_eq]
theorem anchor (s t k a d i : Int) (hs : 0 ≤ s) (hs' : s ≤ 1099511627776) (ht : 0 ≤ t) (ht' : t ≤ 1099511627776) (ha : 0 ≤ a) (ha' : a ≤ 1099511627776) (hd : 0 ≤ d) (hd' : d ≤ 1099511627776) (hi : 0 ≤ i) (hi' : i ≤ 1099511627776) :
    shift_Anchor.f s t k a d i = if s ≤ a + d ∧ t ≥ a then some (0, 0, 0, false) else some (P s a d i, P t a d i, k, true) := by
  have w1 : wrap64 (a + d) = a + d := by unfold wrap64; omega
  unfold shift_Anchor.f shift_of.f shift_change_touched.f
  rw [cut_id a ha ha', cut_id d hd hd', cut_id i hi hi', cut_id s hs hs', cut_id t ht ht']
  simp only [Option.bind_some, w1]
  rw [plc s a d i hs hs' ha ha' hd hd' hi hi', plc t a d i ht ht' ha ha' hd hd' hi hi']
  by_cases h1 : s ≤ a + d
  · rw [if_pos h1]
    by_cases h2 : t ≥ a
    · rw [if_pos ⟨h1, h2⟩]; simp [h2]
    · rw [if_neg (fun h => h2 h.2)]; simp [h2]
  · rw [if_neg h1, if_neg (fun h => h1 h.1)]; simp

theorem placeAny (p a d i p' a' d' i' : Int) (hp : shift_cut.f p = some p') (ha : shift_cut.f a = some a') (hd : shift_cut.f d = some d') (hi : shift_cut.f i = some i')
    (p0 : 0 ≤ p') (p1 : p' ≤ 1099511627776) (a0 : 0 ≤ a') (a1 : a' ≤ 1099511627776) (d0 : 0 ≤ d') (d1 : d' ≤ 1099511627776) (i0 : 0 ≤ i') (i1 : i' ≤ 1099511627776) : shift_Place.f p a d i = some (P p' a' d' i') := by
  have h := place p' a' d' i' p0 p1 a0 a1 d0 d1 i0 i1
  unfold shift_Place.f shift_of.f at h ⊢
  unfold shift_change_place.f at h ⊢
  rw [cut_id p' p0 p1, cut_id a' a0 a1, cut_id d' d0 d1, cut_id i' i0 i1] at h
  rw [hp, ha, hd, hi]
  exact h
theorem clipAny (s t k a d i : Int) (d' i' : Int) (hd : shift_cut.f d = some d') (hi : shift_cut.f i = some i') (d0 : 0 ≤ d') (d1 : d' ≤ 1099511627776) (i0 : 0 ≤ i') (i1 : i' ≤ 1099511627776) : shift_Clip.f s t k a d i = shift_Clip.f s t k a d' i' := by
  unfold shift_Clip.f shift_of.f
  rw [hd, hi, cut_id d' d0 d1, cut_id i' i0 i1]
theorem ShiftNone : abecedarylaw20_ShiftNone.Pure := by
  intro a0 a1 a2 a3 _ _ _ _
  unfold abecedarylaw20_ShiftNone.f
  simp only [place_eq _ 1073741824 (by decide) (by decide), place_eq _ 1000 (by decide) (by decide), Option.bind_some]
  obtain ⟨a0', a1'⟩ := em a0 1073741824 (by decide)
  obtain ⟨b0, b1⟩ := em a1 1073741824 (by decide)
  obtain ⟨d0, d1⟩ := em a2 1000 (by decide)
  obtain ⟨i0, i1⟩ := em a3 1000 (by decide)
  generalize a0 % 1073741824 = a at *
  generalize a1 % 1073741824 = b at *
  generalize a2 % 1000 = d at *
  generalize a3 % 1000 = i at *
  have w1 : wrap64 (a + 5) = a + 5 := by unfold wrap64; omega
  have w2 : wrap64 (1 + d) = 1 + d := by unfold wrap64; omega
  have w3 : wrap64 (1 + i) = 1 + i := by unfold wrap64; omega
  have w4 : wrap64 (-(1 + d)) = -(1 + d) := by unfold wrap64; omega
  have w5 : wrap64 (-(1 + i)) = -(1 + i) := by unfold wrap64; omega
  have w6 : wrap64 (-1 - a) = -1 - a := by unfold wrap64; omega
  have w7 : wrap64 (-1 - b) = -1 - b := by unfold wrap64; omega
  simp only [w1, w2, w3, w4, w5, w6, w7]
  have c0 := cut_id 0 (by decide) (by decide)
  have cd := cut_neg (-(1 + d)) (by omega)
  have ci := cut_neg (-(1 + i)) (by omega)
  rw [clipAny a (a + 5) 4 b (-(1 + d)) (-(1 + i)) 0 0 cd ci (by decide) (by decide) (by decide) (by decide)]
  have e0 : ∀ p, P p b 0 0 = p := by intro p; unfold P; (repeat' split) <;> omega
  rw [clip a (a + 5) 4 b 0 0 (by omega) (by omega) (by omega) (by omega) (by omega) (by omega) (by decide) (by decide) (by decide) (by decide), e0, e0, if_neg (by omega)]
  rw [anchor a (a + 5) 4 b 0 0 (by omega) (by omega) (by omega) (by omega) (by omega) (by omega) (by decide) (by decide) (by decide) (by decide), e0, e0]
  rw [placeAny a b 0 0 a b 0 0 (cut_id a (by omega) (by omega)) (cut_id b (by omega) (by omega)) c0 c0 (by omega) (by omega) (by omega) (by omega) (by decide) (by decide) (by decide) (by decide), e0]
  rw [placeAny a b (-(1 + d)) (-(1 + i)) a b 0 0 (cut_id a (by omega) (by omega)) (cut_id b (by omega) (by omega)) cd ci (by omega) (by omega) (by omega) (by omega) (by decide) (by decide) (by decide) (by decide), e0]
  rw [placeAny (-1 - a) b 0 (1 + i) 0 b 0 (1 + i) (cut_neg (-1 - a) (by omega)) (cut_id b (by omega) (by omega)) c0 (cut_id (1 + i) (by omega) (by omega)) (by decide) (by decide) (by omega) (by omega) (by decide) (by decide) (by omega) (by omega)]
  rw [placeAny a (-1 - b) 0 (1 + i) a 0 0 (1 + i) (cut_id a (by omega) (by omega)) (cut_neg (-1 - b) (by omega)) c0 (cut_id (1 + i) (by omega) (by omega)) (by omega) (by omega) (by decide) (by decide) (by decide) (by decide) (by omega) (by omega)]
  have e1 : P 0 b 0 (1 + i) = 0 := by unfold P; rw [if_pos b0]
  have e2 : P a 0 0 (1 + i) = wrap64 (a + wrap64 ((1 + i) * mn 1 a)) := by
    unfold P mn
    by_cases h : a ≤ 0
    · have : a = 0 := by omega
      subst this
      simp [wrap64]
    · rw [if_neg h, if_neg (by omega)]
      have hm : (if (1 : Int) ≤ a then (1 : Int) else a) = 1 := if_pos (by omega)
      have hm2 : (if a < (1 : Int) then a else (1 : Int)) = 1 := if_neg (by omega)
      first | rw [hm] | rw [hm2]
      unfold wrap64
      omega
  rw [e1, e2]
  simp only [Option.bind_some, if_true]
  by_cases h1 : a ≤ b
  · by_cases h2 : b ≤ a + 5
    · rw [if_pos (show a ≤ b + 0 ∧ a + 5 ≥ b by omega), Option.bind_some, if_pos h1]
      simp [h2, aw]
    · rw [if_neg (show ¬ (a ≤ b + 0 ∧ a + 5 ≥ b) by omega), Option.bind_some, if_pos h1]
      simp [h2, aw]
  · rw [if_neg (show ¬ (a ≤ b + 0 ∧ a + 5 ≥ b) by omega), Option.bind_some, if_neg h1]
    simp [aw]

end Go.Proofs.Ytedjfmlmoommnaa.Pure

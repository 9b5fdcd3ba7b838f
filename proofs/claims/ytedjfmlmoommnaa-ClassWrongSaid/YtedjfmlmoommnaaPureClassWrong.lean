/- ClassWrong holds: a table of which one thing is turned may not be, and all is Other. No condition. -/
import Derived.Test.YtedjfmlmoommnaaQ32
namespace Go.Proofs.Ytedjfmlmoommnaa.Pure
open Go.RowKit Go.Proofs.Ytedjfmlmoommnaa.Q Go.Proofs.YtedjfmlmoommnaaW.PrintWords Go.Proofs.YtedjfmlmoommnaaW.PrintLast
set_option linter.unusedVariables false
set_option linter.unusedSimpArgs false
theorem place_eq (a n : Int) (h0 : 0 < n) (h1 : n ≤ 1099511627776) : abecedarylaw00_Place.f a n = some (a % n) := by
  have e : Int.tmod a n = a % n - if 0 ≤ a ∨ n ∣ a then 0 else n.natAbs := Int.tmod_eq_emod
  have b0 := Int.emod_nonneg a (show n ≠ 0 by omega)
  have b1 := Int.emod_lt_of_pos a h0
  unfold abecedarylaw00_Place.f
  rw [if_neg (by omega)]
  by_cases hd : 0 ≤ a ∨ n ∣ a
  · rw [if_pos hd] at e
    rw [if_neg (by omega)]
    rw [show a.tmod n = a % n by omega]
  · rw [if_neg hd] at e
    have hz : a % n ≠ 0 := fun hz => hd (.inr (Int.dvd_of_emod_eq_zero hz))
    rw [if_pos (by omega)]
    congr 1
    unfold wrap64
    omega

theorem em (a n : Int) (h : 0 < n) : 0 ≤ a % n ∧ a % n < n := ⟨Int.emod_nonneg a (by omega), Int.emod_lt_of_pos a h⟩
abbrev R := S43
def V : Int → List R → Bool
  | _, [] => true
  | last, r :: t => if r.f0 ≤ last then false else if r.f1 < r.f0 then false else if r.f1 > 1114111 then false else if r.f2 < 1 then false else if r.f2 > 3 then false else V r.f1 t
def CK (l : List R) : Bool := V (-1) l && decide ((l.length : Int) ≤ 100)
def look : List R → Int → Int
  | [], _ => 0
  | r :: t, c => if r.f0 ≤ c ∧ c ≤ r.f1 then r.f2 else look t c
theorem rd_get (l : List R) (i : Nat) (h : i < l.length) : rd_T43 l (i : Int) = l[i] := by
  unfold rd_T43
  rw [Int.toNat_natCast, List.getD_eq_getElem?_getD, List.getElem?_eq_getElem h]
  rfl
theorem w1 (i : Nat) (h : i < 1099511627776) : wrap64 ((i : Int) + 1) = ((i + 1 : Nat) : Int) := by unfold wrap64; omega
theorem V_cons {last : Int} {r : R} {t : List R} (h : V last (r :: t) = true) : last < r.f0 ∧ r.f0 ≤ r.f1 ∧ r.f1 ≤ 1114111 ∧ 1 ≤ r.f2 ∧ r.f2 ≤ 3 ∧ V r.f1 t = true := by
  unfold V at h
  split at h; · cases h
  split at h; · cases h
  split at h; · cases h
  split at h; · cases h
  split at h; · cases h
  exact ⟨by omega, by omega, by omega, by omega, by omega, h⟩
theorem V_mk {last : Int} {r : R} {t : List R} (h1 : last < r.f0) (h2 : r.f0 ≤ r.f1) (h3 : r.f1 ≤ 1114111) (h4 : 1 ≤ r.f2) (h5 : r.f2 ≤ 3) (h : V r.f1 t = true) : V last (r :: t) = true := by
  unfold V
  rw [if_neg (by omega), if_neg (by omega), if_neg (by omega), if_neg (by omega), if_neg (by omega)]
  exact h
theorem chk_l0 (x0 l : List R) (hl : l.length < 1099511627776) : ∀ (d k i : Nat) (last : Int), l.length - i = d → i ≤ l.length → d < k →
    class_Check.l0 k x0 last l (l.length : Int) (i : Int) = some (V last (l.drop i) && decide ((x0.length : Int) ≤ 100)) := by
  intro d
  induction d with
  | zero =>
    intro k i last hd hi hk
    obtain ⟨k, rfl⟩ : ∃ m, k = m + 1 := ⟨k - 1, by omega⟩
    simp only [class_Check.l0]
    rw [if_neg (by omega), List.drop_eq_nil_of_le (by omega)]
    simp [V]
  | succ d ih =>
    intro k i last hd hi hk
    obtain ⟨k, rfl⟩ : ∃ m, k = m + 1 := ⟨k - 1, by omega⟩
    have hlt : i < l.length := by omega
    simp only [class_Check.l0]
    rw [if_pos (by omega), if_pos (by omega), if_pos (by omega), rd_get l i hlt, List.drop_eq_getElem_cons hlt, w1 i (by omega)]
    have IH := ih k (i + 1) (l[i].f1) (by omega) (by omega) (by omega)
    simp only [V]
    by_cases h1 : l[i].f0 ≤ last
    · rw [if_pos h1, if_pos h1]; rfl
    rw [if_neg h1, if_neg h1]
    by_cases h2 : l[i].f1 < l[i].f0
    · rw [if_pos h2, if_pos h2]; rfl
    rw [if_neg h2, if_neg h2]
    by_cases h3 : l[i].f1 > 1114111
    · rw [if_pos h3, if_pos h3]; rfl
    rw [if_neg h3, if_neg h3]
    by_cases h4 : l[i].f2 < 1
    · rw [if_pos h4, if_pos h4]; rfl
    rw [if_neg h4, if_neg h4]
    by_cases h5 : l[i].f2 > 3
    · rw [if_pos h5, if_pos h5]; rfl
    rw [if_neg h5, if_neg h5]
    exact IH
theorem chk (l : List R) (k : Nat) (hl : l.length < 1099511627776) (hk : l.length < k) : class_Check.f k l = some (CK l) := by
  unfold class_Check.f CK
  have h := chk_l0 l l hl l.length k 0 (-1) (by omega) (by omega) hk
  rw [List.drop_zero] at h
  exact h
/-- codes that lie behind all of what follows, or ahead of it -/
theorem look_low : ∀ (l : List R) (last c : Int), V last l = true → c ≤ last → look l c = 0
  | [], _, _, _, _ => rfl
  | r :: t, last, c, h, hc => by
    obtain ⟨h1, h2, h3, h4, h5, h6⟩ := V_cons h
    unfold look
    rw [if_neg (by omega)]
    exact look_low t r.f1 c h6 (by omega)
theorem look_take : ∀ (m : Nat) (l : List R) (last c : Int) (hm : m < l.length), V last l = true → c < l[m].f0 → look l c = look (l.take m) c
  | 0, r :: t, last, c, _, h, hc => by
    obtain ⟨h1, h2, h3, h4, h5, h6⟩ := V_cons h
    simp only [List.getElem_cons_zero] at hc
    unfold look
    rw [if_neg (by omega)]
    simp only [List.take_zero]
    exact look_low t r.f1 c h6 (by omega)
  | m + 1, r :: t, last, c, hm, h, hc => by
    obtain ⟨h1, h2, h3, h4, h5, h6⟩ := V_cons h
    simp only [List.getElem_cons_succ] at hc
    simp only [List.take_succ_cons]
    unfold look
    split
    · rfl
    · exact look_take m t r.f1 c (by simpa using hm) h6 hc
theorem V_drop : ∀ (m : Nat) (l : List R) (last : Int) (hm : m < l.length), V last l = true → last < l[m].f0 ∧ l[m].f0 ≤ l[m].f1 ∧ l[m].f1 ≤ 1114111 ∧ 1 ≤ l[m].f2 ∧ l[m].f2 ≤ 3 ∧ V l[m].f1 (l.drop (m + 1)) = true
  | 0, r :: t, last, _, h => by simpa using V_cons h
  | m + 1, r :: t, last, hm, h => by
    obtain ⟨h1, h2, h3, h4, h5, h6⟩ := V_cons h
    have := V_drop m t r.f1 (by simpa using hm) h6
    simp only [List.getElem_cons_succ, List.drop_succ_cons]
    exact ⟨by omega, this.2⟩
theorem look_drop : ∀ (m : Nat) (l : List R) (last c : Int) (hm : m < l.length), V last l = true → l[m].f1 < c → look l c = look (l.drop (m + 1)) c
  | 0, r :: t, last, c, _, h, hc => by
    simp only [List.getElem_cons_zero] at hc
    conv => lhs; unfold look
    rw [if_neg (by omega)]
    rfl
  | m + 1, r :: t, last, c, hm, h, hc => by
    obtain ⟨h1, h2, h3, h4, h5, h6⟩ := V_cons h
    simp only [List.getElem_cons_succ] at hc
    have hmt : m < t.length := by simpa using hm
    have := V_drop m t r.f1 hmt h6
    conv => lhs; unfold look
    rw [if_neg (by omega)]
    simp only [List.drop_succ_cons]
    exact look_drop m t r.f1 c hmt h6 hc
theorem look_hit : ∀ (m : Nat) (l : List R) (last c : Int) (hm : m < l.length), V last l = true → l[m].f0 ≤ c → c ≤ l[m].f1 → look l c = l[m].f2
  | 0, r :: t, last, c, _, h, h1, h2 => by
    simp only [List.getElem_cons_zero] at h1 h2 ⊢
    unfold look
    rw [if_pos ⟨h1, h2⟩]
  | m + 1, r :: t, last, c, hm, h, hc1, hc2 => by
    obtain ⟨h1, h2, h3, h4, h5, h6⟩ := V_cons h
    simp only [List.getElem_cons_succ] at hc1 hc2 ⊢
    have hmt : m < t.length := by simpa using hm
    have := V_drop m t r.f1 hmt h6
    unfold look
    rw [if_neg (by omega)]
    exact look_hit m t r.f1 c hmt h6 hc1 hc2
theorem V_take : ∀ (m : Nat) (l : List R) (last : Int), V last l = true → V last (l.take m) = true
  | 0, _, _, _ => by simp [V]
  | m + 1, [], _, _ => by simp [V]
  | m + 1, r :: t, last, h => by
    obtain ⟨h1, h2, h3, h4, h5, h6⟩ := V_cons h
    simp only [List.take_succ_cons]
    exact V_mk h1 h2 h3 h4 h5 (V_take m t r.f1 h6)
theorem of_l0 (c : Int) : ∀ (n : Nat) (l : List R) (k : Nat) (last : Int), l.length = n → n < 1099511627776 → n < k → V last l = true → class_Of.l0 k l c = some (look l c) := by
  intro n
  induction n using Nat.strongRecOn with
  | ind n ih =>
    intro l k last hl hn hk hV
    obtain ⟨k, rfl⟩ : ∃ m, k = m + 1 := ⟨k - 1, by omega⟩
    simp only [class_Of.l0]
    by_cases h0 : l.length = 0
    · rw [if_neg (by omega)]
      rw [List.eq_nil_of_length_eq_zero h0]
      rfl
    have hm : l.length / 2 < l.length := by omega
    have e1 : wrap64 ((l.length : Int) / 2) = ((l.length / 2 : Nat) : Int) := by unfold wrap64; omega
    have e2 : wrap64 (((l.length / 2 : Nat) : Int) + 1) = ((l.length / 2 + 1 : Nat) : Int) := by unfold wrap64; omega
    rw [if_pos (by omega), e1, e2, if_pos (by omega), if_pos (by omega), rd_get l _ hm]
    have hd := V_drop _ l last hm hV
    by_cases h1 : c < l[l.length / 2].f0
    · rw [if_pos h1, if_pos (by omega), Int.toNat_natCast, look_take _ l last c hm hV h1]
      exact ih (l.take (l.length / 2)).length (by rw [List.length_take]; omega) _ k last rfl (by rw [List.length_take]; omega) (by rw [List.length_take]; omega) (V_take _ l last hV)
    · rw [if_neg h1]
      by_cases h2 : c > l[l.length / 2].f1
      · rw [if_pos h2, if_pos (by omega), if_pos (by omega), Int.toNat_natCast, look_drop _ l last c hm hV h2]
        exact ih (l.drop (l.length / 2 + 1)).length (by rw [List.length_drop]; omega) _ k _ rfl (by rw [List.length_drop]; omega) (by rw [List.length_drop]; omega) hd.2.2.2.2.2
      · rw [if_neg h2, look_hit _ l last c hm hV (by omega) (by omega)]
def OF (l : List R) (c : Int) : Int := if CK l = true then look l c else 0
theorem of_f (l : List R) (c : Int) (k : Nat) (hl : l.length < 1099511627776) (hk : l.length < k) : class_Of.f k l c = some (OF l c) := by
  unfold class_Of.f OF
  rw [chk l k hl hk]
  simp only [Option.bind_some]
  by_cases h : CK l = true
  · rw [if_pos h, if_pos h]
    unfold CK at h
    simp only [Bool.and_eq_true] at h
    exact of_l0 c l.length l k (-1) rfl hl hk h.1
  · rw [if_neg h, if_neg h]
theorem aw (k : Nat) (hk : 3 ≤ k) : abecedarylaw02_awake.f k = some true := by
  unfold abecedarylaw02_awake.f
  simp only [Option.bind_some]
  rw [of_f _ _ k (by decide) (by simp; omega), chk _ k (by decide) (by simp; omega), of_f _ _ k (by decide) (by simp; omega), of_f _ _ k (by decide) (by simp; omega)]
  decide

def T (k : Nat) (c : Int) (l : List R) : Option Bool := (class_Check.f k l).bind fun t => (if t = true then (none) else ((class_Of.f k l 97).bind fun u => (if u = 0 then ((class_Of.f k l c).bind fun v => (if v = 0 then ((abecedarylaw02_awake.f k).bind fun x => (some x)) else (none))) else (none))))
theorem T_ok (k : Nat) (c : Int) (l : List R) (hl : l.length < 1000) (hk : 1010 ≤ k) (h : CK l = false) : T k c l = some true := by
  unfold T
  rw [chk l k (by omega) (by omega), of_f l 97 k (by omega) (by omega), of_f l c k (by omega) (by omega), aw k (by omega)]
  simp [OF, h]
theorem l0 (c : Int) : ∀ (d k : Nat) (l : List R), l.length ≤ 101 → 1 ≤ l.length → 101 - l.length = d → 1010 + d < k → abecedarylaw02_ClassWrong.l0 k c l = some true := by
  intro d
  induction d with
  | zero =>
    intro k l h1 h0 hd hk
    obtain ⟨k, rfl⟩ : ∃ m, k = m + 1 := ⟨k - 1, by omega⟩
    simp only [abecedarylaw02_ClassWrong.l0]
    rw [if_neg (by omega)]
    refine T_ok k c l (by omega) (by omega) ?_
    unfold CK
    rw [show decide ((l.length : Int) ≤ 100) = false from decide_eq_false (by omega), Bool.and_false]
  | succ d ih =>
    intro k l h1 h0 hd hk
    obtain ⟨k, rfl⟩ : ∃ m, k = m + 1 := ⟨k - 1, by omega⟩
    simp only [abecedarylaw02_ClassWrong.l0]
    have e : wrap64 ((l.length : Int) - 1) = (l.length : Int) - 1 := by unfold wrap64; omega
    rw [if_pos (by omega), e, if_pos (by omega), if_pos (by omega), if_pos (by omega)]
    exact ih k _ (by simp; omega) (by simp) (by simp; omega) (by omega)
theorem ClassWrong : abecedarylaw02_ClassWrong.Pure := by
  intro a0 a1 a2 _ _ _
  refine ⟨2000, ?_⟩
  unfold abecedarylaw02_ClassWrong.f abecedarylaw00_Table.f
  simp only [Option.bind_some, List.length_cons, List.length_nil]
  rw [place_eq a1 _ (by decide) (by decide), place_eq a0 8 (by decide) (by decide)]
  obtain ⟨i0, i1⟩ := em a1 5 (by decide)
  obtain ⟨h0, h1⟩ := em a0 8 (by decide)
  simp only [Option.bind_some]
  rw [chk _ 2000 (by decide) (by decide)]
  simp only [Option.bind_some]
  rw [if_pos (by decide)]
  have hw4 : wrap64 (((0 + 1 + 1 + 1 + 1 + 1 : Nat) : Int) - 1) = 4 := by kernel_rfl
  have hi : a1 % (((0 + 1 + 1 + 1 + 1 + 1 : Nat)) : Int) = 0 ∨ a1 % (((0 + 1 + 1 + 1 + 1 + 1 : Nat)) : Int) = 1 ∨ a1 % (((0 + 1 + 1 + 1 + 1 + 1 : Nat)) : Int) = 2 ∨ a1 % (((0 + 1 + 1 + 1 + 1 + 1 : Nat)) : Int) = 3 ∨ a1 % (((0 + 1 + 1 + 1 + 1 + 1 : Nat)) : Int) = 4 := by
    have : (((0 + 1 + 1 + 1 + 1 + 1 : Nat)) : Int) = 5 := rfl
    rw [this]
    omega
  have hh : a0 % 8 = 0 ∨ a0 % 8 = 1 ∨ a0 % 8 = 2 ∨ a0 % 8 = 3 ∨ a0 % 8 = 4 ∨ a0 % 8 = 5 ∨ a0 % 8 = 6 ∨ a0 % 8 = 7 := by omega
  rcases hh with e | e | e | e | e | e | e | e <;> rw [e] <;> (try simp only [Option.bind_some])
  case inr.inr.inr.inr.inr.inr.inr =>
    simp only [show ¬ ((7 : Int) = 0) by decide, show ¬ ((7 : Int) = 1) by decide, show ¬ ((7 : Int) = 2) by decide, show ¬ ((7 : Int) = 3) by decide, show ¬ ((7 : Int) = 4) by decide, show ¬ ((7 : Int) = 5) by decide, show ¬ ((7 : Int) = 6) by decide, if_false]
    exact l0 a2 96 2000 _ (by decide) (by decide) (by decide) (by decide)
  all_goals rcases hi with f | f | f | f | f <;> rw [f]
  all_goals (simp (decide := true) only [↓reduceIte, hw4])
  all_goals (refine T_ok 2000 a2 _ ?_ ?_ ?_ <;> first | kernel_rfl | decide)

end Go.Proofs.Ytedjfmlmoommnaa.Pure

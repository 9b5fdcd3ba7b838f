/- ClassNumbers holds: in a table made by numbers each range's codes have its class, and those between are Other. No condition. -/
import Derived.Test.YtedjfmlmoommnaaQ30
namespace Go.Proofs.Ytedjfmlmoommnaa.Pure
open Go.RowKit Go.Proofs.Ytedjfmlmoommnaa.Q Go.Proofs.YtedjfmlmoommnaaW.PrintWords Go.Proofs.YtedjfmlmoommnaaW.PrintLast
set_option linter.unusedVariables false
set_option linter.unusedSimpArgs false
theorem place_eq (a n : Int) (h0 : 0 < n) (h1 : n ≤ 1099511627776) : abecedarylaw00_Place.f a n = some (a % n) := by
  have e : Int.tmod a n = a % n - if 0 ≤ a ∨ n ∣ a then 0 else n.natAbs := Int.tmod_eq_emod
  have b0 := Int.emod_nonneg a (show n ≠ 0 by omega)
  have b1 := Int.emod_lt_of_pos a h0
  unfold abecedarylaw00_Place.f
  rw [if_neg (by omega)]
  by_cases hd : 0 ≤ a ∨ n ∣ a
  · rw [if_pos hd] at e
    rw [if_neg (by omega)]
    rw [show a.tmod n = a % n by omega]
  · rw [if_neg hd] at e
    have hz : a % n ≠ 0 := fun hz => hd (.inr (Int.dvd_of_emod_eq_zero hz))
    rw [if_pos (by omega)]
    congr 1
    unfold wrap64
    omega

theorem em (a n : Int) (h : 0 < n) : 0 ≤ a % n ∧ a % n < n := ⟨Int.emod_nonneg a (by omega), Int.emod_lt_of_pos a h⟩
abbrev R := S43
def V : Int → List R → Bool
  | _, [] => true
  | last, r :: t => if r.f0 ≤ last then false else if r.f1 < r.f0 then false else if r.f1 > 1114111 then false else if r.f2 < 1 then false else if r.f2 > 3 then false else V r.f1 t
def CK (l : List R) : Bool := V (-1) l && decide ((l.length : Int) ≤ 100)
def look : List R → Int → Int
  | [], _ => 0
  | r :: t, c => if r.f0 ≤ c ∧ c ≤ r.f1 then r.f2 else look t c
theorem rd_get (l : List R) (i : Nat) (h : i < l.length) : rd_T43 l (i : Int) = l[i] := by
  unfold rd_T43
  rw [Int.toNat_natCast, List.getD_eq_getElem?_getD, List.getElem?_eq_getElem h]
  rfl
theorem w1 (i : Nat) (h : i < 1099511627776) : wrap64 ((i : Int) + 1) = ((i + 1 : Nat) : Int) := by unfold wrap64; omega
theorem V_cons {last : Int} {r : R} {t : List R} (h : V last (r :: t) = true) : last < r.f0 ∧ r.f0 ≤ r.f1 ∧ r.f1 ≤ 1114111 ∧ 1 ≤ r.f2 ∧ r.f2 ≤ 3 ∧ V r.f1 t = true := by
  unfold V at h
  split at h; · cases h
  split at h; · cases h
  split at h; · cases h
  split at h; · cases h
  split at h; · cases h
  exact ⟨by omega, by omega, by omega, by omega, by omega, h⟩
theorem V_mk {last : Int} {r : R} {t : List R} (h1 : last < r.f0) (h2 : r.f0 ≤ r.f1) (h3 : r.f1 ≤ 1114111) (h4 : 1 ≤ r.f2) (h5 : r.f2 ≤ 3) (h : V r.f1 t = true) : V last (r :: t) = true := by
  unfold V
  rw [if_neg (by omega), if_neg (by omega), if_neg (by omega), if_neg (by omega), if_neg (by omega)]
  exact h
theorem chk_l0 (x0 l : List R) (hl : l.length < 1099511627776) : ∀ (d k i : Nat) (last : Int), l.length - i = d → i ≤ l.length → d < k →
    class_Check.l0 k x0 last l (l.length : Int) (i : Int) = some (V last (l.drop i) && decide ((x0.length : Int) ≤ 100)) := by
  intro d
  induction d with
  | zero =>
    intro k i last hd hi hk
    obtain ⟨k, rfl⟩ : ∃ m, k = m + 1 := ⟨k - 1, by omega⟩
    simp only [class_Check.l0]
    rw [if_neg (by omega), List.drop_eq_nil_of_le (by omega)]
    simp [V]
  | succ d ih =>
    intro k i last hd hi hk
    obtain ⟨k, rfl⟩ : ∃ m, k = m + 1 := ⟨k - 1, by omega⟩
    have hlt : i < l.length := by omega
    simp only [class_Check.l0]
    rw [if_pos (by omega), if_pos (by omega), if_pos (by omega), rd_get l i hlt, List.drop_eq_getElem_cons hlt, w1 i (by omega)]
    have IH := ih k (i + 1) (l[i].f1) (by omega) (by omega) (by omega)
    simp only [V]
    by_cases h1 : l[i].f0 ≤ last
    · rw [if_pos h1, if_pos h1]; rfl
    rw [if_neg h1, if_neg h1]
    by_cases h2 : l[i].f1 < l[i].f0
    · rw [if_pos h2, if_pos h2]; rfl
    rw [if_neg h2, if_neg h2]
    by_cases h3 : l[i].f1 > 1114111
    · rw [if_pos h3, if_pos h3]; rfl
    rw [if_neg h3, if_neg h3]
    by_cases h4 : l[i].f2 < 1
    · rw [if_pos h4, if_pos h4]; rfl
    rw [if_neg h4, if_neg h4]
    by_cases h5 : l[i].f2 > 3
    · rw [if_pos h5, if_pos h5]; rfl
    rw [if_neg h5, if_neg h5]
    exact IH
theorem chk (l : List R) (k : Nat) (hl : l.length < 1099511627776) (hk : l.length < k) : class_Check.f k l = some (CK l) := by
  unfold class_Check.f CK
  have h := chk_l0 l l hl l.length k 0 (-1) (by omega) (by omega) hk
  rw [List.drop_zero] at h
  exact h
/-- codes that lie behind all of what follows, or ahead of it -/
theorem look_low : ∀ (l : List R) (last c : Int), V last l = true → c ≤ last → look l c = 0
  | [], _, _, _, _ => rfl
  | r :: t, last, c, h, hc => by
    obtain ⟨h1, h2, h3, h4, h5, h6⟩ := V_cons h
    unfold look
    rw [if_neg (by omega)]
    exact look_low t r.f1 c h6 (by omega)
theorem look_take : ∀ (m : Nat) (l : List R) (last c : Int) (hm : m < l.length), V last l = true → c < l[m].f0 → look l c = look (l.take m) c
  | 0, r :: t, last, c, _, h, hc => by
    obtain ⟨h1, h2, h3, h4, h5, h6⟩ := V_cons h
    simp only [List.getElem_cons_zero] at hc
    unfold look
    rw [if_neg (by omega)]
    simp only [List.take_zero]
    exact look_low t r.f1 c h6 (by omega)
  | m + 1, r :: t, last, c, hm, h, hc => by
    obtain ⟨h1, h2, h3, h4, h5, h6⟩ := V_cons h
    simp only [List.getElem_cons_succ] at hc
    simp only [List.take_succ_cons]
    unfold look
    split
    · rfl
    · exact look_take m t r.f1 c (by simpa using hm) h6 hc
theorem V_drop : ∀ (m : Nat) (l : List R) (last : Int) (hm : m < l.length), V last l = true → last < l[m].f0 ∧ l[m].f0 ≤ l[m].f1 ∧ l[m].f1 ≤ 1114111 ∧ 1 ≤ l[m].f2 ∧ l[m].f2 ≤ 3 ∧ V l[m].f1 (l.drop (m + 1)) = true
  | 0, r :: t, last, _, h => by simpa using V_cons h
  | m + 1, r :: t, last, hm, h => by
    obtain ⟨h1, h2, h3, h4, h5, h6⟩ := V_cons h
    have := V_drop m t r.f1 (by simpa using hm) h6
    simp only [List.getElem_cons_succ, List.drop_succ_cons]
    exact ⟨by omega, this.2⟩
theorem look_drop : ∀ (m : Nat) (l : List R) (last c : Int) (hm : m < l.length), V last l = true → l[m].f1 < c → look l c = look (l.drop (m + 1)) c
  | 0, r :: t, last, c, _, h, hc => by
    simp only [List.getElem_cons_zero] at hc
    conv => lhs; unfold look
    rw [if_neg (by omega)]
    rfl
  | m + 1, r :: t, last, c, hm, h, hc => by
    obtain ⟨h1, h2, h3, h4, h5, h6⟩ := V_cons h
    simp only [List.getElem_cons_succ] at hc
    have hmt : m < t.length := by simpa using hm
    have := V_drop m t r.f1 hmt h6
    conv => lhs; unfold look
    rw [if_neg (by omega)]
    simp only [List.drop_succ_cons]
    exact look_drop m t r.f1 c hmt h6 hc
theorem look_hit : ∀ (m : Nat) (l : List R) (last c : Int) (hm : m < l.length), V last l = true → l[m].f0 ≤ c → c ≤ l[m].f1 → look l c = l[m].f2
  | 0, r :: t, last, c, _, h, h1, h2 => by
    simp only [List.getElem_cons_zero] at h1 h2 ⊢
    unfold look
    rw [if_pos ⟨h1, h2⟩]
  | m + 1, r :: t, last, c, hm, h, hc1, hc2 => by
    obtain ⟨h1, h2, h3, h4, h5, h6⟩ := V_cons h
    simp only [List.getElem_cons_succ] at hc1 hc2 ⊢
    have hmt : m < t.length := by simpa using hm
    have := V_drop m t r.f1 hmt h6
    unfold look
    rw [if_neg (by omega)]
    exact look_hit m t r.f1 c hmt h6 hc1 hc2
theorem V_take : ∀ (m : Nat) (l : List R) (last : Int), V last l = true → V last (l.take m) = true
  | 0, _, _, _ => by simp [V]
  | m + 1, [], _, _ => by simp [V]
  | m + 1, r :: t, last, h => by
    obtain ⟨h1, h2, h3, h4, h5, h6⟩ := V_cons h
    simp only [List.take_succ_cons]
    exact V_mk h1 h2 h3 h4 h5 (V_take m t r.f1 h6)
theorem of_l0 (c : Int) : ∀ (n : Nat) (l : List R) (k : Nat) (last : Int), l.length = n → n < 1099511627776 → n < k → V last l = true → class_Of.l0 k l c = some (look l c) := by
  intro n
  induction n using Nat.strongRecOn with
  | ind n ih =>
    intro l k last hl hn hk hV
    obtain ⟨k, rfl⟩ : ∃ m, k = m + 1 := ⟨k - 1, by omega⟩
    simp only [class_Of.l0]
    by_cases h0 : l.length = 0
    · rw [if_neg (by omega)]
      rw [List.eq_nil_of_length_eq_zero h0]
      rfl
    have hm : l.length / 2 < l.length := by omega
    have e1 : wrap64 ((l.length : Int) / 2) = ((l.length / 2 : Nat) : Int) := by unfold wrap64; omega
    have e2 : wrap64 (((l.length / 2 : Nat) : Int) + 1) = ((l.length / 2 + 1 : Nat) : Int) := by unfold wrap64; omega
    rw [if_pos (by omega), e1, e2, if_pos (by omega), if_pos (by omega), rd_get l _ hm]
    have hd := V_drop _ l last hm hV
    by_cases h1 : c < l[l.length / 2].f0
    · rw [if_pos h1, if_pos (by omega), Int.toNat_natCast, look_take _ l last c hm hV h1]
      exact ih (l.take (l.length / 2)).length (by rw [List.length_take]; omega) _ k last rfl (by rw [List.length_take]; omega) (by rw [List.length_take]; omega) (V_take _ l last hV)
    · rw [if_neg h1]
      by_cases h2 : c > l[l.length / 2].f1
      · rw [if_pos h2, if_pos (by omega), if_pos (by omega), Int.toNat_natCast, look_drop _ l last c hm hV h2]
        exact ih (l.drop (l.length / 2 + 1)).length (by rw [List.length_drop]; omega) _ k _ rfl (by rw [List.length_drop]; omega) (by rw [List.length_drop]; omega) hd.2.2.2.2.2
      · rw [if_neg h2, look_hit _ l last c hm hV (by omega) (by omega)]
def OF (l : List R) (c : Int) : Int := if CK l = true then look l c else 0
theorem of_f (l : List R) (c : Int) (k : Nat) (hl : l.length < 1099511627776) (hk : l.length < k) : class_Of.f k l c = some (OF l c) := by
  unfold class_Of.f OF
  rw [chk l k hl hk]
  simp only [Option.bind_some]
  by_cases h : CK l = true
  · rw [if_pos h, if_pos h]
    unfold CK at h
    simp only [Bool.and_eq_true] at h
    exact of_l0 c l.length l k (-1) rfl hl hk h.1
  · rw [if_neg h, if_neg h]
theorem aw (k : Nat) (hk : 3 ≤ k) : abecedarylaw02_awake.f k = some true := by
  unfold abecedarylaw02_awake.f
  simp only [Option.bind_some]
  rw [of_f _ _ k (by decide) (by simp; omega), chk _ k (by decide) (by simp; omega), of_f _ _ k (by decide) (by simp; omega), of_f _ _ k (by decide) (by simp; omega)]
  decide

def mkE (x at_ : Int) : R := ⟨at_ + 1 + x % 1048576 % 50, at_ + 1 + x % 1048576 % 50 + x % 1048576 / 50 % 30, 1 + x % 1048576 / 1500 % 3⟩
def build : List Int → Int → List R
  | [], _ => []
  | x :: xs, at_ => mkE x at_ :: build xs (mkE x at_).f1
def lastOf : List Int → Int → Int
  | [], a => a
  | x :: xs, a => lastOf xs (mkE x a).f1
theorem mkE_bd (x a : Int) : a < (mkE x a).f0 ∧ (mkE x a).f0 ≤ (mkE x a).f1 ∧ (mkE x a).f1 ≤ a + 80 ∧ 1 ≤ (mkE x a).f2 ∧ (mkE x a).f2 ≤ 3 := by
  simp only [mkE]; omega
theorem V_build : ∀ (xs : List Int) (a : Int) (b : Int), 0 ≤ a → a + 80 * xs.length ≤ 1000000 → b ≤ a → V b (build xs a) = true
  | [], _, _, _, _, _ => by simp [build, V]
  | x :: xs, a, b, h0, h, hb => by
    have e := mkE_bd x a
    simp only [build]
    simp only [List.length_cons] at h
    exact V_mk (by omega) e.2.1 (by omega) e.2.2.2.1 e.2.2.2.2 (V_build xs _ _ (by omega) (by omega) (Int.le_refl _))
theorem build_len : ∀ (xs : List Int) (a : Int), (build xs a).length = xs.length
  | [], _ => rfl
  | x :: xs, a => by simp [build, build_len xs]
theorem build_snoc : ∀ (xs : List Int) (a x : Int), build (xs ++ [x]) a = build xs a ++ [mkE x (lastOf xs a)]
  | [], _, _ => rfl
  | y :: xs, a, x => by simp only [List.cons_append, build, lastOf]; rw [build_snoc xs]
theorem lastOf_snoc : ∀ (xs : List Int) (a x : Int), lastOf (xs ++ [x]) a = (mkE x (lastOf xs a)).f1
  | [], _, _ => rfl
  | y :: xs, a, x => by simp only [List.cons_append, lastOf]; exact lastOf_snoc xs _ x
theorem lastOf_bd : ∀ (xs : List Int) (a : Int), a ≤ lastOf xs a ∧ lastOf xs a ≤ a + 80 * xs.length
  | [], a => by simp [lastOf]
  | x :: xs, a => by
    have e := mkE_bd x a
    have := lastOf_bd xs (mkE x a).f1
    simp only [lastOf, List.length_cons]
    omega
/-- the last range that a code lies in -/
def want (c : Int) : List R → Int → Int
  | [], v => v
  | r :: t, v => want c t (if c ≥ r.f0 ∧ c ≤ r.f1 then r.f2 else v)
theorem want_low : ∀ (l : List R) (last c v : Int), V last l = true → c ≤ last → want c l v = v
  | [], _, _, _, _, _ => rfl
  | r :: t, last, c, v, h, hc => by
    obtain ⟨h1, h2, h3, h4, h5, h6⟩ := V_cons h
    unfold want
    rw [if_neg (by omega)]
    exact want_low t r.f1 c v h6 (by omega)
theorem want_look : ∀ (l : List R) (last c : Int), V last l = true → want c l 0 = look l c
  | [], _, _, _ => rfl
  | r :: t, last, c, h => by
    obtain ⟨h1, h2, h3, h4, h5, h6⟩ := V_cons h
    unfold want look
    by_cases hc : r.f0 ≤ c ∧ c ≤ r.f1
    · rw [if_pos (by omega), if_pos hc]
      exact want_low t r.f1 c r.f2 h6 (by omega)
    · rw [if_neg (by omega), if_neg hc]
      exact want_look t r.f1 c h6
section
variable (l : List R) (hV : V (-1) l = true) (hl : l.length ≤ 100)
include hV hl
theorem hCK : CK l = true := by unfold CK; rw [hV, show decide ((l.length : Int) ≤ 100) = true from decide_eq_true (by omega)]; rfl
theorem hOF (c : Int) : OF l c = look l c := by unfold OF; rw [if_pos (hCK l hV hl)]
theorem scan (c : Int) : ∀ (d k i : Nat) (v : Int), l.length - i = d → i ≤ l.length → 3 * d + 300 < k → want c (l.drop i) v = look l c → abecedarylaw02_ClassNumbers.l1 k l c v (i : Int) = some true := by
  intro d
  induction d with
  | zero =>
    intro k i v hd hi hk hw
    obtain ⟨k, rfl⟩ : ∃ m, k = m + 1 := ⟨k - 1, by omega⟩
    rw [List.drop_eq_nil_of_le (by omega)] at hw
    simp only [want] at hw
    simp only [abecedarylaw02_ClassNumbers.l1]
    rw [if_neg (by omega), of_f l c k (by omega) (by omega), hOF l hV hl]
    simp only [Option.bind_some]
    rw [if_pos hw.symm, aw k (by omega)]
    rfl
  | succ d ih =>
    intro k i v hd hi hk hw
    obtain ⟨k, rfl⟩ : ∃ m, k = m + 3 := ⟨k - 3, by omega⟩
    have hlt : i < l.length := by omega
    rw [List.drop_eq_getElem_cons hlt] at hw
    have hd2 := V_drop i l (-1) hlt hV
    have l0 : look l l[i].f0 = l[i].f2 := look_hit i l (-1) _ hlt hV (Int.le_refl _) hd2.2.1
    have l1 : look l l[i].f1 = l[i].f2 := look_hit i l (-1) _ hlt hV hd2.2.1 (Int.le_refl _)
    have J : ∀ v', want c (l.drop (i + 1)) v' = look l c → abecedarylaw02_ClassNumbers.j5 (k + 1) l c v' (i : Int) = some true := by
      intro v' hv
      simp only [abecedarylaw02_ClassNumbers.j5]
      rw [if_pos (by omega), if_pos (by omega), rd_get l i hlt, of_f l _ k (by omega) (by omega), of_f l _ k (by omega) (by omega), hOF l hV hl, hOF l hV hl, l0, l1]
      simp only [Option.bind_some, if_true, w1 i (by omega)]
      exact ih k (i + 1) v' (by omega) (by omega) (by omega) hv
    have J4 : ∀ b, abecedarylaw02_ClassNumbers.j4 (k + 2) l c v (i : Int) b = abecedarylaw02_ClassNumbers.j5 (k + 1) l c (if b = true then l[i].f2 else v) (i : Int) := by
      intro b
      simp only [abecedarylaw02_ClassNumbers.j4]
      rw [rd_get l i hlt]
      cases b
      · simp
      · simp only [if_true]; rw [if_pos (by omega), if_pos (by omega)]
    unfold want at hw
    simp only [abecedarylaw02_ClassNumbers.l1]
    rw [if_pos (by omega), if_pos (by omega), rd_get l i hlt]
    by_cases h0 : c ≥ l[i].f0
    · rw [if_pos h0, J4]
      refine J _ ?_
      by_cases h1 : c ≤ l[i].f1
      · rw [if_pos ⟨h0, h1⟩] at hw
        rw [if_pos (decide_eq_true h1)]
        exact hw
      · rw [if_neg (fun h => h1 h.2)] at hw
        rw [if_neg (by simpa using h1)]
        exact hw
    · rw [if_neg (fun h => h0 h.1)] at hw
      rw [if_neg h0, J4]
      exact J _ hw
theorem ending (k : Nat) (a1 at_ : Int) (h0 : 0 ≤ at_) (h1 : at_ ≤ 100000) (hk : 1000 < k) : abecedarylaw02_ClassNumbers.j1 k a1 l at_ = some true := by
  obtain ⟨k, rfl⟩ : ∃ m, k = m + 2 := ⟨k - 2, by omega⟩
  simp only [abecedarylaw02_ClassNumbers.j1]
  rw [chk l _ (by omega) (by omega), hCK l hV hl]
  simp only [Option.bind_some, if_true]
  rw [place_eq a1 300 (by decide) (by decide)]
  obtain ⟨c0, c1⟩ := em a1 300 (by decide)
  simp only [Option.bind_some]
  rw [of_f l _ _ (by omega) (by omega), hOF l hV hl, show wrap64 (-1 - a1 % 300) = -1 - a1 % 300 by unfold wrap64; omega, look_low l (-1) _ hV (by omega)]
  simp only [Option.bind_some, bne_self_eq_false]
  simp only [abecedarylaw02_ClassNumbers.j2, Bool.false_eq_true, if_false]
  rw [show wrap64 (at_ + 60) = at_ + 60 by unfold wrap64; omega, place_eq a1 (at_ + 60) (by omega) (by omega)]
  simp only [Option.bind_some]
  exact scan l hV hl _ l.length k 0 0 (by omega) (by omega) (by omega) (by rw [List.drop_zero]; exact want_look l (-1) _ hV)
end
theorem rd_int (l : List Int) (i : Nat) (h : i < l.length) : rd l (i : Int) = l[i] := by
  unfold rd
  rw [Int.toNat_natCast, List.getD_eq_getElem?_getD, List.getElem?_eq_getElem h]
  rfl
theorem step (x a : Int) (h0 : 0 ≤ a) (h1 : a ≤ 100000) :
    (⟨wrap64 (wrap64 (a + 1) + Int.tmod (x % 1048576) 50), wrap64 (wrap64 (wrap64 (a + 1) + Int.tmod (x % 1048576) 50) + Int.tmod (wrap64 (Int.tdiv (x % 1048576) 50)) 30), wrap64 (1 + Int.tmod (wrap64 (Int.tdiv (x % 1048576) 1500)) 3)⟩ : R) = mkE x a := by
  have hx := em x 1048576 (by decide)
  have e1 : Int.tmod (x % 1048576) 50 = x % 1048576 % 50 := Int.tmod_eq_emod_of_nonneg hx.1
  have e2 : Int.tdiv (x % 1048576) 50 = x % 1048576 / 50 := Int.tdiv_eq_ediv_of_nonneg hx.1
  have e3 : Int.tdiv (x % 1048576) 1500 = x % 1048576 / 1500 := Int.tdiv_eq_ediv_of_nonneg hx.1
  have v1 : wrap64 (x % 1048576 / 50) = x % 1048576 / 50 := by unfold wrap64; omega
  have v2 : wrap64 (x % 1048576 / 1500) = x % 1048576 / 1500 := by unfold wrap64; omega
  have e4 : Int.tmod (x % 1048576 / 50) 30 = x % 1048576 / 50 % 30 := Int.tmod_eq_emod_of_nonneg (by omega)
  have e5 : Int.tmod (x % 1048576 / 1500) 3 = x % 1048576 / 1500 % 3 := Int.tmod_eq_emod_of_nonneg (by omega)
  rw [e1, e2, e3, v1, v2, e4, e5]
  have v3 : wrap64 (a + 1) = a + 1 := by unfold wrap64; omega
  have v4 : wrap64 (a + 1 + x % 1048576 % 50) = a + 1 + x % 1048576 % 50 := by unfold wrap64; omega
  have v5 : wrap64 (a + 1 + x % 1048576 % 50 + x % 1048576 / 50 % 30) = a + 1 + x % 1048576 % 50 + x % 1048576 / 50 % 30 := by unfold wrap64; omega
  have v6 : wrap64 (1 + x % 1048576 / 1500 % 3) = 1 + x % 1048576 / 1500 % 3 := by unfold wrap64; omega
  rw [v3, v4, v5, v6]
  rfl
theorem loop (l : List Int) (a1 : Int) (hl : l.length < 100000000000000) : ∀ (d k i : Nat), 101 - i = d → i ≤ l.length → i ≤ 100 → 2000 + d < k → abecedarylaw02_ClassNumbers.l0 k l a1 (build (l.take i) 0) (lastOf (l.take i) 0) (i : Int) = some true := by
  intro d
  induction d with
  | zero => intro k i hd hi hi' hk; omega
  | succ d ih =>
    intro k i hd hi hi' hk
    obtain ⟨k, rfl⟩ : ∃ m, k = m + 1 := ⟨k - 1, by omega⟩
    have hlen : (l.take i).length = i := by rw [List.length_take]; omega
    have hb := lastOf_bd (l.take i) 0
    rw [hlen] at hb
    have hbl := build_len (l.take i) 0
    rw [hlen] at hbl
    have fin : abecedarylaw02_ClassNumbers.j1 k a1 (build (l.take i) 0) (lastOf (l.take i) 0) = some true :=
      ending _ (V_build _ 0 (-1) (by omega) (by rw [hlen]; omega) (by omega)) (by omega) k a1 _ (by omega) (by omega) (by omega)
    simp only [abecedarylaw02_ClassNumbers.l0]
    by_cases h1 : i < l.length
    · rw [if_pos (by omega)]
      by_cases h2 : i < 100
      · rw [if_pos (by omega), if_pos (by omega), rd_int l i h1, place_eq _ 1048576 (by decide) (by decide)]
        simp only [Option.bind_some]
        rw [if_pos (by omega)]
        have e := step l[i] (lastOf (l.take i) 0) (by omega) (by omega)
        have e' := congrArg S43.f1 e
        dsimp only at e'
        rw [e, e', w1 i (by omega)]
        have := ih k (i + 1) (by omega) (by omega) (by omega) (by omega)
        rwa [List.take_succ_eq_append_getElem h1, build_snoc, lastOf_snoc] at this
      · rw [if_neg (by omega)]
        exact fin
    · rw [if_neg (by omega)]
      exact fin
theorem ClassNumbers : abecedarylaw02_ClassNumbers.Pure := by
  intro l a1 _ hl _ _
  refine ⟨3000, ?_⟩
  unfold abecedarylaw02_ClassNumbers.f
  exact loop l a1 (by omega) 101 3000 0 (by omega) (by omega) (by omega) (by omega)

end Go.Proofs.Ytedjfmlmoommnaa.Pure

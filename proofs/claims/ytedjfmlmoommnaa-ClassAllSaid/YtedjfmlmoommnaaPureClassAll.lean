/- ClassAll holds: the search by halves answers as the plain look through the table does, at every code. No condition. -/
import Derived.Test.YtedjfmlmoommnaaQ29
namespace Go.Proofs.Ytedjfmlmoommnaa.Pure
open Go.RowKit Go.Proofs.Ytedjfmlmoommnaa.Q Go.Proofs.YtedjfmlmoommnaaW.PrintWords Go.Proofs.YtedjfmlmoommnaaW.PrintLast
set_option linter.unusedVariables false
set_option linter.unusedSimpArgs false
theorem em (a n : Int) (h : 0 < n) : 0 ≤ a % n ∧ a % n < n := ⟨Int.emod_nonneg a (by omega), Int.emod_lt_of_pos a h⟩
abbrev R := S43
def V : Int → List R → Bool
  | _, [] => true
  | last, r :: t => if r.f0 ≤ last then false else if r.f1 < r.f0 then false else if r.f1 > 1114111 then false else if r.f2 < 1 then false else if r.f2 > 3 then false else V r.f1 t
def CK (l : List R) : Bool := V (-1) l && decide ((l.length : Int) ≤ 100)
def look : List R → Int → Int
  | [], _ => 0
  | r :: t, c => if r.f0 ≤ c ∧ c ≤ r.f1 then r.f2 else look t c
theorem rd_get (l : List R) (i : Nat) (h : i < l.length) : rd_T43 l (i : Int) = l[i] := by
  unfold rd_T43
  rw [Int.toNat_natCast, List.getD_eq_getElem?_getD, List.getElem?_eq_getElem h]
  rfl
theorem w1 (i : Nat) (h : i < 1099511627776) : wrap64 ((i : Int) + 1) = ((i + 1 : Nat) : Int) := by unfold wrap64; omega
theorem V_cons {last : Int} {r : R} {t : List R} (h : V last (r :: t) = true) : last < r.f0 ∧ r.f0 ≤ r.f1 ∧ r.f1 ≤ 1114111 ∧ 1 ≤ r.f2 ∧ r.f2 ≤ 3 ∧ V r.f1 t = true := by
  unfold V at h
  split at h; · cases h
  split at h; · cases h
  split at h; · cases h
  split at h; · cases h
  split at h; · cases h
  exact ⟨by omega, by omega, by omega, by omega, by omega, h⟩
theorem V_mk {last : Int} {r : R} {t : List R} (h1 : last < r.f0) (h2 : r.f0 ≤ r.f1) (h3 : r.f1 ≤ 1114111) (h4 : 1 ≤ r.f2) (h5 : r.f2 ≤ 3) (h : V r.f1 t = true) : V last (r :: t) = true := by
  unfold V
  rw [if_neg (by omega), if_neg (by omega), if_neg (by omega), if_neg (by omega), if_neg (by omega)]
  exact h
theorem chk_l0 (x0 l : List R) (hl : l.length < 1099511627776) : ∀ (d k i : Nat) (last : Int), l.length - i = d → i ≤ l.length → d < k →
    class_Check.l0 k x0 last l (l.length : Int) (i : Int) = some (V last (l.drop i) && decide ((x0.length : Int) ≤ 100)) := by
  intro d
  induction d with
  | zero =>
    intro k i last hd hi hk
    obtain ⟨k, rfl⟩ : ∃ m, k = m + 1 := ⟨k - 1, by omega⟩
    simp only [class_Check.l0]
    rw [if_neg (by omega), List.drop_eq_nil_of_le (by omega)]
    simp [V]
  | succ d ih =>
    intro k i last hd hi hk
    obtain ⟨k, rfl⟩ : ∃ m, k = m + 1 := ⟨k - 1, by omega⟩
    have hlt : i < l.length := by omega
    simp only [class_Check.l0]
    rw [if_pos (by omega), if_pos (by omega), if_pos (by omega), rd_get l i hlt, List.drop_eq_getElem_cons hlt, w1 i (by omega)]
    have IH := ih k (i + 1) (l[i].f1) (by omega) (by omega) (by omega)
    simp only [V]
    by_cases h1 : l[i].f0 ≤ last
    · rw [if_pos h1, if_pos h1]; rfl
    rw [if_neg h1, if_neg h1]
    by_cases h2 : l[i].f1 < l[i].f0
    · rw [if_pos h2, if_pos h2]; rfl
    rw [if_neg h2, if_neg h2]
    by_cases h3 : l[i].f1 > 1114111
    · rw [if_pos h3, if_pos h3]; rfl
    rw [if_neg h3, if_neg h3]
    by_cases h4 : l[i].f2 < 1
    · rw [if_pos h4, if_pos h4]; rfl
    rw [if_neg h4, if_neg h4]
    by_cases h5 : l[i].f2 > 3
    · rw [if_pos h5, if_pos h5]; rfl
    rw [if_neg h5, if_neg h5]
    exact IH
theorem chk (l : List R) (k : Nat) (hl : l.length < 1099511627776) (hk : l.length < k) : class_Check.f k l = some (CK l) := by
  unfold class_Check.f CK
  have h := chk_l0 l l hl l.length k 0 (-1) (by omega) (by omega) hk
  rw [List.drop_zero] at h
  exact h
/-- codes that lie behind all of what follows, or ahead of it -/
theorem look_low : ∀ (l : List R) (last c : Int), V last l = true → c ≤ last → look l c = 0
  | [], _, _, _, _ => rfl
  | r :: t, last, c, h, hc => by
    obtain ⟨h1, h2, h3, h4, h5, h6⟩ := V_cons h
    unfold look
    rw [if_neg (by omega)]
    exact look_low t r.f1 c h6 (by omega)
theorem look_take : ∀ (m : Nat) (l : List R) (last c : Int) (hm : m < l.length), V last l = true → c < l[m].f0 → look l c = look (l.take m) c
  | 0, r :: t, last, c, _, h, hc => by
    obtain ⟨h1, h2, h3, h4, h5, h6⟩ := V_cons h
    simp only [List.getElem_cons_zero] at hc
    unfold look
    rw [if_neg (by omega)]
    simp only [List.take_zero]
    exact look_low t r.f1 c h6 (by omega)
  | m + 1, r :: t, last, c, hm, h, hc => by
    obtain ⟨h1, h2, h3, h4, h5, h6⟩ := V_cons h
    simp only [List.getElem_cons_succ] at hc
    simp only [List.take_succ_cons]
    unfold look
    split
    · rfl
    · exact look_take m t r.f1 c (by simpa using hm) h6 hc
theorem V_drop : ∀ (m : Nat) (l : List R) (last : Int) (hm : m < l.length), V last l = true → last < l[m].f0 ∧ l[m].f0 ≤ l[m].f1 ∧ l[m].f1 ≤ 1114111 ∧ 1 ≤ l[m].f2 ∧ l[m].f2 ≤ 3 ∧ V l[m].f1 (l.drop (m + 1)) = true
  | 0, r :: t, last, _, h => by simpa using V_cons h
  | m + 1, r :: t, last, hm, h => by
    obtain ⟨h1, h2, h3, h4, h5, h6⟩ := V_cons h
    have := V_drop m t r.f1 (by simpa using hm) h6
    simp only [List.getElem_cons_succ, List.drop_succ_cons]
    exact ⟨by omega, this.2⟩
theorem look_drop : ∀ (m : Nat) (l : List R) (last c : Int) (hm : m < l.length), V last l = true → l[m].f1 < c → look l c = look (l.drop (m + 1)) c
  | 0, r :: t, last, c, _, h, hc => by
    simp only [List.getElem_cons_zero] at hc
    conv => lhs; unfold look
    rw [if_neg (by omega)]
    rfl
  | m + 1, r :: t, last, c, hm, h, hc => by
    obtain ⟨h1, h2, h3, h4, h5, h6⟩ := V_cons h
    simp only [List.getElem_cons_succ] at hc
    have hmt : m < t.length := by simpa using hm
    have := V_drop m t r.f1 hmt h6
    conv => lhs; unfold look
    rw [if_neg (by omega)]
    simp only [List.drop_succ_cons]
    exact look_drop m t r.f1 c hmt h6 hc
theorem look_hit : ∀ (m : Nat) (l : List R) (last c : Int) (hm : m < l.length), V last l = true → l[m].f0 ≤ c → c ≤ l[m].f1 → look l c = l[m].f2
  | 0, r :: t, last, c, _, h, h1, h2 => by
    simp only [List.getElem_cons_zero] at h1 h2 ⊢
    unfold look
    rw [if_pos ⟨h1, h2⟩]
  | m + 1, r :: t, last, c, hm, h, hc1, hc2 => by
    obtain ⟨h1, h2, h3, h4, h5, h6⟩ := V_cons h
    simp only [List.getElem_cons_succ] at hc1 hc2 ⊢
    have hmt : m < t.length := by simpa using hm
    have := V_drop m t r.f1 hmt h6
    unfold look
    rw [if_neg (by omega)]
    exact look_hit m t r.f1 c hmt h6 hc1 hc2
theorem V_take : ∀ (m : Nat) (l : List R) (last : Int), V last l = true → V last (l.take m) = true
  | 0, _, _, _ => by simp [V]
  | m + 1, [], _, _ => by simp [V]
  | m + 1, r :: t, last, h => by
    obtain ⟨h1, h2, h3, h4, h5, h6⟩ := V_cons h
    simp only [List.take_succ_cons]
    exact V_mk h1 h2 h3 h4 h5 (V_take m t r.f1 h6)
theorem of_l0 (c : Int) : ∀ (n : Nat) (l : List R) (k : Nat) (last : Int), l.length = n → n < 1099511627776 → n < k → V last l = true → class_Of.l0 k l c = some (look l c) := by
  intro n
  induction n using Nat.strongRecOn with
  | ind n ih =>
    intro l k last hl hn hk hV
    obtain ⟨k, rfl⟩ : ∃ m, k = m + 1 := ⟨k - 1, by omega⟩
    simp only [class_Of.l0]
    by_cases h0 : l.length = 0
    · rw [if_neg (by omega)]
      rw [List.eq_nil_of_length_eq_zero h0]
      rfl
    have hm : l.length / 2 < l.length := by omega
    have e1 : wrap64 ((l.length : Int) / 2) = ((l.length / 2 : Nat) : Int) := by unfold wrap64; omega
    have e2 : wrap64 (((l.length / 2 : Nat) : Int) + 1) = ((l.length / 2 + 1 : Nat) : Int) := by unfold wrap64; omega
    rw [if_pos (by omega), e1, e2, if_pos (by omega), if_pos (by omega), rd_get l _ hm]
    have hd := V_drop _ l last hm hV
    by_cases h1 : c < l[l.length / 2].f0
    · rw [if_pos h1, if_pos (by omega), Int.toNat_natCast, look_take _ l last c hm hV h1]
      exact ih (l.take (l.length / 2)).length (by rw [List.length_take]; omega) _ k last rfl (by rw [List.length_take]; omega) (by rw [List.length_take]; omega) (V_take _ l last hV)
    · rw [if_neg h1]
      by_cases h2 : c > l[l.length / 2].f1
      · rw [if_pos h2, if_pos (by omega), if_pos (by omega), Int.toNat_natCast, look_drop _ l last c hm hV h2]
        exact ih (l.drop (l.length / 2 + 1)).length (by rw [List.length_drop]; omega) _ k _ rfl (by rw [List.length_drop]; omega) (by rw [List.length_drop]; omega) hd.2.2.2.2.2
      · rw [if_neg h2, look_hit _ l last c hm hV (by omega) (by omega)]
def OF (l : List R) (c : Int) : Int := if CK l = true then look l c else 0
theorem of_f (l : List R) (c : Int) (k : Nat) (hl : l.length < 1099511627776) (hk : l.length < k) : class_Of.f k l c = some (OF l c) := by
  unfold class_Of.f OF
  rw [chk l k hl hk]
  simp only [Option.bind_some]
  by_cases h : CK l = true
  · rw [if_pos h, if_pos h]
    unfold CK at h
    simp only [Bool.and_eq_true] at h
    exact of_l0 c l.length l k (-1) rfl hl hk h.1
  · rw [if_neg h, if_neg h]
theorem aw (k : Nat) (hk : 3 ≤ k) : abecedarylaw02_awake.f k = some true := by
  unfold abecedarylaw02_awake.f
  simp only [Option.bind_some]
  rw [of_f _ _ k (by decide) (by simp; omega), chk _ k (by decide) (by simp; omega), of_f _ _ k (by decide) (by simp; omega), of_f _ _ k (by decide) (by simp; omega)]
  decide

theorem rchk_l0 (l : List R) (hl : l.length < 1099511627776) : ∀ (d k i : Nat) (last : Int), l.length - i = d → i ≤ l.length → d < k → (i = 0 → last = -1) → (∀ (h : 0 < i) (h' : i - 1 < l.length), last = l[i - 1].f1) → -1 ≤ last →
    abecedaryref02_Check.l0 k l (i : Int) = some (V last (l.drop i) && decide ((l.length : Int) ≤ 100)) := by
  intro d
  induction d with
  | zero =>
    intro k i last hd hi hk _ _ _
    obtain ⟨k, rfl⟩ : ∃ m, k = m + 1 := ⟨k - 1, by omega⟩
    simp only [abecedaryref02_Check.l0]
    rw [if_neg (by omega), List.drop_eq_nil_of_le (by omega)]
    simp [V]
  | succ d ih =>
    intro k i last hd hi hk hz hp hb
    obtain ⟨k, rfl⟩ : ∃ m, k = m + 1 := ⟨k - 1, by omega⟩
    have hlt : i < l.length := by omega
    simp only [abecedaryref02_Check.l0]
    rw [if_pos (by omega), if_pos (by omega), rd_get l i hlt, List.drop_eq_getElem_cons hlt, w1 i (by omega)]
    have IH := fun (h : -1 ≤ (l[i]'hlt).f1) => ih k (i + 1) (l[i].f1) (by omega) (by omega) (by omega) (by omega) (fun _ _ => rfl) h
    simp only [V]
    by_cases h1 : l[i].f0 < 0
    · rw [if_pos h1]
      by_cases g1 : l[i].f0 ≤ last
      · rw [if_pos g1]; rfl
      · omega
    rw [if_neg h1]
    by_cases h2 : l[i].f1 < l[i].f0
    · rw [if_pos (show l[i].f0 > l[i].f1 from h2)]
      by_cases g1 : l[i].f0 ≤ last
      · rw [if_pos g1]; rfl
      · rw [if_neg g1, if_pos h2]; rfl
    rw [if_neg (show ¬ l[i].f0 > l[i].f1 from h2)]
    by_cases h3 : l[i].f1 > 1114111
    · rw [if_pos h3]
      by_cases g1 : l[i].f0 ≤ last
      · rw [if_pos g1]; rfl
      · rw [if_neg g1, if_neg h2, if_pos h3]; rfl
    rw [if_neg h3]
    by_cases h4 : l[i].f2 < 1
    · rw [if_pos h4]
      by_cases g1 : l[i].f0 ≤ last
      · rw [if_pos g1]; rfl
      · rw [if_neg g1, if_neg h2, if_neg h3, if_pos h4]; rfl
    rw [if_neg h4]
    by_cases h5 : l[i].f2 > 3
    · rw [if_pos h5]
      by_cases g1 : l[i].f0 ≤ last
      · rw [if_pos g1]; rfl
      · rw [if_neg g1, if_neg h2, if_neg h3, if_neg h4, if_pos h5]; rfl
    rw [if_neg h5]
    by_cases h0 : i = 0
    · rw [if_neg (by omega)]
      have := hz h0
      rw [if_neg (by omega), if_neg h2, if_neg h3, if_neg h4, if_neg h5]
      exact IH (by omega)
    · have hp' := hp (by omega) (by omega)
      have e : wrap64 ((i : Int) - 1) = ((i - 1 : Nat) : Int) := by unfold wrap64; omega
      rw [if_pos (by omega), e, if_pos (by omega), if_pos (by omega), rd_get l (i - 1) (by omega), ← hp']
      by_cases g1 : l[i].f0 ≤ last
      · rw [if_pos g1, if_pos g1]; rfl
      · rw [if_neg g1, if_neg g1, if_neg h2, if_neg h3, if_neg h4, if_neg h5]
        exact IH (by omega)
theorem rchk (l : List R) (k : Nat) (hl : l.length < 1099511627776) (hk : l.length < k) : abecedaryref02_Check.f k l = some (CK l) := by
  unfold abecedaryref02_Check.f CK
  have h := rchk_l0 l hl l.length k 0 (-1) (by omega) (by omega) hk (fun _ => rfl) (fun h => by omega) (by omega)
  rw [List.drop_zero] at h
  exact h
theorem rof_l0 (l : List R) (c : Int) (hl : l.length < 1099511627776) : ∀ (d k i : Nat), l.length - i = d → i ≤ l.length → d < k → abecedaryref02_Of.l0 k l c (i : Int) = some (look (l.drop i) c) := by
  intro d
  induction d with
  | zero =>
    intro k i hd hi hk
    obtain ⟨k, rfl⟩ : ∃ m, k = m + 1 := ⟨k - 1, by omega⟩
    simp only [abecedaryref02_Of.l0]
    rw [if_neg (by omega), List.drop_eq_nil_of_le (by omega)]
    rfl
  | succ d ih =>
    intro k i hd hi hk
    obtain ⟨k, rfl⟩ : ∃ m, k = m + 1 := ⟨k - 1, by omega⟩
    have hlt : i < l.length := by omega
    simp only [abecedaryref02_Of.l0]
    rw [if_pos (by omega), if_pos (by omega), rd_get l i hlt, List.drop_eq_getElem_cons hlt, w1 i (by omega)]
    have IH := ih k (i + 1) (by omega) (by omega) (by omega)
    simp only [look]
    by_cases h1 : c ≥ l[i].f0
    · rw [if_pos h1]
      by_cases h2 : c ≤ l[i].f1
      · rw [if_pos h2, if_pos ⟨h1, h2⟩]
      · rw [if_neg h2, if_neg (fun h => h2 h.2)]
        exact IH
    · rw [if_neg h1, if_neg (fun h => h1 h.1)]
      exact IH
theorem rof_f (l : List R) (c : Int) (k : Nat) (hl : l.length < 1099511627776) (hk : l.length < k) : abecedaryref02_Of.f k l c = some (OF l c) := by
  unfold abecedaryref02_Of.f OF
  rw [rchk l k hl hk]
  simp only [Option.bind_some]
  by_cases h : CK l = true
  · rw [if_pos h, if_pos h]
    exact rof_l0 l c hl l.length k 0 (by omega) (by omega) hk
  · rw [if_neg h, if_neg h]
theorem both (l : List R) (hl : l.length ≤ 120) : ∀ (d k i : Nat), l.length - i = d → i ≤ l.length → 200 + 5 * d < k →
    (abecedarylaw02_ClassAll.l0 k l (i : Int) = some true) := by
  intro d
  induction d with
  | zero =>
    intro k i hd hi hk
    obtain ⟨k, rfl⟩ : ∃ m, k = m + 1 := ⟨k - 1, by omega⟩
    simp only [abecedarylaw02_ClassAll.l0]
    rw [if_neg (by omega), aw k (by omega)]
    rfl
  | succ d ih =>
    intro k i hd hi hk
    obtain ⟨k, rfl⟩ : ∃ m, k = m + 5 := ⟨k - 5, by omega⟩
    have hlt : i < l.length := by omega
    have IH := ih k (i + 1) (by omega) (by omega) (by omega)
    have of1 := fun c k (h : l.length < k) => of_f l c k (by omega) h
    have of2 := fun c k (h : l.length < k) => rof_f l c k (by omega) h
    have st : ∀ (k' : Nat) (x6 : Int), l.length < k' → x6 < 2 → abecedarylaw02_ClassAll.l1 (k' + 1) l (i : Int) x6 = abecedarylaw02_ClassAll.l1 k' l (i : Int) (wrap64 (x6 + 1)) := by
      intro k' x6 hk' hx
      simp only [abecedarylaw02_ClassAll.l1]
      rw [if_pos hx, if_pos (by omega), if_pos (by omega), of1 _ _ hk', of2 _ _ hk', of1 _ _ hk', of2 _ _ hk']
      simp only [Option.bind_some, if_true]
    simp only [abecedarylaw02_ClassAll.l0]
    rw [if_pos (by omega), st _ _ (by omega) (by decide), show wrap64 (-1 + 1) = 0 from by unfold wrap64; omega, st _ _ (by omega) (by decide), show wrap64 (0 + 1) = 1 from by unfold wrap64; omega, st _ _ (by omega) (by decide), show wrap64 (1 + 1) = 2 from by unfold wrap64; omega]
    simp only [abecedarylaw02_ClassAll.l1]
    rw [if_neg (by decide), w1 i (by omega)]
    exact IH
theorem ClassAll (l : List R) (a1 : Int) : ∃ k, abecedarylaw02_ClassAll.f k l a1 = some true := by
  refine ⟨1000, ?_⟩
  unfold abecedarylaw02_ClassAll.f
  by_cases h : (l.length : Int) > 120
  · rw [if_pos h, aw _ (by decide)]
    rfl
  · rw [if_neg h, chk l _ (by omega) (by omega), rchk l _ (by omega) (by omega)]
    simp only [Option.bind_some]
    rw [if_neg (by simp), of_f l _ _ (by omega) (by omega), rof_f l _ _ (by omega) (by omega)]
    simp only [Option.bind_some]
    simp only [abecedarylaw02_ClassAll.j0]
    rw [if_neg (by simp)]
    exact both l (by omega) l.length _ 0 (by omega) (by omega) (by omega)

end Go.Proofs.Ytedjfmlmoommnaa.Pure

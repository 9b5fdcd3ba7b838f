/- Units of a part of a text: what follows does not matter where it begins with no continuation byte (plain). -/
import Derived.Test.YtmcnnfpeicnnjaaDoorUEnc
namespace Go.Own
open Go
set_option linter.unusedVariables false
def BadU (s : ByteArray) (i : Nat) : Prop := (Utf8.decode s i).1 = 65533 ∧ (Utf8.decode s i).2 = 1
theorem dec_cont (s : ByteArray) (i k : Nat) (h0 : 0 < k) (hk : k < (Utf8.decode s i).2) : uB s (i + k) / 64 = 2 := by
  rw [u_eq s i] at hk
  by_cases c1 : uB s i < 128
  · rw [if_pos c1] at hk; simp only [] at hk; omega
  · rw [if_neg c1] at hk
    by_cases c2 : uB s i / 32 = 6 ∧ (i + 1 < s.size ∧ uB s (i + 1) / 64 = 2)
    · rw [if_pos c2] at hk
      have : k < 2 := by split at hk <;> (simp only [] at hk; omega)
      obtain rfl : k = 1 := by omega
      exact c2.2.2
    · rw [if_neg c2] at hk
      by_cases c3 : (uB s i / 16 = 14 ∧ (i + 1 < s.size ∧ uB s (i + 1) / 64 = 2)) ∧ (i + 2 < s.size ∧ uB s (i + 2) / 64 = 2)
      · rw [if_pos c3] at hk
        have : k < 3 := by split at hk <;> (simp only [] at hk; omega)
        rcases (by omega : k = 1 ∨ k = 2) with rfl | rfl
        · exact c3.1.2.2
        · exact c3.2.2
      · rw [if_neg c3] at hk
        by_cases c5 : ((uB s i / 8 = 30 ∧ (i + 1 < s.size ∧ uB s (i + 1) / 64 = 2)) ∧ (i + 2 < s.size ∧ uB s (i + 2) / 64 = 2)) ∧ (i + 3 < s.size ∧ uB s (i + 3) / 64 = 2)
        · rw [if_pos c5] at hk
          have : k < 4 := by split at hk <;> (simp only [] at hk; omega)
          rcases (by omega : k = 1 ∨ k = 2 ∨ k = 3) with rfl | rfl | rfl
          · exact c5.1.1.2.2
          · exact c5.1.2.2
          · exact c5.2.2
        · rw [if_neg c5] at hk; simp only [] at hk; omega
/-- a window on a text: the unit that fits in is the same there -/
theorem dec_cut (s s' : ByteArray) (i i' : Nat) (hi : i' < s'.size) (hw : ∀ k, i' + k < s'.size → i + k < s.size ∧ uB s' (i' + k) = uB s (i + k)) (hf : i' + uLen s i ≤ s'.size) :
    uCode s' i' = uCode s i ∧ uLen s' i' = uLen s i := by
  have h0 := hw 0 (by omega)
  simp only [Nat.add_zero] at h0
  unfold uLen at hf ⊢
  by_cases hv : BadU s i
  · have hv' : BadU s' i' := by
      by_cases hv' : BadU s' i'
      · exact hv'
      · have e := dec_same s' s i' i hi hv' (fun k hk => by
          have := u_fits s' i' hi
          have := hw k (by omega)
          exact ⟨this.1, this.2.symm⟩)
        unfold BadU at hv ⊢
        rwa [e] at hv
    rw [uCode_bad hv, uCode_bad hv', h0.2, hv.2, hv'.2]
    exact ⟨rfl, rfl⟩
  · have e := dec_same s s' i i' h0.1 hv (fun k hk => by
      have := hw k (by omega)
      exact ⟨by omega, this.2⟩)
    unfold uCode
    rw [e, h0.2]
    exact ⟨rfl, rfl⟩
theorem uB_append_right (s t : ByteArray) (j : Nat) : uB (s ++ t) (s.size + j) = uB t j := by
  rw [uB_list, uB_list, ByteArray.data_append, Array.toList_append, List.getD_eq_getElem?_getD, List.getD_eq_getElem?_getD, List.getElem?_append_right (by simp)]
  simp
/-- begins with no continuation byte -/
def Starts (t : ByteArray) : Prop := t.size = 0 ∨ uB t 0 / 64 ≠ 2
theorem code_left' (s t : ByteArray) (i : Nat) (h : i < s.size) (ht : Starts t) : uCode (s ++ t) i = uCode s i ∧ uLen (s ++ t) i = uLen s i := by
  have hw : ∀ k, i + k < s.size → i + k < (s ++ t).size ∧ uB s (i + k) = uB (s ++ t) (i + k) := fun k hk => ⟨by rw [ByteArray.size_append]; omega, (uB_append_left s t _ hk).symm⟩
  have hs : i < (s ++ t).size := by rw [ByteArray.size_append]; omega
  have hfit : i + uLen (s ++ t) i ≤ s.size := by
    have h1 := u_fits (s ++ t) i hs
    rcases ht with ht | ht
    · rw [ByteArray.size_append, ht] at h1; exact h1
    · by_cases hh : i + uLen (s ++ t) i ≤ s.size
      · exact hh
      · exfalso
        have := dec_cont (s ++ t) i (s.size - i) (by omega) (by unfold uLen at hh; omega)
        rw [show i + (s.size - i) = s.size + 0 by omega, uB_append_right] at this
        exact ht this
  obtain ⟨a, b⟩ := dec_cut (s ++ t) s i i h hw hfit
  exact ⟨a.symm, b.symm⟩
theorem from_left' (s t : ByteArray) (ht : Starts t) : ∀ g f i : Nat, i ≤ s.size → s.size ≤ i + g → (s ++ t).size ≤ i + f →
    unitsFrom (s ++ t) f i = unitsFrom s g i ++ (units t).map (shiftU s.size)
  | 0, f, i, h1, h2, h3 => by
    obtain rfl : i = s.size := by omega
    have h4 := from_right s t f 0
    rw [Nat.add_zero] at h4
    rw [h4, unitsFrom_end s 0 _ (by omega), List.nil_append]
    rw [ByteArray.size_append] at h3
    congr 1
    exact unitsFrom_fuel t f t.size 0 (by omega) (by omega)
  | g + 1, f, i, h1, h2, h3 => by
    by_cases hi : i < s.size
    · obtain ⟨f, rfl⟩ : ∃ k, f = k + 1 := ⟨f - 1, by rw [ByteArray.size_append] at h3; omega⟩
      unfold unitsFrom
      rw [if_pos hi]
      obtain ⟨e1, e2⟩ := code_left' s t i hi ht
      rw [if_pos (by rw [ByteArray.size_append]; omega), e1, e2]
      have hf : i + uLen s i ≤ s.size := u_fits s i hi
      have hl : 1 ≤ uLen s i := u_len1 s i
      rw [from_left' s t ht g f (i + uLen s i) hf (by omega) (by omega)]
      rfl
    · obtain rfl : i = s.size := by omega
      have h4 := from_right s t f 0
      rw [Nat.add_zero] at h4
      rw [h4, unitsFrom_end s _ _ (by omega), List.nil_append]
      rw [ByteArray.size_append] at h3
      congr 1
      exact unitsFrom_fuel t f t.size 0 (by omega) (by omega)
/-- TEXTS SIDE BY SIDE, the right one begun anew -/
theorem units_app (s t : ByteArray) (ht : Starts t) : units (s ++ t) = units s ++ (units t).map (shiftU s.size) :=
  from_left' s t ht s.size (s ++ t).size 0 (Nat.zero_le _) (by omega) (by omega)
/-- units one behind the other -/
def ChainU (s : ByteArray) : Nat → List (Nat × Nat × Int) → Nat → Prop
  | p, [], t => p = t
  | p, u :: m, t => u = (p, uLen s p, uCode s p) ∧ p < s.size ∧ ChainU s (p + uLen s p) m t
theorem chain_from (s : ByteArray) : ∀ f i, i ≤ s.size → s.size ≤ i + f → ChainU s i (unitsFrom s f i) s.size
  | 0, i, h1, h2 => by unfold unitsFrom ChainU; omega
  | f + 1, i, h1, h2 => by
    unfold unitsFrom
    by_cases h : i < s.size
    · rw [if_pos h]
      have := u_len1 s i
      exact ⟨rfl, h, chain_from s f _ (u_fits s i h) (by unfold uLen; omega)⟩
    · rw [if_neg h]; unfold ChainU; omega
theorem chain_units (s : ByteArray) : ChainU s 0 (units s) s.size := chain_from s _ 0 (by omega) (by omega)
theorem chain_app {s : ByteArray} : ∀ {l : List (Nat × Nat × Int)} {m : List (Nat × Nat × Int)} {p t : Nat}, ChainU s p (l ++ m) t → ∃ q, ChainU s p l q ∧ ChainU s q m t
  | [], m, p, t, h => ⟨p, rfl, h⟩
  | u :: l, m, p, t, h => by
    obtain ⟨a, b, c⟩ := h
    obtain ⟨q, x, y⟩ := chain_app c
    exact ⟨q, ⟨a, b, x⟩, y⟩
theorem chain_le {s : ByteArray} : ∀ {l : List (Nat × Nat × Int)} {p t : Nat}, ChainU s p l t → p + l.length ≤ t ∧ (l ≠ [] → t ≤ s.size)
  | [], p, t, h => by unfold ChainU at h; subst h; exact ⟨by simp, fun h => absurd rfl h⟩
  | u :: l, p, t, h => by
    obtain ⟨a, b, c⟩ := h
    have h1 := chain_le c
    have h2 : 1 ≤ uLen s p := u_len1 s p
    have h3 : p + uLen s p ≤ s.size := u_fits s p b
    refine ⟨by rw [List.length_cons]; omega, fun _ => ?_⟩
    cases l with
    | nil => unfold ChainU at c; omega
    | cons v l => exact h1.2 (by simp)
theorem uB_part (s : ByteArray) (f t k : Nat) (h : f + k < t) : uB (s.extract f t) k = uB s (f + k) := by
  rw [uB_list, uB_list, ByteArray.data_extract, Array.toList_extract, List.getD_eq_getElem?_getD, List.getD_eq_getElem?_getD]
  congr 2
  rw [List.extract_eq_take_drop, List.getElem?_take, if_pos (by omega), List.getElem?_drop]
def unshU (f : Nat) (u : Nat × Nat × Int) : Nat × Nat × Int := (u.1 - f, u.2)
theorem from_part (s : ByteArray) (f t : Nat) (ht : t ≤ s.size) : ∀ (m : List (Nat × Nat × Int)) (p F : Nat), f ≤ p → ChainU s p m t → t ≤ p + F → unitsFrom (s.extract f t) F (p - f) = m.map (unshU f)
  | [], p, F, h1, h2, h3 => by
    unfold ChainU at h2
    subst h2
    exact unitsFrom_end _ _ _ (by rw [ByteArray.size_extract]; omega)
  | u :: m, p, F, h1, h2, h3 => by
    obtain ⟨hu, hp, hc⟩ := h2
    subst hu
    have h4 := (chain_le hc).1
    have h5 : 1 ≤ uLen s p := u_len1 s p
    obtain ⟨F, rfl⟩ : ∃ G, F = G + 1 := ⟨F - 1, by omega⟩
    have hz : (s.extract f t).size = t - f := by rw [ByteArray.size_extract]; omega
    obtain ⟨e1, e2⟩ := dec_cut s (s.extract f t) p (p - f) (by omega) (fun k hk => ⟨by omega, by rw [uB_part s f t (p - f + k) (by omega)]; congr 1; omega⟩) (by omega)
    unfold unitsFrom
    rw [if_pos (by omega), e1, e2, List.map_cons]
    have := from_part s f t ht m (p + uLen s p) F (by omega) hc (by omega)
    rw [show p - f + uLen s p = p + uLen s p - f by omega, this]
    rfl
/-- A TEXT's PART from a unit's begin to a unit's end: its units are those -/
theorem units_part (s : ByteArray) (f t : Nat) (ht : t ≤ s.size) (m : List (Nat × Nat × Int)) (h : ChainU s f m t) : units (s.extract f t) = m.map (unshU f) := by
  have hz : (s.extract f t).size = t - f := by rw [ByteArray.size_extract]; omega
  have := from_part s f t ht m f (t - f) (Nat.le_refl _) h (by omega)
  unfold units
  rw [hz]
  rwa [Nat.sub_self] at this
end Go.Own

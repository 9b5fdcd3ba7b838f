/- Units, plain: which texts are right; texts side by side; what is written is read. -/
import Derived.Test.YtmcnnfpeicnnjaaDoorUni
import Derived.Lib.MapLaws
import Derived.Lib.ValidU
import Derived.Lib.TrimUEq
set_option linter.unusedVariables false
namespace Go.Own
open Go
def okU (s : ByteArray) : Bool := (units s).all fun u => decide (0 ≤ u.2.2)
def codes (s : ByteArray) : List Int := (units s).map fun u => u.2.2
theorem uCode_bad {s : ByteArray} {i : Nat} (h : (Utf8.decode s i).1 = 65533 ∧ (Utf8.decode s i).2 = 1) : uCode s i = -1 - (uB s i : Int) := by unfold uCode; rw [if_pos h]
theorem uCode_good {s : ByteArray} {i : Nat} (h : ¬ ((Utf8.decode s i).1 = 65533 ∧ (Utf8.decode s i).2 = 1)) : uCode s i = ((Utf8.decode s i).1 : Int) := by unfold uCode; rw [if_neg h]
theorem uCode_sign (s : ByteArray) (i : Nat) : 0 ≤ uCode s i ↔ ¬ ((Utf8.decode s i).1 = 65533 ∧ (Utf8.decode s i).2 = 1) := by
  by_cases h : (Utf8.decode s i).1 = 65533 ∧ (Utf8.decode s i).2 = 1
  · rw [uCode_bad h]; exact ⟨fun h1 => by omega, fun h1 => absurd h h1⟩
  · rw [uCode_good h]; exact ⟨fun _ => h, fun _ => by omega⟩
theorem size_list (s : ByteArray) : s.data.toList.length = s.size := by simp
theorem valid_from (s : ByteArray) : ∀ n i : Nat, Lib.validGoD n (s.data.toList.drop i) = (unitsFrom s n i).all fun u => decide (0 ≤ u.2.2)
  | 0, i => rfl
  | n + 1, i => by
    unfold Lib.validGoD unitsFrom
    by_cases h : i < s.size
    · have hne : s.data.toList.drop i ≠ [] := by
        intro e
        have := congrArg List.length e
        rw [List.length_drop, size_list] at this
        simp at this; omega
      rw [if_neg hne, if_pos h, Lib.decodeL_drop, List.drop_drop, List.all_cons]
      have ih := valid_from s n (i + (Utf8.decode s i).2)
      by_cases hb : (Utf8.decode s i).1 = 65533 ∧ (Utf8.decode s i).2 = 1
      · rw [if_pos hb, uCode_bad hb]
        rw [decide_eq_false (by simp only []; omega)]; rfl
      · rw [if_neg hb, uCode_good hb, ih]
        rw [decide_eq_true (by simp only []; omega)]; rfl
    · have he : s.data.toList.drop i = [] := List.drop_eq_nil_of_le (by rw [size_list]; omega)
      rw [if_pos he, if_neg h]; rfl
theorem valid_ok (s : ByteArray) : Lib.validD s.data.toList = okU s := by
  unfold Lib.validD okU units
  have := valid_from s s.size 0
  rw [List.drop_zero] at this
  rw [size_list]; exact this
/-- a unit's own bytes tell it -/
theorem dec_same (s s' : ByteArray) (i i' : Nat) (h : i < s.size) (hv : ¬ ((Utf8.decode s i).1 = 65533 ∧ (Utf8.decode s i).2 = 1)) (hb : ∀ k, k < (Utf8.decode s i).2 → i' + k < s'.size ∧ uB s' (i' + k) = uB s (i + k)) : Utf8.decode s' i' = Utf8.decode s i := by
  have h0 := hb 0 (u_len1 s i)
  simp only [Nat.add_zero] at h0
  rw [u_eq s i] at hv hb ⊢
  rw [u_eq s' i']
  by_cases c1 : uB s i < 128
  · rw [if_pos c1, if_pos (by omega), h0.2]
  · rw [if_neg c1] at hv hb ⊢
    rw [if_neg (by omega : ¬ uB s' i' < 128)]
    by_cases c2 : uB s i / 32 = 6 ∧ (i + 1 < s.size ∧ uB s (i + 1) / 64 = 2)
    · rw [if_pos c2] at hv hb ⊢
      by_cases c3 : (uB s i % 32) * 64 + uB s (i + 1) % 64 ≥ 0x80
      · rw [if_pos c3] at hv hb ⊢
        have h1 := hb 1 (by simp only []; omega)
        rw [h0.2, h1.2]
        rw [if_pos ⟨c2.1, h1.1, c2.2.2⟩, if_pos c3]
      · rw [if_neg c3] at hv; exact absurd ⟨rfl, rfl⟩ hv
    · rw [if_neg c2] at hv hb ⊢
      by_cases c3 : (uB s i / 16 = 14 ∧ (i + 1 < s.size ∧ uB s (i + 1) / 64 = 2)) ∧ (i + 2 < s.size ∧ uB s (i + 2) / 64 = 2)
      · rw [if_pos c3] at hv hb ⊢
        by_cases c4 : (uB s i % 16) * 4096 + (uB s (i + 1) % 64) * 64 + uB s (i + 2) % 64 ≥ 0x800 ∧ Utf8.valid ((uB s i % 16) * 4096 + (uB s (i + 1) % 64) * 64 + uB s (i + 2) % 64 : Nat) = true
        · rw [if_pos c4] at hv hb ⊢
          have h1 := hb 1 (by simp only []; omega)
          have h2 := hb 2 (by simp only []; omega)
          rw [h0.2, h1.2, h2.2]
          rw [if_neg (by omega), if_pos ⟨⟨c3.1.1, h1.1, c3.1.2.2⟩, h2.1, c3.2.2⟩, if_pos c4]
        · rw [if_neg c4] at hv; exact absurd ⟨rfl, rfl⟩ hv
      · rw [if_neg c3] at hv hb ⊢
        by_cases c5 : ((uB s i / 8 = 30 ∧ (i + 1 < s.size ∧ uB s (i + 1) / 64 = 2)) ∧ (i + 2 < s.size ∧ uB s (i + 2) / 64 = 2)) ∧ (i + 3 < s.size ∧ uB s (i + 3) / 64 = 2)
        · rw [if_pos c5] at hv hb ⊢
          by_cases c6 : (uB s i % 8) * 262144 + (uB s (i + 1) % 64) * 4096 + (uB s (i + 2) % 64) * 64 + uB s (i + 3) % 64 ≥ 0x10000 ∧ Utf8.valid ((uB s i % 8) * 262144 + (uB s (i + 1) % 64) * 4096 + (uB s (i + 2) % 64) * 64 + uB s (i + 3) % 64 : Nat) = true
          · rw [if_pos c6] at hv hb ⊢
            have h1 := hb 1 (by simp only []; omega)
            have h2 := hb 2 (by simp only []; omega)
            have h3 := hb 3 (by simp only []; omega)
            rw [h0.2, h1.2, h2.2, h3.2]
            rw [if_neg (by omega), if_neg (by omega), if_pos ⟨⟨⟨c5.1.1.1, h1.1, c5.1.1.2.2⟩, h2.1, c5.1.2.2⟩, h3.1, c5.2.2⟩, if_pos c6]
          · rw [if_neg c6] at hv; exact absurd ⟨rfl, rfl⟩ hv
        · rw [if_neg c5] at hv; exact absurd ⟨rfl, rfl⟩ hv
theorem uB_list (s : ByteArray) (i : Nat) : uB s i = (s.data.toList.getD i 0).toNat := by
  unfold uB
  congr 1
  rw [List.getD_eq_getElem?_getD, Array.getElem?_toList]
  unfold ByteArray.get!
  show s.data[i]! = _
  rw [getElem!_def]
  cases s.data[i]? <;> rfl
theorem uB_append_left (s t : ByteArray) (i : Nat) (h : i < s.size) : uB (s ++ t) i = uB s i := by
  rw [uB_list, uB_list, ByteArray.data_append, Array.toList_append, List.getD_eq_getElem?_getD, List.getD_eq_getElem?_getD, List.getElem?_append_left (by rw [size_list]; exact h)]
theorem dec_right (s t : ByteArray) (j : Nat) : Utf8.decode (s ++ t) (s.size + j) = Utf8.decode t j := by
  rw [← Lib.decodeL_drop, ← Lib.decodeL_drop, ByteArray.data_append, Array.toList_append]
  congr 1
  rw [← size_list s, List.drop_append, List.drop_eq_nil_of_le (by omega), List.nil_append, Nat.add_sub_cancel_left]
theorem dec_left (s t : ByteArray) (i : Nat) (h : i < s.size) (hv : 0 ≤ uCode s i) : Utf8.decode (s ++ t) i = Utf8.decode s i := by
  refine dec_same s (s ++ t) i i h ((uCode_sign s i).1 hv) fun k hk => ?_
  have hf := u_fits s i h
  exact ⟨by rw [ByteArray.size_append]; omega, uB_append_left s t _ (by omega)⟩
theorem code_right (s t : ByteArray) (j : Nat) : uCode (s ++ t) (s.size + j) = uCode t j ∧ uLen (s ++ t) (s.size + j) = uLen t j := by
  unfold uCode uLen
  rw [dec_right]
  have : uB (s ++ t) (s.size + j) = uB t j := by
    rw [uB_list, uB_list, ByteArray.data_append, Array.toList_append, List.getD_eq_getElem?_getD, List.getD_eq_getElem?_getD, List.getElem?_append_right (by rw [size_list]; omega), size_list, Nat.add_sub_cancel_left]
  rw [this]; exact ⟨rfl, rfl⟩
theorem code_left (s t : ByteArray) (i : Nat) (h : i < s.size) (hv : 0 ≤ uCode s i) : uCode (s ++ t) i = uCode s i ∧ uLen (s ++ t) i = uLen s i := by
  unfold uCode uLen
  rw [dec_left s t i h hv, uB_append_left s t i h]; exact ⟨rfl, rfl⟩
def shiftU (n : Nat) (u : Nat × Nat × Int) : Nat × Nat × Int := (n + u.1, u.2)
theorem from_right (s t : ByteArray) : ∀ f j : Nat, unitsFrom (s ++ t) f (s.size + j) = (unitsFrom t f j).map (shiftU s.size)
  | 0, j => rfl
  | f + 1, j => by
    unfold unitsFrom
    obtain ⟨h1, h2⟩ := code_right s t j
    rw [ByteArray.size_append]
    by_cases h : j < t.size
    · rw [if_pos (by omega), if_pos h, h1, h2, List.map_cons, Nat.add_assoc, from_right s t f (j + uLen t j)]; rfl
    · rw [if_neg (by omega), if_neg h]; rfl
theorem from_left (s t : ByteArray) : ∀ g f i : Nat, i ≤ s.size → s.size ≤ i + g → (s ++ t).size ≤ i + f → ((unitsFrom s g i).all fun u => decide (0 ≤ u.2.2)) = true →
    unitsFrom (s ++ t) f i = unitsFrom s g i ++ (units t).map (shiftU s.size)
  | 0, f, i, h1, h2, h3, _ => by
    obtain rfl : i = s.size := by omega
    have h4 := from_right s t f 0
    rw [Nat.add_zero] at h4
    rw [h4, unitsFrom_end s 0 _ (by omega), List.nil_append]
    rw [ByteArray.size_append] at h3
    congr 1
    exact unitsFrom_fuel t f t.size 0 (by omega) (by omega)
  | g + 1, f, i, h1, h2, h3, hv => by
    by_cases hi : i < s.size
    · obtain ⟨f, rfl⟩ : ∃ k, f = k + 1 := ⟨f - 1, by rw [ByteArray.size_append] at h3; omega⟩
      unfold unitsFrom at hv ⊢
      rw [if_pos hi] at hv ⊢
      rw [List.all_cons, Bool.and_eq_true, decide_eq_true_eq] at hv
      obtain ⟨e1, e2⟩ := code_left s t i hi hv.1
      rw [if_pos (by rw [ByteArray.size_append]; omega), e1, e2]
      have hf : i + uLen s i ≤ s.size := u_fits s i hi
      have hl : 1 ≤ uLen s i := u_len1 s i
      rw [from_left s t g f (i + uLen s i) hf (by omega) (by omega) hv.2]
      rfl
    · obtain rfl : i = s.size := by omega
      have h4 := from_right s t f 0
      rw [Nat.add_zero] at h4
      rw [h4, unitsFrom_end s _ _ (by omega), List.nil_append]
      rw [ByteArray.size_append] at h3
      congr 1
      exact unitsFrom_fuel t f t.size 0 (by omega) (by omega)
/-- TEXTS SIDE BY SIDE, the left one right -/
theorem units_append (s t : ByteArray) (h : okU s = true) : units (s ++ t) = units s ++ (units t).map (shiftU s.size) :=
  from_left s t s.size (s ++ t).size 0 (Nat.zero_le _) (by omega) (by omega) h
theorem codes_append (s t : ByteArray) (h : okU s = true) : codes (s ++ t) = codes s ++ codes t := by
  unfold codes
  rw [units_append s t h, List.map_append, List.map_map]
  rfl
theorem okU_append (s t : ByteArray) (h : okU s = true) : okU (s ++ t) = okU t := by
  have h' := h
  unfold okU at h' ⊢
  rw [units_append s t h, List.all_append, h', Bool.true_and, List.all_map]
  rfl
end Go.Own

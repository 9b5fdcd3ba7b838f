/- A code point's bytes are read as that; cut, they are none. -/
import Derived.Test.YtmcnnfpeicnnjaaDoorUPure
import Derived.Test.YtmcnnfpeicnnjaaDoorEncD
namespace Go.Proofs.YtmcnnfpeicnnjaaDoor
open Go.RowKit Go.Deep Go.Own
set_option linter.unusedVariables false
theorem toNat8 (n : Nat) : (n.toUInt8).toNat = n % 256 := by simp
theorem b1_0 (a : Nat) : uB ⟨#[a.toUInt8]⟩ 0 = a % 256 := by rw [← toNat8]; rfl
theorem b2_0 (a b : Nat) : uB ⟨#[a.toUInt8, b.toUInt8]⟩ 0 = a % 256 := by rw [← toNat8]; rfl
theorem b2_1 (a b : Nat) : uB ⟨#[a.toUInt8, b.toUInt8]⟩ 1 = b % 256 := by rw [← toNat8]; rfl
theorem b3_0 (a b c : Nat) : uB ⟨#[a.toUInt8, b.toUInt8, c.toUInt8]⟩ 0 = a % 256 := by rw [← toNat8]; rfl
theorem b3_1 (a b c : Nat) : uB ⟨#[a.toUInt8, b.toUInt8, c.toUInt8]⟩ 1 = b % 256 := by rw [← toNat8]; rfl
theorem b3_2 (a b c : Nat) : uB ⟨#[a.toUInt8, b.toUInt8, c.toUInt8]⟩ 2 = c % 256 := by rw [← toNat8]; rfl
theorem b4_0 (a b c d : Nat) : uB ⟨#[a.toUInt8, b.toUInt8, c.toUInt8, d.toUInt8]⟩ 0 = a % 256 := by rw [← toNat8]; rfl
theorem b4_1 (a b c d : Nat) : uB ⟨#[a.toUInt8, b.toUInt8, c.toUInt8, d.toUInt8]⟩ 1 = b % 256 := by rw [← toNat8]; rfl
theorem b4_2 (a b c d : Nat) : uB ⟨#[a.toUInt8, b.toUInt8, c.toUInt8, d.toUInt8]⟩ 2 = c % 256 := by rw [← toNat8]; rfl
theorem b4_3 (a b c d : Nat) : uB ⟨#[a.toUInt8, b.toUInt8, c.toUInt8, d.toUInt8]⟩ 3 = d % 256 := by rw [← toNat8]; rfl
/-- what is written is read -/
theorem dec_enc (c : Nat) (hv : c < 55296 ∨ (57344 ≤ c ∧ c ≤ 1114111)) : UIs (enc (c : Int)) 0 (enc (c : Int)).size (c : Nat) ∧ 1 ≤ (enc (c : Int)).size ∧ (enc (c : Int)).size ≤ 4 := by
  rw [enc_nat c hv]
  by_cases h1 : c < 128
  · rw [if_pos h1]
    have e0 := b1_0 c
    have := u_one ⟨#[c.toUInt8]⟩ 0 (by rw [e0]; omega)
    rw [e0, show c % 256 = c by omega] at this
    exact ⟨this, Nat.le_add_left _ _, by show _ ≤ 4; exact Nat.le_of_ble_eq_true rfl⟩
  · rw [if_neg h1]
    by_cases h2 : c < 2048
    · rw [if_pos h2]
      have e0 := b2_0 (192 + c / 64) (128 + c % 64)
      have e1 := b2_1 (192 + c / 64) (128 + c % 64)
      have := u_two ⟨#[(192 + c / 64).toUInt8, (128 + c % 64).toUInt8]⟩ 0 (by rw [e0]; omega) (by rw [e0]; omega) (Nat.le_of_ble_eq_true rfl) (by rw [Nat.zero_add, e1]; omega)
      rw [Nat.zero_add, e0, e1, show (192 + c / 64) % 256 % 32 * 64 + (128 + c % 64) % 256 % 64 = c by omega] at this
      exact ⟨this, Nat.le_add_left _ _, by show _ ≤ 4; exact Nat.le_of_ble_eq_true rfl⟩
    · rw [if_neg h2]
      by_cases h3 : c < 65536
      · rw [if_pos h3]
        have e0 := b3_0 (224 + c / 4096) (128 + c / 64 % 64) (128 + c % 64)
        have e1 := b3_1 (224 + c / 4096) (128 + c / 64 % 64) (128 + c % 64)
        have e2 := b3_2 (224 + c / 4096) (128 + c / 64 % 64) (128 + c % 64)
        have hc : (224 + c / 4096) % 256 % 16 * 4096 + (128 + c / 64 % 64) % 256 % 64 * 64 + (128 + c % 64) % 256 % 64 = c := by omega
        have := u_three ⟨#[(224 + c / 4096).toUInt8, (128 + c / 64 % 64).toUInt8, (128 + c % 64).toUInt8]⟩ 0 (by rw [e0]; omega) (by rw [e0]; omega) (Nat.le_of_ble_eq_true rfl) (by rw [Nat.zero_add, e1]; omega) (by rw [Nat.zero_add, e2]; omega)
          (by rw [Nat.zero_add, Nat.zero_add, e0, e1, e2, hc]; omega) (by rw [Nat.zero_add, Nat.zero_add, e0, e1, e2, hc]; omega)
        rw [Nat.zero_add, Nat.zero_add, e0, e1, e2, hc] at this
        exact ⟨this, Nat.le_add_left _ _, by show _ ≤ 4; exact Nat.le_of_ble_eq_true rfl⟩
      · rw [if_neg h3]
        have e0 := b4_0 (240 + c / 262144) (128 + c / 4096 % 64) (128 + c / 64 % 64) (128 + c % 64)
        have e1 := b4_1 (240 + c / 262144) (128 + c / 4096 % 64) (128 + c / 64 % 64) (128 + c % 64)
        have e2 := b4_2 (240 + c / 262144) (128 + c / 4096 % 64) (128 + c / 64 % 64) (128 + c % 64)
        have e3 := b4_3 (240 + c / 262144) (128 + c / 4096 % 64) (128 + c / 64 % 64) (128 + c % 64)
        have hc : (240 + c / 262144) % 256 % 8 * 262144 + (128 + c / 4096 % 64) % 256 % 64 * 4096 + (128 + c / 64 % 64) % 256 % 64 * 64 + (128 + c % 64) % 256 % 64 = c := by omega
        have := u_four ⟨#[(240 + c / 262144).toUInt8, (128 + c / 4096 % 64).toUInt8, (128 + c / 64 % 64).toUInt8, (128 + c % 64).toUInt8]⟩ 0 (by rw [e0]; omega) (by rw [e0]; omega) (Nat.le_of_ble_eq_true rfl) (by rw [Nat.zero_add, e1]; omega) (by rw [Nat.zero_add, e2]; omega) (by rw [Nat.zero_add, e3]; omega)
          (by rw [Nat.zero_add, Nat.zero_add, Nat.zero_add, e0, e1, e2, e3, hc]; omega) (by rw [Nat.zero_add, Nat.zero_add, Nat.zero_add, e0, e1, e2, e3, hc]; omega)
        rw [Nat.zero_add, Nat.zero_add, Nat.zero_add, e0, e1, e2, e3, hc] at this
        exact ⟨this, Nat.le_add_left _ _, by show _ ≤ 4; exact Nat.le_of_ble_eq_true rfl⟩
/-- a text of one unit -/
theorem units_one {s : ByteArray} {c : Int} (h : UIs s 0 s.size c) (h1 : 1 ≤ s.size) : units s = [(0, s.size, c)] := by
  unfold units
  obtain ⟨f, hf⟩ : ∃ f, s.size = f + 1 := ⟨s.size - 1, by omega⟩
  rw [hf, unitsFrom, if_pos (by omega), h.1, h.2, unitsFrom_end s f _ (by omega), hf]
theorem units_enc (c : Nat) (hv : c < 55296 ∨ (57344 ≤ c ∧ c ≤ 1114111)) : units (enc (c : Int)) = [(0, (enc (c : Int)).size, (c : Int))] :=
  units_one (dec_enc c hv).1 (dec_enc c hv).2.1
theorem codes_enc (c : Nat) (hv : c < 55296 ∨ (57344 ≤ c ∧ c ≤ 1114111)) : codes (enc (c : Int)) = [(c : Int)] := by unfold codes; rw [units_enc c hv]; rfl
theorem ok_enc (c : Nat) (hv : c < 55296 ∨ (57344 ≤ c ∧ c ≤ 1114111)) : okU (enc (c : Int)) = true := by unfold okU; rw [units_enc c hv]; simp
/-- a text whose first unit is none -/
theorem ok_bad {s : ByteArray} (h : 1 ≤ s.size) (hc : uCode s 0 < 0) : okU s = false := by
  unfold okU units
  obtain ⟨f, hf⟩ : ∃ f, s.size = f + 1 := ⟨s.size - 1, by omega⟩
  rw [hf, unitsFrom, if_pos (by omega), List.all_cons, decide_eq_false (by simp only []; omega)]
  rfl
theorem uB_extract (s : ByteArray) (n k : Nat) (h : k < n) : uB (s.extract 0 n) k = uB s k := by
  rw [uB_list, uB_list, ByteArray.data_extract, Array.toList_extract, List.extract_eq_take_drop, List.drop_zero, Nat.sub_zero, List.getD_eq_getElem?_getD, List.getD_eq_getElem?_getD, List.getElem?_take, if_pos h]
theorem cut_enc (c : Nat) (hv : c < 55296 ∨ (57344 ≤ c ∧ c ≤ 1114111)) (n : Nat) (h0 : 0 < n) (hn : n < (enc (c : Int)).size) : okU ((enc (c : Int)).extract 0 n) = false := by
  have hz : ((enc (c : Int)).extract 0 n).size = n := by rw [ByteArray.size_extract]; omega
  refine ok_bad (by omega) ?_
  have hb := uB_extract (enc (c : Int)) n 0 h0
  have key : ∀ m : Nat, uCode ((enc (c : Int)).extract 0 n) 0 = -1 - (m : Nat) → uCode ((enc (c : Int)).extract 0 n) 0 < 0 := fun m h => by omega
  have he := enc_nat c hv
  by_cases h1 : c < 128
  · rw [if_pos h1] at he
    rw [he] at hn
    exact absurd hn (by show ¬ n < 1; omega)
  · rw [if_neg h1] at he
    by_cases h2 : c < 2048
    · rw [if_pos h2] at he
      have e0 : uB ((enc (c : Int)).extract 0 n) 0 = (192 + c / 64) % 256 := by rw [hb, he, b2_0]
      have hn2 : n < 2 := by rw [he] at hn; exact hn
      exact key _ (u_two_no _ 0 (by rw [e0]; omega) (by rw [e0]; omega) (fun a => by omega)).2
    · rw [if_neg h2] at he
      by_cases h3 : c < 65536
      · rw [if_pos h3] at he
        have e0 : uB ((enc (c : Int)).extract 0 n) 0 = (224 + c / 4096) % 256 := by rw [hb, he, b3_0]
        have hn2 : n < 3 := by rw [he] at hn; exact hn
        exact key _ (u_three_no _ 0 (by rw [e0]; omega) (by rw [e0]; omega) (fun a => by have := a.1.1; omega)).2
      · rw [if_neg h3] at he
        have e0 : uB ((enc (c : Int)).extract 0 n) 0 = (240 + c / 262144) % 256 := by rw [hb, he, b4_0]
        have hn2 : n < 4 := by rw [he] at hn; exact hn
        exact key _ (u_four_no _ 0 (by rw [e0]; omega) (by rw [e0]; omega) (fun a => by have := a.1.1; omega)).2
theorem enc_list (c : Nat) (hv : c < 55296 ∨ (57344 ≤ c ∧ c ≤ 1114111)) : (enc (c : Int)).data.toList = Lib.encodeRune (c : Int) := by
  have t : ∀ (z : Int) (n : Nat), z = (n : Int) → z.toNat.toUInt8 = n.toUInt8 := fun z n h => by subst h; simp
  rw [enc_nat c hv]
  unfold Lib.encodeRune
  by_cases h1 : c < 128
  · rw [if_pos h1, Lib.encodeRuneZ_one (by omega) (by omega)]
    simp
  · rw [if_neg h1]
    by_cases h2 : c < 2048
    · rw [if_pos h2, Lib.encodeRuneZ_two (by omega) (by omega)]
      rw [List.map_cons, List.map_cons, List.map_nil, t _ (192 + c / 64) (by omega), t _ (128 + c % 64) (by omega)]
    · rw [if_neg h2]
      by_cases h3 : c < 65536
      · rw [if_pos h3, Lib.encodeRuneZ_three (by omega)]
        rw [List.map_cons, List.map_cons, List.map_cons, List.map_nil, t _ (224 + c / 4096) (by omega), t _ (128 + c / 64 % 64) (by omega), t _ (128 + c % 64) (by omega)]
      · rw [if_neg h3, Lib.encodeRuneZ_four (by omega) (by omega)]
        rw [List.map_cons, List.map_cons, List.map_cons, List.map_cons, List.map_nil, t _ (240 + c / 262144) (by omega), t _ (128 + c / 4096 % 64) (by omega), t _ (128 + c / 64 % 64) (by omega), t _ (128 + c % 64) (by omega)]
theorem dec_valid (s : ByteArray) (i : Nat) : (Utf8.decode s i).1 < 55296 ∨ (57344 ≤ (Utf8.decode s i).1 ∧ (Utf8.decode s i).1 ≤ 1114111) := by
  have hb := uB_lt s i
  rw [u_eq]
  split
  · left; show uB s i < _; omega
  · split
    · split
      · left; show uB s i % 32 * 64 + uB s (i + 1) % 64 < _; omega
      · right; exact ⟨by decide, by decide⟩
    · split
      · split
        · rename_i h
          have := (valid_iff _).1 h.2
          show uB s i % 16 * 4096 + uB s (i + 1) % 64 * 64 + uB s (i + 2) % 64 < _ ∨ _
          exact this
        · right; exact ⟨by decide, by decide⟩
      · split
        · split
          · rename_i h
            exact (valid_iff _).1 h.2
          · right; exact ⟨by decide, by decide⟩
        · right; exact ⟨by decide, by decide⟩
/-- a right unit's bytes are its code's -/
theorem enc_dec (s : ByteArray) (i : Nat) (h : i < s.size) (hv : 0 ≤ uCode s i) : enc (uCode s i) = s.extract i (i + uLen s i) := by
  have hg := (uCode_sign s i).1 hv
  rw [uCode_good hg]
  have hne : s.data.toList.drop i ≠ [] := by
    intro e
    have := congrArg List.length e
    rw [List.length_drop, size_list] at this
    simp at this; omega
  have h1 := Lib.encode_decode (s.data.toList.drop i) hne (by rw [Lib.decodeL_drop]; exact hg)
  rw [Lib.decodeL_drop] at h1
  refine ByteArray.ext (Array.toList_inj.1 ?_)
  rw [enc_list _ (dec_valid s i), h1, ByteArray.data_extract, Array.toList_extract, List.extract_eq_take_drop]
  unfold uLen
  rw [Nat.add_sub_cancel_left]
end Go.Proofs.YtmcnnfpeicnnjaaDoor

/- UTF-8, as the model decodes it: a unit's length and code; cases by the bytes. -/
import Derived.WalkKit
namespace Go.Own
open Go
def uB (s : ByteArray) (k : Nat) : Nat := (s.get! k).toNat
def uLen (s : ByteArray) (i : Nat) : Nat := (Utf8.decode s i).2
def uCode (s : ByteArray) (i : Nat) : Int := if (Utf8.decode s i).1 = 65533 ∧ (Utf8.decode s i).2 = 1 then -1 - (uB s i : Int) else ((Utf8.decode s i).1 : Int)
theorem uB_lt (s : ByteArray) (k : Nat) : uB s k < 256 := (s.get! k).toNat_lt
set_option maxRecDepth 20000 in
theorem u_eq (s : ByteArray) (i : Nat) : Utf8.decode s i = (if uB s i < 0x80 then (uB s i, 1)
    else if uB s i / 32 = 6 ∧ (i + 1 < s.size ∧ uB s (i + 1) / 64 = 2) then (if (uB s i % 32) * 64 + uB s (i + 1) % 64 ≥ 0x80 then ((uB s i % 32) * 64 + uB s (i + 1) % 64, 2) else (65533, 1))
    else if (uB s i / 16 = 14 ∧ (i + 1 < s.size ∧ uB s (i + 1) / 64 = 2)) ∧ (i + 2 < s.size ∧ uB s (i + 2) / 64 = 2) then
      (if (uB s i % 16) * 4096 + (uB s (i + 1) % 64) * 64 + uB s (i + 2) % 64 ≥ 0x800 ∧ Utf8.valid ((uB s i % 16) * 4096 + (uB s (i + 1) % 64) * 64 + uB s (i + 2) % 64 : Nat) = true then ((uB s i % 16) * 4096 + (uB s (i + 1) % 64) * 64 + uB s (i + 2) % 64, 3) else (65533, 1))
    else if ((uB s i / 8 = 30 ∧ (i + 1 < s.size ∧ uB s (i + 1) / 64 = 2)) ∧ (i + 2 < s.size ∧ uB s (i + 2) / 64 = 2)) ∧ (i + 3 < s.size ∧ uB s (i + 3) / 64 = 2) then
      (if (uB s i % 8) * 262144 + (uB s (i + 1) % 64) * 4096 + (uB s (i + 2) % 64) * 64 + uB s (i + 3) % 64 ≥ 0x10000 ∧ Utf8.valid ((uB s i % 8) * 262144 + (uB s (i + 1) % 64) * 4096 + (uB s (i + 2) % 64) * 64 + uB s (i + 3) % 64 : Nat) = true then ((uB s i % 8) * 262144 + (uB s (i + 1) % 64) * 4096 + (uB s (i + 2) % 64) * 64 + uB s (i + 3) % 64, 4) else (65533, 1))
    else (65533, 1)) := by
  have h1 : ∀ (a b : Bool) (p q : Prop) [Decidable p] [Decidable q], (a = true ↔ p) → (b = true ↔ q) → ((a && b) = true ↔ p ∧ q) := fun a b p q _ _ ha hb => by rw [Bool.and_eq_true, ha, hb]
  have h2 : ∀ {α : Type} (c : Bool) (p : Prop) [Decidable p] (x y x' y' : α), (c = true ↔ p) → x = x' → y = y' → (if c = true then x else y) = (if p then x' else y') := fun c p _ x y x' y' h e1 e2 => by
    by_cases hp : p
    · rw [if_pos (h.2 hp), if_pos hp, e1]
    · rw [if_neg (fun k => hp (h.1 k)), if_neg hp, e2]
  have h3 : ∀ k, (decide (i + k < s.size) && (uB s (i + k) / 64 == 2)) = true ↔ (i + k < s.size ∧ uB s (i + k) / 64 = 2) := fun k => h1 _ _ _ _ decide_eq_true_iff beq_iff_eq
  show (if uB s i < 0x80 then (uB s i, 1) else _) = _
  by_cases h0 : uB s i < 0x80
  · rw [if_pos h0, if_pos h0]
  · rw [if_neg h0, if_neg h0]
    refine h2 _ _ _ _ _ _ (h1 _ _ _ _ beq_iff_eq (h3 1)) rfl ?_
    refine h2 _ _ _ _ _ _ (h1 _ _ _ _ (h1 _ _ _ _ beq_iff_eq (h3 1)) (h3 2)) (h2 _ _ _ _ _ _ (h1 _ _ _ _ decide_eq_true_iff Iff.rfl) rfl rfl) ?_
    exact h2 _ _ _ _ _ _ (h1 _ _ _ _ (h1 _ _ _ _ (h1 _ _ _ _ beq_iff_eq (h3 1)) (h3 2)) (h3 3)) (h2 _ _ _ _ _ _ (h1 _ _ _ _ decide_eq_true_iff Iff.rfl) rfl rfl) rfl
theorem valid_iff (n : Nat) : (Utf8.valid (n : Int) = true) ↔ n < 55296 ∨ (57344 ≤ n ∧ n ≤ 1114111) := by
  unfold Utf8.valid
  simp only [Bool.or_eq_true, Bool.and_eq_true, decide_eq_true_eq]
  omega
theorem u_max (s : ByteArray) (i : Nat) : (Utf8.decode s i).1 ≤ 1114111 := by
  have hb := uB_lt s i
  rw [u_eq]
  split
  · show uB s i ≤ _; omega
  · split
    · split
      · show uB s i % 32 * 64 + uB s (i + 1) % 64 ≤ _; omega
      · show 65533 ≤ 1114111; omega
    · split
      · split
        · show uB s i % 16 * 4096 + uB s (i + 1) % 64 * 64 + uB s (i + 2) % 64 ≤ _; omega
        · show 65533 ≤ 1114111; omega
      · split
        · split
          · rename_i h
            have := (valid_iff _).1 h.2
            show uB s i % 8 * 262144 + uB s (i + 1) % 64 * 4096 + uB s (i + 2) % 64 * 64 + uB s (i + 3) % 64 ≤ _
            omega
          · show 65533 ≤ 1114111; omega
        · show 65533 ≤ 1114111; omega
theorem u_len4 (s : ByteArray) (i : Nat) : (Utf8.decode s i).2 ≤ 4 := by
  rw [u_eq]
  repeat' split
  all_goals (simp only; omega)
theorem u_len1 (s : ByteArray) (i : Nat) : 1 ≤ (Utf8.decode s i).2 := by
  rw [u_eq]
  repeat' split
  all_goals (simp only; omega)
theorem u_fits (s : ByteArray) (i : Nat) (h : i < s.size) : i + (Utf8.decode s i).2 ≤ s.size := by
  rw [u_eq]
  repeat' split
  all_goals simp only
  all_goals omega
def UIs (s : ByteArray) (i : Nat) (n : Nat) (c : Int) : Prop := uLen s i = n ∧ uCode s i = c
theorem uis_of {s : ByteArray} {i n c : Nat} (h : Utf8.decode s i = (c, n)) (hc : ¬ (c = 65533 ∧ n = 1)) : UIs s i n c := by
  unfold UIs uLen uCode; rw [h]; exact ⟨rfl, by simp only []; rw [if_neg hc]⟩
theorem uis_bad {s : ByteArray} {i : Nat} (h : Utf8.decode s i = (65533, 1)) : UIs s i 1 (-1 - (uB s i : Int)) := by
  unfold UIs uLen uCode; rw [h]; exact ⟨rfl, by simp⟩
theorem u_one (s : ByteArray) (i : Nat) (h : uB s i < 128) : UIs s i 1 (uB s i : Nat) := uis_of (by rw [u_eq, if_pos h]) (by omega)
theorem u_none (s : ByteArray) (i : Nat) (h : (128 ≤ uB s i ∧ uB s i < 194) ∨ 245 ≤ uB s i) : UIs s i 1 (-1 - (uB s i : Int)) := by
  have hb := uB_lt s i
  have h1 := uB_lt s (i + 1)
  refine uis_bad ?_
  rw [u_eq, if_neg (by omega)]
  by_cases a : uB s i / 32 = 6 ∧ (i + 1 < s.size ∧ uB s (i + 1) / 64 = 2)
  · rw [if_pos a, if_neg (by omega)]
  · rw [if_neg a, if_neg (by omega)]
    split
    · rw [if_neg]
      rintro ⟨_, hv⟩
      rw [valid_iff] at hv
      omega
    · rfl
theorem u_two (s : ByteArray) (i : Nat) (h0 : 194 ≤ uB s i) (h1 : uB s i ≤ 223) (h2 : i + 1 < s.size) (h3 : uB s (i + 1) / 64 = 2) : UIs s i 2 ((uB s i % 32 * 64 + uB s (i + 1) % 64 : Nat) : Int) :=
  uis_of (by rw [u_eq, if_neg (by omega), if_pos ⟨by omega, h2, h3⟩, if_pos (by omega)]) (by omega)
theorem u_two_no (s : ByteArray) (i : Nat) (h0 : 194 ≤ uB s i) (h1 : uB s i ≤ 223) (h : ¬ (i + 1 < s.size ∧ uB s (i + 1) / 64 = 2)) : UIs s i 1 (-1 - (uB s i : Int)) :=
  uis_bad (by rw [u_eq, if_neg (by omega), if_neg (fun a => h a.2), if_neg (by omega), if_neg (by omega)])
theorem u_three (s : ByteArray) (i : Nat) (h0 : 224 ≤ uB s i) (h1 : uB s i ≤ 239) (h2 : i + 2 < s.size) (h3 : uB s (i + 1) / 64 = 2) (h4 : uB s (i + 2) / 64 = 2)
    (hv : 2048 ≤ uB s i % 16 * 4096 + uB s (i + 1) % 64 * 64 + uB s (i + 2) % 64) (hs : uB s i % 16 * 4096 + uB s (i + 1) % 64 * 64 + uB s (i + 2) % 64 < 55296 ∨ 57344 ≤ uB s i % 16 * 4096 + uB s (i + 1) % 64 * 64 + uB s (i + 2) % 64) :
    UIs s i 3 ((uB s i % 16 * 4096 + uB s (i + 1) % 64 * 64 + uB s (i + 2) % 64 : Nat) : Int) :=
  uis_of (by rw [u_eq, if_neg (by omega), if_neg (by omega), if_pos ⟨⟨by omega, by omega, h3⟩, h2, h4⟩, if_pos ⟨hv, (valid_iff _).2 (by omega)⟩]) (by omega)
theorem u_three_no (s : ByteArray) (i : Nat) (h0 : 224 ≤ uB s i) (h1 : uB s i ≤ 239)
    (h : ¬ ((i + 2 < s.size ∧ uB s (i + 1) / 64 = 2 ∧ uB s (i + 2) / 64 = 2) ∧ 2048 ≤ uB s i % 16 * 4096 + uB s (i + 1) % 64 * 64 + uB s (i + 2) % 64 ∧ (uB s i % 16 * 4096 + uB s (i + 1) % 64 * 64 + uB s (i + 2) % 64 < 55296 ∨ 57344 ≤ uB s i % 16 * 4096 + uB s (i + 1) % 64 * 64 + uB s (i + 2) % 64))) :
    UIs s i 1 (-1 - (uB s i : Int)) := by
  refine uis_bad ?_
  rw [u_eq, if_neg (by omega), if_neg (by omega)]
  by_cases a : (uB s i / 16 = 14 ∧ (i + 1 < s.size ∧ uB s (i + 1) / 64 = 2)) ∧ (i + 2 < s.size ∧ uB s (i + 2) / 64 = 2)
  · rw [if_pos a, if_neg]
    rintro ⟨b1, b2⟩
    rw [valid_iff] at b2
    exact h ⟨⟨a.2.1, a.1.2.2, a.2.2⟩, b1, by omega⟩
  · rw [if_neg a, if_neg (by omega)]
theorem u_four (s : ByteArray) (i : Nat) (h0 : 240 ≤ uB s i) (h1 : uB s i ≤ 244) (h2 : i + 3 < s.size) (h3 : uB s (i + 1) / 64 = 2) (h4 : uB s (i + 2) / 64 = 2) (h5 : uB s (i + 3) / 64 = 2)
    (hv : 65536 ≤ uB s i % 8 * 262144 + uB s (i + 1) % 64 * 4096 + uB s (i + 2) % 64 * 64 + uB s (i + 3) % 64) (hs : uB s i % 8 * 262144 + uB s (i + 1) % 64 * 4096 + uB s (i + 2) % 64 * 64 + uB s (i + 3) % 64 ≤ 1114111) :
    UIs s i 4 ((uB s i % 8 * 262144 + uB s (i + 1) % 64 * 4096 + uB s (i + 2) % 64 * 64 + uB s (i + 3) % 64 : Nat) : Int) :=
  uis_of (by rw [u_eq, if_neg (by omega), if_neg (by omega), if_neg (by omega), if_pos ⟨⟨⟨by omega, by omega, h3⟩, by omega, h4⟩, h2, h5⟩, if_pos ⟨hv, (valid_iff _).2 (by omega)⟩]) (by omega)
theorem u_four_no (s : ByteArray) (i : Nat) (h0 : 240 ≤ uB s i) (h1 : uB s i ≤ 244)
    (h : ¬ ((i + 3 < s.size ∧ uB s (i + 1) / 64 = 2 ∧ uB s (i + 2) / 64 = 2 ∧ uB s (i + 3) / 64 = 2) ∧ 65536 ≤ uB s i % 8 * 262144 + uB s (i + 1) % 64 * 4096 + uB s (i + 2) % 64 * 64 + uB s (i + 3) % 64 ∧ uB s i % 8 * 262144 + uB s (i + 1) % 64 * 4096 + uB s (i + 2) % 64 * 64 + uB s (i + 3) % 64 ≤ 1114111)) :
    UIs s i 1 (-1 - (uB s i : Int)) := by
  refine uis_bad ?_
  rw [u_eq, if_neg (by omega), if_neg (by omega), if_neg (by omega)]
  by_cases a : ((uB s i / 8 = 30 ∧ (i + 1 < s.size ∧ uB s (i + 1) / 64 = 2)) ∧ (i + 2 < s.size ∧ uB s (i + 2) / 64 = 2)) ∧ (i + 3 < s.size ∧ uB s (i + 3) / 64 = 2)
  · rw [if_pos a, if_neg]
    rintro ⟨b1, b2⟩
    rw [valid_iff] at b2
    exact h ⟨⟨a.2.1, a.1.1.2.2, a.1.2.2, a.2.2⟩, b1, by omega⟩
  · rw [if_neg a]
end Go.Own

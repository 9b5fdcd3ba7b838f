/- A code point's bytes (plain). -/
import Derived.Test.YtmcnnfpeicnnjaaDoorUni
import Derived.Test.YtmcnnfpeicnnjaaDoorRat
import Derived.Test.YtmcnnfpeicnnjaaDoorRow
namespace Go.Proofs.YtmcnnfpeicnnjaaDoor
open Go.RowKit Go.Deep Go.Own
set_option linter.unusedVariables false
def enc (c : Int) : ByteArray := if Utf8.valid c = true then Utf8.encode c else ⟨#[]⟩
theorem enc_valid {c : Int} (h : Utf8.valid c = true) : enc c = Utf8.encode c := if_pos h
theorem enc_not {c : Int} (h : ¬ Utf8.valid c = true) : enc c = ⟨#[]⟩ := if_neg h
theorem valid_lib (c : Int) : Lib.validRune c = Utf8.valid c := by
  unfold Lib.validRune Utf8.valid
  by_cases h : (0 ≤ c ∧ c < 55296) ∨ (57343 < c ∧ c ≤ 1114111)
  · rw [decide_eq_true h]; rcases h with h | h <;> simp <;> omega
  · rw [decide_eq_false h]; simp; omega
theorem valid_int (c : Int) : (Utf8.valid c = true) ↔ (0 ≤ c ∧ c < 55296) ∨ (57344 ≤ c ∧ c ≤ 1114111) := by
  unfold Utf8.valid
  simp only [Bool.or_eq_true, Bool.and_eq_true, decide_eq_true_eq]
theorem enc_nat (c : Nat) (hv : c < 55296 ∨ (57344 ≤ c ∧ c ≤ 1114111)) : enc (c : Int) = ⟨if c < 128 then #[c.toUInt8] else if c < 2048 then #[(192 + c / 64).toUInt8, (128 + c % 64).toUInt8] else if c < 65536 then #[(224 + c / 4096).toUInt8, (128 + c / 64 % 64).toUInt8, (128 + c % 64).toUInt8] else #[(240 + c / 262144).toUInt8, (128 + c / 4096 % 64).toUInt8, (128 + c / 64 % 64).toUInt8, (128 + c % 64).toUInt8]⟩ := by
  have h1 : Utf8.valid (c : Int) = true := by rw [valid_int]; omega
  rw [enc_valid h1]
  unfold Utf8.encode
  simp only [h1, if_true, Int.toNat_natCast]
  repeat' split
  all_goals first | rfl | omega
end Go.Proofs.YtmcnnfpeicnnjaaDoor

/- EditApplies holds: the program's Apply answers as the plain one does, and Inverse is its own inverse. Condition: the texts' sizes are such as the row's weights give. -/
import Derived.Test.YtedjfmlmoommnaaQ7
namespace Go.Proofs.Ytedjfmlmoommnaa.Pure
open Go.RowKit Go.Proofs.Ytedjfmlmoommnaa.Q Go.Proofs.YtedjfmlmoommnaaW.PrintWords Go.Proofs.YtedjfmlmoommnaaW.PrintLast
set_option linter.unusedVariables false
set_option linter.unusedSimpArgs false
theorem ee (a : ByteArray) (x n : Nat) (h : x + n ≤ a.size) : (a.extract x a.size).extract 0 n = a.extract x (x + n) := by
  apply ByteArray.ext
  have hs : a.size = a.data.size := rfl
  rw [ByteArray.data_extract, ByteArray.data_extract, ByteArray.data_extract, Array.extract_extract]
  congr 1
  omega
theorem et (a : ByteArray) (x n : Nat) (h : x + n ≤ a.size) : (a.extract x a.size).extract n (a.extract x a.size).size = a.extract (x + n) a.size := by
  apply ByteArray.ext
  have hs : a.size = a.data.size := rfl
  rw [ByteArray.size_extract, ByteArray.data_extract, ByteArray.data_extract, ByteArray.data_extract, Array.extract_extract]
  congr 1
  omega
theorem same (a : ByteArray) (x : Int) (d i : ByteArray) (k : Nat) (ha : a.size + d.size + i.size ≤ 3000) (hk : 0 < k) :
    edit_Apply.f k a x d i = abecedaryref07_Apply.f a x d i ∧ ∃ v, abecedaryref07_Apply.f a x d i = some v := by
  obtain ⟨k, rfl⟩ : ∃ m, k = m + 1 := ⟨k - 1, by omega⟩
  unfold edit_Apply.f abecedaryref07_Apply.f
  simp only [edit_Apply.j0]
  by_cases h1 : x < 0
  · rw [if_pos h1, if_pos h1]
    exact ⟨rfl, _, rfl⟩
  rw [if_neg h1, if_neg h1]
  by_cases h2 : x > (a.size : Int)
  · rw [if_pos h2, if_pos h2]
    exact ⟨rfl, _, rfl⟩
  rw [if_neg h2, if_neg h2]
  obtain ⟨n, rfl⟩ : ∃ n : Nat, x = (n : Int) := ⟨x.toNat, by omega⟩
  have e1 : wrap64 ((a.size : Int) - (n : Int)) = (a.size : Int) - (n : Int) := by unfold wrap64; omega
  have e2 : wrap64 ((n : Int) + (d.size : Int)) = ((n + d.size : Nat) : Int) := by unfold wrap64; omega
  rw [e1, e2]
  by_cases h3 : (d.size : Int) > (a.size : Int) - (n : Int)
  · rw [if_pos h3]
    simp only [h3, decide_true, if_true]
    exact ⟨trivial, _, rfl⟩
  rw [if_neg h3]
  simp only [h3, decide_false]
  have hsz : (a.extract n a.size).size = a.size - n := by rw [ByteArray.size_extract]; omega
  have hs0 : (a.extract 0 n).size ≤ a.size := by rw [ByteArray.size_extract]; omega
  have hs1 : (a.extract (n + d.size) a.size).size ≤ a.size := by rw [ByteArray.size_extract]; omega
  simp only [Int.toNat_natCast]
  rw [if_neg (by simp), if_pos (by omega), if_pos (by omega), if_pos (by omega), if_pos (by rw [hsz]; omega), ee a n d.size (by omega), et a n d.size (by omega)]
  have f1 : ((0 : Int) ≤ (n : Int)) = True := eq_true (by omega)
  have f2 : ((n : Int) ≤ ((n + d.size : Nat) : Int)) = True := eq_true (by omega)
  have f3 : (((n + d.size : Nat) : Int) ≤ (a.size : Int)) = True := eq_true (by omega)
  have f4 : ((n : Int) ≤ (a.size : Int)) = True := eq_true (by omega)
  have f5 : ((a.extract 0 n).size + i.size ≤ 9223372036854775807) = True := eq_true (by omega)
  have f6 : ((0 : Int) ≤ ((n + d.size : Nat) : Int)) = True := eq_true (by omega)
  have f7 : ((a.extract 0 n ++ i).size + (a.extract (n + d.size) a.size).size ≤ 9223372036854775807) = True := eq_true (by rw [ByteArray.size_append]; omega)
  simp only [f1, f2, f3, f4, f5, f6, f7, if_true]
  by_cases h4 : (a.extract n (n + d.size)).toList = d.toList
  · rw [if_pos h4]
    exact ⟨trivial, _, rfl⟩
  · rw [if_neg h4]
    exact ⟨trivial, _, rfl⟩
theorem aw : abecedarylaw07_awake.f 9 = some true := by kernel_rfl
theorem EditApplies (a : ByteArray) (x : Int) (d i : ByteArray) (h0 : a.size ≤ 140737488355328) (h1 : d.size ≤ 140737488355328) (h2 : i.size ≤ 140737488355328) :
    ∃ k, abecedarylaw07_EditApplies.f k a x d i = some true := by
  refine ⟨9, ?_⟩
  unfold abecedarylaw07_EditApplies.f
  have e : wrap64 (wrap64 ((a.size : Int) + (d.size : Int)) + (i.size : Int)) = ((a.size + d.size + i.size : Nat) : Int) := by unfold wrap64; omega
  rw [e, aw]
  by_cases h : ((a.size + d.size + i.size : Nat) : Int) > 3000
  · rw [if_pos h]
    rfl
  rw [if_neg h]
  obtain ⟨s1, v, s2⟩ := same a x d i 9 (by omega) (by decide)
  rw [s1, s2]
  simp [edit_Inverse.f, abecedaryref07_Inverse.f, abecedaryref07_Same.f]

end Go.Proofs.Ytedjfmlmoommnaa.Pure

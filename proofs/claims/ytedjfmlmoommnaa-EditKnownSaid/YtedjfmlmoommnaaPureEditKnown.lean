/- EditKnown holds: edits whose answers are known outright. Condition: the texts' sizes are such as the row's weights give. -/
import Derived.Test.YtedjfmlmoommnaaQ9
namespace Go.Proofs.Ytedjfmlmoommnaa.Pure
open Go.RowKit Go.Proofs.Ytedjfmlmoommnaa.Q Go.Proofs.YtedjfmlmoommnaaW.PrintWords Go.Proofs.YtedjfmlmoommnaaW.PrintLast
set_option linter.unusedVariables false
set_option linter.unusedSimpArgs false
theorem place_eq (a n : Int) (h0 : 0 < n) (h1 : n ≤ 1099511627776) : abecedarylaw00_Place.f a n = some (a % n) := by
  have e : Int.tmod a n = a % n - if 0 ≤ a ∨ n ∣ a then 0 else n.natAbs := Int.tmod_eq_emod
  have b0 := Int.emod_nonneg a (show n ≠ 0 by omega)
  have b1 := Int.emod_lt_of_pos a h0
  unfold abecedarylaw00_Place.f
  rw [if_neg (by omega)]
  by_cases hd : 0 ≤ a ∨ n ∣ a
  · rw [if_pos hd] at e
    rw [if_neg (by omega)]
    rw [show a.tmod n = a % n by omega]
  · rw [if_neg hd] at e
    have hz : a % n ≠ 0 := fun hz => hd (.inr (Int.dvd_of_emod_eq_zero hz))
    rw [if_pos (by omega)]
    congr 1
    unfold wrap64
    omega

theorem em (a n : Int) (h : 0 < n) : 0 ≤ a % n ∧ a % n < n := ⟨Int.emod_nonneg a (by omega), Int.emod_lt_of_pos a h⟩
theorem ee (a : ByteArray) (x n : Nat) (h : x + n ≤ a.size) : (a.extract x a.size).extract 0 n = a.extract x (x + n) := by
  apply ByteArray.ext
  have hs : a.size = a.data.size := rfl
  rw [ByteArray.data_extract, ByteArray.data_extract, ByteArray.data_extract, Array.extract_extract]
  congr 1
  omega
theorem et (a : ByteArray) (x n : Nat) (h : x + n ≤ a.size) : (a.extract x a.size).extract n (a.extract x a.size).size = a.extract (x + n) a.size := by
  apply ByteArray.ext
  have hs : a.size = a.data.size := rfl
  rw [ByteArray.size_extract, ByteArray.data_extract, ByteArray.data_extract, ByteArray.data_extract, Array.extract_extract]
  congr 1
  omega
theorem app_in (a : ByteArray) (n : Nat) (d i : ByteArray) (k : Nat) (h : n + d.size ≤ a.size) (hs : a.size + i.size ≤ 100000000) (hk : 0 < k) :
    edit_Apply.f k a (n : Int) d i = if (a.extract n (n + d.size)).toList = d.toList then some ((a.extract 0 n ++ i) ++ a.extract (n + d.size) a.size, true) else some ((⟨#[]⟩ : ByteArray), false) := by
  obtain ⟨k, rfl⟩ : ∃ m, k = m + 1 := ⟨k - 1, by omega⟩
  unfold edit_Apply.f
  simp only [edit_Apply.j0]
  have e1 : wrap64 ((a.size : Int) - (n : Int)) = (a.size : Int) - (n : Int) := by unfold wrap64; omega
  rw [if_neg (by omega), if_neg (by omega), e1]
  have hd : decide ((d.size : Int) > (a.size : Int) - (n : Int)) = false := decide_eq_false (by omega)
  have hsz : (a.extract n a.size).size = a.size - n := by rw [ByteArray.size_extract]; omega
  have hs0 : (a.extract 0 n).size ≤ a.size := by rw [ByteArray.size_extract]; omega
  have hs1 : (a.extract (n + d.size) a.size).size ≤ a.size := by rw [ByteArray.size_extract]; omega
  simp only [Int.toNat_natCast, hd]
  rw [if_neg (by simp), if_pos (by omega), if_pos (by omega), if_pos (by omega), if_pos (by rw [hsz]; omega), ee a n d.size (by omega), et a n d.size (by omega)]
  have f5 : ((a.extract 0 n).size + i.size ≤ 9223372036854775807) = True := eq_true (by omega)
  have f7 : ((a.extract 0 n ++ i).size + (a.extract (n + d.size) a.size).size ≤ 9223372036854775807) = True := eq_true (by rw [ByteArray.size_append]; omega)
  simp only [f5, f7, if_true]
theorem app_out (a : ByteArray) (x : Int) (d i : ByteArray) (k : Nat) (h : x < 0 ∨ x > (a.size : Int) ∨ (d.size : Int) > (a.size : Int) - x) (hs : a.size ≤ 100000000) (hd : d.size ≤ 100000000) (hk : 0 < k) :
    edit_Apply.f k a x d i = some ((⟨#[]⟩ : ByteArray), false) := by
  obtain ⟨k, rfl⟩ : ∃ m, k = m + 1 := ⟨k - 1, by omega⟩
  unfold edit_Apply.f
  simp only [edit_Apply.j0]
  by_cases h1 : x < 0
  · rw [if_pos h1]; rfl
  rw [if_neg h1]
  by_cases h2 : x > (a.size : Int)
  · rw [if_pos h2]; rfl
  rw [if_neg h2]
  have e1 : wrap64 ((a.size : Int) - x) = (a.size : Int) - x := by unfold wrap64; omega
  rw [e1, if_pos (decide_eq_true (by omega))]

theorem t1 (x y z : ByteArray) : ((x ++ y) ++ z).extract 0 x.size = x := by
  rw [ByteArray.append_assoc]; exact ByteArray.extract_append_eq_left rfl
theorem t2 (x y z : ByteArray) : ((x ++ y) ++ z).extract (x.size + y.size) ((x ++ y) ++ z).size = z := 
  ByteArray.extract_append_eq_right (by rw [ByteArray.size_append]) (by rw [ByteArray.size_append])
theorem t3 (x y z : ByteArray) : ((x ++ y) ++ z).extract x.size (x.size + y.size) = y := by
  rw [ByteArray.extract_append, ByteArray.extract_append_eq_right rfl rfl, ByteArray.size_append, Nat.sub_self]
  have e : z.extract (x.size - (x.size + y.size)) 0 = ByteArray.empty := ByteArray.extract_eq_empty_iff.2 (by omega)
  rw [e, ByteArray.append_empty]
theorem ok (x y z i : ByteArray) (k : Nat) (h : x.size + y.size + z.size + i.size ≤ 100000) (hk : 0 < k) : edit_Apply.f k ((x ++ y) ++ z) (x.size : Int) y i = some ((x ++ i) ++ z, true) := by
  rw [app_in _ x.size y i k (by simp only [ByteArray.size_append]; omega) (by simp only [ByteArray.size_append]; omega) hk, t3, if_pos rfl, t1, t2]
theorem aw : abecedarylaw07_awake.f 9 = some true := by kernel_rfl
theorem EditKnown : abecedarylaw07_EditKnown.Pure := by
  intro a b c i off h0 h1 h2 h3 _
  refine ⟨9, ?_⟩
  unfold abecedarylaw07_EditKnown.f
  have e1 : wrap64 (wrap64 ((a.size : Int) + (b.size : Int)) + (c.size : Int)) = ((a.size + b.size + c.size : Nat) : Int) := by unfold wrap64; omega
  have e2 : wrap64 (((a.size + b.size + c.size : Nat) : Int) + (i.size : Int)) = ((a.size + b.size + c.size + i.size : Nat) : Int) := by unfold wrap64; omega
  obtain ⟨t, b0, p6⟩ : ∃ t, (0 ≤ t ∧ t < 100) ∧ abecedarylaw00_Place.f off 100 = some t := ⟨_, em off 100 (by decide), place_eq off 100 (by decide) (by decide)⟩
  have pa := aw
  rw [e1, e2]
  by_cases h : ((a.size + b.size + c.size + i.size : Nat) : Int) > 2000
  · rw [if_pos h, pa]
    rfl
  have e3 : wrap64 (wrap64 (((a.size + b.size + c.size : Nat) : Int) + 1) + t) = ((a.size + b.size + c.size : Nat) : Int) + 1 + t := by unfold wrap64; omega
  have e4 : wrap64 ((-1) - t) = (-1) - t := by unfold wrap64; omega
  have s1 : ((a ++ b) ++ c).size = a.size + b.size + c.size := by simp only [ByteArray.size_append]
  have s2 : ((b ++ c) ++ (⟨#[120]⟩ : ByteArray)).size = b.size + c.size + 1 := by simp only [ByteArray.size_append]; rfl
  have p1 := ok a b c i 9 (by omega) (by decide)
  have p2 := ok a i c b 9 (by omega) (by decide)
  have p3 := app_out ((a ++ b) ++ c) (((a.size + b.size + c.size : Nat) : Int) + 1 + t) (⟨#[]⟩ : ByteArray) (⟨#[120]⟩ : ByteArray) 9 (.inr (.inl (by rw [s1]; omega))) (by rw [s1]; omega) (Nat.zero_le _) (by decide)
  have p4 := app_out ((a ++ b) ++ c) ((-1) - t) (⟨#[]⟩ : ByteArray) (⟨#[]⟩ : ByteArray) 9 (.inl (by omega)) (by rw [s1]; omega) (Nat.zero_le _) (by decide)
  have p5 := app_out ((a ++ b) ++ c) (a.size : Int) ((b ++ c) ++ (⟨#[120]⟩ : ByteArray)) (⟨#[]⟩ : ByteArray) 9 (.inr (.inr (by rw [s1, s2]; omega))) (by rw [s1]; omega) (by rw [s2]; omega) (by decide)
  have p7 : (⟨#[]⟩ : ByteArray).toList = ([] : List UInt8) := by kernel_rfl
  have f1 : (a.size + b.size ≤ 9223372036854775807) = True := eq_true (by omega)
  have f2 : ((a ++ b).size + c.size ≤ 9223372036854775807) = True := eq_true (by rw [ByteArray.size_append]; omega)
  have f3 : (b.size + c.size ≤ 9223372036854775807) = True := eq_true (by omega)
  have f4 : ((b ++ c).size + 1 ≤ 9223372036854775807) = True := eq_true (by rw [ByteArray.size_append]; omega)
  have f5 : (a.size + i.size ≤ 9223372036854775807) = True := eq_true (by omega)
  have f6 : ((a ++ i).size + c.size ≤ 9223372036854775807) = True := eq_true (by rw [ByteArray.size_append]; omega)
  rw [if_neg h]
  generalize abecedarylaw07_awake.f 9 = A at pa ⊢
  generalize abecedarylaw00_Place.f off 100 = B at p6 ⊢
  generalize edit_Apply.f 9 = F at p1 p2 p3 p4 p5 ⊢
  subst pa p6
  have q (x : Int) (y z : ByteArray) : edit_Inverse.f x y z = some (x, z, y) := rfl
  rw [if_pos (by omega), if_pos (by rw [ByteArray.size_append]; omega), p1, Option.bind_some, q, Option.bind_some]
  dsimp only
  rw [p2, Option.bind_some, Option.bind_some, e3, p3, Option.bind_some, e4, p4, Option.bind_some, if_pos (by omega), if_pos (by rw [ByteArray.size_append]; omega), p5, Option.bind_some]
  dsimp only
  rw [if_pos rfl, if_pos rfl, if_pos (by omega), if_pos (by rw [ByteArray.size_append]; omega), if_pos rfl, if_pos rfl, if_neg (by decide), if_pos p7, if_neg (by decide), if_neg (by decide)]
  rfl

end Go.Proofs.Ytedjfmlmoommnaa.Pure

/- a buffer beside kept blocks: its contracts. -/
import Derived.Test.YtemcffihfeaniaaBlaw
namespace Go.Proofs.Ytemcffihfeaniaa
open Go.RowKit Go.Deep Go.Own
set_option linter.unusedVariables false
/-- A buffer; the blocks of K are none of its own. -/
structure Bk (K : Nat → Prop) (w : World) (b : Nat) (text : List UInt8) (most k g : Nat) : Prop where
  ex : ∃ c so sa bo ba bt vl ps qs, BufX w c b so sa bo ba bt vl ps qs most ∧ (∀ j, c j ≠ 0 → ¬ K j) ∧ pText so sa qs = text ∧ qs.length = k ∧ so.length ≤ 65536 ∧ sa.length ≤ 65536 * g ∧ ps.length ≤ 1 + 4 * g
  kl : ∀ j, K j → j < w.heap.size
  le : text.length ≤ most
  most : most ≤ 65536
/-- what is kept -/
def Kp (K : Nat → Prop) (w w' : World) : Prop := Fr (fun j => ¬ K j) w w'
theorem Kp.refl (K : Nat → Prop) (w : World) : Kp K w w := Fr.refl _ _
theorem Kp.block {K : Nat → Prop} {w w' : World} (h : Kp K w w') {j : Nat} (hj : j < w.heap.size) (hk : K j) : w'.heap[j]? = w.heap[j]? := Fr.block h j hj (fun hn => hn hk)
theorem Kp.trans {K : Nat → Prop} {w w' w'' : World} (h : Kp K w w') (g : Kp K w' w'') : Kp K w w'' := Fr.trans h (Fr.mono g fun j hj => .inl hj)
theorem Kp.of_below {K : Nat → Prop} {w w' : World} (h : Below w.heap.size w w') : Kp K w w' := (Fr.refl _ _).thenBelow h
theorem Kp.below {K : Nat → Prop} {w w' : World} (h : Kp K w w') {B : Nat} (hB : ∀ j, j < B → K j) (hle : B ≤ w.heap.size) : Below B w w' :=
  Fr.below h (fun j hj => Nat.le_of_not_lt fun hlt => hj (hB j hlt)) hle
theorem Kp.mono {K L : Nat → Prop} {w w' : World} (h : Kp K w w') (hs : ∀ j, L j → K j) : Kp L w w' := Fr.mono h fun j hj hL => hj (hs j hL)
section
variable {K : Nat → Prop} {w w' : World} {b : Nat} {text : List UInt8} {most k g : Nat}
theorem Bk.later (h : Bk K w b text most k g) (hb : Below w.heap.size w w') : Bk K w' b text most k g := by
  obtain ⟨⟨c, so, sa, bo, ba, bt, vl, ps, qs, X, h1⟩, h2, h3, h4⟩ := h
  exact ⟨⟨c, so, sa, bo, ba, bt, vl, ps, qs, X.later hb, h1⟩, fun j hj => Nat.lt_of_lt_of_le (h2 j hj) hb.size, h3, h4⟩
theorem Bk.drewN (h : Bk K w b text most k g) (n : Nat) : Bk K (w.drewN n) b text most k g := h.later ⟨rfl, rfl, rfl, Nat.le_refl _, fun _ _ => rfl⟩
theorem Kp.drewN (K : Nat → Prop) (w : World) (n : Nat) : Kp K w (w.drewN n) := Kp.of_below ⟨rfl, rfl, rfl, Nat.le_refl _, fun _ _ => rfl⟩
theorem Bk.more (h : Bk K w b text most k g) {g' : Nat} (hg : g ≤ g') : Bk K w b text most k g' := by
  obtain ⟨⟨c, so, sa, bo, ba, bt, vl, ps, qs, X, h1, h2, h3, h4, h5, h6⟩, h7, h8, h9⟩ := h
  exact ⟨⟨c, so, sa, bo, ba, bt, vl, ps, qs, X, h1, h2, h3, h4, Nat.le_trans h5 (Nat.mul_le_mul_left _ hg), by omega⟩, h7, h8, h9⟩
/-- a world that keeps all but K's complement .. the buffer's blocks are kept too -/
theorem Bk.fresh (h : Bk K w b text most k g) (o : Obj) : Bk (fun j => K j ∨ j = w.heap.size) (w.alloc o) b text most k g := by
  have H := h.later ((Below.refl _ _).alloc (Nat.le_refl _) o)
  obtain ⟨⟨c, so, sa, bo, ba, bt, vl, ps, qs, X, h1, h2⟩, h7, h8, h9⟩ := h
  obtain ⟨_, k7, _, _⟩ := H
  refine ⟨⟨c, so, sa, bo, ba, bt, vl, ps, qs, X.later ((Below.refl _ _).alloc (Nat.le_refl _) o), fun j hj hk => ?_, h2⟩, fun j hj => ?_, h8, h9⟩
  · rcases hk with hk | hk
    · exact h1 j hj hk
    · have := X.lt j hj; omega
  · rcases hj with hj | hj
    · exact k7 j hj
    · rw [hj]; simp
theorem Bk.mono {L : Nat → Prop} (h : Bk K w b text most k g) (hs : ∀ j, L j → K j) : Bk L w b text most k g := by
  obtain ⟨⟨c, so, sa, bo, ba, bt, vl, ps, qs, X, h1, h2⟩, h7, h8, h9⟩ := h
  exact ⟨⟨c, so, sa, bo, ba, bt, vl, ps, qs, X, fun j hj hk => h1 j hj (hs j hk), h2⟩, fun j hj => h7 j (hs j hj), h8, h9⟩
theorem Bt.toBk {W : World} (h : Bt W w b text most k g) : Bk (fun j => j < W.heap.size) w b text most k g := by
  obtain ⟨⟨c, so, sa, bo, ba, bt, vl, ps, qs, X, h1, h2⟩, h7, h8, h9⟩ := h
  exact ⟨⟨c, so, sa, bo, ba, bt, vl, ps, qs, X, fun j hj hk => by have := h1 j hj; omega, h2⟩, fun j hj => Nat.lt_of_lt_of_le hj h7.size, h8, h9⟩
theorem Bk.toBt {W : World} (h : Bk K w b text most k g) (hK : ∀ j, j < W.heap.size → K j) (hb : Below W.heap.size W w) : Bt W w b text most k g := by
  obtain ⟨⟨c, so, sa, bo, ba, bt, vl, ps, qs, X, h1, h2⟩, h7, h8, h9⟩ := h
  exact ⟨⟨c, so, sa, bo, ba, bt, vl, ps, qs, X, fun j hj => Nat.le_of_not_lt fun hlt => h1 j hj (hK j hlt), h2⟩, hb, h8, h9⟩
/-- a store into a kept block -/
theorem Bk.setCell (h : Bk K w b text most k g) (a : Addr) (v : Value) (ha : K a.block) : Bk K (w.setCell a v) b text most k g := by
  obtain ⟨⟨c, so, sa, bo, ba, bt, vl, ps, qs, X, h1, h2⟩, h7, h8, h9⟩ := h
  refine ⟨⟨c, so, sa, bo, ba, bt, vl, ps, qs, X.keep (by simp [World.setCell]) (fun j _ hj => setCell_other _ fun e => h1 j hj.ne (by rw [e]; exact ha)), h1, h2⟩, fun j hj => by simpa [World.setCell] using h7 j hj, h8, h9⟩
theorem bk_text (h : Bk K w b text most k g) (hg : g ≤ 1000000) : Calls Try.prog 35 #[.pointer (some ⟨b, 0, none⟩)] w fun e w' => e = .returned (.string ⟨text.toArray⟩) ∧ Bk K w' b text most k g ∧ Kp K w w' := by
  have H := h
  obtain ⟨⟨c, so, sa, bo, ba, bt, vl, ps, qs, X, h1, h2, h3, h4, h5, h6⟩, h7, h8, h9⟩ := h
  have e1 := pText_length qs X.qok
  rw [h2] at e1
  have := btext_calls X (by omega) (by omega) (by omega)
  rw [h2] at this
  exact this.mono fun e w' ⟨a1, a2⟩ => ⟨a1, H.later a2, Kp.of_below a2⟩
theorem bk_slice (h : Bk K w b text most k g) (hg : g ≤ 1000000) (a n : Nat) (hn : a + n ≤ text.length) : Calls Try.prog 38 #[.pointer (some ⟨b, 0, none⟩), .int .i64 (a : Nat), .int .i64 (n : Nat)] w fun e w' => e = .returned (.tuple #[.string ⟨((text.drop a).take n).toArray⟩, .int .i64 0]) ∧ Bk K w' b text most k g ∧ Kp K w w' := by
  have H := h
  obtain ⟨⟨c, so, sa, bo, ba, bt, vl, ps, qs, X, h1, h2, h3, h4, h5, h6⟩, h7, h8, h9⟩ := h
  have e1 := pText_length qs X.qok
  rw [h2] at e1
  have := bslice_ok X a n (by omega) (by omega) (by omega) (by omega)
  rw [h2] at this
  exact this.mono fun e w' ⟨a1, a2⟩ => ⟨a1, H.later a2, Kp.of_below a2⟩
theorem bk_slice_no (h : Bk K w b text most k g) (a n : Int) (hn : ¬ (0 ≤ a ∧ 0 ≤ n ∧ a ≤ text.length ∧ n ≤ text.length - a)) : Calls Try.prog 38 #[.pointer (some ⟨b, 0, none⟩), .int .i64 a, .int .i64 n] w fun e w' => e = .returned (.tuple #[.string ⟨#[]⟩, .int .i64 2]) ∧ w = w' := by
  obtain ⟨⟨c, so, sa, bo, ba, bt, vl, ps, qs, X, h1, h2, h3, h4, h5, h6⟩, h7, h8, h9⟩ := h
  have e1 := pText_length qs X.qok
  rw [h2] at e1
  exact bslice_no X a n (by rw [← e1]; exact hn) (by omega)
theorem bk_insert (h : Bk K w b text most k g) (hg : g ≤ 1000000) (a : Int) (s : ByteArray) (hs : s.size ≤ 140737488351232) : Calls Try.prog 34 #[.pointer (some ⟨b, 0, none⟩), .int .i64 a, .string s] w fun e w' =>
    e = .returned (.int .i64 (insR text most a s.data.toList).1) ∧ ∃ k', k' ≤ k + 2 ∧ Bk K w' b (insR text most a s.data.toList).2 most k' (g + 1) ∧ Kp K w w' := by
  have H := h
  obtain ⟨⟨c, so, sa, bo, ba, bt, vl, ps, qs, X, h1, h2, h3, h4, h5, h6⟩, h7, h8, h9⟩ := h
  have e1 := pText_length qs X.qok
  rw [h2] at e1
  have hsl : s.data.toList.length = s.size := by simp
  unfold insR
  by_cases hp : 0 ≤ a ∧ a ≤ text.length
  · rw [if_pos hp]
    obtain ⟨a, rfl⟩ : ∃ j : Nat, a = (j : Int) := ⟨a.toNat, by omega⟩
    by_cases hb : most < text.length + s.data.toList.length
    · rw [if_pos hb]
      exact (binsert_big X a s (by omega) (by omega) (by omega) h9 hs).mono fun e w' ⟨a1, n, a2⟩ => ⟨a1, k, by omega, by rw [a2]; exact (H.drewN n).more (by omega), by rw [a2]; exact Kp.drewN _ _ _⟩
    · rw [if_neg hb]
      by_cases h0 : s.size = 0
      · have hs0 : s = ⟨#[]⟩ := by
          cases s with
          | mk d => congr 1; exact Array.eq_empty_of_size_eq_zero h0
        subst hs0
        refine (binsert_none X a (by omega) (by omega) h9).mono fun e w' ⟨a1, n, a2⟩ => ⟨a1, k, by omega, ?_⟩
        rw [a2]
        have e2 : text.take (a : Int).toNat ++ ((⟨#[]⟩ : ByteArray).data.toList ++ text.drop (a : Int).toNat) = text := by simp
        rw [e2]
        exact ⟨(H.drewN n).more (by omega), Kp.drewN _ _ _⟩
      · refine (binsert_ok X a s (by omega) (by omega) h9 (by omega) (by omega) (by omega) (by omega)).mono fun e w' ⟨a1, c', vl', ps', qs', k1, X', f1, p1, p2, p3⟩ => ⟨a1, qs'.length, by omega, ?_⟩
        refine ⟨⟨⟨c', so, _, bo, ba, bt, vl', ps', qs', X', fun j hj hk => ?_, by rw [p3, h2]; rfl, rfl, h4, by rw [List.length_append, hsl]; omega, by omega⟩, fun j hj => Nat.lt_of_lt_of_le (h7 j hj) f1.size, ?_, h9⟩, f1.mono fun j hj hk => h1 j hj.ne hk⟩
        · rw [k1 j (h7 j hk)] at hj; exact h1 j hj hk
        · simp only [List.length_append, List.length_take, List.length_drop]; omega
  · rw [if_neg hp]
    exact (binsert_place X a s (by rw [← e1]; exact hp)).mono fun e w' ⟨a1, a2⟩ => ⟨a1, k, by omega, by rw [← a2]; exact H.more (by omega), by rw [← a2]; exact Kp.refl _ _⟩
theorem bk_delete (h : Bk K w b text most k g) (hg : g ≤ 1000000) (a n : Int) : Calls Try.prog 36 #[.pointer (some ⟨b, 0, none⟩), .int .i64 a, .int .i64 n] w fun e w' =>
    e = .returned (.int .i64 (delR text a n).1) ∧ ∃ k', k' ≤ k + 1 ∧ Bk K w' b (delR text a n).2 most k' (g + 1) ∧ Kp K w w' := by
  have H := h
  obtain ⟨⟨c, so, sa, bo, ba, bt, vl, ps, qs, X, h1, h2, h3, h4, h5, h6⟩, h7, h8, h9⟩ := h
  have e1 := pText_length qs X.qok
  rw [h2] at e1
  unfold delR
  by_cases hp : 0 ≤ a ∧ 0 ≤ n ∧ a ≤ text.length ∧ n ≤ text.length - a
  · rw [if_pos hp]
    obtain ⟨p1, p2, p3, p4⟩ := hp
    obtain ⟨a, rfl⟩ : ∃ j : Nat, a = (j : Int) := ⟨a.toNat, by omega⟩
    obtain ⟨n, rfl⟩ : ∃ j : Nat, n = (j : Int) := ⟨n.toNat, by omega⟩
    by_cases h0 : n = 0
    · subst h0
      refine (bdelete_zero X a (by omega) (by omega)).mono fun e w' ⟨a1, a2⟩ => ⟨a1, k, by omega, ?_⟩
      have e2 : text.take (a : Int).toNat ++ text.drop ((a : Int).toNat + ((0 : Nat) : Int).toNat) = text := by simp
      rw [e2, ← a2]
      exact ⟨H.more (by omega), Kp.refl _ _⟩
    · refine (bdelete_ok X a n (by omega) (by omega) (by omega) (by omega) (by omega) (by omega)).mono fun e w' ⟨a1, c', vl', ps', qs', k1, X', f1, p1, p2, p3⟩ => ⟨a1, qs'.length, by omega, ?_⟩
      refine ⟨⟨⟨c', so, _, bo, ba, bt, vl', ps', qs', X', fun j hj hk => ?_, by rw [p3, h2]; rfl, rfl, h4, by omega, by omega⟩, fun j hj => Nat.lt_of_lt_of_le (h7 j hj) f1.size, ?_, h9⟩, f1.mono fun j hj hk => h1 j hj.ne hk⟩
      · rw [k1 j (h7 j hk)] at hj; exact h1 j hj hk
      · simp only [List.length_append, List.length_take, List.length_drop]; omega
  · rw [if_neg hp]
    exact (bdelete_no X a n (by rw [← e1]; exact hp) (by omega)).mono fun e w' ⟨a1, a2⟩ => ⟨a1, k, by omega, by rw [← a2]; exact H.more (by omega), by rw [← a2]; exact Kp.refl _ _⟩
end
end Go.Proofs.Ytemcffihfeaniaa

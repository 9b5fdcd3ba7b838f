/- a buffer that is a text: its contracts. -/
import Derived.Test.YtemcffihfeaniaaBnew
namespace Go.Own
open Go Go.RowKit Go.Deep
set_option linter.unusedVariables false
def insR (text : List UInt8) (most : Nat) (a : Int) (s : List UInt8) : Int × List UInt8 :=
  if 0 ≤ a ∧ a ≤ text.length then (if most < text.length + s.length then (3, text) else (0, text.take a.toNat ++ (s ++ text.drop a.toNat))) else (2, text)
def delR (text : List UInt8) (a n : Int) : Int × List UInt8 :=
  if 0 ≤ a ∧ 0 ≤ n ∧ a ≤ text.length ∧ n ≤ text.length - a then (0, text.take a.toNat ++ text.drop (a.toNat + n.toNat)) else (2, text)
end Go.Own
namespace Go.Proofs.Ytemcffihfeaniaa
open Go.RowKit Go.Deep Go.Own
set_option linter.unusedVariables false
structure Bt (W w : World) (b : Nat) (text : List UInt8) (most k g : Nat) : Prop where
  ex : ∃ c so sa bo ba bt vl ps qs, BufX w c b so sa bo ba bt vl ps qs most ∧ (∀ j, c j ≠ 0 → W.heap.size ≤ j) ∧ pText so sa qs = text ∧ qs.length = k ∧ so.length ≤ 65536 ∧ sa.length ≤ 65536 * g ∧ ps.length ≤ 1 + 4 * g
  below : Below W.heap.size W w
  le : text.length ≤ most
  most : most ≤ 65536
section
variable {W w w' : World} {b : Nat} {text : List UInt8} {most k g : Nat}
theorem Bt.later (h : Bt W w b text most k g) (hb : Below w.heap.size w w') : Bt W w' b text most k g := by
  obtain ⟨⟨c, so, sa, bo, ba, bt, vl, ps, qs, X, h1⟩, h2, h3, h4⟩ := h
  exact ⟨⟨c, so, sa, bo, ba, bt, vl, ps, qs, X.later hb, h1⟩, h2.trans (hb.mono h2.size), h3, h4⟩
theorem Bt.drewN (h : Bt W w b text most k g) (n : Nat) : Bt W (w.drewN n) b text most k g := h.later ⟨rfl, rfl, rfl, Nat.le_refl _, fun _ _ => rfl⟩
theorem Bt.more (h : Bt W w b text most k g) {g' : Nat} (hg : g ≤ g') : Bt W w b text most k g' := by
  obtain ⟨⟨c, so, sa, bo, ba, bt, vl, ps, qs, X, h1, h2, h3, h4, h5, h6⟩, h7, h8, h9⟩ := h
  exact ⟨⟨c, so, sa, bo, ba, bt, vl, ps, qs, X, h1, h2, h3, h4, Nat.le_trans h5 (Nat.mul_le_mul_left _ hg), by omega⟩, h7, h8, h9⟩
theorem Bt.pieces_le (h : Bt W w b text most k g) : k ≤ text.length ∧ (k = 0 ↔ text.length = 0) := by
  obtain ⟨⟨c, so, sa, bo, ba, bt, vl, ps, qs, X, h1, h2, h3, h4, h5, h6⟩, h7⟩ := h
  have e1 := pText_length qs X.qok
  have e2 := len_le_pLen qs (fun q hq => (X.qok q hq).2.1)
  rw [h2] at e1
  refine ⟨by omega, fun h => ?_, fun h => by omega⟩
  have : qs = [] := List.eq_nil_of_length_eq_zero (by omega)
  rw [e1, this]; rfl
theorem bt_new (s : ByteArray) (most : Int) (M : Nat) (hM : imax 0 (imin most 65536) = (M : Int)) (hM2 : M ≤ 65536) (W : World) (hs : s.size ≤ M) :
    Calls Try.prog 33 #[.string s, .int .i64 most] W fun e w' => ∃ b k, e = .returned (.tuple #[.pointer (some ⟨b, 0, none⟩), .int .i64 0]) ∧ k ≤ 1 ∧ Bt W w' b s.data.toList M k 0 :=
  (bnew_ok s most M hM hM2 W hs).mono fun e w' ⟨b, h1, c, bo, ba, bt, vl, ps, qs, X, h2, h3, h4, h5, h6⟩ =>
    ⟨b, qs.length, h1, h6, ⟨⟨c, _, _, bo, ba, bt, vl, ps, qs, X, h2, h4, rfl, by simp; omega, by simp, by omega⟩, h3, by simpa using hs, hM2⟩⟩
theorem bt_len (h : Bt W w b text most k g) : Calls Try.prog 37 #[.pointer (some ⟨b, 0, none⟩)] w fun e w' => e = .returned (.int .i64 (text.length : Nat)) ∧ w = w' := by
  obtain ⟨⟨c, so, sa, bo, ba, bt, vl, ps, qs, X, h1, h2, h3, h4, h5, h6⟩, h7⟩ := h
  have e1 := pText_length qs X.qok
  rw [h2] at e1
  rw [e1]; exact blen_calls X
theorem bt_pieces (h : Bt W w b text most k g) : Calls Try.prog 62 #[.pointer (some ⟨b, 0, none⟩)] w fun e w' => e = .returned (.int .i64 (k : Nat)) ∧ w = w' := by
  obtain ⟨⟨c, so, sa, bo, ba, bt, vl, ps, qs, X, h1, h2, h3, h4, h5, h6⟩, h7⟩ := h
  rw [← h3]; exact bpieces_calls X
theorem bt_height (h : Bt W w b text most k g) : ∃ hh : Nat, (Tr.least hh ≤ k ∧ hh ≤ 40) ∧ Calls Try.prog 67 #[.pointer (some ⟨b, 0, none⟩)] w fun e w' => e = .returned (.int .i64 (hh : Nat)) ∧ w = w' := by
  obtain ⟨⟨c, so, sa, bo, ba, bt, vl, ps, qs, X, h1, h2, h3, h4, h5, h6⟩, h7⟩ := h
  rw [← h3]; exact bheight_calls X
theorem bt_text (h : Bt W w b text most k g) (hg : g ≤ 1000000) : Calls Try.prog 35 #[.pointer (some ⟨b, 0, none⟩)] w fun e w' => e = .returned (.string ⟨text.toArray⟩) ∧ Bt W w' b text most k g := by
  have H := h
  obtain ⟨⟨c, so, sa, bo, ba, bt, vl, ps, qs, X, h1, h2, h3, h4, h5, h6⟩, h7, h8, h9⟩ := h
  have e1 := pText_length qs X.qok
  rw [h2] at e1
  have := btext_calls X (by omega) (by omega) (by omega)
  rw [h2] at this
  exact this.mono fun e w' ⟨a1, a2⟩ => ⟨a1, H.later a2⟩
theorem bt_slice (h : Bt W w b text most k g) (hg : g ≤ 1000000) (a n : Nat) (hn : a + n ≤ text.length) : Calls Try.prog 38 #[.pointer (some ⟨b, 0, none⟩), .int .i64 (a : Nat), .int .i64 (n : Nat)] w fun e w' => e = .returned (.tuple #[.string ⟨((text.drop a).take n).toArray⟩, .int .i64 0]) ∧ Bt W w' b text most k g := by
  have H := h
  obtain ⟨⟨c, so, sa, bo, ba, bt, vl, ps, qs, X, h1, h2, h3, h4, h5, h6⟩, h7, h8, h9⟩ := h
  have e1 := pText_length qs X.qok
  rw [h2] at e1
  have := bslice_ok X a n (by omega) (by omega) (by omega) (by omega)
  rw [h2] at this
  exact this.mono fun e w' ⟨a1, a2⟩ => ⟨a1, H.later a2⟩
theorem bt_slice_no (h : Bt W w b text most k g) (a n : Int) (hn : ¬ (0 ≤ a ∧ 0 ≤ n ∧ a ≤ text.length ∧ n ≤ text.length - a)) : Calls Try.prog 38 #[.pointer (some ⟨b, 0, none⟩), .int .i64 a, .int .i64 n] w fun e w' => e = .returned (.tuple #[.string ⟨#[]⟩, .int .i64 2]) ∧ w = w' := by
  obtain ⟨⟨c, so, sa, bo, ba, bt, vl, ps, qs, X, h1, h2, h3, h4, h5, h6⟩, h7, h8, h9⟩ := h
  have e1 := pText_length qs X.qok
  rw [h2] at e1
  exact bslice_no X a n (by rw [← e1]; exact hn) (by omega)
theorem bt_byte (h : Bt W w b text most k g) (hg : g ≤ 1000000) (a : Nat) (x : UInt8) (hx : text[a]? = some x) : Calls Try.prog 66 #[.pointer (some ⟨b, 0, none⟩), .int .i64 (a : Nat)] w fun e w' => e = .returned (.tuple #[.int .u8 (x.toNat : Int), .int .i64 0]) ∧ Bt W w' b text most k g := by
  have H := h
  obtain ⟨⟨c, so, sa, bo, ba, bt, vl, ps, qs, X, h1, h2, h3, h4, h5, h6⟩, h7, h8, h9⟩ := h
  have e1 := pText_length qs X.qok
  rw [h2] at e1
  exact (bbyte_ok X a x (by rw [h2]; exact hx) (by omega) (by omega) (by omega)).mono fun e w' ⟨a1, a2⟩ => ⟨a1, H.later a2⟩
theorem bt_byte_no (h : Bt W w b text most k g) (a : Int) (hn : ¬ (0 ≤ a ∧ a < text.length)) : Calls Try.prog 66 #[.pointer (some ⟨b, 0, none⟩), .int .i64 a] w fun e w' => e = .returned (.tuple #[.int .u8 0, .int .i64 2]) ∧ w = w' := by
  obtain ⟨⟨c, so, sa, bo, ba, bt, vl, ps, qs, X, h1, h2, h3, h4, h5, h6⟩, h7, h8, h9⟩ := h
  have e1 := pText_length qs X.qok
  rw [h2] at e1
  exact bbyte_no X a (by rw [← e1]; exact hn)
theorem bt_insert (h : Bt W w b text most k g) (hg : g ≤ 1000000) (a : Int) (s : ByteArray) (hs : s.size ≤ 140737488351232) : Calls Try.prog 34 #[.pointer (some ⟨b, 0, none⟩), .int .i64 a, .string s] w fun e w' =>
    e = .returned (.int .i64 (insR text most a s.data.toList).1) ∧ ∃ k', k' ≤ k + 2 ∧ Bt W w' b (insR text most a s.data.toList).2 most k' (g + 1) := by
  have H := h
  obtain ⟨⟨c, so, sa, bo, ba, bt, vl, ps, qs, X, h1, h2, h3, h4, h5, h6⟩, h7, h8, h9⟩ := h
  have e1 := pText_length qs X.qok
  rw [h2] at e1
  have hsl : s.data.toList.length = s.size := by simp
  unfold insR
  by_cases hp : 0 ≤ a ∧ a ≤ text.length
  · rw [if_pos hp]
    obtain ⟨a, rfl⟩ : ∃ j : Nat, a = (j : Int) := ⟨a.toNat, by omega⟩
    by_cases hb : most < text.length + s.data.toList.length
    · rw [if_pos hb]
      exact (binsert_big X a s (by omega) (by omega) (by omega) h9 hs).mono fun e w' ⟨a1, n, a2⟩ => ⟨a1, k, by omega, by rw [a2]; exact (H.drewN n).more (by omega)⟩
    · rw [if_neg hb]
      by_cases h0 : s.size = 0
      · have hs0 : s = ⟨#[]⟩ := by
          cases s with
          | mk d => congr 1; exact Array.eq_empty_of_size_eq_zero h0
        subst hs0
        refine (binsert_none X a (by omega) (by omega) h9).mono fun e w' ⟨a1, n, a2⟩ => ⟨a1, k, by omega, ?_⟩
        rw [a2]
        have e2 : text.take (a : Int).toNat ++ ((⟨#[]⟩ : ByteArray).data.toList ++ text.drop (a : Int).toNat) = text := by simp
        rw [e2]
        exact (H.drewN n).more (by omega)
      · refine (binsert_ok X a s (by omega) (by omega) h9 (by omega) (by omega) (by omega) (by omega)).mono fun e w' ⟨a1, c', vl', ps', qs', k1, X', f1, p1, p2, p3⟩ => ⟨a1, qs'.length, by omega, ?_⟩
        refine ⟨⟨c', so, _, bo, ba, bt, vl', ps', qs', X', fun j hj => ?_, by rw [p3, h2]; rfl, rfl, h4, by rw [List.length_append, hsl]; omega, by omega⟩, ?_, ?_, h9⟩
        · rcases Nat.lt_or_ge j w.heap.size with h | h
          · rw [k1 j h] at hj; exact h1 j hj
          · have := h7.size; omega
        · exact h7.trans (f1.below (fun j hj => h1 j hj.ne) h7.size)
        · simp only [List.length_append, List.length_take, List.length_drop]; omega
  · rw [if_neg hp]
    exact (binsert_place X a s (by rw [← e1]; exact hp)).mono fun e w' ⟨a1, a2⟩ => ⟨a1, k, by omega, by rw [← a2]; exact H.more (by omega)⟩
theorem bt_delete (h : Bt W w b text most k g) (hg : g ≤ 1000000) (a n : Int) : Calls Try.prog 36 #[.pointer (some ⟨b, 0, none⟩), .int .i64 a, .int .i64 n] w fun e w' =>
    e = .returned (.int .i64 (delR text a n).1) ∧ ∃ k', k' ≤ k + 1 ∧ Bt W w' b (delR text a n).2 most k' (g + 1) := by
  have H := h
  obtain ⟨⟨c, so, sa, bo, ba, bt, vl, ps, qs, X, h1, h2, h3, h4, h5, h6⟩, h7, h8, h9⟩ := h
  have e1 := pText_length qs X.qok
  rw [h2] at e1
  unfold delR
  by_cases hp : 0 ≤ a ∧ 0 ≤ n ∧ a ≤ text.length ∧ n ≤ text.length - a
  · rw [if_pos hp]
    obtain ⟨p1, p2, p3, p4⟩ := hp
    obtain ⟨a, rfl⟩ : ∃ j : Nat, a = (j : Int) := ⟨a.toNat, by omega⟩
    obtain ⟨n, rfl⟩ : ∃ j : Nat, n = (j : Int) := ⟨n.toNat, by omega⟩
    by_cases h0 : n = 0
    · subst h0
      refine (bdelete_zero X a (by omega) (by omega)).mono fun e w' ⟨a1, a2⟩ => ⟨a1, k, by omega, ?_⟩
      have e2 : text.take (a : Int).toNat ++ text.drop ((a : Int).toNat + ((0 : Nat) : Int).toNat) = text := by simp
      rw [e2, ← a2]
      exact H.more (by omega)
    · refine (bdelete_ok X a n (by omega) (by omega) (by omega) (by omega) (by omega) (by omega)).mono fun e w' ⟨a1, c', vl', ps', qs', k1, X', f1, p1, p2, p3⟩ => ⟨a1, qs'.length, by omega, ?_⟩
      refine ⟨⟨c', so, _, bo, ba, bt, vl', ps', qs', X', fun j hj => ?_, by rw [p3, h2]; rfl, rfl, h4, by omega, by omega⟩, ?_, ?_, h9⟩
      · rcases Nat.lt_or_ge j w.heap.size with h | h
        · rw [k1 j h] at hj; exact h1 j hj
        · have := h7.size; omega
      · exact h7.trans (f1.below (fun j hj => h1 j hj.ne) h7.size)
      · simp only [List.length_append, List.length_take, List.length_drop]; omega
  · rw [if_neg hp]
    exact (bdelete_no X a n (by rw [← e1]; exact hp) (by omega)).mono fun e w' ⟨a1, a2⟩ => ⟨a1, k, by omega, by rw [← a2]; exact H.more (by omega)⟩
end
end Go.Proofs.Ytemcffihfeaniaa

/- EditBack: what is held: the buffer, the two rows beside it; the chain of edits. -/
import Derived.Test.YtemcffihfeaniaaUndo
import Derived.Test.YtemcffihfeaniaaText2
import Derived.Test.YtemcffihfeaniaaStep
namespace Go.Proofs.Ytemcffihfeaniaa
open Go.RowKit Go.Deep Go.Own
set_option linter.unusedVariables false
structure EdR where
  a : Nat
  d : ByteArray
  i : ByteArray
def EdR.cells (e : EdR) : List Value := [.int .i64 (e.a : Nat), .string e.d, .string e.i]
structure Stp (t : ByteArray) (e : EdR) (x : ByteArray) : Prop where
  fits : e.a + e.d.size ≤ t.size
  del : e.d = t.extract e.a (e.a + e.d.size)
  eq : x = t.extract 0 e.a ++ e.i ++ t.extract (e.a + e.d.size) t.size
  nt : NZ t
  nx : NZ x
  ts : t.size ≤ 2000
  xs : x.size ≤ 2000
def Ch (s : ByteArray) : List (ByteArray × EdR) → ByteArray → Prop
  | [], x => x = s
  | (t, e) :: L, x => Stp t e x ∧ Ch s L t
def chT (L : List (ByteArray × EdR)) : List ByteArray := (L.map Prod.fst).reverse
def chD (L : List (ByteArray × EdR)) : List EdR := (L.map Prod.snd).reverse
theorem chT_cons (t : ByteArray) (e : EdR) (L : List (ByteArray × EdR)) : chT ((t, e) :: L) = chT L ++ [t] := by simp [chT]
theorem chD_cons (t : ByteArray) (e : EdR) (L : List (ByteArray × EdR)) : chD ((t, e) :: L) = chD L ++ [e] := by simp [chD]
theorem chT_length (L : List (ByteArray × EdR)) : (chT L).length = L.length := by simp [chT]
theorem chD_length (L : List (ByteArray × EdR)) : (chD L).length = L.length := by simp [chD]
theorem chT_at (P : List (ByteArray × EdR)) (t : ByteArray) (e : EdR) (L : List (ByteArray × EdR)) : (chT (P ++ (t, e) :: L))[L.length]? = some t := by
  simp [chT, List.getElem?_append]
theorem chD_at (P : List (ByteArray × EdR)) (t : ByteArray) (e : EdR) (L : List (ByteArray × EdR)) : (chD (P ++ (t, e) :: L))[L.length]? = some e := by
  simp [chD, List.getElem?_append]
/-- the edit stands there -/
theorem Stp.there {t : ByteArray} {e : EdR} {x : ByteArray} (h : Stp t e x) : e.a + e.i.size ≤ x.size ∧ x.extract e.a (e.a + e.i.size) = e.i ∧ t = x.extract 0 e.a ++ e.d ++ x.extract (e.a + e.i.size) x.size := by
  have hx : x.data.toList = t.data.toList.take e.a ++ (e.i.data.toList ++ t.data.toList.drop (e.a + e.d.size)) := by
    rw [h.eq]; simp only [ByteArray.data_append, Array.toList_append, ext_take, ext_drop, List.append_assoc]
  have hd : e.d.data.toList = (t.data.toList.drop e.a).take e.d.size := by
    have := congrArg (fun s : ByteArray => s.data.toList) h.del
    simp only [ext_mid] at this; exact this
  have hf := h.fits
  have l1 : ∀ s : ByteArray, s.data.toList.length = s.size := fun s => by simp
  have ht : (t.data.toList.take e.a).length = e.a := by rw [List.length_take, l1]; omega
  have hxl : x.size = e.a + (e.i.size + (t.size - (e.a + e.d.size))) := by
    rw [← l1 x, hx]; simp only [List.length_append, ht, l1, List.length_drop]
  refine ⟨by omega, ?_, ?_⟩
  · refine ByteArray.ext (Array.toList_inj.1 ?_)
    rw [ext_mid, hx]
    have h2 := List.drop_left (l₁ := t.data.toList.take e.a) (l₂ := e.i.data.toList ++ t.data.toList.drop (e.a + e.d.size))
    rw [ht] at h2
    rw [h2]
    have h3 := List.take_left (l₁ := e.i.data.toList) (l₂ := t.data.toList.drop (e.a + e.d.size))
    rw [l1] at h3
    exact h3
  · refine ByteArray.ext (Array.toList_inj.1 ?_)
    simp only [ByteArray.data_append, Array.toList_append, ext_take, ext_drop]
    rw [hx, hd]
    have h1 := List.take_left (l₁ := t.data.toList.take e.a) (l₂ := e.i.data.toList ++ t.data.toList.drop (e.a + e.d.size))
    rw [ht] at h1
    rw [h1]
    have h2 := List.drop_left (l₁ := t.data.toList.take e.a ++ e.i.data.toList) (l₂ := t.data.toList.drop (e.a + e.d.size))
    rw [List.length_append, ht, l1, List.append_assoc] at h2
    rw [h2, List.append_assoc]
    have h4 : (t.data.toList.drop e.a).take e.d.size ++ t.data.toList.drop (e.a + e.d.size) = t.data.toList.drop e.a := by
      rw [← List.drop_drop, List.take_append_drop]
    rw [h4, List.take_append_drop]
/-- .. and with a zero byte behind its insertion it does not -/
theorem Stp.not_there {t : ByteArray} {e : EdR} {x : ByteArray} (h : Stp t e x) (q : ByteArray) (n : Nat) : x.extract e.a n ≠ e.i ++ ⟨#[0]⟩ ++ q := fun he => by
  have := NZ.extract h.nx e.a n
  rw [he] at this
  exact this 0 (by simp [ByteArray.data_append]) rfl
/-- the buffer, the two rows and the blocks of X -/
def KE (W : World) (tv dv : Value) (X : Nat → Prop) (q : Nat) : Prop := (q < W.heap.size ∨ tv.ownBlock = some q ∨ dv.ownBlock = some q) ∨ X q
structure Eb (W w : World) (b : Nat) (x : ByteArray) (g : Nat) (tv dv : Value) (T : List ByteArray) (D : List EdR) (X : Nat → Prop) : Prop where
  bk : ∃ k, Bk (KE W tv dv X) w b x.data.toList 5000 k g
  tr : w.ownsRow W.heap.size 9 1 tv T.length (T.map Value.string)
  dr : w.ownsRow W.heap.size 68 3 dv D.length (D.flatMap EdR.cells)
  ne : ∀ q, tv.ownBlock = some q → dv.ownBlock ≠ some q
  below : Below W.heap.size W w
section
variable {W w w' : World} {b : Nat} {x : ByteArray} {g : Nat} {tv dv : Value} {T : List ByteArray} {D : List EdR} {X : Nat → Prop}
theorem Bk.grow {K L : Nat → Prop} {text : List UInt8} {most k : Nat} {row : Option Nat} (h : Bk K w b text most k g) (G : w.grownBy w' row) (hr : ∀ q, row = some q → K q) (hL : ∀ q, L q → K q ∨ w.heap.size ≤ q) (hl : ∀ q, L q → q < w'.heap.size) : Bk L w' b text most k g := by
  obtain ⟨⟨c, so, sa, bo, ba, bt, vl, ps, qs, X, h1, h2⟩, h7, h8, h9⟩ := h
  refine ⟨⟨c, so, sa, bo, ba, bt, vl, ps, qs, X.keep G.size (fun q hq hin => G.block q hq (fun e => h1 q hin.ne (hr q e.symm))), fun j hj hk => ?_, h2⟩, hl, h8, h9⟩
  rcases hL j hk with h3 | h3
  · exact h1 j hj h3
  · have := X.lt j hj; omega
/-- old blocks untouched; new ones to be kept from now on -/
theorem Eb.later {Y : Nat → Prop} (h : Eb W w b x g tv dv T D X) (hb : Below w.heap.size w w') (hY : ∀ q, Y q → X q ∨ (w.heap.size ≤ q ∧ q < w'.heap.size)) : Eb W w' b x g tv dv T D Y := by
  obtain ⟨k, bk⟩ := h.bk
  refine ⟨⟨k, Bk.grow (row := none) bk ⟨hb.os, hb.tape, hb.output, hb.size, fun q hq _ => hb.block q hq⟩ (fun q hq => by cases hq) (fun q hq => ?_) (fun q hq => ?_)⟩, own_below h.tr hb, own_below h.dr hb, h.ne, h.below.trans (hb.mono h.below.size)⟩
  · rcases hq with hq | hq
    · exact .inl (.inl hq)
    · rcases hY q hq with h1 | h1
      · exact .inl (.inr h1)
      · exact .inr h1.1
  · rcases hq with hq | hq
    · exact Nat.lt_of_lt_of_le (bk.kl q (.inl hq)) hb.size
    · rcases hY q hq with h1 | h1
      · exact Nat.lt_of_lt_of_le (bk.kl q (.inr h1)) hb.size
      · exact h1.2
theorem Eb.later' (h : Eb W w b x g tv dv T D X) (hb : Below w.heap.size w w') : Eb W w' b x g tv dv T D X := h.later hb fun q hq => .inl hq
theorem Eb.drop {Y : Nat → Prop} (h : Eb W w b x g tv dv T D X) (hY : ∀ q, Y q → X q) : Eb W w b x g tv dv T D Y := h.later (Below.refl _ _) fun q hq => .inl (hY q hq)
/-- the buffer's own call -/
theorem Eb.kept {y : ByteArray} {g' : Nat} (h : Eb W w b x g tv dv T D X) {k : Nat} (hk : Bk (KE W tv dv X) w' b y.data.toList 5000 k g') (kp : Kp (KE W tv dv X) w w') : Eb W w' b y g' tv dv T D X :=
  ⟨⟨k, hk⟩, own_keep h.tr fun q hq => kp.block (own_block_lt h.tr hq).2 (.inl (.inr (.inl hq))), own_keep h.dr fun q hq => kp.block (own_block_lt h.dr hq).2 (.inl (.inr (.inr hq))), h.ne, h.below.trans (kp.below (fun j hj => .inl (.inl hj)) h.below.size)⟩
def Xk (X : Nat → Prop) (w w' : World) : Prop := ∀ q, X q → w'.heap[q]? = w.heap[q]?
theorem Eb.xk (h : Eb W w b x g tv dv T D X) (kp : Kp (KE W tv dv X) w w') : Xk X w w' := fun q hq => by
  obtain ⟨k, bk⟩ := h.bk
  exact kp.block (bk.kl q (.inr hq)) (.inr hq)
theorem Eb.pushT (h : Eb W w b x g tv dv T D X) {v' : Value} {t : ByteArray} (O : w'.ownsRow W.heap.size 9 1 v' (T.length + 1) (T.map Value.string ++ [.string t])) (G : w.grownBy w' tv.ownBlock) (V : ∀ q, v'.ownBlock = some q → tv.ownBlock = some q ∨ w.heap.size ≤ q) :
    Eb W w' b x g v' dv (T ++ [t]) D (fun _ => False) := by
  obtain ⟨k, bk⟩ := h.bk
  refine ⟨⟨k, Bk.grow bk G (fun q hq => .inl (.inr (.inl hq))) (fun q hq => ?_) (fun q hq => ?_)⟩, ?_, own_keep h.dr fun q hq => G.block q (own_block_lt h.dr hq).2 (fun e => h.ne q e.symm hq), fun q hq hd => ?_, h.below.grown G h.below.size (fun q hq => (own_block_lt h.tr hq).1)⟩
  · rcases hq with (hq | hq | hq) | hq
    · exact .inl (.inl (.inl hq))
    · rcases V q hq with h1 | h1
      · exact .inl (.inl (.inr (.inl h1)))
      · exact .inr h1
    · exact .inl (.inl (.inr (.inr hq)))
    · exact hq.elim
  · rcases hq with (hq | hq | hq) | hq
    · exact Nat.lt_of_lt_of_le hq (Nat.le_trans h.below.size G.size)
    · exact (own_block_lt O hq).2
    · exact Nat.lt_of_lt_of_le (own_block_lt h.dr hq).2 G.size
    · exact hq.elim
  · rw [List.length_append, List.map_append]; exact O
  · rcases V q hq with h1 | h1
    · exact h.ne q h1 hd
    · have := (own_block_lt h.dr hd).2; omega
theorem Eb.pushD (h : Eb W w b x g tv dv T D X) {v' : Value} {e : EdR} (O : w'.ownsRow W.heap.size 68 3 v' (D.length + 1) (D.flatMap EdR.cells ++ e.cells)) (G : w.grownBy w' dv.ownBlock) (V : ∀ q, v'.ownBlock = some q → dv.ownBlock = some q ∨ w.heap.size ≤ q) :
    Eb W w' b x g tv v' T (D ++ [e]) (fun _ => False) := by
  obtain ⟨k, bk⟩ := h.bk
  refine ⟨⟨k, Bk.grow bk G (fun q hq => .inl (.inr (.inr hq))) (fun q hq => ?_) (fun q hq => ?_)⟩, own_keep h.tr fun q hq => G.block q (own_block_lt h.tr hq).2 (fun e => h.ne q hq e.symm), ?_, fun q hq hd => ?_, h.below.grown G h.below.size (fun q hq => (own_block_lt h.dr hq).1)⟩
  · rcases hq with (hq | hq | hq) | hq
    · exact .inl (.inl (.inl hq))
    · exact .inl (.inl (.inr (.inl hq)))
    · rcases V q hq with h1 | h1
      · exact .inl (.inl (.inr (.inr h1)))
      · exact .inr h1
    · exact hq.elim
  · rcases hq with (hq | hq | hq) | hq
    · exact Nat.lt_of_lt_of_le hq (Nat.le_trans h.below.size G.size)
    · exact Nat.lt_of_lt_of_le (own_block_lt h.tr hq).2 G.size
    · exact (own_block_lt O hq).2
    · exact hq.elim
  · rw [List.length_append, List.flatMap_append, List.flatMap_singleton]; exact O
  · rcases V q hd with h1 | h1
    · exact h.ne q hq h1
    · have := (own_block_lt h.tr hq).2; omega
theorem row_is {base e size n : Nat} {v : Value} {xs : List Value} (h : w.ownsRow base e size v n xs) : ∃ A cap, v = .slice A n cap ∧ n ≤ cap ∧ cap ≤ maxLen := by
  obtain ⟨hl, h⟩ := h
  rcases h with ⟨rfl, rfl⟩ | ⟨q, cap, cur, rfl, hb, hg, hc, hm, hs, ht⟩
  · exact ⟨none, 0, rfl, Nat.le_refl _, Nat.zero_le _⟩
  · exact ⟨_, cap, rfl, hc, hm⟩
theorem row_at {base e size n : Nat} {v : Value} {xs : List Value} (h : w.ownsRow base e size v n xs) (hn : 0 < n) : ∃ q cap, v = .slice (some ⟨q, 0, none⟩) n cap ∧ base ≤ q ∧ q < w.heap.size ∧ n ≤ cap ∧ cap ≤ maxLen ∧ ∀ j u, xs[j]? = some u → w.cell? ⟨q, j, none⟩ = some u := by
  obtain ⟨hl, h⟩ := h
  rcases h with ⟨_, h0⟩ | ⟨q, cap, cur, rfl, hb, hg, hc, hm, hs, ht⟩
  · omega
  · refine ⟨q, cap, rfl, hb, (Array.getElem?_eq_some_iff.1 hg).1, hc, hm, fun j u hu => ?_⟩
    rw [← ht, List.getElem?_take] at hu
    split at hu
    · simp [World.cell?, hg]; simpa using hu
    · cases hu
theorem cells_at : ∀ (D : List EdR) (j : Nat) (e : EdR), D[j]? = some e → (D.flatMap EdR.cells)[j * 3]? = some (.int .i64 (e.a : Nat)) ∧ (D.flatMap EdR.cells)[j * 3 + 1]? = some (.string e.d) ∧ (D.flatMap EdR.cells)[j * 3 + 2]? = some (.string e.i)
  | [], j, e, h => by simp at h
  | r :: D, 0, e, h => by
    obtain rfl : r = e := by simpa using h
    simp [EdR.cells]
  | r :: D, j + 1, e, h => by
    have ih := cells_at D j e (by simpa using h)
    have e1 : ∀ k, ((r :: D).flatMap EdR.cells)[k + 3]? = (D.flatMap EdR.cells)[k]? := fun k => by simp [EdR.cells]
    rw [show (j + 1) * 3 = j * 3 + 3 by omega, show j * 3 + 3 + 1 = (j * 3 + 1) + 3 by omega, show j * 3 + 3 + 2 = (j * 3 + 2) + 3 by omega, e1, e1, e1]
    exact ih
theorem Eb.text_at {q n cap : Nat} (h : Eb W w b x g (.slice (some ⟨q, 0, none⟩) n cap) dv T D X) {j : Nat} {t : ByteArray} (ht : T[j]? = some t) : w.cell? ⟨q, j, none⟩ = some (.string t) := by
  have hj := (List.getElem?_eq_some_iff.1 ht).1
  obtain ⟨q', cap', hv, _, hq, hc, hm, hx⟩ := row_at h.tr (by omega)
  obtain ⟨rfl, _⟩ : q = q' ∧ _ := by simpa using hv
  exact hx j _ (by rw [List.getElem?_map, ht]; rfl)
theorem Eb.edit_at {q n cap : Nat} (h : Eb W w b x g tv (.slice (some ⟨q, 0, none⟩) n cap) T D X) {j : Nat} {e : EdR} (ht : D[j]? = some e) : w.cell? ⟨q, j * 3, none⟩ = some (.int .i64 (e.a : Nat)) ∧ w.cell? ⟨q, j * 3 + 1, none⟩ = some (.string e.d) ∧ w.cell? ⟨q, j * 3 + 2, none⟩ = some (.string e.i) := by
  have hj := (List.getElem?_eq_some_iff.1 ht).1
  obtain ⟨q', cap', hv, _, hq, hc, hm, hx⟩ := row_at h.dr (by omega)
  obtain ⟨rfl, _⟩ : q = q' ∧ _ := by simpa using hv
  obtain ⟨a1, a2, a3⟩ := cells_at D j e ht
  exact ⟨hx _ _ a1, hx _ _ a2, hx _ _ a3⟩
theorem eb_text (h : Eb W w b x g tv dv T D X) (hg : g ≤ 1000) : Calls Try.prog 35 #[.pointer (some ⟨b, 0, none⟩)] w fun e w' => e = .returned (.string x) ∧ Eb W w' b x g tv dv T D X ∧ Xk X w w' := by
  obtain ⟨k, bk⟩ := h.bk
  exact (ks_text x bk (by omega)).mono fun e w' ⟨h1, h2, h3⟩ => ⟨h1, h.kept h2 h3, h.xk h3⟩
theorem eb_do (h : Eb W w b x g tv dv T D X) (a n : Nat) (i z : ByteArray) (hn : a + n ≤ x.size) (hz : z = x.extract 0 a ++ i ++ x.extract (a + n) x.size) (hb : z.size ≤ 5000) (hg : g ≤ 1000) (hi : i.size ≤ 1000) :
    Calls Try.prog 43 #[.pointer (some ⟨b, 0, none⟩), .int .i64 (a : Nat), .int .i64 (n : Nat), .string i] w fun e w' => e = .returned (.tuple #[.agg #[.int .i64 (a : Nat), .string (x.extract a (a + n)), .string i], .int .i64 0]) ∧ Eb W w' b z (g + 3) tv dv T D X := by
  obtain ⟨k, bk⟩ := h.bk
  exact (do_ok x a n i _ z bk hn rfl hz hb (by omega) (by omega)).mono fun e w' ⟨h1, k', h2, h3⟩ => ⟨h1, h.kept h2 h3⟩
theorem eb_undo (h : Eb W w b x g tv dv T D X) {t : ByteArray} {e : EdR} (hs : Stp t e x) (hg : g ≤ 1000) :
    Calls Try.prog 47 #[.pointer (some ⟨b, 0, none⟩), .agg #[.int .i64 (e.a : Nat), .string e.d, .string e.i]] w fun r w' => r = .returned (.int .i64 0) ∧ Eb W w' b t (g + 3) tv dv T D X ∧ Xk X w w' := by
  obtain ⟨k, bk⟩ := h.bk
  obtain ⟨t1, t2, t3⟩ := hs.there
  have := hs.ts
  have := hs.xs
  have := hs.fits
  exact (undo_ok x e.a e.d e.i t bk t1 t2 t3 (by omega) (by omega) (by omega) (by omega)).mono fun r w' ⟨h1, k', h2, h3⟩ => ⟨h1, h.kept h2 h3, h.xk h3⟩
theorem eb_bad (h : Eb W w b x g tv dv T D X) {t : ByteArray} {e : EdR} (hs : Stp t e x) (q : ByteArray) (hq : q.size ≤ 1000) (hg : g ≤ 1000) :
    Calls Try.prog 47 #[.pointer (some ⟨b, 0, none⟩), .agg #[.int .i64 (e.a : Nat), .string e.d, .string (e.i ++ ⟨#[0]⟩ ++ q)]] w fun r w' => r = .returned (.int .i64 2) ∧ Eb W w' b x (g + 3) tv dv T D X ∧ Xk X w w' := by
  obtain ⟨k, bk⟩ := h.bk
  obtain ⟨t1, _, _⟩ := hs.there
  have := hs.xs
  have hsz : (e.i ++ ⟨#[0]⟩ ++ q).size ≤ 140737488351232 := by
    simp only [ByteArray.size_append]; show e.i.size + 1 + q.size ≤ _; omega
  by_cases hn : e.a + (e.i ++ ⟨#[0]⟩ ++ q).size ≤ x.size
  · exact (undo_no x e.a e.d _ bk hn (hs.not_there q _) (by omega) hsz).mono fun r w' ⟨h1, k', h2, h3⟩ => ⟨h1, h.kept h2 h3, h.xk h3⟩
  · exact (undo_far x e.a e.d _ bk (by omega) hsz).mono fun r w' ⟨h1, k', h2, h3⟩ => ⟨h1, h.kept h2 h3, h.xk h3⟩
end
end Go.Proofs.Ytemcffihfeaniaa

/- the buffer: part, Len, has, Pieces, Height. -/
import Derived.Test.YtemcffihfeaniaaBput
namespace Go.Own
open Go Go.RowKit Go.Deep
set_option linter.unusedVariables false
def pLen (qs : List (Nat × Pc)) : Nat := (qs.map (·.2.n)).sum
theorem pLen_cons (q : Nat × Pc) (qs : List (Nat × Pc)) : pLen (q :: qs) = q.2.n + pLen qs := by simp [pLen]
theorem pLen_append (qs rs : List (Nat × Pc)) : pLen (qs ++ rs) = pLen qs + pLen rs := by simp [pLen]
theorem pLen_nil : pLen [] = 0 := rfl
theorem sum_pItems : ∀ (qs : List (Nat × Pc)), sumL (pItems qs) = (pLen qs : Int)
  | [] => rfl
  | q :: qs => by
    have := sum_pItems qs
    rw [show pItems (q :: qs) = ((q.1 : Int), (q.2.n : Int)) :: pItems qs from rfl, sumL_cons, this, pLen_cons]
    simp
theorem Pc.text_length {so sa : List UInt8} {p : Pc} (h : p.fr + p.n ≤ (if p.add then sa else so).length) : (p.text so sa).length = p.n := by
  unfold Pc.text
  rw [List.length_take, List.length_drop]; omega
theorem pText_length {so sa : List UInt8} {ps : List Pc} : ∀ (qs : List (Nat × Pc)), (∀ q ∈ qs, POk so sa ps q) → (pText so sa qs).length = pLen qs
  | [], _ => rfl
  | q :: qs, h => by
    have h1 := pText_length qs (fun x hx => h x (by simp [hx]))
    have h2 := Pc.text_length (h q (by simp)).2.2
    rw [show pText so sa (q :: qs) = q.2.text so sa ++ pText so sa qs from rfl, List.length_append, h1, h2, pLen_cons]
theorem pText_append (so sa : List UInt8) (qs rs : List (Nat × Pc)) : pText so sa (qs ++ rs) = pText so sa qs ++ pText so sa rs := by simp [pText]
theorem pText_take {so sa : List UInt8} {ps : List Pc} {qs : List (Nat × Pc)} (h : ∀ q ∈ qs, POk so sa ps q) (j : Nat) : pText so sa (qs.take j) = (pText so sa qs).take (pLen (qs.take j)) := by
  have h1 : pText so sa qs = pText so sa (qs.take j) ++ pText so sa (qs.drop j) := by rw [← pText_append, List.take_append_drop]
  have h2 := pText_length (qs.take j) (fun q hq => h q (List.mem_of_mem_take hq))
  rw [h1, ← h2, List.take_left]
theorem pText_drop {so sa : List UInt8} {ps : List Pc} {qs : List (Nat × Pc)} (h : ∀ q ∈ qs, POk so sa ps q) (j : Nat) : pText so sa (qs.drop j) = (pText so sa qs).drop (pLen (qs.take j)) := by
  have h1 : pText so sa qs = pText so sa (qs.take j) ++ pText so sa (qs.drop j) := by rw [← pText_append, List.take_append_drop]
  have h2 := pText_length (qs.take j) (fun q hq => h q (List.mem_of_mem_take hq))
  rw [h1, ← h2, List.drop_left]
/-- Find, of pieces -/
theorem find_split : ∀ (qs : List (Nat × Pc)) (p : Nat), (∀ q ∈ qs, 0 < q.2.n) → p ≤ pLen qs → ∃ i off : Nat, findL (pItems qs) (p : Int) = (i, (off : Int)) ∧ i ≤ qs.length ∧ pLen (qs.take i) + off = p ∧
    (p < pLen qs → ∃ q, qs[i]? = some q ∧ off < q.2.n) ∧ (p = pLen qs → i = qs.length ∧ off = 0)
  | [], p, _, h => by
    rw [pLen_nil] at h
    exact ⟨0, 0, rfl, by simp, by simp [pLen]; omega, fun h' => by rw [pLen_nil] at h'; omega, fun _ => ⟨rfl, rfl⟩⟩
  | q :: qs, p, hs, h => by
    rw [pLen_cons] at h
    have hq := hs q (by simp)
    rw [show pItems (q :: qs) = ((q.1 : Int), (q.2.n : Int)) :: pItems qs from rfl]
    simp only [findL]
    by_cases hlt : p < q.2.n
    · rw [if_pos (by omega)]
      exact ⟨0, p, rfl, by simp, by simp [pLen], fun _ => ⟨q, by simp, hlt⟩, fun h' => by rw [pLen_cons] at h'; omega⟩
    · obtain ⟨i, off, h1, h2, h3, h4, h5⟩ := find_split qs (p - q.2.n) (fun x hx => hs x (by simp [hx])) (by omega)
      have H4 := Lib.hid h4
      have H5 := Lib.hid h5
      clear h4 h5
      rw [if_neg (by omega), show (p : Int) - (q.2.n : Int) = ((p - q.2.n : Nat) : Int) by omega, h1]
      refine ⟨i + 1, off, rfl, by simp; omega, ?_, fun h' => ?_, fun h' => ?_⟩
      · rw [List.take_succ_cons, pLen_cons]; omega
      · rw [pLen_cons] at h'
        obtain ⟨x, hx, ho⟩ := H4.out (by omega)
        exact ⟨x, by simpa using hx, ho⟩
      · rw [pLen_cons] at h'
        obtain ⟨h6, h7⟩ := H5.out (by omega)
        exact ⟨by simp; omega, h7⟩
theorem Fr.next {w w1 w2 : World} {c c1 : Nat → Nat} (h : Fr (InB c) w w1) (hc : ∀ k, k < w.heap.size → c1 k = c k) (g : Fr (InB c1) w1 w2) : Fr (InB c) w w2 :=
  h.step g.os g.tape g.output g.size fun k hk hn => g.block k hk fun e => by
    by_cases hlt : k < w.heap.size
    · exact hn (.inl (by unfold InB at e ⊢; rw [hc k hlt] at e; exact e))
    · exact hn (.inr ⟨by omega, hk⟩)
theorem Fr.thenBelow {F : Nat → Prop} {w w1 w2 : World} (h : Fr F w w1) (g : Below w1.heap.size w1 w2) : Fr F w w2 := h.step g.os g.tape g.output g.size fun k hk _ => g.block k hk
end Go.Own
namespace Go.Proofs.Ytemcffihfeaniaa
open Go.RowKit Go.Deep Go.Own
set_option linter.unusedVariables false
set_option maxRecDepth 100000 in
theorem bpart_calls (q fr n : Nat) (fr' n' : Int) (w : World) (h0 : 0 ≤ fr') (h : (fr : Int) + fr' ≤ 4398046511104) :
    Calls Try.prog 73 #[.agg #[.pointer (some ⟨q, 0, none⟩), .int .i64 (fr : Nat), .int .i64 (n : Nat)], .int .i64 fr', .int .i64 n'] w fun e w' => e = .returned (.agg #[.pointer (some ⟨q, 0, none⟩), .int .i64 ((fr : Int) + fr'), .int .i64 n']) ∧ Below w.heap.size w w' := by
  go_enter Try.func73, Try.ntmps73
  go_wp2_with (fail)
  refine bodyPost_ret (v := .agg #[.pointer (some ⟨q, 0, none⟩), .int .i64 ((fr : Int) + fr'), .int .i64 n']) (by simp [results, Try.results73, go_sem]) rfl ⟨rfl, ?_⟩
  exact ((((Below.refl _ _).alloc (Nat.le_refl _) _).alloc (by simp) _))
section
variable {w : World} {c : Nat → Nat} {b : Nat} {so sa : List UInt8} {bo ba bt : Nat} {vl : Value} {ps : List Pc} {qs : List (Nat × Pc)} {most : Nat}
set_option maxRecDepth 100000 in
theorem blen_calls (H : BufX w c b so sa bo ba bt vl ps qs most) : Calls Try.prog 37 #[.pointer (some ⟨b, 0, none⟩)] w fun e w' => e = .returned (.int .i64 (pLen qs : Nat)) ∧ w = w' := by
  obtain ⟨_, _, _, c3, _, _⟩ := H.cells
  have CS := Lib.hid (sum_at _ bt _ w H.tree)
  rw [sum_pItems] at CS
  clear H
  go_enter Try.func37, Try.ntmps37
  go_wp2_with (fail)
  refine CS.out.mono ?_
  rintro e w1 ⟨rfl, rfl⟩
  go_wp2_with (fail)
  go_ret
  exact ⟨rfl, rfl⟩
set_option maxRecDepth 100000 in
theorem bpieces_calls (H : BufX w c b so sa bo ba bt vl ps qs most) : Calls Try.prog 62 #[.pointer (some ⟨b, 0, none⟩)] w fun e w' => e = .returned (.int .i64 (qs.length : Nat)) ∧ w = w' := by
  obtain ⟨_, _, _, c3, _, _⟩ := H.cells
  have CS := Lib.hid (len_at _ bt _ w H.tree)
  rw [pItems_length] at CS
  clear H
  go_enter Try.func62, Try.ntmps62
  go_wp2_with (fail)
  refine CS.out.mono ?_
  rintro e w1 ⟨rfl, rfl⟩
  go_wp2_with (fail)
  go_ret
  exact ⟨rfl, rfl⟩
set_option maxRecDepth 100000 in
theorem bheight_calls (H : BufX w c b so sa bo ba bt vl ps qs most) : ∃ hh : Nat, (Tr.least hh ≤ qs.length ∧ hh ≤ 40) ∧ Calls Try.prog 67 #[.pointer (some ⟨b, 0, none⟩)] w fun e w' => e = .returned (.int .i64 (hh : Nat)) ∧ w = w' := by
  obtain ⟨_, _, _, c3, _, _⟩ := H.cells
  obtain ⟨hh, ⟨h1, h2, _⟩, hc⟩ := height_at _ bt _ w H.tree
  rw [pItems_length] at h1
  refine ⟨hh, ⟨h1, h2⟩, ?_⟩
  have CS := Lib.hid hc
  clear H h1 h2 hc
  go_enter Try.func67, Try.ntmps67
  go_wp2_with (fail)
  refine CS.out.mono ?_
  rintro e w1 ⟨rfl, rfl⟩
  go_wp2_with (fail)
  go_ret
  exact ⟨rfl, rfl⟩
set_option maxRecDepth 100000 in
theorem bhas_yes (H : BufX w c b so sa bo ba bt vl ps qs most) (a n : Nat) (h : a + n ≤ pLen qs) (hb : pLen qs ≤ 65536) : Calls Try.prog 58 #[.pointer (some ⟨b, 0, none⟩), .int .i64 (a : Nat), .int .i64 (n : Nat)] w fun e w' => e = .returned (.bool true) ∧ w = w' := by
  have CL := Lib.hid (blen_calls H)
  obtain ⟨L, hL⟩ : ∃ L, L = pLen qs := ⟨_, rfl⟩
  rw [← hL] at CL h hb
  have g1 : decide (a ≤ L) = true := by simp; omega
  have g2 : decide ((n : Int) ≤ (L : Int) - (a : Int)) = true := by simp; omega
  clear H hL
  go_enter Try.func58, Try.ntmps58
  go_wp2_with (fail)
  refine CL.out.mono ?_
  rintro e w1 ⟨rfl, rfl⟩
  go_wp2_with (fail)
  refine CL.out.mono ?_
  rintro e w1 ⟨rfl, rfl⟩
  go_wp2_with (fail)
  go_ret
  exact ⟨rfl, rfl⟩
set_option maxRecDepth 100000 in
theorem bhas_no (H : BufX w c b so sa bo ba bt vl ps qs most) (a n : Int) (h : ¬ (0 ≤ a ∧ 0 ≤ n ∧ a ≤ (pLen qs : Int) ∧ n ≤ (pLen qs : Int) - a)) (hb : pLen qs ≤ 65536) : Calls Try.prog 58 #[.pointer (some ⟨b, 0, none⟩), .int .i64 a, .int .i64 n] w fun e w' => e = .returned (.bool false) ∧ w = w' := by
  have CL := Lib.hid (blen_calls H)
  obtain ⟨L, hL⟩ : ∃ L, L = pLen qs := ⟨_, rfl⟩
  rw [← hL] at CL h hb
  clear H hL
  by_cases h0 : 0 ≤ a
  · have g0 : decide (0 ≤ a) = true := by simpa using h0
    by_cases h1 : 0 ≤ n
    · have g1 : decide (0 ≤ n) = true := by simpa using h1
      obtain ⟨a, rfl⟩ : ∃ k : Nat, a = (k : Int) := ⟨a.toNat, by omega⟩
      obtain ⟨n, rfl⟩ : ∃ k : Nat, n = (k : Int) := ⟨n.toNat, by omega⟩
      by_cases h2 : a ≤ L
      · have g2 : decide (a ≤ L) = true := by simpa using h2
        have g3 : decide ((n : Int) ≤ (L : Int) - (a : Int)) = false := by simp; omega
        clear h
        go_enter Try.func58, Try.ntmps58
        go_wp2_with (fail)
        refine CL.out.mono ?_
        rintro e w1 ⟨rfl, rfl⟩
        go_wp2_with (fail)
        refine CL.out.mono ?_
        rintro e w1 ⟨rfl, rfl⟩
        go_wp2_with (fail)
        go_ret
        exact ⟨rfl, rfl⟩
      · have g2 : decide (a ≤ L) = false := by simpa using h2
        clear h
        go_enter Try.func58, Try.ntmps58
        go_wp2_with (fail)
        refine CL.out.mono ?_
        rintro e w1 ⟨rfl, rfl⟩
        go_wp2_with (fail)
        go_ret
        exact ⟨rfl, rfl⟩
    · have g1 : decide (0 ≤ n) = false := by simpa using h1
      clear h
      go_enter Try.func58, Try.ntmps58
      go_wp2_with (fail)
      go_ret
      exact ⟨rfl, rfl⟩
  · have g0 : decide (0 ≤ a) = false := by simpa using h0
    clear h
    go_enter Try.func58, Try.ntmps58
    go_wp2_with (fail)
    go_ret
    exact ⟨rfl, rfl⟩
end
end Go.Proofs.Ytemcffihfeaniaa

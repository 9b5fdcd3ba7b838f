/- a slice of calls that came in, opened. -/
import Derived.Test.YtemcffihfeaniaaPlays
import Derived.Lib.SmallJoins
import Derived.Deep.Slices
import Derived.Deep.Strs
namespace Go.Own
open Go Go.ChangeShapes Go.WideShapes Go.RowKit Go.Deep
set_option linter.unusedVariables false
theorem pickL {α : Type} (P : Nat → α → Prop) : ∀ n : Nat, (∀ i, i < n → ∃ r, P i r) → ∃ l : List α, l.length = n ∧ ∀ i r, l[i]? = some r → P i r
  | 0, _ => ⟨[], rfl, fun i r h => by simp at h⟩
  | n + 1, h => by
    obtain ⟨l, hl, hp⟩ := pickL P n (fun i hi => h i (by omega))
    obtain ⟨r, hr⟩ := h n (by omega)
    refine ⟨l ++ [r], by simp [hl], fun i q hq => ?_⟩
    by_cases hi : i < l.length
    · rw [List.getElem?_append_left hi] at hq
      exact hp i q hq
    · have hlt := (List.getElem?_eq_some_iff.1 hq).1
      rw [List.length_append, List.length_singleton] at hlt
      obtain rfl : i = n := by omega
      rw [List.getElem?_append_right (by omega), hl, Nat.sub_self] at hq
      obtain rfl : r = q := by simpa using hq
      exact hr
set_option maxRecDepth 100000 in
theorem openO {H : Type} {enc : TypeId × Value → H} {W : World} {a : Option Addr} {n c : Nat} {d : DataW H} {p : List MemPlace} (h : DataW.Trod enc Go.Proofs.Try.prog W 0 (fun _ => true) true 56 (.slice a n c) d p) :
    ∃ l : List OpR, l.length = n ∧ ReadsO W a l ∧ l.length ≤ 9223372036854775807 ∧ ∀ r ∈ l, r.s.size ≤ 9223372036854775807 := by
  obtain ⟨fuel, hf⟩ := h
  have hC : Go.Proofs.Try.prog.cellsOf 61 = 4 := by kernel_rfl
  have hC3 : Go.Proofs.Try.prog.cellsOf 3 = 1 := by kernel_rfl
  have hC9 : Go.Proofs.Try.prog.cellsOf 9 = 1 := by kernel_rfl
  rcases open_slice Go.Proofs.Try.underlying56 hf with ⟨hcs, _⟩ | ⟨x, len, cap, m, k, D, Pl, hcs, hb, hl, hm, hmm, _, hi⟩
  · simp [Value.cells] at hcs
    obtain ⟨rfl, rfl, rfl⟩ := hcs
    exact ⟨[], rfl, fun h => by simp at h, by simp, fun r hr => by cases hr⟩
  · simp [Value.cells] at hcs
    obtain ⟨rfl, rfl, rfl⟩ := hcs
    have hml : maxLen ≤ 9223372036854775807 := by decide
    have hmn : m = c := by rw [hmm]; rfl
    obtain ⟨l, hln, hlp⟩ := pickL (fun i (r : OpR) => r.s.size ≤ 9223372036854775807 ∧ W.cell? (x.add (i * 4)) = some (.int .i64 r.kd) ∧ W.cell? (x.add (i * 4 + 1)) = some (.int .i64 r.a) ∧ W.cell? (x.add (i * 4 + 2)) = some (.int .i64 r.n) ∧ W.cell? (x.add (i * 4 + 3)) = some (.string r.s)) n (fun i hin => by
      obtain ⟨cs', hc, ht⟩ := hi i (by omega)
      rw [hC] at hc
      obtain ⟨y0, y1, y2, y3, n', _, hlen, h0, h1, h2, h3⟩ := Go.Joins.trod_struct4 Go.Proofs.Try.underlying61 ht
      obtain ⟨_, hcl, hat⟩ := World.cells?_some hc
      match cs', hcl with
      | [u0, u1, u2, u3], _ =>
        simp only [hC3, hC9] at h0 h1 h2 h3
        obtain ⟨x0, e0, _, _⟩ := DataW.trod_int Go.Proofs.Try.underlying3 h0
        obtain ⟨x1, e1, _, _⟩ := DataW.trod_int Go.Proofs.Try.underlying3 h1
        obtain ⟨x2, e2, _, _⟩ := DataW.trod_int Go.Proofs.Try.underlying3 h2
        obtain ⟨x3, e3, _, hs⟩ := DataW.trod_string Go.Proofs.Try.underlying9 h3
        simp at e0 e1 e2 e3
        subst e0 e1 e2 e3
        refine ⟨⟨x0, x1, x2, x3⟩, by unfold maxLen at hs; exact hs, ?_, ?_, ?_, ?_⟩
        · have := hat 0 (by decide); rw [Go.Deep.add_add] at this; exact this
        · have := hat 1 (by decide); rw [Go.Deep.add_add] at this; exact this
        · have := hat 2 (by decide); rw [Go.Deep.add_add] at this; exact this
        · have := hat 3 (by decide); rw [Go.Deep.add_add] at this; exact this)
    refine ⟨l, hln, fun h0 => ?_, by omega, fun r hr => ?_⟩
    · obtain ⟨r0, hr0⟩ : ∃ r, l[0]? = some r := ⟨_, List.getElem?_eq_getElem h0⟩
      have hp0 := (hlp 0 r0 hr0).2.1
      rw [show x.add (0 * 4) = x from by simp [Addr.add]] at hp0
      obtain ⟨b, o, rfl⟩ := cell_plain hp0
      have hblt : b < W.heap.size := World.block_lt_of_cell? _ _ hp0
      refine ⟨b, o, rfl, hblt, fun w' hb' i r hr => ?_⟩
      obtain ⟨_, p0, p1, p2, p3⟩ := hlp i r hr
      have ad : ∀ j, (⟨b, o, none⟩ : Addr).add j = ⟨b, o + j, none⟩ := fun j => by unfold Addr.add; split <;> simp_all
      have kc : ∀ j, w'.cell? ⟨b, j, none⟩ = W.cell? ⟨b, j, none⟩ := fun j => World.cell?_of_block (hb'.block b hblt)
      rw [ad] at p0 p1 p2 p3
      exact ⟨(kc _).trans p0, (kc _).trans (by rw [Nat.add_assoc]; exact p1), (kc _).trans (by rw [Nat.add_assoc]; exact p2), (kc _).trans (by rw [Nat.add_assoc]; exact p3)⟩
    · obtain ⟨i, hi', hri⟩ := List.getElem_of_mem hr
      exact (hlp i r (by rw [List.getElem?_eq_getElem hi', hri])).1
end Go.Own

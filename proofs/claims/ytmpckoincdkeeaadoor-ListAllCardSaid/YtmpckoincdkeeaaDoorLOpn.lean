/- A slice of entries, handed in: what it reads. -/
import Derived.Test.YtmpckoincdkeeaaDoorListF
import Derived.WalkKit
import Derived.ProofKit
import Derived.OpenShut
import Derived.ShutString
import Derived.ChangeOld
import Derived.ChangeSame
import Derived.Below
import Derived.Deep.Slices
import Derived.Deep.Strs
namespace Go.Proofs.YtmpckoincdkeeaaDoor
open Go.ChangeShapes Go.WideShapes Go.ChangeAt Go.RowKit Go.Deep Go.Own
set_option linter.unusedVariables false
theorem pickE {α : Type} (P : Nat → α → Prop) : ∀ n : Nat, (∀ i, i < n → ∃ r, P i r) → ∃ l : List α, l.length = n ∧ ∀ i r, l[i]? = some r → P i r
  | 0, _ => ⟨[], rfl, fun i r h => by simp at h⟩
  | n + 1, h => by
    obtain ⟨l, hl, hp⟩ := pickE P n (fun i hi => h i (by omega))
    obtain ⟨r, hr⟩ := h n (by omega)
    refine ⟨l ++ [r], by simp [hl], fun i q hq => ?_⟩
    by_cases hi : i < l.length
    · rw [List.getElem?_append_left hi] at hq
      exact hp i q hq
    · have hlt := (List.getElem?_eq_some_iff.1 hq).1
      rw [List.length_append, List.length_singleton] at hlt
      obtain rfl : i = n := by omega
      rw [List.getElem?_append_right (by omega), hl, Nat.sub_self] at hq
      obtain rfl : r = q := by simpa using hq
      exact hr
theorem open_row {H : Type} {enc : TypeId × Value → H} {W : World} {fuel : Nat} {u : Value} {x : DataW H × List MemPlace} (h : DataW.trod enc Tryd.prog W 0 (fun _ => true) true fuel 48 [u] = some x) :
    ∃ B n cf zs, u = .slice B n cf ∧ IsRow .i64 W B n cf zs ∧ n ≤ cf := by
  rcases open_ints Tryd.underlying48 Tryd.underlying3 (by kernel_rfl) h with ⟨hcs, _⟩ | ⟨y, l, c, zs, hcs, _, hl, hm, hz, _, hcell, hwz⟩
  · simp at hcs
    subst hcs
    exact ⟨none, 0, 0, [], rfl, .inl ⟨rfl, rfl, rfl, rfl⟩, Nat.le_refl _⟩
  · simp at hcs
    subst hcs
    exact ⟨some y, l, c, zs, rfl, .inr ⟨_, rfl, hl, hm, by simpa using hz, hcell, hwz⟩, hl⟩
set_option maxRecDepth 100000 in
theorem openE {H : Type} {enc : TypeId × Value → H} {W : World} {a : Option Addr} {n c : Nat} {d : DataW H} {p : List MemPlace} (h : DataW.Trod enc Tryd.prog W 0 (fun _ => true) true 42 (.slice a n c) d p) :
    ∃ l : List Ent, l.length = n ∧ Got W (.slice a n c) l ∧ n ≤ 9223372036854775807 ∧ ∀ e ∈ l, e.1.size ≤ 9223372036854775807 ∧ e.2.length ≤ 9223372036854775807 := by
  obtain ⟨fuel, hf⟩ := h
  have hC : Tryd.prog.cellsOf 78 = 2 := by kernel_rfl
  have hC9 : Tryd.prog.cellsOf 9 = 1 := by kernel_rfl
  have hC4 : Tryd.prog.cellsOf 48 = 1 := by kernel_rfl
  have hml : maxLen ≤ 9223372036854775807 := by decide
  rcases open_slice Tryd.underlying42 hf with ⟨hcs, _⟩ | ⟨x, len, cap, m, k, D, Pl, hcs, hb, hl, hm, hmm, _, hi⟩
  · simp [Value.cells] at hcs
    obtain ⟨rfl, rfl, rfl⟩ := hcs
    exact ⟨[], rfl, ⟨⟨none, 0, rfl, Nat.le_refl _, fun j e hj => by simp at hj⟩⟩, by omega, fun e he => by cases he⟩
  · simp [Value.cells] at hcs
    obtain ⟨rfl, rfl, rfl⟩ := hcs
    have hmn : m = c := by rw [hmm]; rfl
    obtain ⟨l, hln, hlp⟩ := pickE (fun i (r : Ent) => r.1.size ≤ 9223372036854775807 ∧ r.2.length ≤ 9223372036854775807 ∧ ∃ B cf, W.cell? (x.add (i * 2)) = some (.string r.1) ∧ W.cell? (x.add (i * 2 + 1)) = some (.slice B r.2.length cf) ∧ r.2.length ≤ cf ∧ Reads W B r.2) n (fun i hin => by
      obtain ⟨cs', hc, ht⟩ := hi i (by omega)
      rw [hC] at hc
      obtain ⟨y0, y1, n', _, hlen, h0, h1⟩ := trod_struct2 Tryd.underlying78 ht
      obtain ⟨_, hcl, hat⟩ := World.cells?_some hc
      match cs', hcl with
      | [u0, u1], _ =>
        simp only [hC9, hC4] at h0 h1
        obtain ⟨x0, e0, _, hs⟩ := DataW.trod_string Tryd.underlying9 h0
        obtain ⟨B, nf, cf, zs, e1, hrow, hnf⟩ := open_row (u := u1) (by simpa using h1)
        simp at e0
        subst e0 e1
        obtain ⟨rd, ln⟩ := Reads.of_row hrow
        have ha : ∀ j, j < 2 → W.cell? (x.add (i * 2 + j)) = [Value.string x0, .slice B nf cf][j]? := fun j hj => by
          have := hat j hj
          rw [Go.Deep.add_add] at this
          exact this
        refine ⟨(x0, zs.take nf), by unfold maxLen at hs; exact hs, ?_, B, cf, (ha 0 (by omega)).trans rfl, ?_, ?_, rd⟩
        · show (zs.take nf).length ≤ _
          rw [ln]
          rcases hrow with ⟨_, h, _⟩ | ⟨_, _, h, h2, _⟩
          · omega
          · unfold maxLen at h2; omega
        · show _ = some (Value.slice B (zs.take nf).length cf)
          rw [ln]
          exact (ha 1 (by omega)).trans rfl
        · show (zs.take nf).length ≤ _
          rw [ln]; exact hnf)
    refine ⟨l, hln, ⟨⟨some x, c, by rw [hln], by omega, fun j e hj => ?_⟩⟩, by omega, fun e he => ?_⟩
    · obtain ⟨_, _, B, cf, h1, h2, h3, h4⟩ := hlp j e hj
      have h0 : 0 < l.length := by have := (List.getElem?_eq_some_iff.1 hj).1; omega
      obtain ⟨r0, hr0⟩ : ∃ r0, l[0]? = some r0 := ⟨_, List.getElem?_eq_getElem h0⟩
      obtain ⟨_, _, _, _, hx0, _⟩ := hlp 0 r0 hr0
      rw [Nat.zero_mul, show x.add 0 = x from by simp [Addr.add]] at hx0
      obtain ⟨b, o, rfl⟩ := cell_plain hx0
      have hadd : ∀ i, (⟨b, o, none⟩ : Addr).add i = ⟨b, o + i, none⟩ := fun i => by unfold Addr.add; split <;> simp_all
      simp only [hadd] at h1 h2
      exact ⟨b, o, B, cf, rfl, World.block_lt_of_cell? _ _ hx0, h1, by rw [Nat.add_assoc]; exact h2, h3, h4⟩
    · obtain ⟨i, hi', hri⟩ := List.getElem_of_mem he
      have := hlp i e (by rw [List.getElem?_eq_getElem hi', hri])
      exact ⟨this.1, this.2.1⟩
end Go.Proofs.YtmpckoincdkeeaaDoor

/- A slice of ranges, handed in: what it reads. -/
import Derived.Test.YtcljiahpgbedhaaDoorCls
import Derived.WalkKit
import Derived.ProofKit
import Derived.OpenShut
import Derived.ShutString
import Derived.ChangeOld
import Derived.Below
import Derived.Deep.Slices
import Derived.Deep.Strs
namespace Go.Proofs.YtcljiahpgbedhaaDoor
open Go.ChangeShapes Go.WideShapes Go.ChangeAt Go.RowKit Go.Deep Go.Own
set_option linter.unusedVariables false
theorem pickR {α : Type} (P : Nat → α → Prop) : ∀ n : Nat, (∀ i, i < n → ∃ r, P i r) → ∃ l : List α, l.length = n ∧ ∀ i r, l[i]? = some r → P i r
  | 0, _ => ⟨[], rfl, fun i r h => by simp at h⟩
  | n + 1, h => by
    obtain ⟨l, hl, hp⟩ := pickR P n (fun i hi => h i (by omega))
    obtain ⟨r, hr⟩ := h n (by omega)
    refine ⟨l ++ [r], by simp [hl], fun i q hq => ?_⟩
    by_cases hi : i < l.length
    · rw [List.getElem?_append_left hi] at hq
      exact hp i q hq
    · have hlt := (List.getElem?_eq_some_iff.1 hq).1
      rw [List.length_append, List.length_singleton] at hlt
      obtain rfl : i = n := by omega
      rw [List.getElem?_append_right (by omega), hl, Nat.sub_self] at hq
      obtain rfl : r = q := by simpa using hq
      exact hr
theorem openR {H : Type} {enc : TypeId × Value → H} {W : World} {a : Option Addr} {n c : Nat} {d : DataW H} {p : List MemPlace} (h : DataW.Trod enc Tryd.prog W 0 (fun _ => true) true 44 (.slice a n c) d p) :
    ∃ l : List Rng, l.length = n ∧ ReadsR W a l ∧ n ≤ 9223372036854775807 ∧ n ≤ c := by
  obtain ⟨fuel, hf⟩ := h
  have hC : Tryd.prog.cellsOf 70 = 3 := by kernel_rfl
  have hC3 : Tryd.prog.cellsOf 3 = 1 := by kernel_rfl
  rcases open_slice Tryd.underlying44 hf with ⟨hcs, _⟩ | ⟨x, len, cap, m, k, D, Pl, hcs, hb, hl, hm, hmm, _, hi⟩
  · simp [Value.cells] at hcs
    obtain ⟨rfl, rfl, rfl⟩ := hcs
    exact ⟨[], rfl, fun h => absurd h (by simp), by omega, Nat.le_refl _⟩
  · simp [Value.cells] at hcs
    obtain ⟨rfl, rfl, rfl⟩ := hcs
    have hmn : m = c := by rw [hmm]; rfl
    obtain ⟨l, hln, hlp⟩ := pickR (fun i (r : Rng) => W.cell? (x.add (i * 3)) = some (.int .i64 r.a) ∧ W.cell? (x.add (i * 3 + 1)) = some (.int .i64 r.b) ∧ W.cell? (x.add (i * 3 + 2)) = some (.int .i64 r.c)) n (fun i hin => by
      obtain ⟨cs', hc, ht⟩ := hi i (by omega)
      rw [hC] at hc
      obtain ⟨y0, y1, y2, n', _, hlen, h0, h1, h2⟩ := trod_struct3 Tryd.underlying70 ht
      obtain ⟨_, hcl, hat⟩ := World.cells?_some hc
      match cs', hcl with
      | [u0, u1, u2], _ =>
        simp only [hC3] at h0 h1 h2
        obtain ⟨x0, e0, _, _⟩ := DataW.trod_int Tryd.underlying3 h0
        obtain ⟨x1, e1, _, _⟩ := DataW.trod_int Tryd.underlying3 h1
        obtain ⟨x2, e2, _, _⟩ := DataW.trod_int Tryd.underlying3 h2
        simp at e0 e1 e2
        subst e0 e1 e2
        have ha : ∀ j, j < 3 → W.cell? (x.add (i * 3 + j)) = [Value.int .i64 x0, .int .i64 x1, .int .i64 x2][j]? := fun j hj => by
          have := hat j hj
          rw [Go.Deep.add_add] at this
          exact this
        exact ⟨⟨x0, x1, x2⟩, (ha 0 (by omega)).trans rfl, (ha 1 (by omega)).trans rfl, (ha 2 (by omega)).trans rfl⟩)
    have hml : maxLen ≤ 9223372036854775807 := by decide
    refine ⟨l, hln, fun h0 => ?_, by omega, hl⟩
    obtain ⟨r0, hr0⟩ : ∃ r0, l[0]? = some r0 := ⟨_, List.getElem?_eq_getElem h0⟩
    have h1 := (hlp 0 r0 hr0).1
    rw [Nat.zero_mul, show x.add 0 = x from by simp [Addr.add]] at h1
    obtain ⟨b, o, rfl⟩ := cell_plain h1
    refine ⟨b, o, rfl, World.block_lt_of_cell? _ _ h1, fun j r hj => ?_⟩
    have hadd : ∀ i, (⟨b, o, none⟩ : Addr).add i = ⟨b, o + i, none⟩ := fun i => by unfold Addr.add; split <;> simp_all
    have := hlp j r hj
    simp only [hadd] at this
    exact this
end Go.Proofs.YtcljiahpgbedhaaDoor

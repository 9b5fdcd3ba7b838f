/- A slice of flags, handed in: what it reads. -/
import Derived.Test.YtmpckoincdkeeaaDoorProg
import Derived.Test.YtmpckoincdkeeaaDoorRow
import Derived.WalkKit
import Derived.ProofKit
import Derived.OpenShut
import Derived.ShutString
import Derived.ChangeOld
import Derived.Below
import Derived.Deep.Slices
import Derived.Deep.Strs
namespace Go.Own
open Go.RowKit Go.Deep
def ReadsB (w : World) (A : Option Addr) (l : List Bool) : Prop :=
  0 < l.length → ∃ q o, A = some ⟨q, o, none⟩ ∧ q < w.heap.size ∧ ∀ j b, l[j]? = some b → w.cell? ⟨q, o + j, none⟩ = some (.bool b)
theorem ReadsB.below {w w' : World} {A : Option Addr} {l : List Bool} (h : ReadsB w A l) (hb : Below w.heap.size w w') : ReadsB w' A l := fun h0 => by
  obtain ⟨q, o, e, hq, hc⟩ := h h0
  exact ⟨q, o, e, Nat.lt_of_lt_of_le hq hb.size, fun j p hp => (hb.cell (p := ⟨q, o + j, none⟩) hq).trans (hc j p hp)⟩
end Go.Own
namespace Go.Proofs.YtmpckoincdkeeaaDoor
open Go.ChangeShapes Go.WideShapes Go.ChangeAt Go.RowKit Go.Deep Go.Own
set_option linter.unusedVariables false
theorem pickB {α : Type} (P : Nat → α → Prop) : ∀ n : Nat, (∀ i, i < n → ∃ r, P i r) → ∃ l : List α, l.length = n ∧ ∀ i r, l[i]? = some r → P i r
  | 0, _ => ⟨[], rfl, fun i r h => by simp at h⟩
  | n + 1, h => by
    obtain ⟨l, hl, hp⟩ := pickB P n (fun i hi => h i (by omega))
    obtain ⟨r, hr⟩ := h n (by omega)
    refine ⟨l ++ [r], by simp [hl], fun i q hq => ?_⟩
    by_cases hi : i < l.length
    · rw [List.getElem?_append_left hi] at hq
      exact hp i q hq
    · have hlt := (List.getElem?_eq_some_iff.1 hq).1
      rw [List.length_append, List.length_singleton] at hlt
      obtain rfl : i = n := by omega
      rw [List.getElem?_append_right (by omega), hl, Nat.sub_self] at hq
      obtain rfl : r = q := by simpa using hq
      exact hr
theorem openB {H : Type} {enc : TypeId × Value → H} {W : World} {a : Option Addr} {n c : Nat} {d : DataW H} {p : List MemPlace} (h : DataW.Trod enc Tryd.prog W 0 (fun _ => true) true 33 (.slice a n c) d p) :
    ∃ l : List Bool, l.length = n ∧ ReadsB W a l ∧ n ≤ 9223372036854775807 ∧ n ≤ c := by
  obtain ⟨fuel, hf⟩ := h
  have hC : Tryd.prog.cellsOf 4 = 1 := by kernel_rfl
  rcases open_slice Tryd.underlying33 hf with ⟨hcs, _⟩ | ⟨x, len, cap, m, k, D, Pl, hcs, hb, hl, hm, hmm, _, hi⟩
  · simp [Value.cells] at hcs
    obtain ⟨rfl, rfl, rfl⟩ := hcs
    exact ⟨[], rfl, fun h => absurd h (by simp), by omega, Nat.le_refl _⟩
  · simp [Value.cells] at hcs
    obtain ⟨rfl, rfl, rfl⟩ := hcs
    have hmn : m = c := by rw [hmm]; rfl
    obtain ⟨l, hln, hlp⟩ := pickB (fun i (r : Bool) => W.cell? (x.add i) = some (.bool r)) n (fun i hin => by
      obtain ⟨cs', hc, ht⟩ := hi i (by omega)
      rw [hC] at hc
      obtain ⟨b, e, _⟩ := DataW.trod_bool Tryd.underlying4 ht
      subst e
      obtain ⟨_, hcl, hat⟩ := World.cells?_some hc
      have := hat 0 (by omega)
      rw [Go.Deep.add_add, Nat.mul_one, Nat.add_zero] at this
      exact ⟨b, this⟩)
    have hml : maxLen ≤ 9223372036854775807 := by decide
    refine ⟨l, hln, fun h0 => ?_, by omega, hl⟩
    obtain ⟨r0, hr0⟩ : ∃ r0, l[0]? = some r0 := ⟨_, List.getElem?_eq_getElem h0⟩
    have h1 := hlp 0 r0 hr0
    rw [show x.add 0 = x from by simp [Addr.add]] at h1
    obtain ⟨b, o, rfl⟩ := cell_plain h1
    refine ⟨b, o, rfl, World.block_lt_of_cell? _ _ h1, fun j r hj => ?_⟩
    have hadd : ∀ i, (⟨b, o, none⟩ : Addr).add i = ⟨b, o + i, none⟩ := fun i => by unfold Addr.add; split <;> simp_all
    have := hlp j r hj
    simp only [hadd] at this
    exact this
end Go.Proofs.YtmpckoincdkeeaaDoor

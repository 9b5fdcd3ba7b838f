/- at: the node at a place. -/
import Derived.Test.YtemcffihfeaniaaPut
import Derived.Deep.LoopGhost
namespace Go.Proofs.Ytemcffihfeaniaa
open Go.RowKit Go.Deep Go.Own
set_option linter.unusedVariables false
set_option maxRecDepth 100000 in
set_option maxHeartbeats 8000000 in
theorem at_calls (t : Tr) (i : Int) (w : World) (hi : t.In w) (ht : t.Told) (h0 : 0 ≤ i) (h1 : i < t.cnt) (hc : t.cnt ≤ 1000000) :
    Calls Try.prog 53 #[t.ptr, .int .i64 i] w fun e w' => e = .returned (.pointer (some ⟨(Tr.nodeAt i t).1, 0, none⟩)) ∧ w = w' := by
  obtain ⟨pt, hpt⟩ := Tr.ptr_is t
  have HP := Lib.hid hpt
  have HI := Lib.hid hi
  have HT := Lib.hid ht
  rw [hpt]
  clear hpt hi ht
  go_enter Try.func53, Try.ntmps53
  go_wp2_with (fail)
  go_loopg [0, 1] t.items.length (fun k p j wr => ∃ (s : Tr) (jj : Int), s.items.length ≤ k ∧ p = s.ptr ∧ j = .int .i64 jj ∧ s.In w ∧ s.Told ∧ 0 ≤ jj ∧ jj < s.cnt ∧ s.cnt ≤ 1000000 ∧ Tr.nodeAt jj s = Tr.nodeAt i t ∧ w = wr)
  case atStart => exact ⟨t, i, Nat.le_refl _, by rw [HP.out], rfl, HI.out, HT.out, h0, h1, hc, rfl, rfl⟩
  case round =>
    obtain ⟨s, jj, r1, rfl, rfl, r2, r3, r4, r5, r6, r7, rfl⟩ := hrel
    cases s with
    | nil => simp only [Tr.cnt_nil] at r5; omega
    | node b k z h c s l r =>
      simp only [Tr.cnt_node] at r5 r6
      obtain ⟨c0, c1, _, _, _, _, _, c7⟩ := r2.cells
      obtain ⟨pl, hpl⟩ := Tr.ptr_is l
      obtain ⟨pr, hpr⟩ := Tr.ptr_is r
      have HM := Lib.hid (show Calls Try.prog 52 #[.pointer pl] w fun e w' => e = .returned (.int .i64 l.cnt) ∧ w = w' from hpl ▸ many_calls l w r2.2.1)
      have q1 := r3.1.cnt_nonneg
      have q2 := r3.2.1.cnt_nonneg
      have q3 := r3.2.2.2.1
      rw [hpl] at c0
      rw [hpr] at c1
      have HPL := Lib.hid hpl
      have HPR := Lib.hid hpr
      have R2 := Lib.hid r2
      have R3 := Lib.hid r3
      have R7 := Lib.hid r7
      have R1 := Lib.hid r1
      clear hpl hpr r2 r3 r7 r1
      rw [show (Tr.node b k z h c s l r).ptr = .pointer (some ⟨b, 0, none⟩) from rfl]
      by_cases hlt : jj < l.cnt
      · have g1 : decide (jj < l.cnt) = true := by simpa using hlt
        go_wp2_with (fail)
        refine HM.out.mono ?_
        rintro e w0 ⟨rfl, rfl⟩
        go_wp2_with (fail)
        go_roundg l.items.length
        case measure => have := R1.out; simp only [Tr.items, List.length_append, List.length_cons] at this; omega
        case rel => exact ⟨l, jj, Nat.le_refl _, by rw [HPL.out], rfl, R2.out.2.1, R3.out.1, r4, hlt, by omega, by rw [← R7.out]; simp only [Tr.nodeAt]; rw [if_pos hlt], rfl⟩
      · by_cases hgt : l.cnt < jj
        · have g1 : decide (jj < l.cnt) = false := by simpa using hlt
          have g2 : decide (l.cnt < jj) = true := by simpa using hgt
          go_wp2_with (fail)
          refine HM.out.mono ?_
          rintro e w0 ⟨rfl, rfl⟩
          go_wp2_with (fail)
          go_roundg r.items.length
          case measure => have := R1.out; simp only [Tr.items, List.length_append, List.length_cons] at this; omega
          case rel => exact ⟨r, jj - l.cnt - 1, Nat.le_refl _, by rw [HPR.out], rfl, R2.out.2.2, R3.out.2.1, by omega, by omega, by omega, by rw [← R7.out]; simp only [Tr.nodeAt]; rw [if_neg (by omega), if_pos hgt], rfl⟩
        · have g1 : decide (jj < l.cnt) = false := by simpa using hlt
          have g2 : decide (l.cnt < jj) = false := by simpa using hgt
          go_wp2_with (fail)
          refine HM.out.mono ?_
          rintro e w0 ⟨rfl, rfl⟩
          go_wp2_with (fail)
          go_ret
          exact ⟨by rw [← R7.out]; simp only [Tr.nodeAt]; rw [if_neg (by omega), if_neg (by omega)]; rfl, rfl⟩
end Go.Proofs.Ytemcffihfeaniaa

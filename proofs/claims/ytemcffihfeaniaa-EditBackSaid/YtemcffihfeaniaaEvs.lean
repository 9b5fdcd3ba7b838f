/- even, whatever way. -/
import Derived.Test.YtemcffihfeaniaaEv3
namespace Go.Own
open Go Go.RowKit Go.Deep
set_option linter.unusedVariables false
theorem Tr.fit_of {t : Tr} (h : Told t) (hs : Sized t) (hc : t.cnt ≤ 1000000) : Fit t := by
  have h1 := Good.hi_le h
  have h2 := Good.sum_le h hs
  have h3 := h.cnt_nonneg
  have h4 := h.hi_nonneg
  refine ⟨h4, ?_, h3, ?_, h2.1, ?_⟩ <;> omega
theorem Tr.told_mk {b : Nat} {k z : Int} {l r : Tr} (hl : Told l) (hr : Told r) : Told (mk b k z l r) := ⟨hl, hr, rfl, rfl, rfl⟩
theorem Tr.sized_mk {b : Nat} {k z : Int} {l r : Tr} (hl : Sized l) (hr : Sized r) (h0 : 0 ≤ z ∧ z ≤ 1099511627776) : Sized (mk b k z l r) := ⟨hl, hr, h0.1, h0.2⟩
end Go.Own
namespace Go.Proofs.Ytemcffihfeaniaa
open Go.RowKit Go.Deep Go.Own
set_option linter.unusedVariables false
theorem even_calls (b : Nat) (k z h c s : Int) (l r : Tr) (w : World) (hi : (Tr.node b k z h c s l r).In w) (hnd : (Tr.node b k z h c s l r).blocks.Nodup) (tl : l.Told) (tr : r.Told) (sl : l.Sized) (sr : r.Sized) (hc : l.cnt + r.cnt ≤ 200000) (hz : 0 ≤ z ∧ z ≤ 1099511627776) :
    Calls Try.prog 72 #[.pointer (some ⟨b, 0, none⟩)] w fun e w' => e = .returned (Tr.rot b k z l r).ptr ∧ (Tr.rot b k z l r).In w' ∧ Fr (fun x => x ∈ (Tr.rot b k z l r).blocks) w w' := by
  have nl := tl.cnt_nonneg
  have nr := tr.cnt_nonneg
  have fl := Tr.fit_of tl sl (by omega)
  have fr := Tr.fit_of tr sr (by omega)
  unfold Tr.rot
  split
  · rename_i h1
    cases l with
    | nil => have := tr.hi_nonneg; simp only [Tr.hi_nil] at h1; omega
    | node b2 k2 z2 h2 c2 s2 x y =>
      obtain ⟨tx, ty, e1, e2, e3⟩ := tl
      obtain ⟨sx, sy, q1, q2⟩ := sl
      have nx := tx.cnt_nonneg
      have ny := ty.cnt_nonneg
      simp only [Tr.cnt_node, Tr.hi_node] at *
      have fx := Tr.fit_of tx sx (by omega)
      have fy := Tr.fit_of ty sy (by omega)
      split
      · rename_i h3
        cases y with
        | nil => have := tx.hi_nonneg; simp only [Tr.hi_nil] at h3; omega
        | node b3 k3 z3 h3' c3 s3 p q =>
          obtain ⟨tp, tq, e4, e5, e6⟩ := ty
          obtain ⟨sp, sq, q3, q4⟩ := sy
          have np := tp.cnt_nonneg
          have nq := tq.cnt_nonneg
          simp only [Tr.cnt_node, Tr.hi_node] at *
          have fp := Tr.fit_of tp sp (by omega)
          have fq := Tr.fit_of tq sq (by omega)
          refine (even2_calls b k z h c s b2 k2 z2 h2 c2 s2 b3 k3 z3 h3' c3 s3 x p q r w hi hnd fl fx fy fp fq fr
            (Tr.fit_of (Tr.told_mk tx tp) (Tr.sized_mk sx sp ⟨q1, q2⟩) (by simp only [Tr.mk, Tr.cnt_node]; omega)) (Tr.fit_of (Tr.told_mk tq tr) (Tr.sized_mk sq sr hz) (by simp only [Tr.mk, Tr.cnt_node]; omega)) hz ⟨q1, q2⟩ ⟨q3, q4⟩ h1 h3).mono ?_
          rintro e w' ⟨g1, g2, g3⟩
          exact ⟨g1, g2, g3.mono fun j hj => by simp only [Tr.mk, Tr.blocks, List.mem_cons, List.mem_append]; rcases hj with rfl | rfl | rfl <;> simp⟩
      · rename_i h3
        refine (even1_calls b k z h c s b2 k2 z2 h2 c2 s2 x y r w hi hnd fl fx fy fr (Tr.fit_of (Tr.told_mk ty tr) (Tr.sized_mk sy sr hz) (by simp only [Tr.mk, Tr.cnt_node]; omega)) hz ⟨q1, q2⟩ h1 (by omega)).mono ?_
        rintro e w' ⟨g1, g2, g3⟩
        exact ⟨g1, g2, g3.mono fun j hj => by simp only [Tr.mk, Tr.blocks, List.mem_cons, List.mem_append]; rcases hj with rfl | rfl <;> simp⟩
  · rename_i h0
    split
    · rename_i h1
      cases r with
      | nil => have := tl.hi_nonneg; simp only [Tr.hi_nil] at h1; omega
      | node b2 k2 z2 h2 c2 s2 x y =>
        obtain ⟨tx, ty, e1, e2, e3⟩ := tr
        obtain ⟨sx, sy, q1, q2⟩ := sr
        have nx := tx.cnt_nonneg
        have ny := ty.cnt_nonneg
        simp only [Tr.cnt_node, Tr.hi_node] at *
        have fx := Tr.fit_of tx sx (by omega)
        have fy := Tr.fit_of ty sy (by omega)
        split
        · rename_i h3
          cases x with
          | nil => have := ty.hi_nonneg; simp only [Tr.hi_nil] at h3; omega
          | node b3 k3 z3 h3' c3 s3 p q =>
            obtain ⟨tp, tq, e4, e5, e6⟩ := tx
            obtain ⟨sp, sq, q3, q4⟩ := sx
            have np := tp.cnt_nonneg
            have nq := tq.cnt_nonneg
            simp only [Tr.cnt_node, Tr.hi_node] at *
            have fp := Tr.fit_of tp sp (by omega)
            have fq := Tr.fit_of tq sq (by omega)
            refine (even4_calls b k z h c s b2 k2 z2 h2 c2 s2 b3 k3 z3 h3' c3 s3 y p q l w hi hnd fr fy fx fp fq fl
              (Tr.fit_of (Tr.told_mk tq ty) (Tr.sized_mk sq sy ⟨q1, q2⟩) (by simp only [Tr.mk, Tr.cnt_node]; omega)) (Tr.fit_of (Tr.told_mk tl tp) (Tr.sized_mk sl sp hz) (by simp only [Tr.mk, Tr.cnt_node]; omega)) hz ⟨q1, q2⟩ ⟨q3, q4⟩ h1 h3).mono ?_
            rintro e w' ⟨g1, g2, g3⟩
            exact ⟨g1, g2, g3.mono fun j hj => by simp only [Tr.mk, Tr.blocks, List.mem_cons, List.mem_append]; rcases hj with rfl | rfl | rfl <;> simp⟩
        · rename_i h3
          refine (even3_calls b k z h c s b2 k2 z2 h2 c2 s2 x y l w hi hnd fr fx fy fl (Tr.fit_of (Tr.told_mk tl tx) (Tr.sized_mk sl sx hz) (by simp only [Tr.mk, Tr.cnt_node]; omega)) hz ⟨q1, q2⟩ h1 (by omega)).mono ?_
          rintro e w' ⟨g1, g2, g3⟩
          exact ⟨g1, g2, g3.mono fun j hj => by simp only [Tr.mk, Tr.blocks, List.mem_cons, List.mem_append]; rcases hj with rfl | rfl <;> simp⟩
    · rename_i h1
      refine (even0_calls b k z h c s l r w hi ⟨fun e => by simp [Tr.blocks, e] at hnd, fun e => by simp [Tr.blocks, e] at hnd⟩ fl fr hz (by omega) (by omega)).mono ?_
      rintro e w' ⟨g1, g2, g3⟩
      exact ⟨g1, g2, g3.mono fun j hj => by simp only [Tr.mk, Tr.blocks, List.mem_cons, List.mem_append]; exact .inl hj⟩
end Go.Proofs.Ytemcffihfeaniaa

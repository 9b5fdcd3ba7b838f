/- the tree as a list: Before. -/
import Derived.Test.YtemcffihfeaniaaAvm
namespace Go.Own
open Go Go.RowKit Go.Deep
set_option linter.unusedVariables false
theorem preL_left (l m : List (Int × Int)) (i : Nat) (h : i ≤ l.length) : preL (l ++ m) i = preL l i := by
  simp only [preL]; rw [List.take_append_of_le_length h]
theorem preL_right (l m : List (Int × Int)) (x : Int × Int) (i : Nat) (h : l.length < i) : preL (l ++ x :: m) i = sumL l + x.2 + preL m (i - l.length - 1) := by
  obtain ⟨j, rfl⟩ : ∃ j, i = l.length + (j + 1) := ⟨i - l.length - 1, by omega⟩
  simp only [preL]
  rw [List.take_length_add_append, sumL_append, List.take_succ_cons, sumL_cons, show l.length + (j + 1) - l.length - 1 = j by omega]; omega
theorem preL_zero (l : List (Int × Int)) : preL l 0 = 0 := by simp [preL, sumL]
theorem preL_nil (i : Nat) : preL [] i = 0 := by simp [preL, sumL]
theorem preL_le : ∀ (l : List (Int × Int)) (i : Nat), (∀ x ∈ l, 0 ≤ x.2) → 0 ≤ preL l i ∧ preL l i ≤ sumL l := by
  intro l i hs
  have h1 := sumL_nonneg (l.take i) (fun x hx => hs x (List.mem_of_mem_take hx))
  have h2 := sumL_nonneg (l.drop i) (fun x hx => hs x (List.mem_of_mem_drop hx))
  have h3 : sumL l = sumL (l.take i) + sumL (l.drop i) := by rw [← sumL_append, List.take_append_drop]
  simp only [preL]; omega
end Go.Own
namespace Go.Proofs.Ytemcffihfeaniaa
open Go.RowKit Go.Deep Go.Own
set_option linter.unusedVariables false
attribute [local go_sem] Own.own_max2 Own.own_max_two Own.own_min2 Own.own_min_two
set_option maxRecDepth 100000 in
set_option maxHeartbeats 8000000 in
theorem before_at (F : Nat → Prop) (b : Nat) (l : List (Int × Int)) (i : Nat) (w : World) (h : HasTree w F b l) (hi : i ≤ l.length) :
    Calls Try.prog 27 #[.pointer (some ⟨b, 0, none⟩), .int .i64 (i : Nat)] w fun e w' => e = .returned (.int .i64 (preL l i)) ∧ ∃ n, w' = w.drewN n := by
  have CL0 := Lib.hid (len_at F b l w h)
  have HS := Lib.hid h.sized
  have gm : imax 0 (imin (i : Int) (l.length : Int)) = (i : Int) := by rw [imax_eq, imin_eq]; omega
  have hle := h.le
  obtain ⟨t, h, rfl⟩ := h
  have hcnt := h.cnt
  have hlen := h.len
  obtain ⟨pt, hpt⟩ := Tr.ptr_is t
  have HPT := Lib.hid hpt
  have c0 : w.cell? ⟨b, 0, none⟩ = some (.pointer pt) := by rw [← hpt]; simp [World.cell?, h.cell]
  have HA := Lib.hid h
  have tot := Tr.Good.sum_le h.good.told h.good.sized
  have HSU := Lib.hid (show t.sum = sumL t.items from Tr.sum_items h.good.told)
  clear h hpt hlen
  go_enter Try.func27, Try.ntmps27
  go_wp2_with (fail)
  refine CL0.out.mono ?_
  rintro e w0 ⟨rfl, rfl⟩
  go_wp2_with (fail)
  go_loopg [1, 5, 6] t.items.length (fun k i' s' n' wr => ∃ (s : Tr) (j : Nat) (a : Int), s.items.length ≤ k ∧ i' = .int .i64 (j : Nat) ∧ s' = .int .i64 a ∧ n' = s.ptr ∧ s.In w ∧ s.Good ∧ j ≤ s.items.length ∧ 0 ≤ a ∧ a + s.sum ≤ t.sum ∧ s.cnt ≤ 65536 ∧ preL t.items i = a + preL s.items j ∧ ∃ n, wr = w.drewN n)
  case atStart => exact ⟨t, i, 0, Nat.le_refl _, rfl, rfl, by rw [HPT.out], HA.out.ti, HA.out.good, hi, by omega, by omega, hcnt, by simp, 0, rfl⟩
  case round =>
    obtain ⟨s, j, a, r1, rfl, rfl, rfl, r2, r3, r4, r5, r6, r7, r8, n, rfl⟩ := hrel
    by_cases hj : j = 0
    · subst hj
      obtain ⟨ps, hps⟩ := Tr.ptr_is s
      rw [hps]
      have E := Lib.hid (show preL t.items i = a by rw [r8, preL_zero]; simp)
      cases ps with
      | none =>
        clear r1 r2 r3 r8 hps
        go_wp2_with (fail)
        go_ret
        exact ⟨ret_int E.out.symm, _, rfl⟩
      | some ps =>
        clear r1 r2 r3 r8 hps
        go_wp2_with (fail)
        go_ret
        exact ⟨ret_int E.out.symm, _, rfl⟩
    · cases s with
      | nil => simp only [Tr.items, List.length_nil] at r4; omega
      | node bb k z hh c ss l r =>
        have R1 := Lib.hid r1
        have R2 := Lib.hid r2
        have R3 := Lib.hid r3
        have R8 := Lib.hid r8
        obtain ⟨c0, c1, c2, c3, _, _, _, c7⟩ := r2.cells
        obtain ⟨pl, hpl⟩ := Tr.ptr_is l
        obtain ⟨pr, hpr⟩ := Tr.ptr_is r
        have HM := Lib.hid (show ∀ n, Calls Try.prog 52 #[.pointer pl] (w.drewN n) fun e w' => e = .returned (.int .i64 l.cnt) ∧ w' = w.drewN n from fun n => hpl ▸ (many_calls l _ (r2.2.1.drewN n)).mono fun e w' h => ⟨h.1, h.2.symm⟩)
        have HU := Lib.hid (show ∀ n, Calls Try.prog 51 #[.pointer pl] (w.drewN n) fun e w' => e = .returned (.int .i64 l.sum) ∧ w' = w.drewN n from fun n => hpl ▸ (all_calls l _ (r2.2.1.drewN n)).mono fun e w' h => ⟨h.1, h.2.symm⟩)
        rw [hpl] at c0
        rw [hpr] at c1
        have HPL := Lib.hid hpl
        have HPR := Lib.hid hpr
        have sl := Tr.Good.sum_le r3.left.told r3.left.sized
        have sr := Tr.Good.sum_le r3.right.told r3.right.sized
        have q1 := r3.told.1.cnt_nonneg
        have q2 := r3.told.2.1.cnt_nonneg
        have q3 := r3.told.2.2.2.1
        have q4 := r3.told.2.2.2.2
        have q5 := r3.sized.2.2
        have U1 := Lib.hid (show l.sum = sumL l.items from Tr.sum_items r3.told.1)
        have U2 := Lib.hid r3.told.1.cnt_eq
        have U3 := Lib.hid r4
        have r9 : (j : Int) ≤ 65536 := by have := r3.told.cnt_eq; omega
        simp only [Tr.cnt_node, Tr.sum_node] at r6 r7
        have gj : decide (0 < j) = true := by simp; omega
        have gj2 : decide ((0 : Int) < (j : Int)) = true := by simp; omega
        rw [show (Tr.node bb k z hh c ss l r).ptr = .pointer (some ⟨bb, 0, none⟩) from rfl]
        clear r1 r2 r3 r8 hpl hpr r4
        by_cases hlt : (j : Int) ≤ l.cnt
        · have g2 : decide ((j : Int) ≤ l.cnt) = true := by simpa using hlt
          go_wp2_with (fail)
          refine (HM.out _).mono ?_
          rintro e w0 ⟨rfl, rfl⟩
          go_wp2_with (fail)
          go_roundg l.items.length
          case measure => have := R1.out; simp only [Tr.items, List.length_append, List.length_cons] at this; omega
          case rel => exact ⟨l, j, a, Nat.le_refl _, rfl, rfl, by rw [HPL.out], R2.out.2.1, R3.out.left, by have := U2.out; omega, r5, by omega, by omega, by rw [R8.out]; simp only [Tr.items]; rw [preL_left _ _ _ (by have := U2.out; omega)], _, rfl⟩
        · have g2 : decide ((j : Int) ≤ l.cnt) = false := by simpa using hlt
          go_wp2_with (fail)
          refine (HM.out _).mono ?_
          rintro e w0 ⟨rfl, rfl⟩
          go_wp2_with (fail)
          refine Own.region_all (fun w' => ∃ n, w' = World.drewN w n) (by kernel_rfl) (by kernel_rfl) ⟨n + 1, rfl⟩ ?_
          repeat (go_big_quiet_step (with_reducible exact Calls.quiet_of_same (HU.out _)))
          refine wpQuiet_nil ?_
          rintro _ ⟨nq, rfl⟩
          go_wp2_with (fail)
          go_roundg r.items.length
          case measure => have := R1.out; simp only [Tr.items, List.length_append, List.length_cons] at this; omega
          case rel =>
            have u2 := U2.out
            have u3 := U3.out
            simp only [Tr.items, List.length_append, List.length_cons] at u3
            refine ⟨r, j - l.items.length - 1, a + (l.sum + z), Nat.le_refl _, ?_, rfl, by rw [HPR.out], R2.out.2.2, R3.out.right, by omega, by omega, by omega, by omega, ?_, _, rfl⟩
            · rw [u2]
              have : ((j - l.items.length - 1 : Nat) : Int) = (j : Int) - (l.items.length : Int) - 1 := by omega
              rw [this]
            · rw [R8.out]; simp only [Tr.items]
              rw [preL_right _ _ _ _ (by omega), ← U1.out]
              show a + (l.sum + z + _) = _
              omega
end Go.Proofs.Ytemcffihfeaniaa

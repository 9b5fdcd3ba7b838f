/- told. -/
import Derived.Test.YtemcffihfeaniaaTree
namespace Go.Own
open Go Go.RowKit Go.Deep
set_option linter.unusedVariables false
theorem Tr.In.drewN {w : World} {t : Tr} (h : t.In w) (n : Nat) : t.In (w.drewN n) := h.keep (fun _ _ => rfl)
theorem Tr.In.setTop {w : World} {b : Nat} {k z h c s : Int} {l r : Tr} (hi : (Tr.node b k z h c s l r).In w) (hb : b ∉ l.blocks ∧ b ∉ r.blocks) (j : Nat) (v : Value) (k' z' h' c' s' : Int)
    (hv : (#[l.ptr, r.ptr, .int .i64 k, .int .i64 z, .int .i64 h, .int .i64 c, .int .i64 s] : Array Value).setIfInBounds j v = #[l.ptr, r.ptr, .int .i64 k', .int .i64 z', .int .i64 h', .int .i64 c', .int .i64 s']) :
    (Tr.node b k' z' h' c' s' l r).In (w.setCell ⟨b, j, none⟩ v) := by
  refine ⟨?_, hi.2.1.keep (fun x hx => setCell_other _ (fun e => hb.1 (by have e' : x = b := e; rw [← e']; exact hx))), hi.2.2.keep (fun x hx => setCell_other _ (fun e => hb.2 (by have e' : x = b := e; rw [← e']; exact hx)))⟩
  rw [setCell_same hi.1 v, hv]
end Go.Own
namespace Go.Proofs.Ytemcffihfeaniaa
open Go.RowKit Go.Deep Go.Own
set_option linter.unusedVariables false
attribute [local go_sem] Own.own_max2 Own.own_max_two
set_option maxRecDepth 100000 in
set_option maxHeartbeats 4000000 in
theorem told_calls (b : Nat) (k z h c s : Int) (l r : Tr) (w : World) (hi : (Tr.node b k z h c s l r).In w) (hb : b ∉ l.blocks ∧ b ∉ r.blocks)
    (hl : 0 ≤ l.hi ∧ l.hi ≤ 1099511627776 ∧ 0 ≤ l.cnt ∧ l.cnt ≤ 1099511627776 ∧ 0 ≤ l.sum ∧ l.sum ≤ 1152921504606846976)
    (hr : 0 ≤ r.hi ∧ r.hi ≤ 1099511627776 ∧ 0 ≤ r.cnt ∧ r.cnt ≤ 1099511627776 ∧ 0 ≤ r.sum ∧ r.sum ≤ 1152921504606846976) (hz : 0 ≤ z ∧ z ≤ 1099511627776) :
    Calls Try.prog 71 #[.pointer (some ⟨b, 0, none⟩)] w fun e w' => e = .returned (.pointer (some ⟨b, 0, none⟩)) ∧
      (Tr.node b k z (1 + max l.hi r.hi) (1 + l.cnt + r.cnt) (z + l.sum + r.sum) l r).In w' ∧ Fr (fun x => x = b) w w' := by
  obtain ⟨c0, c1, c2, c3, c4, c5, c6, c7⟩ := hi.cells
  have HI := Lib.hid hi
  have h1 : ∀ n, Calls Try.prog 54 #[l.ptr] (w.drewN n) fun e w' => e = .returned (.int .i64 l.hi) ∧ w' = w.drewN n := fun n => (high_calls l _ (hi.2.1.drewN n)).mono fun e w' h => ⟨h.1, h.2.symm⟩
  have h2 : ∀ n, Calls Try.prog 54 #[r.ptr] (w.drewN n) fun e w' => e = .returned (.int .i64 r.hi) ∧ w' = w.drewN n := fun n => (high_calls r _ (hi.2.2.drewN n)).mono fun e w' h => ⟨h.1, h.2.symm⟩
  have H1 := Lib.hid h1
  have H2 := Lib.hid h2
  clear h1 h2 hi
  obtain ⟨l1, l2, l3, l4, l5, l6⟩ := hl
  obtain ⟨m1, m2, m3, m4, m5, m6⟩ := hr
  have hm1 : 0 ≤ imax l.hi r.hi := by rw [imax_eq]; omega
  have hm2 : imax l.hi r.hi ≤ 1099511627776 := by rw [imax_eq]; omega
  go_enter Try.func71, Try.ntmps71
  go_wp2
  refine Own.region_tail 17 (fun w' => ∃ n, w' = World.drewN w n) (by kernel_rfl) (by kernel_rfl) ⟨1, rfl⟩ ?_
  simp only [List.take_succ_cons, List.take_zero, List.drop_succ_cons, List.drop_zero]
  repeat (go_big_quiet_step (first | with_reducible exact Calls.quiet_of_same (H1.out _) | with_reducible exact Calls.quiet_of_same (H2.out _)))
  refine wpQuiet_nil ?_
  rintro _ ⟨nq, rfl⟩
  go_wp2
  obtain ⟨w1, hw1⟩ : ∃ w1, w1 = (w.drewN nq).setCell ⟨b, 4, none⟩ (.int .i64 (1 + imax l.hi r.hi)) := ⟨_, rfl⟩
  rw [← hw1]
  have I1 : (Tr.node b k z (1 + imax l.hi r.hi) c s l r).In w1 := by rw [hw1]; exact (HI.out.drewN nq).setTop hb 4 _ k z _ c s rfl
  have f1 : Fr (fun x => x = b) w w1 := by rw [hw1]; exact Fr.setCell (F := fun x => x = b) (w := w) (w' := w.drewN nq) ⟨rfl, rfl, rfl, Nat.le_refl _, fun _ _ _ => rfl⟩ _ _ (.inl rfl)
  have F1 := Lib.hid f1
  clear hw1 c0 c1 c2 c3 c4 c5 c6 c7 H1 H2 f1
  obtain ⟨c0, c1, c2, c3, c4, c5, c6, c7⟩ := I1.cells
  have H1 := Lib.hid (show ∀ n, Calls Try.prog 52 #[l.ptr] (w1.drewN n) fun e w' => e = .returned (.int .i64 l.cnt) ∧ w' = w1.drewN n from fun n => (many_calls l _ (I1.2.1.drewN n)).mono fun e w' h => ⟨h.1, h.2.symm⟩)
  have H2 := Lib.hid (show ∀ n, Calls Try.prog 52 #[r.ptr] (w1.drewN n) fun e w' => e = .returned (.int .i64 r.cnt) ∧ w' = w1.drewN n from fun n => (many_calls r _ (I1.2.2.drewN n)).mono fun e w' h => ⟨h.1, h.2.symm⟩)
  have J1 := Lib.hid I1
  clear I1
  refine Own.region_tail 17 (fun w' => ∃ n, w' = World.drewN w1 n) (by kernel_rfl) (by kernel_rfl) ⟨1, rfl⟩ ?_
  simp only [List.take_succ_cons, List.take_zero, List.drop_succ_cons, List.drop_zero]
  repeat (go_big_quiet_step (first | with_reducible exact Calls.quiet_of_same (H1.out _) | with_reducible exact Calls.quiet_of_same (H2.out _)))
  refine wpQuiet_nil ?_
  rintro _ ⟨nq2, rfl⟩
  go_wp2
  obtain ⟨w2, hw2⟩ : ∃ w2, w2 = (w1.drewN nq2).setCell ⟨b, 5, none⟩ (.int .i64 (1 + l.cnt + r.cnt)) := ⟨_, rfl⟩
  rw [← hw2]
  have I2 : (Tr.node b k z (1 + imax l.hi r.hi) (1 + l.cnt + r.cnt) s l r).In w2 := by rw [hw2]; exact (J1.out.drewN nq2).setTop hb 5 _ k z _ _ s rfl
  have f2 : Fr (fun x => x = b) w w2 := by rw [hw2]; exact Fr.setCell (F := fun x => x = b) (w := w) (w' := w1.drewN nq2) ⟨F1.out.os, F1.out.tape, F1.out.output, F1.out.size, F1.out.block⟩ _ _ (.inl rfl)
  have F2 := Lib.hid f2
  clear hw2 c0 c1 c2 c3 c4 c5 c6 c7 H1 H2 f2
  obtain ⟨c0, c1, c2, c3, c4, c5, c6, c7⟩ := I2.cells
  have H1 := Lib.hid (show ∀ n, Calls Try.prog 51 #[l.ptr] (w2.drewN n) fun e w' => e = .returned (.int .i64 l.sum) ∧ w' = w2.drewN n from fun n => (all_calls l _ (I2.2.1.drewN n)).mono fun e w' h => ⟨h.1, h.2.symm⟩)
  have H2 := Lib.hid (show ∀ n, Calls Try.prog 51 #[r.ptr] (w2.drewN n) fun e w' => e = .returned (.int .i64 r.sum) ∧ w' = w2.drewN n from fun n => (all_calls r _ (I2.2.2.drewN n)).mono fun e w' h => ⟨h.1, h.2.symm⟩)
  have J2 := Lib.hid I2
  clear I2
  refine Own.region_tail 21 (fun w' => ∃ n, w' = World.drewN w2 n) (by kernel_rfl) (by kernel_rfl) ⟨1, rfl⟩ ?_
  simp only [List.take_succ_cons, List.take_zero, List.drop_succ_cons, List.drop_zero]
  repeat (go_big_quiet_step (first | with_reducible exact Calls.quiet_of_same (H1.out _) | with_reducible exact Calls.quiet_of_same (H2.out _)))
  refine wpQuiet_nil ?_
  rintro _ ⟨nq3, rfl⟩
  go_wp2
  go_ret
  refine ⟨rfl, ?_, ?_⟩
  · rw [← imax_eq]
    exact (J2.out.drewN nq3).setTop hb 6 _ k z _ _ _ rfl
  · exact Fr.setCell (F := fun x => x = b) (w := w) (w' := w2.drewN nq3) ⟨F2.out.os, F2.out.tape, F2.out.output, F2.out.size, F2.out.block⟩ _ _ (.inl rfl)
end Go.Proofs.Ytemcffihfeaniaa

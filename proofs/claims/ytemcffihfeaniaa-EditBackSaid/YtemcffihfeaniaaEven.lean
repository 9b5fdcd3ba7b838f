/- even. -/
import Derived.Test.YtemcffihfeaniaaBal
namespace Go.Proofs.Ytemcffihfeaniaa
open Go.RowKit Go.Deep Go.Own
set_option linter.unusedVariables false
set_option maxRecDepth 100000 in
set_option maxHeartbeats 4000000 in
theorem even0_calls (b : Nat) (k z h c s : Int) (l r : Tr) (w : World) (hi : (Tr.node b k z h c s l r).In w) (hb : b ∉ l.blocks ∧ b ∉ r.blocks) (hl : l.Fit) (hr : r.Fit) (hz : 0 ≤ z ∧ z ≤ 1099511627776) (h1 : l.hi ≤ r.hi + 1) (h2 : r.hi ≤ l.hi + 1) :
    Calls Try.prog 72 #[.pointer (some ⟨b, 0, none⟩)] w fun e w' => e = .returned (.pointer (some ⟨b, 0, none⟩)) ∧ (Tr.mk b k z l r).In w' ∧ Fr (fun x => x = b) w w' := by
  have CT := Lib.hid (told_mk b k z h c s l r w hi hb hl hr hz)
  have g1 : decide (l.hi ≤ r.hi + 1) = true := by simpa using h1
  have g2 : decide (r.hi ≤ l.hi + 1) = true := by simpa using h2
  obtain ⟨l1, l2, _⟩ := hl
  obtain ⟨m1, m2, _⟩ := hr
  clear hi
  go_enter Try.func72, Try.ntmps72
  go_wp2_with (fail)
  refine CT.out.mono ?_
  rintro e w1 ⟨rfl, i1, f1⟩
  have F1 := Lib.hid f1
  have J1 := Lib.hid i1
  obtain ⟨c0, c1, _, _, _, _, _, c7⟩ := Tr.In.cells (show (Tr.node b k z _ _ _ l r).In w1 from i1)
  obtain ⟨pl, hpl⟩ : ∃ p, l.ptr = .pointer p := by cases l <;> exact ⟨_, rfl⟩
  obtain ⟨pr, hpr⟩ : ∃ p, r.ptr = .pointer p := by cases r <;> exact ⟨_, rfl⟩
  have H1 := Lib.hid (show ∀ n, Calls Try.prog 54 #[.pointer pl] (w1.drewN n) fun e w' => e = .returned (.int .i64 l.hi) ∧ w' = w1.drewN n from fun n => hpl ▸ (high_calls l _ (i1.2.1.drewN n)).mono fun e w' h => ⟨h.1, h.2.symm⟩)
  have H2 := Lib.hid (show ∀ n, Calls Try.prog 54 #[.pointer pr] (w1.drewN n) fun e w' => e = .returned (.int .i64 r.hi) ∧ w' = w1.drewN n from fun n => hpr ▸ (high_calls r _ (i1.2.2.drewN n)).mono fun e w' h => ⟨h.1, h.2.symm⟩)
  rw [hpl] at c0
  rw [hpr] at c1
  clear i1 f1 CT hpl hpr
  go_wp2_with (fail)
  refine wp_loop_rounds 3 ?_
  rw [rounds_succ]
  go_wp2_with (fail)
  refine Own.region_all (fun w' => ∃ n, w' = World.drewN w1 n) (by kernel_rfl) (by kernel_rfl) ⟨1, rfl⟩ ?_
  repeat (go_big_quiet_step (first | with_reducible exact Calls.quiet_of_same (H1.out _) | with_reducible exact Calls.quiet_of_same (H2.out _)))
  refine wpQuiet_nil ?_
  rintro _ ⟨nq, rfl⟩
  go_wp2_with (fail)
  rw [rounds_succ]
  go_wp2_with (fail)
  refine Own.region_all (fun w' => ∃ n, w' = World.drewN w1 n) (by kernel_rfl) (by kernel_rfl) ⟨nq + 1, rfl⟩ ?_
  repeat (go_big_quiet_step (first | with_reducible exact Calls.quiet_of_same (H1.out _) | with_reducible exact Calls.quiet_of_same (H2.out _)))
  refine wpQuiet_nil ?_
  rintro _ ⟨nq2, rfl⟩
  go_wp2_with (fail)
  rw [rounds_succ]
  go_wp2_with (fail)
  go_ret
  exact ⟨rfl, J1.out.drewN _, F1.out.step rfl rfl rfl (Nat.le_refl _) (fun _ _ _ => rfl)⟩
set_option maxRecDepth 100000 in
set_option maxHeartbeats 4000000 in
theorem even1_calls (b : Nat) (k z h c s : Int) (b2 : Nat) (k2 z2 h2 c2 s2 : Int) (x y r : Tr) (w : World) (hi : (Tr.node b k z h c s (Tr.node b2 k2 z2 h2 c2 s2 x y) r).In w) (hnd : (Tr.node b k z h c s (Tr.node b2 k2 z2 h2 c2 s2 x y) r).blocks.Nodup)
    (hl : (Tr.node b2 k2 z2 h2 c2 s2 x y).Fit) (hx : x.Fit) (hy : y.Fit) (hr : r.Fit) (hn : (Tr.mk b k z y r).Fit) (hz : 0 ≤ z ∧ z ≤ 1099511627776) (hz2 : 0 ≤ z2 ∧ z2 ≤ 1099511627776) (h1 : r.hi + 1 < h2) (h3 : y.hi ≤ x.hi) :
    Calls Try.prog 72 #[.pointer (some ⟨b, 0, none⟩)] w fun e w' => e = .returned (.pointer (some ⟨b2, 0, none⟩)) ∧ (Tr.mk b2 k2 z2 x (Tr.mk b k z y r)).In w' ∧ Fr (fun x => x = b ∨ x = b2) w w' := by
  have hb : b ∉ (Tr.node b2 k2 z2 h2 c2 s2 x y).blocks ∧ b ∉ r.blocks := ⟨fun e => by simp [Tr.blocks] at hnd e; rcases e with e | e | e <;> simp [e] at hnd, fun e => by simp [Tr.blocks, e] at hnd⟩
  have CT := Lib.hid (told_mk b k z h c s (Tr.node b2 k2 z2 h2 c2 s2 x y) r w hi hb hl hr hz)
  have CL := Lib.hid (fun w1 n (i : (Tr.mk b k z (Tr.node b2 k2 z2 h2 c2 s2 x y) r).In w1) => lift0_calls b k z _ _ _ b2 k2 z2 h2 c2 s2 x y r (w1.drewN n) (i.drewN n) hnd hx hy hr hn hz hz2)
  have g1 : decide (h2 ≤ r.hi + 1) = false := by simpa using h1
  have g2 : decide (x.hi < y.hi) = false := by simpa using h3
  obtain ⟨l1, l2, _⟩ := hl
  obtain ⟨m1, m2, _⟩ := hr
  obtain ⟨n1, n2, _⟩ := hx
  obtain ⟨o1, o2, _⟩ := hy
  simp only [Tr.hi_node] at l1 l2
  clear hi hnd hn
  go_enter Try.func72, Try.ntmps72
  go_wp2_with (fail)
  refine CT.out.mono ?_
  rintro e w1 ⟨rfl, i1, f1⟩
  have F1 := Lib.hid f1
  have J1 := Lib.hid i1
  obtain ⟨c0, c1, _, _, _, _, _, c7⟩ := Tr.In.cells (show (Tr.node b k z _ _ _ (Tr.node b2 k2 z2 h2 c2 s2 x y) r).In w1 from i1)
  obtain ⟨d0, d1, _, _, _, _, _, d7⟩ := Tr.In.cells i1.2.1
  obtain ⟨pr, hpr⟩ : ∃ p, r.ptr = .pointer p := by cases r <;> exact ⟨_, rfl⟩
  obtain ⟨px, hpx⟩ : ∃ p, x.ptr = .pointer p := by cases x <;> exact ⟨_, rfl⟩
  obtain ⟨py, hpy⟩ : ∃ p, y.ptr = .pointer p := by cases y <;> exact ⟨_, rfl⟩
  have H1 := Lib.hid (show ∀ n, Calls Try.prog 54 #[.pointer (some ⟨b2, 0, none⟩)] (w1.drewN n) fun e w' => e = .returned (.int .i64 h2) ∧ w' = w1.drewN n from fun n => (high_calls (Tr.node b2 k2 z2 h2 c2 s2 x y) _ (i1.2.1.drewN n)).mono fun e w' h => ⟨h.1, h.2.symm⟩)
  have H2 := Lib.hid (show ∀ n, Calls Try.prog 54 #[.pointer pr] (w1.drewN n) fun e w' => e = .returned (.int .i64 r.hi) ∧ w' = w1.drewN n from fun n => hpr ▸ (high_calls r _ (i1.2.2.drewN n)).mono fun e w' h => ⟨h.1, h.2.symm⟩)
  have H3 := Lib.hid (show ∀ n, Calls Try.prog 54 #[.pointer px] (w1.drewN n) fun e w' => e = .returned (.int .i64 x.hi) ∧ w' = w1.drewN n from fun n => hpx ▸ (high_calls x _ (i1.2.1.2.1.drewN n)).mono fun e w' h => ⟨h.1, h.2.symm⟩)
  have H4 := Lib.hid (show ∀ n, Calls Try.prog 54 #[.pointer py] (w1.drewN n) fun e w' => e = .returned (.int .i64 y.hi) ∧ w' = w1.drewN n from fun n => hpy ▸ (high_calls y _ (i1.2.1.2.2.drewN n)).mono fun e w' h => ⟨h.1, h.2.symm⟩)
  rw [hpr] at c1
  rw [hpx] at d0
  rw [hpy] at d1
  simp only [Tr.ptr] at c0
  clear i1 f1 CT hpr hpx hpy
  go_wp2_with (fail)
  refine wp_loop_rounds 3 ?_
  rw [rounds_succ]
  go_wp2_with (fail)
  refine Own.region_all (fun w' => ∃ n, w' = World.drewN w1 n) (by kernel_rfl) (by kernel_rfl) ⟨1, rfl⟩ ?_
  repeat (go_big_quiet_step (first | with_reducible exact Calls.quiet_of_same (H1.out _) | with_reducible exact Calls.quiet_of_same (H2.out _)))
  refine wpQuiet_nil ?_
  rintro _ ⟨nq, rfl⟩
  go_wp2_with (fail)
  refine Own.region_all (fun w' => ∃ n, w' = World.drewN w1 n) (by kernel_rfl) (by kernel_rfl) ⟨nq + 1, rfl⟩ ?_
  repeat (go_big_quiet_step (first | with_reducible exact Calls.quiet_of_same (H3.out _) | with_reducible exact Calls.quiet_of_same (H4.out _)))
  refine wpQuiet_nil ?_
  rintro _ ⟨nq2, rfl⟩
  go_wp2_with (fail)
  refine (CL.out w1 _ J1.out).mono ?_
  rintro e w2 ⟨rfl, i2, f2⟩
  have I2 := Lib.hid i2
  have F2 := Lib.hid f2
  clear i2 f2
  go_wp2_with (fail)
  go_ret
  refine ⟨rfl, I2.out, ?_⟩
  have f1 : Fr (fun x => x = b ∨ x = b2) w (w1.drewN nq2) := (F1.out.mono fun _ h => .inl h).step rfl rfl rfl (Nat.le_refl _) (fun _ _ _ => rfl)
  exact f1.trans (F2.out.mono fun _ h => .inl h)
end Go.Proofs.Ytemcffihfeaniaa

/- even, the other way. -/
import Derived.Test.YtemcffihfeaniaaEv2
namespace Go.Proofs.Ytemcffihfeaniaa
open Go.RowKit Go.Deep Go.Own
set_option linter.unusedVariables false
set_option maxRecDepth 100000 in
set_option maxHeartbeats 4000000 in
theorem even3_calls (b : Nat) (k z h c s : Int) (b2 : Nat) (k2 z2 h2 c2 s2 : Int) (x y r : Tr) (w : World) (hi : (Tr.node b k z h c s r (Tr.node b2 k2 z2 h2 c2 s2 x y)).In w) (hnd : (Tr.node b k z h c s r (Tr.node b2 k2 z2 h2 c2 s2 x y)).blocks.Nodup)
    (hl : (Tr.node b2 k2 z2 h2 c2 s2 x y).Fit) (hx : x.Fit) (hy : y.Fit) (hr : r.Fit) (hn : (Tr.mk b k z r x).Fit) (hz : 0 ≤ z ∧ z ≤ 1099511627776) (hz2 : 0 ≤ z2 ∧ z2 ≤ 1099511627776) (h1 : r.hi + 1 < h2) (h3 : x.hi ≤ y.hi) :
    Calls Try.prog 72 #[.pointer (some ⟨b, 0, none⟩)] w fun e w' => e = .returned (.pointer (some ⟨b2, 0, none⟩)) ∧ (Tr.mk b2 k2 z2 (Tr.mk b k z r x) y).In w' ∧ Fr (fun x => x = b ∨ x = b2) w w' := by
  have hb : b ∉ r.blocks ∧ b ∉ (Tr.node b2 k2 z2 h2 c2 s2 x y).blocks := ⟨fun e => by simp [Tr.blocks, e] at hnd, fun e => by simp [Tr.blocks] at hnd e; rcases e with e | e | e <;> simp [e] at hnd⟩
  have CT := Lib.hid (told_mk b k z h c s r (Tr.node b2 k2 z2 h2 c2 s2 x y) w hi hb hr hl hz)
  have CL := Lib.hid (fun w1 n (i : (Tr.mk b k z r (Tr.node b2 k2 z2 h2 c2 s2 x y)).In w1) => lift1_calls b k z _ _ _ b2 k2 z2 h2 c2 s2 x y r (w1.drewN n) (i.drewN n) hnd hx hy hr hn hz hz2)
  have g1 : decide (h2 ≤ r.hi + 1) = false := by simpa using h1
  have g2 : decide (y.hi < x.hi) = false := by simpa using h3
  have g3 : decide (r.hi ≤ h2 + 1) = true := by simp; omega
  obtain ⟨l1, l2, _⟩ := hl
  obtain ⟨m1, m2, _⟩ := hr
  obtain ⟨n1, n2, _⟩ := hx
  obtain ⟨o1, o2, _⟩ := hy
  simp only [Tr.hi_node] at l1 l2
  clear hi hnd hn
  go_enter Try.func72, Try.ntmps72
  go_wp2_with (fail)
  refine CT.out.mono ?_
  rintro e w1 ⟨rfl, i1, f1⟩
  have F1 := Lib.hid f1
  have J1 := Lib.hid i1
  obtain ⟨c0, c1, _, _, _, _, _, c7⟩ := Tr.In.cells (show (Tr.node b k z _ _ _ r (Tr.node b2 k2 z2 h2 c2 s2 x y)).In w1 from i1)
  obtain ⟨d0, d1, _, _, _, _, _, d7⟩ := Tr.In.cells i1.2.2
  obtain ⟨pr, hpr⟩ : ∃ p, r.ptr = .pointer p := by cases r <;> exact ⟨_, rfl⟩
  obtain ⟨px, hpx⟩ : ∃ p, x.ptr = .pointer p := by cases x <;> exact ⟨_, rfl⟩
  obtain ⟨py, hpy⟩ : ∃ p, y.ptr = .pointer p := by cases y <;> exact ⟨_, rfl⟩
  have H1 := Lib.hid (show ∀ n, Calls Try.prog 54 #[.pointer (some ⟨b2, 0, none⟩)] (w1.drewN n) fun e w' => e = .returned (.int .i64 h2) ∧ w' = w1.drewN n from fun n => (high_calls (Tr.node b2 k2 z2 h2 c2 s2 x y) _ (i1.2.2.drewN n)).mono fun e w' h => ⟨h.1, h.2.symm⟩)
  have H2 := Lib.hid (show ∀ n, Calls Try.prog 54 #[.pointer pr] (w1.drewN n) fun e w' => e = .returned (.int .i64 r.hi) ∧ w' = w1.drewN n from fun n => hpr ▸ (high_calls r _ (i1.2.1.drewN n)).mono fun e w' h => ⟨h.1, h.2.symm⟩)
  have H3 := Lib.hid (show ∀ n, Calls Try.prog 54 #[.pointer px] (w1.drewN n) fun e w' => e = .returned (.int .i64 x.hi) ∧ w' = w1.drewN n from fun n => hpx ▸ (high_calls x _ (i1.2.2.2.1.drewN n)).mono fun e w' h => ⟨h.1, h.2.symm⟩)
  have H4 := Lib.hid (show ∀ n, Calls Try.prog 54 #[.pointer py] (w1.drewN n) fun e w' => e = .returned (.int .i64 y.hi) ∧ w' = w1.drewN n from fun n => hpy ▸ (high_calls y _ (i1.2.2.2.2.drewN n)).mono fun e w' h => ⟨h.1, h.2.symm⟩)
  rw [hpr] at c0
  rw [hpx] at d0
  rw [hpy] at d1
  simp only [Tr.ptr] at c1
  clear i1 f1 CT hpr hpx hpy
  go_wp2_with (fail)
  refine wp_loop_rounds 3 ?_
  rw [rounds_succ]
  go_wp2_with (fail)
  refine Own.region_all (fun w' => ∃ n, w' = World.drewN w1 n) (by kernel_rfl) (by kernel_rfl) ⟨1, rfl⟩ ?_
  repeat (go_big_quiet_step (first | with_reducible exact Calls.quiet_of_same (H1.out _) | with_reducible exact Calls.quiet_of_same (H2.out _)))
  refine wpQuiet_nil ?_
  rintro _ ⟨nq, rfl⟩
  go_wp2_with (fail)
  rw [rounds_succ]
  go_wp2_with (fail)
  refine Own.region_all (fun w' => ∃ n, w' = World.drewN w1 n) (by kernel_rfl) (by kernel_rfl) ⟨nq + 1, rfl⟩ ?_
  repeat (go_big_quiet_step (first | with_reducible exact Calls.quiet_of_same (H1.out _) | with_reducible exact Calls.quiet_of_same (H2.out _)))
  refine wpQuiet_nil ?_
  rintro _ ⟨nq1, rfl⟩
  go_wp2_with (fail)
  refine Own.region_all (fun w' => ∃ n, w' = World.drewN w1 n) (by kernel_rfl) (by kernel_rfl) ⟨nq1 + 1, rfl⟩ ?_
  repeat (go_big_quiet_step (first | with_reducible exact Calls.quiet_of_same (H3.out _) | with_reducible exact Calls.quiet_of_same (H4.out _)))
  refine wpQuiet_nil ?_
  rintro _ ⟨nq2, rfl⟩
  go_wp2_with (fail)
  refine (CL.out w1 _ J1.out).mono ?_
  rintro e w2 ⟨rfl, i2, f2⟩
  have I2 := Lib.hid i2
  have F2 := Lib.hid f2
  clear i2 f2
  go_wp2_with (fail)
  go_ret
  refine ⟨rfl, I2.out, ?_⟩
  have f1 : Fr (fun x => x = b ∨ x = b2) w (w1.drewN nq2) := (F1.out.mono fun _ h => .inl h).step rfl rfl rfl (Nat.le_refl _) (fun _ _ _ => rfl)
  exact f1.trans (F2.out.mono fun _ h => .inl h)
set_option maxRecDepth 100000 in
set_option maxHeartbeats 4000000 in
theorem even4_calls (b : Nat) (k z h c s : Int) (b2 : Nat) (k2 z2 h2 c2 s2 : Int) (b3 : Nat) (k3 z3 h3 c3 s3 : Int) (x p q r : Tr) (w : World) (hi : (Tr.node b k z h c s r (Tr.node b2 k2 z2 h2 c2 s2 (Tr.node b3 k3 z3 h3 c3 s3 p q) x)).In w) (hnd : (Tr.node b k z h c s r (Tr.node b2 k2 z2 h2 c2 s2 (Tr.node b3 k3 z3 h3 c3 s3 p q) x)).blocks.Nodup)
    (hl : (Tr.node b2 k2 z2 h2 c2 s2 (Tr.node b3 k3 z3 h3 c3 s3 p q) x).Fit) (hx : x.Fit) (hy : (Tr.node b3 k3 z3 h3 c3 s3 p q).Fit) (hp : p.Fit) (hq : q.Fit) (hr : r.Fit) (hn : (Tr.mk b2 k2 z2 q x).Fit) (hn2 : (Tr.mk b k z r p).Fit) (hz : 0 ≤ z ∧ z ≤ 1099511627776) (hz2 : 0 ≤ z2 ∧ z2 ≤ 1099511627776) (hz3 : 0 ≤ z3 ∧ z3 ≤ 1099511627776) (h1 : r.hi + 1 < h2) (h4 : x.hi < h3) :
    Calls Try.prog 72 #[.pointer (some ⟨b, 0, none⟩)] w fun e w' => e = .returned (.pointer (some ⟨b3, 0, none⟩)) ∧ (Tr.mk b3 k3 z3 (Tr.mk b k z r p) (Tr.mk b2 k2 z2 q x)).In w' ∧ Fr (fun x => x = b ∨ x = b2 ∨ x = b3) w w' := by
  have hnd' := hnd
  simp only [Tr.blocks, List.nodup_cons, List.nodup_append, List.mem_cons, List.mem_append, not_or] at hnd'
  have hb : b ∉ r.blocks ∧ b ∉ (Tr.node b2 k2 z2 h2 c2 s2 (Tr.node b3 k3 z3 h3 c3 s3 p q) x).blocks := by
    simp only [Tr.blocks, List.mem_cons, List.mem_append, not_or]; exact hnd'.1
  have hnd2 : (Tr.node b2 k2 z2 h2 c2 s2 (Tr.node b3 k3 z3 h3 c3 s3 p q) x).blocks.Nodup := (List.nodup_append.1 (List.nodup_cons.1 hnd).2).2.1
  have bne2 : b ≠ b2 := fun e => hb.2 (by rw [e]; simp [Tr.blocks])
  have bne3 : b ≠ b3 := fun e => hb.2 (by rw [e]; simp [Tr.blocks])
  have hnr2 : b2 ∉ r.blocks := fun e => (List.nodup_append.1 (List.nodup_cons.1 hnd).2).2.2 b2 e b2 (by simp [Tr.blocks]) rfl
  have hnr3 : b3 ∉ r.blocks := fun e => (List.nodup_append.1 (List.nodup_cons.1 hnd).2).2.2 b3 e b3 (by simp [Tr.blocks]) rfl
  have hnd3 : ∀ h c s, (Tr.node b k z h c s r (Tr.mk b3 k3 z3 p (Tr.mk b2 k2 z2 q x))).blocks.Nodup := fun h c s => by
    refine List.Perm.nodup_iff (l₁ := (Tr.node b k z h c s r (Tr.node b2 k2 z2 h2 c2 s2 (Tr.node b3 k3 z3 h3 c3 s3 p q) x)).blocks) ?_ |>.1 hnd
    simp only [Tr.mk, Tr.blocks]
    rw [List.perm_iff_count]; intro a; simp only [List.count_cons, List.count_append]; omega
  have CT := Lib.hid (told_mk b k z h c s r (Tr.node b2 k2 z2 h2 c2 s2 (Tr.node b3 k3 z3 h3 c3 s3 p q) x) w hi hb hr hl hz)
  have C1 := Lib.hid (fun w1 (i : (Tr.node b2 k2 z2 h2 c2 s2 (Tr.node b3 k3 z3 h3 c3 s3 p q) x).In w1) => lift0_calls b2 k2 z2 h2 c2 s2 b3 k3 z3 h3 c3 s3 p q x w1 i hnd2 hp hq hx hn hz2 hz3)
  have CL := Lib.hid (fun w1 h c s (i : (Tr.node b k z h c s r (Tr.mk b3 k3 z3 p (Tr.mk b2 k2 z2 q x))).In w1) => lift1_calls b k z h c s b3 k3 z3 _ _ _ p (Tr.mk b2 k2 z2 q x) r w1 i (hnd3 _ _ _) hp hn hr hn2 hz hz3)
  have g1 : decide (h2 ≤ r.hi + 1) = false := by simpa using h1
  have g2 : decide (x.hi < h3) = true := by simpa using h4
  have g3 : decide (r.hi ≤ h2 + 1) = true := by simp; omega
  obtain ⟨l1, l2, _⟩ := hl
  obtain ⟨m1, m2, _⟩ := hr
  obtain ⟨n1, n2, _⟩ := hx
  obtain ⟨o1, o2, _⟩ := hy
  simp only [Tr.hi_node] at l1 l2 o1 o2
  clear hi hnd hn hn2 hnd' hnd2 hnd3 hp hq
  go_enter Try.func72, Try.ntmps72
  go_wp2_with (fail)
  refine CT.out.mono ?_
  rintro e w1 ⟨rfl, i1, f1⟩
  have F1 := Lib.hid f1
  have J1 := Lib.hid i1
  obtain ⟨c0, c1, _, _, _, _, _, c7⟩ := Tr.In.cells (show (Tr.node b k z _ _ _ r (Tr.node b2 k2 z2 h2 c2 s2 (Tr.node b3 k3 z3 h3 c3 s3 p q) x)).In w1 from i1)
  obtain ⟨d0, d1, _, _, _, _, _, d7⟩ := Tr.In.cells i1.2.2
  obtain ⟨pr, hpr⟩ : ∃ p, r.ptr = .pointer p := by cases r <;> exact ⟨_, rfl⟩
  obtain ⟨px, hpx⟩ : ∃ p, x.ptr = .pointer p := by cases x <;> exact ⟨_, rfl⟩
  have H1 := Lib.hid (show ∀ n, Calls Try.prog 54 #[.pointer (some ⟨b2, 0, none⟩)] (w1.drewN n) fun e w' => e = .returned (.int .i64 h2) ∧ w' = w1.drewN n from fun n => (high_calls (Tr.node b2 k2 z2 h2 c2 s2 (Tr.node b3 k3 z3 h3 c3 s3 p q) x) _ (i1.2.2.drewN n)).mono fun e w' h => ⟨h.1, h.2.symm⟩)
  have H2 := Lib.hid (show ∀ n, Calls Try.prog 54 #[.pointer pr] (w1.drewN n) fun e w' => e = .returned (.int .i64 r.hi) ∧ w' = w1.drewN n from fun n => hpr ▸ (high_calls r _ (i1.2.1.drewN n)).mono fun e w' h => ⟨h.1, h.2.symm⟩)
  have H3 := Lib.hid (show ∀ n, Calls Try.prog 54 #[.pointer px] (w1.drewN n) fun e w' => e = .returned (.int .i64 x.hi) ∧ w' = w1.drewN n from fun n => hpx ▸ (high_calls x _ (i1.2.2.2.2.drewN n)).mono fun e w' h => ⟨h.1, h.2.symm⟩)
  have H4 := Lib.hid (show ∀ n, Calls Try.prog 54 #[.pointer (some ⟨b3, 0, none⟩)] (w1.drewN n) fun e w' => e = .returned (.int .i64 h3) ∧ w' = w1.drewN n from fun n => (high_calls (Tr.node b3 k3 z3 h3 c3 s3 p q) _ (i1.2.2.2.1.drewN n)).mono fun e w' h => ⟨h.1, h.2.symm⟩)
  rw [hpr] at c0
  rw [hpx] at d1
  simp only [Tr.ptr] at c1 d0
  clear i1 f1 CT hpr hpx
  go_wp2_with (fail)
  refine wp_loop_rounds 3 ?_
  rw [rounds_succ]
  go_wp2_with (fail)
  refine Own.region_all (fun w' => ∃ n, w' = World.drewN w1 n) (by kernel_rfl) (by kernel_rfl) ⟨1, rfl⟩ ?_
  repeat (go_big_quiet_step (first | with_reducible exact Calls.quiet_of_same (H1.out _) | with_reducible exact Calls.quiet_of_same (H2.out _)))
  refine wpQuiet_nil ?_
  rintro _ ⟨nq, rfl⟩
  go_wp2_with (fail)
  rw [rounds_succ]
  go_wp2_with (fail)
  refine Own.region_all (fun w' => ∃ n, w' = World.drewN w1 n) (by kernel_rfl) (by kernel_rfl) ⟨nq + 1, rfl⟩ ?_
  repeat (go_big_quiet_step (first | with_reducible exact Calls.quiet_of_same (H1.out _) | with_reducible exact Calls.quiet_of_same (H2.out _)))
  refine wpQuiet_nil ?_
  rintro _ ⟨nq1, rfl⟩
  go_wp2_with (fail)
  refine Own.region_all (fun w' => ∃ n, w' = World.drewN w1 n) (by kernel_rfl) (by kernel_rfl) ⟨nq1 + 1, rfl⟩ ?_
  repeat (go_big_quiet_step (first | with_reducible exact Calls.quiet_of_same (H3.out _) | with_reducible exact Calls.quiet_of_same (H4.out _)))
  refine wpQuiet_nil ?_
  rintro _ ⟨nq2, rfl⟩
  go_wp2_with (fail)
  clear H1 H2 H3 H4
  refine Own.region_mix (CR [] []) [] [0, 0, 0, 0, 8, 28, 1, 65, 255, 511] (Own.Ord.run [(0, true), (1, true), (2, true), (3, true), (4, true), (6, true), (7, true), (5, false), (8, true), (9, false)] .done) (by kernel_rfl) (by kernel_rfl) (fun dst v c a w h => by cases dst <;> exact h) (fun x hx w => CR.off x hx w) ?_
  simp only [Own.Ord.run]
  repeat (refine Own.st_blind _ rfl rfl (CR.off _ (by decide) _) ?_; go_big_quiet_step (fail); refine wpQuiet_nil ?_)
  refine Own.st_load _ rfl rfl (.pointer (some ⟨b, 0, none⟩)) (fun w' _ => by go_simp) (CR.off _ (by decide) _) ?_
  simp only [Act.put, List.setIfInBounds_toArray, List.set_cons_succ, List.set_cons_zero]
  repeat (refine Own.st_blind _ rfl rfl (CR.off _ (by decide) _) ?_; go_big_quiet_step (fail); refine wpQuiet_nil ?_)
  refine Own.st_do _ rfl rfl (fun K hK => ?_)
  go_simp
  refine (C1.out (w1.drewN (nq2 + 1)) (Tr.In.drewN J1.out.2.2 _)).mono ?_
  rintro e w2 ⟨rfl, i2, f2⟩
  refine hK _ _ (fun q hq hd => by cases hq) ?_
  clear hK K C1
  repeat (refine Own.st_blind _ rfl rfl (CR.off _ (by decide) _) ?_; go_big_quiet_step (fail); refine wpQuiet_nil ?_)
  obtain ⟨hh, cc, ss, hbl⟩ : ∃ hh cc ss : Int, w2.heap[b]? = some (.cells #[r.ptr, .pointer (some ⟨b2, 0, none⟩), .int .i64 k, .int .i64 z, .int .i64 hh, .int .i64 cc, .int .i64 ss] 89 (0, 0)) := ⟨_, _, _, (f2.block b (Array.getElem?_eq_some_iff.1 J1.out.1).1 (fun e => by rcases e with e | e; exact bne2 e; exact bne3 e)).trans J1.out.1⟩
  have hir : r.In w2 := J1.out.2.1.keep fun q hq => f2.block q (J1.out.2.1.lt q hq) (fun e => by rcases e with e | e; exact hnr2 (e ▸ hq); exact hnr3 (e ▸ hq))
  have e0 : w2.cell? ⟨b, 1, none⟩ = some (.pointer (some ⟨b2, 0, none⟩)) := by simp [World.cell?, hbl]
  have e1 : w2.frozen? ⟨b, 1, none⟩ = false := by simp [World.frozen?, hbl]
  have HB := Lib.hid hbl
  have I2 := Lib.hid i2
  have F2 := Lib.hid f2
  clear i2 f2 hbl c0 c1 c7 d0 d1 d7
  refine Own.st_do _ rfl rfl (fun K hK => ?_)
  go_simp
  refine hK _ _ (fun q hq hd => by cases hq) ?_
  clear hK K
  refine Own.mix_done ?_
  clear e0 e1
  generalize hw3 : w2.setCell ⟨b, 1, none⟩ (Value.pointer (some ⟨b3, 0, none⟩)) = w3
  have n1 : b ∉ (Tr.mk b3 k3 z3 p (Tr.mk b2 k2 z2 q x)).blocks := fun e => hb.2 (by
    simp only [Tr.mk, Tr.blocks, List.mem_cons, List.mem_append] at e ⊢
    rcases e with e | e | e | e | e <;> simp [e])
  have i3 : (Tr.node b k z hh cc ss r (Tr.mk b3 k3 z3 p (Tr.mk b2 k2 z2 q x))).In w3 := by
    refine ⟨?_, hir.keep fun j hj => ?_, I2.out.keep fun j hj => ?_⟩
    · rw [← hw3, setCell_same HB.out]; rfl
    rotate_left
    · rw [← hw3]; exact setCell_other _ (fun e => n1 (by have e' : j = b := e; rw [← e']; exact hj))
    · rw [← hw3]; exact setCell_other _ (fun e => hb.1 (by have e' : j = b := e; rw [← e']; exact hj))
  have f3 : Fr (fun x => x = b ∨ x = b2 ∨ x = b3) w w3 := by
    rw [← hw3]
    have f1 : Fr (fun x => x = b ∨ x = b2 ∨ x = b3) w (w1.drewN nq2) := (F1.out.mono fun _ h => .inl h).step rfl rfl rfl (Nat.le_refl _) (fun _ _ _ => rfl)
    have f2 : Fr (fun x => x = b ∨ x = b2 ∨ x = b3) w w2 := f1.step F2.out.os F2.out.tape F2.out.output F2.out.size fun j hj hn => F2.out.block j hj fun e => hn (.inl (.inr e))
    exact f2.setCell _ _ (.inl (.inl rfl))
  have F3 := Lib.hid f3
  have I3 := Lib.hid i3
  clear f3 i3 hir hw3
  go_wp2_with (fail)
  refine (CL.out _ _ _ _ I3.out).mono ?_
  rintro e w4 ⟨rfl, i4, f4⟩
  have I4 := Lib.hid i4
  have F4 := Lib.hid f4
  clear i4 f4
  go_wp2_with (fail)
  go_ret
  exact ⟨rfl, I4.out, F3.out.trans (F4.out.mono fun j h => .inl (by rcases h with h | h; exact .inl h; exact .inr (.inr h)))⟩
end Go.Proofs.Ytemcffihfeaniaa

/- Package shift: Anchor, Clip, Place; the example. -/
import Derived.Test.YtmhghmdadkghlaaSh
namespace Go.Proofs.Ytmhghmdadkghlaa
open Go.RowKit Go.Deep Go.Own
set_option linter.unusedVariables false
theorem UU_is (a d i f t k : Int) (g : Bool) : UU a d i f t k g = .tuple #[.agg #[.int .i64 (if g = true then 0 else PP a d i f), .int .i64 (if g = true then 0 else PP a d i t), .int .i64 (if g = true then 0 else k)], .bool (!g)] := by cases g <;> rfl
structure SE (w : World) (M : Nat) (f t k : Int) : Prop where
  c1 : w.heap[M]? = some (.cells #[.int .i64 f, .int .i64 t, .int .i64 k] 24 (0, 0))
  c2 : w.heap[M + 1]? = some (.cells #[.int .i64 0, .int .i64 0, .int .i64 0] 24 (0, 0))
theorem SE.below {w w' : World} {M : Nat} {f t k : Int} (h : SE w M f t k) (hb : Below w.heap.size w w') : SE w' M f t k :=
  ⟨(hb.block _ (Array.getElem?_eq_some_iff.1 h.c1).1).trans h.c1, (hb.block _ (Array.getElem?_eq_some_iff.1 h.c2).1).trans h.c2⟩
theorem se_new (w : World) (f t k : Int) : SE ((w.alloc (.cells #[Value.int .i64 f, .int .i64 t, .int .i64 k] 24)).alloc (.cells #[Value.int .i64 0, .int .i64 0, .int .i64 0] 24)) w.heap.size f t k :=
  ⟨(blk_alloc_lt _ _ _ (by simp)).trans (blk_alloc_new _ _), by have := blk_alloc_new (w.alloc (.cells #[Value.int .i64 f, .int .i64 t, .int .i64 k] 24)) (.cells #[Value.int .i64 0, .int .i64 0, .int .i64 0] 24); simpa using this⟩
set_option maxRecDepth 100000 in
set_option maxHeartbeats 4000000 in
theorem anchor_c (a d i f t k : Int) (ha : Sm a) (hd : Sm d) (hi : Sm i) (hf : Sm f) (ht : Sm t) (w : World) : Calls Try.prog 5 #[.agg #[.int .i64 f, .int .i64 t, .int .i64 k], .int .i64 a, .int .i64 d, .int .i64 i] w fun e w' => e = .returned (UU a d i f t k (TT a d f t)) ∧ Below w.heap.size w w' := by
  have C1 := Lib.hid (of_calls a d i ha hd hi)
  obtain ⟨g, hg⟩ : ∃ g, g = TT a d f t := ⟨_, rfl⟩
  have cu := unless_touched a d i f t k ha hd hi hf ht
  rw [← hg] at cu
  rw [← hg]
  simp only [UU_is] at cu ⊢
  obtain ⟨x, hx⟩ : ∃ x, x = (if g = true then 0 else PP a d i f) := ⟨_, rfl⟩
  obtain ⟨y, hy⟩ : ∃ y, y = (if g = true then 0 else PP a d i t) := ⟨_, rfl⟩
  obtain ⟨z, hz⟩ : ∃ z, z = (if g = true then 0 else k) := ⟨_, rfl⟩
  obtain ⟨b, hb⟩ : ∃ b, b = !g := ⟨_, rfl⟩
  rw [← hx, ← hy, ← hz, ← hb] at cu ⊢
  have C2 := Lib.hid cu
  clear hx hy hz hb hg cu
  obtain ⟨w2, hw2⟩ : ∃ w2, w2 = (w.alloc (.cells #[Value.int .i64 f, .int .i64 t, .int .i64 k] 24)).alloc (.cells #[Value.int .i64 0, .int .i64 0, .int .i64 0] 24) := ⟨_, rfl⟩
  have b2 : Below w.heap.size w w2 := by rw [hw2]; exact ((Below.refl _ _).alloc (Nat.le_refl _) _).alloc (by simp) _
  obtain ⟨M, hM⟩ : ∃ M, M = w.heap.size := ⟨_, rfl⟩
  have s2 : SE w2 M f t k := by rw [hw2, hM]; exact se_new w f t k
  obtain ⟨u0, u1, u2⟩ := cell3_of s2.c1
  have S2 := Lib.hid s2
  have HM := Lib.hid hM
  have HW := Lib.hid hw2
  have B2 := Lib.hid b2
  clear b2 hM hw2 s2
  go_enter Try.func5, Try.ntmps5
  go_upto_region 1 with (fail)
  rw [← HW.out, ← HM.out]
  refine Own.region_mix (CR [4] [(4, ⟨M, 0, none⟩, .int .i64 f), (4, ⟨M, 1, none⟩, .int .i64 t), (4, ⟨M, 2, none⟩, .int .i64 k)]) [4] [0, 0, 0, 7, 0, 31, 63, 63, 255, 511] (Own.Ord.run [(0, true), (1, true), (2, true), (4, true), (3, false), (5, false), (6, true), (7, true), (8, false), (9, true)] .done) (by kernel_rfl) (by kernel_rfl) (fun dst v c a w h => by cases dst <;> exact h) (fun x hx w => CR.off x hx w) ?_
  simp only [Own.Ord.run]
  repeat (refine Own.st_blind _ rfl rfl (CR.off _ (by decide) _) ?_; go_big_quiet_step (fail); refine wpQuiet_nil ?_)
  refine Own.st_load _ rfl rfl (.agg #[.int .i64 f, .int .i64 t, .int .i64 k]) (fun w' hw' => ?_) ?_ ?_
  · have hg0 := hw'.get (a := ⟨M, 0, none⟩) (v := .int .i64 f) (by decide) (by simp)
    have hg1 := hw'.get (a := ⟨M, 1, none⟩) (v := .int .i64 t) (by decide) (by simp)
    have hg2 := hw'.get (a := ⟨M, 2, none⟩) (v := .int .i64 k) (by decide) (by simp)
    go_simp
  · intro _ q hq e; simp only [List.mem_cons, List.mem_nil_iff, or_false] at hq; rcases hq with rfl | rfl | rfl <;> first | assumption | (simp at e; done) | (go_simp; done) | (simp; done)
  simp only [Act.put, List.setIfInBounds_toArray, List.set_cons_succ, List.set_cons_zero]
  refine Own.st_do _ rfl rfl (fun K hK => ?_)
  go_simp
  refine (C1.out _).mono ?_
  rintro e w3 ⟨rfl, b3⟩
  have B3 := Lib.hid ((Below.trans (b := World.drew w2) ⟨rfl, rfl, rfl, Nat.le_refl _, fun _ _ => rfl⟩ b3 : Below w2.heap.size w2 w3))
  have S3 := Lib.hid (S2.out.below B3.out)
  obtain ⟨x0, x1, x2⟩ := cell3_of S3.out.c1
  clear b3 C1
  refine hK _ _ (fun q hq hd _ => ?_) ?_
  · intro _ q hq e; simp only [List.mem_cons, List.mem_nil_iff, or_false] at hq; rcases hq with rfl | rfl | rfl <;> first | assumption | (simp at e; done) | (go_simp; done) | (simp; done)
  clear hK K
  refine Own.st_do _ rfl rfl (fun K hK => ?_)
  go_simp
  refine (C2.out _).mono ?_
  rintro e w4 ⟨rfl, b4⟩
  have B4 := Lib.hid (B2.out.trans ((B3.out.trans (b4.mono B3.out.size)).mono B2.out.size))
  have S4 := Lib.hid (S3.out.below b4)
  obtain ⟨y0, y1, y2⟩ := cell3_of S4.out.c1
  obtain ⟨p0, p1, p2⟩ := cell3_of S4.out.c2
  have fz : ∀ j, w4.frozen? ⟨M + 1, j, none⟩ = false := fun j => by have := S4.out.c2; simp [World.frozen?, this]
  clear b4 C2
  refine hK _ _ (fun q hq hd => by rw [(by decide : ∀ x ∈ [4], Own.dep [0, 0, 0, 7, 0, 31, 63, 63, 255, 511] 5 x = true) q hq] at hd; cases hd) ?_
  clear hK K
  repeat (refine Own.st_blind _ rfl rfl (CR.off _ (by decide) _) ?_; go_big_quiet_step (fail); refine wpQuiet_nil ?_)
  refine Own.st_do _ rfl rfl (fun K hK => ?_)
  go_simp
  obtain ⟨wf, hwf⟩ : ∃ wf, wf = ((w4.setCell ⟨M + 1, 0, none⟩ (.int .i64 x)).setCell ⟨M + 1, 1, none⟩ (.int .i64 y)).setCell ⟨M + 1, 2, none⟩ (.int .i64 z) := ⟨_, rfl⟩
  rw [← hwf]
  have cf : wf.heap[M + 1]? = some (.cells #[.int .i64 x, .int .i64 y, .int .i64 z] 24 (0, 0)) := by rw [hwf, setCell_same (setCell_same (setCell_same S4.out.c2 _) _)]; rfl
  obtain ⟨f0, f1, f2⟩ := cell3_of cf
  have hM' : w.heap.size ≤ M + 1 := by rw [HM.out]; omega
  have BF : Hid (Below w.heap.size w wf) := Lib.hid (by rw [hwf]; exact ((B4.out.setCell (p := ⟨M + 1, 0, none⟩) hM' _).setCell (p := ⟨M + 1, 1, none⟩) hM' _).setCell (p := ⟨M + 1, 2, none⟩) hM' _)
  clear hwf cf p0 p1 p2 fz hM'
  refine hK _ _ (fun q hq hd => by rw [(by decide : ∀ x ∈ [4], Own.dep [0, 0, 0, 7, 0, 31, 63, 63, 255, 511] 8 x = true) q hq] at hd; cases hd) ?_
  clear hK K
  repeat (refine Own.st_blind _ rfl rfl (CR.off _ (by decide) _) ?_; go_big_quiet_step (fail); refine wpQuiet_nil ?_)
  refine Own.mix_done ?_
  go_wp2_with (fail)
  refine bodyPost_ret (v := .tuple #[.agg #[.int .i64 x, .int .i64 y, .int .i64 z], .bool b]) (by simp [results, Try.results5, go_sem, f0, f1, f2]; done) rfl ?_
  exact ⟨rfl, BF.out⟩
set_option maxRecDepth 100000 in
set_option maxHeartbeats 4000000 in
theorem clip_c (a d i f t k : Int) (ha : Sm a) (hd : Sm d) (hi : Sm i) (hf : Sm f) (ht : Sm t) (w : World) : Calls Try.prog 6 #[.agg #[.int .i64 f, .int .i64 t, .int .i64 k], .int .i64 a, .int .i64 d, .int .i64 i] w fun e w' => e = .returned (UU a d i f t k (EE a d i f t)) ∧ Below w.heap.size w w' := by
  have C1 := Lib.hid (of_calls a d i ha hd hi)
  obtain ⟨g, hg⟩ : ∃ g, g = EE a d i f t := ⟨_, rfl⟩
  have cu := unless_empty a d i f t k ha hd hi hf ht
  rw [← hg] at cu
  rw [← hg]
  simp only [UU_is] at cu ⊢
  obtain ⟨x, hx⟩ : ∃ x, x = (if g = true then 0 else PP a d i f) := ⟨_, rfl⟩
  obtain ⟨y, hy⟩ : ∃ y, y = (if g = true then 0 else PP a d i t) := ⟨_, rfl⟩
  obtain ⟨z, hz⟩ : ∃ z, z = (if g = true then 0 else k) := ⟨_, rfl⟩
  obtain ⟨b, hb⟩ : ∃ b, b = !g := ⟨_, rfl⟩
  rw [← hx, ← hy, ← hz, ← hb] at cu ⊢
  have C2 := Lib.hid cu
  clear hx hy hz hb hg cu
  obtain ⟨w2, hw2⟩ : ∃ w2, w2 = (w.alloc (.cells #[Value.int .i64 f, .int .i64 t, .int .i64 k] 24)).alloc (.cells #[Value.int .i64 0, .int .i64 0, .int .i64 0] 24) := ⟨_, rfl⟩
  have b2 : Below w.heap.size w w2 := by rw [hw2]; exact ((Below.refl _ _).alloc (Nat.le_refl _) _).alloc (by simp) _
  obtain ⟨M, hM⟩ : ∃ M, M = w.heap.size := ⟨_, rfl⟩
  have s2 : SE w2 M f t k := by rw [hw2, hM]; exact se_new w f t k
  obtain ⟨u0, u1, u2⟩ := cell3_of s2.c1
  have S2 := Lib.hid s2
  have HM := Lib.hid hM
  have HW := Lib.hid hw2
  have B2 := Lib.hid b2
  clear b2 hM hw2 s2
  go_enter Try.func6, Try.ntmps6
  go_upto_region 1 with (fail)
  rw [← HW.out, ← HM.out]
  refine Own.region_mix (CR [4] [(4, ⟨M, 0, none⟩, .int .i64 f), (4, ⟨M, 1, none⟩, .int .i64 t), (4, ⟨M, 2, none⟩, .int .i64 k)]) [4] [0, 0, 0, 7, 0, 31, 63, 63, 255, 511] (Own.Ord.run [(0, true), (1, true), (2, true), (4, true), (3, false), (5, false), (6, true), (7, true), (8, false), (9, true)] .done) (by kernel_rfl) (by kernel_rfl) (fun dst v c a w h => by cases dst <;> exact h) (fun x hx w => CR.off x hx w) ?_
  simp only [Own.Ord.run]
  repeat (refine Own.st_blind _ rfl rfl (CR.off _ (by decide) _) ?_; go_big_quiet_step (fail); refine wpQuiet_nil ?_)
  refine Own.st_load _ rfl rfl (.agg #[.int .i64 f, .int .i64 t, .int .i64 k]) (fun w' hw' => ?_) ?_ ?_
  · have hg0 := hw'.get (a := ⟨M, 0, none⟩) (v := .int .i64 f) (by decide) (by simp)
    have hg1 := hw'.get (a := ⟨M, 1, none⟩) (v := .int .i64 t) (by decide) (by simp)
    have hg2 := hw'.get (a := ⟨M, 2, none⟩) (v := .int .i64 k) (by decide) (by simp)
    go_simp
  · intro _ q hq e; simp only [List.mem_cons, List.mem_nil_iff, or_false] at hq; rcases hq with rfl | rfl | rfl <;> first | assumption | (simp at e; done) | (go_simp; done) | (simp; done)
  simp only [Act.put, List.setIfInBounds_toArray, List.set_cons_succ, List.set_cons_zero]
  refine Own.st_do _ rfl rfl (fun K hK => ?_)
  go_simp
  refine (C1.out _).mono ?_
  rintro e w3 ⟨rfl, b3⟩
  have B3 := Lib.hid ((Below.trans (b := World.drew w2) ⟨rfl, rfl, rfl, Nat.le_refl _, fun _ _ => rfl⟩ b3 : Below w2.heap.size w2 w3))
  have S3 := Lib.hid (S2.out.below B3.out)
  obtain ⟨x0, x1, x2⟩ := cell3_of S3.out.c1
  clear b3 C1
  refine hK _ _ (fun q hq hd _ => ?_) ?_
  · intro _ q hq e; simp only [List.mem_cons, List.mem_nil_iff, or_false] at hq; rcases hq with rfl | rfl | rfl <;> first | assumption | (simp at e; done) | (go_simp; done) | (simp; done)
  clear hK K
  refine Own.st_do _ rfl rfl (fun K hK => ?_)
  go_simp
  refine (C2.out _).mono ?_
  rintro e w4 ⟨rfl, b4⟩
  have B4 := Lib.hid (B2.out.trans ((B3.out.trans (b4.mono B3.out.size)).mono B2.out.size))
  have S4 := Lib.hid (S3.out.below b4)
  obtain ⟨y0, y1, y2⟩ := cell3_of S4.out.c1
  obtain ⟨p0, p1, p2⟩ := cell3_of S4.out.c2
  have fz : ∀ j, w4.frozen? ⟨M + 1, j, none⟩ = false := fun j => by have := S4.out.c2; simp [World.frozen?, this]
  clear b4 C2
  refine hK _ _ (fun q hq hd => by rw [(by decide : ∀ x ∈ [4], Own.dep [0, 0, 0, 7, 0, 31, 63, 63, 255, 511] 5 x = true) q hq] at hd; cases hd) ?_
  clear hK K
  repeat (refine Own.st_blind _ rfl rfl (CR.off _ (by decide) _) ?_; go_big_quiet_step (fail); refine wpQuiet_nil ?_)
  refine Own.st_do _ rfl rfl (fun K hK => ?_)
  go_simp
  obtain ⟨wf, hwf⟩ : ∃ wf, wf = ((w4.setCell ⟨M + 1, 0, none⟩ (.int .i64 x)).setCell ⟨M + 1, 1, none⟩ (.int .i64 y)).setCell ⟨M + 1, 2, none⟩ (.int .i64 z) := ⟨_, rfl⟩
  rw [← hwf]
  have cf : wf.heap[M + 1]? = some (.cells #[.int .i64 x, .int .i64 y, .int .i64 z] 24 (0, 0)) := by rw [hwf, setCell_same (setCell_same (setCell_same S4.out.c2 _) _)]; rfl
  obtain ⟨f0, f1, f2⟩ := cell3_of cf
  have hM' : w.heap.size ≤ M + 1 := by rw [HM.out]; omega
  have BF : Hid (Below w.heap.size w wf) := Lib.hid (by rw [hwf]; exact ((B4.out.setCell (p := ⟨M + 1, 0, none⟩) hM' _).setCell (p := ⟨M + 1, 1, none⟩) hM' _).setCell (p := ⟨M + 1, 2, none⟩) hM' _)
  clear hwf cf p0 p1 p2 fz hM'
  refine hK _ _ (fun q hq hd => by rw [(by decide : ∀ x ∈ [4], Own.dep [0, 0, 0, 7, 0, 31, 63, 63, 255, 511] 8 x = true) q hq] at hd; cases hd) ?_
  clear hK K
  repeat (refine Own.st_blind _ rfl rfl (CR.off _ (by decide) _) ?_; go_big_quiet_step (fail); refine wpQuiet_nil ?_)
  refine Own.mix_done ?_
  go_wp2_with (fail)
  refine bodyPost_ret (v := .tuple #[.agg #[.int .i64 x, .int .i64 y, .int .i64 z], .bool b]) (by simp [results, Try.results6, go_sem, f0, f1, f2]; done) rfl ?_
  exact ⟨rfl, BF.out⟩
theorem splace_c (p a d i : Int) (ha : Sm a) (hd : Sm d) (hi : Sm i) (hp : Sm p) (w : World) : Calls Try.prog 12 #[.int .i64 p, .int .i64 a, .int .i64 d, .int .i64 i] w fun e w' => e = .returned (.int .i64 (PP a d i p)) ∧ Below w.heap.size w w' := by
  have C1 := Lib.hid (of_calls a d i ha hd hi)
  have C2 := Lib.hid (place_c a d i p ha hd hi hp)
  go_enter Try.func12, Try.ntmps12
  go_wp2_with (fail)
  refine (C1.out _).mono ?_
  rintro e w1 ⟨rfl, b1⟩
  go_wp2_with (fail)
  refine (C2.out _).mono ?_
  rintro e w2 ⟨rfl, b2⟩
  go_wp2_with (fail)
  go_ret
  exact ⟨rfl, b1.trans (b2.mono b1.size)⟩
set_option maxRecDepth 100000 in
set_option maxHeartbeats 4000000 in
theorem awake_c (w : World) : Calls Try.prog 7 #[] w fun e w' => e = .returned (.bool true) ∧ Below w.heap.size w w' := by
  have s0 : Sm 0 := ⟨by decide, by decide⟩
  have s3 : Sm 3 := ⟨by decide, by decide⟩
  have s5 : Sm 5 := ⟨by decide, by decide⟩
  have s9 : Sm 9 := ⟨by decide, by decide⟩
  have s2 : Sm 2 := ⟨by decide, by decide⟩
  have s7 : Sm 7 := ⟨by decide, by decide⟩
  have C1 := Lib.hid (anchor_c 0 0 3 5 9 1 s0 s0 s3 s5 s9)
  have C2 := Lib.hid (anchor_c 9 0 3 5 9 0 s9 s0 s3 s5 s9)
  have C3 := Lib.hid (splace_c 5 2 2 7 s2 s2 s7 s5)
  rw [show UU 0 0 3 5 9 1 (TT 0 0 5 9) = .tuple #[.agg #[.int .i64 8, .int .i64 12, .int .i64 1], .bool true] from rfl] at C1
  rw [show UU 9 0 3 5 9 0 (TT 9 0 5 9) = .tuple #[.agg #[.int .i64 0, .int .i64 0, .int .i64 0], .bool false] from rfl] at C2
  rw [show PP 2 2 7 5 = 10 from rfl] at C3
  clear s0 s3 s5 s9 s2 s7
  go_enter Try.func7, Try.ntmps7
  go_wp2_with (fail)
  refine (C1.out _).mono ?_
  rintro e w1 ⟨rfl, b1⟩
  obtain ⟨w2, hw2⟩ : ∃ w2, w2 = w1.alloc (.cells #[Value.int .i64 8, .int .i64 12, .int .i64 1] 24) := ⟨_, rfl⟩
  have B2 := Lib.hid (show Below w.heap.size w w2 by rw [hw2]; exact b1.alloc b1.size _)
  obtain ⟨M, hM⟩ : ∃ M, M = w1.heap.size := ⟨_, rfl⟩
  have n2 := Lib.hid (show w2.heap[M]? = some (.cells #[.int .i64 8, .int .i64 12, .int .i64 1] 24 (0, 0)) by rw [hw2, hM]; exact blk_alloc_new _ _)
  have HW2 := Lib.hid hw2
  have HM := Lib.hid hM
  clear C1 b1 hw2 hM
  go_upto_region 2 with (fail)
  rw [← HW2.out, ← HM.out]
  go_wp2_with (fail)
  refine (C2.out _).mono ?_
  rintro e w3 ⟨rfl, b3⟩
  obtain ⟨w4, hw4⟩ : ∃ w4, w4 = w3.alloc (.cells #[Value.int .i64 0, .int .i64 0, .int .i64 0] 24) := ⟨_, rfl⟩
  have b4 : Below w2.heap.size w2 w4 := by rw [hw4]; exact b3.alloc b3.size _
  have N4 := Lib.hid ((b4.block _ (Array.getElem?_eq_some_iff.1 n2.out).1).trans n2.out)
  have B4 := Lib.hid (B2.out.trans (b4.mono B2.out.size))
  have HW4 := Lib.hid hw4
  clear C2 b3 hw4 b4 n2 HM HW2
  go_upto_region 3 with (fail)
  rw [← HW4.out]
  go_wp2_with (fail)
  refine (C3.out _).mono ?_
  rintro e w5 ⟨rfl, b5⟩
  have B5 := Lib.hid (B4.out.trans (b5.mono B4.out.size))
  obtain ⟨c0, c1, c2⟩ := cell3_of ((b5.block _ (Array.getElem?_eq_some_iff.1 N4.out).1).trans N4.out)
  clear C3 b5 HW4
  go_wp2_with (fail)
  go_ret
  exact ⟨rfl, B5.out⟩
end Go.Proofs.Ytmhghmdadkghlaa

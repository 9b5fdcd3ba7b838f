/- Package shift, for numbers from 0 to 1000. -/
import Derived.Test.YtmhghmdadkghlaaPlace
import Derived.StillTailTactics
import Derived.Deep.Cut
import Derived.Handy
namespace Go.Proofs.Ytmhghmdadkghlaa
open Go.RowKit Go.Deep Go.Own
set_option linter.unusedVariables false
theorem belowN (w : World) (n : Nat) : Below w.heap.size w (w.drewN n) := ⟨rfl, rfl, rfl, Nat.le_refl _, fun _ _ => rfl⟩
def Sm (x : Int) : Prop := 0 ≤ x ∧ x ≤ 1000
theorem cut_calls (v : Int) (h : Sm v) (w : World) : Calls Try.prog 13 #[.int .i64 v] w fun e w' => e = .returned (.int .i64 v) ∧ w = w' := by
  obtain ⟨h0, h1⟩ := h
  go_enter Try.func13, Try.ntmps13
  go_wp2
  all_goals (go_ret; refine ⟨?_, rfl⟩; simp only [Array.getD]; refine ret_int ?_; (repeat' split) <;> first | rfl | (show (_ : Int) = _; omega))
theorem of_calls (a d i : Int) (ha : Sm a) (hd : Sm d) (hi : Sm i) (w : World) : Calls Try.prog 8 #[.int .i64 a, .int .i64 d, .int .i64 i] w fun e w' => e = .returned (.agg #[.int .i64 a, .int .i64 d, .int .i64 i]) ∧ Below w.heap.size w w' := by
  have C1 := Lib.hid (cut_calls a ha)
  have C2 := Lib.hid (cut_calls d hd)
  have C3 := Lib.hid (cut_calls i hi)
  go_enter Try.func8, Try.ntmps8
  go_wp2_with (fail)
  refine (C1.out _).mono ?_
  rintro e w1 ⟨rfl, rfl⟩
  go_wp2_with (fail)
  refine (C2.out _).mono ?_
  rintro e w1 ⟨rfl, rfl⟩
  go_wp2_with (fail)
  refine (C3.out _).mono ?_
  rintro e w1 ⟨rfl, rfl⟩
  go_wp2_with (fail)
  go_returns
  exact ⟨rfl, (Below.refl _ _).alloc (Nat.le_refl _) _⟩
def PP (a d i p : Int) : Int := if p ≤ a then p else if p < a + d then a + i else p + i - d
theorem place_c (a d i p : Int) (ha : Sm a) (hd : Sm d) (hi : Sm i) (hp : Sm p) (w : World) : Calls Try.prog 14 #[.agg #[.int .i64 a, .int .i64 d, .int .i64 i], .int .i64 p] w fun e w' => e = .returned (.int .i64 (PP a d i p)) ∧ Below w.heap.size w w' := by
  have C1 := Lib.hid (cut_calls p hp)
  obtain ⟨a0, a1⟩ := ha
  obtain ⟨d0, d1⟩ := hd
  obtain ⟨i0, i1⟩ := hi
  obtain ⟨p0, p1⟩ := hp
  by_cases h1 : p ≤ a
  · have g1 : decide (p ≤ a) = true := by simpa using h1
    have E := Lib.hid (show PP a d i p = p by unfold PP; rw [if_pos h1])
    go_enter Try.func14, Try.ntmps14
    go_wp2_with (fail)
    refine (C1.out _).mono ?_
    rintro e w1 ⟨rfl, rfl⟩
    go_wp2_with (fail)
    go_ret
    exact ⟨ret_int E.out.symm, (Below.refl _ _).alloc (Nat.le_refl _) _⟩
  · have g1 : decide (p ≤ a) = false := by simpa using h1
    by_cases h2 : p < a + d
    · have g2 : decide (p < a + d) = true := by simpa using h2
      have E := Lib.hid (show PP a d i p = a + i by unfold PP; rw [if_neg h1, if_pos h2])
      go_enter Try.func14, Try.ntmps14
      go_wp2_with (fail)
      refine (C1.out _).mono ?_
      rintro e w1 ⟨rfl, rfl⟩
      go_wp2_with (fail)
      go_ret
      exact ⟨ret_int E.out.symm, (Below.refl _ _).alloc (Nat.le_refl _) _⟩
    · have g2 : decide (p < a + d) = false := by simpa using h2
      have E := Lib.hid (show PP a d i p = p + i - d by unfold PP; rw [if_neg h1, if_neg h2])
      go_enter Try.func14, Try.ntmps14
      go_wp2_with (fail)
      refine (C1.out _).mono ?_
      rintro e w1 ⟨rfl, rfl⟩
      go_wp2_with (fail)
      go_ret
      exact ⟨ret_int E.out.symm, (Below.refl _ _).alloc (Nat.le_refl _) _⟩
def TT (a d f t : Int) : Bool := decide (f ≤ a + d) && decide (t ≥ a)
theorem cut_quiet (v : Int) (h : Sm v) (w : World) : Calls Try.prog 13 #[.int .i64 v] w fun e w' => e = .returned (.int .i64 v) ∧ w' = w := (cut_calls v h w).mono (fun e w' h => ⟨h.1, h.2.symm⟩)
theorem touched_c (a d i f t k : Int) (ha : Sm a) (hd : Sm d) (hi : Sm i) (hf : Sm f) (ht : Sm t) (w : World) : Calls Try.prog 10 #[.agg #[.int .i64 a, .int .i64 d, .int .i64 i], .agg #[.int .i64 f, .int .i64 t, .int .i64 k]] w fun e w' => e = .returned (.bool (TT a d f t)) ∧ Below w.heap.size w w' := by
  have C1 := Lib.hid (cut_quiet f hf)
  have C2 := Lib.hid (cut_quiet t ht)
  obtain ⟨a0, a1⟩ := ha
  obtain ⟨d0, d1⟩ := hd
  obtain ⟨w2, hw2⟩ : ∃ w2, w2 = (w.alloc (.cells #[Value.int .i64 a, .int .i64 d, .int .i64 i] 30)).alloc (.cells #[Value.int .i64 f, .int .i64 t, .int .i64 k] 24) := ⟨_, rfl⟩
  have b2 : Below w.heap.size w w2 := by rw [hw2]; exact ((Below.refl _ _).alloc (Nat.le_refl _) _).alloc (by simp) _
  obtain ⟨M, hM⟩ : ∃ M, M = w.heap.size := ⟨_, rfl⟩
  have c1 : w2.heap[M]? = some (.cells #[.int .i64 a, .int .i64 d, .int .i64 i] 30 (0, 0)) := by rw [hw2, hM]; exact (blk_alloc_lt _ _ _ (by simp)).trans (blk_alloc_new _ _)
  have c2 : w2.heap[M + 1]? = some (.cells #[.int .i64 f, .int .i64 t, .int .i64 k] 24 (0, 0)) := by rw [hw2, hM]; have := blk_alloc_new (w.alloc (.cells #[Value.int .i64 a, .int .i64 d, .int .i64 i] 30)) (.cells #[Value.int .i64 f, .int .i64 t, .int .i64 k] 24); simpa using this
  obtain ⟨u0, u1, u2⟩ := cell3_of c1
  obtain ⟨v0, v1, v2⟩ := cell3_of c2
  have HM := Lib.hid hM
  have HW := Lib.hid hw2
  have B2 := Lib.hid b2
  clear b2 c1 c2 hM hw2
  by_cases h1 : f ≤ a + d
  · have g1 : decide (f ≤ a + d) = true := by simpa using h1
    have E := Lib.hid (show TT a d f t = decide (t ≥ a) by unfold TT; rw [g1, Bool.true_and])
    go_enter Try.func10, Try.ntmps10
    go_upto_region 1 with (fail)
    rw [← HW.out, ← HM.out]
    refine Own.region_all (fun w' => ∃ n, w' = World.drewN w2 n) (by kernel_rfl) (by kernel_rfl) ⟨1, rfl⟩ ?_
    repeat (go_big_quiet_step (first | with_reducible exact Calls.quiet_of_same (C1.out _) | with_reducible exact Calls.quiet_of_same (C2.out _)))
    refine wpQuiet_nil ?_
    rintro _ ⟨nq, rfl⟩
    go_wp2_with (fail)
    go_ret
    refine ⟨?_, B2.out.trans ((belowN _ _).mono B2.out.size)⟩
    rw [E.out]; first | rfl | (congr 2)
  · have g1 : decide (f ≤ a + d) = false := by simpa using h1
    have E := Lib.hid (show TT a d f t = false by unfold TT; rw [g1, Bool.false_and])
    go_enter Try.func10, Try.ntmps10
    go_upto_region 1 with (fail)
    rw [← HW.out, ← HM.out]
    refine Own.region_all (fun w' => ∃ n, w' = World.drewN w2 n) (by kernel_rfl) (by kernel_rfl) ⟨1, rfl⟩ ?_
    repeat (go_big_quiet_step (first | with_reducible exact Calls.quiet_of_same (C1.out _) | with_reducible exact Calls.quiet_of_same (C2.out _)))
    refine wpQuiet_nil ?_
    rintro _ ⟨nq, rfl⟩
    go_wp2_with (fail)
    go_ret
    refine ⟨?_, B2.out.trans ((belowN _ _).mono B2.out.size)⟩
    rw [E.out]; rfl
/-- the cells of a change and a span -/
structure SC (w : World) (M : Nat) (a d i f t k : Int) : Prop where
  c1 : w.heap[M]? = some (.cells #[.int .i64 a, .int .i64 d, .int .i64 i] 30 (0, 0))
  c2 : w.heap[M + 1]? = some (.cells #[.int .i64 f, .int .i64 t, .int .i64 k] 24 (0, 0))
theorem SC.below {w w' : World} {M : Nat} {a d i f t k : Int} (h : SC w M a d i f t k) (hb : Below w.heap.size w w') : SC w' M a d i f t k :=
  ⟨(hb.block _ (Array.getElem?_eq_some_iff.1 h.c1).1).trans h.c1, (hb.block _ (Array.getElem?_eq_some_iff.1 h.c2).1).trans h.c2⟩
theorem SC.cells {w : World} {M : Nat} {a d i f t k : Int} (h : SC w M a d i f t k) : w.cell? ⟨M, 0, none⟩ = some (.int .i64 a) ∧ w.cell? ⟨M, 1, none⟩ = some (.int .i64 d) ∧ w.cell? ⟨M, 2, none⟩ = some (.int .i64 i) ∧ w.cell? ⟨M + 1, 0, none⟩ = some (.int .i64 f) ∧ w.cell? ⟨M + 1, 1, none⟩ = some (.int .i64 t) ∧ w.cell? ⟨M + 1, 2, none⟩ = some (.int .i64 k) :=
  ⟨(cell3_of h.c1).1, (cell3_of h.c1).2.1, (cell3_of h.c1).2.2, (cell3_of h.c2).1, (cell3_of h.c2).2.1, (cell3_of h.c2).2.2⟩
theorem sc_new (w : World) (a d i f t k : Int) : SC ((w.alloc (.cells #[Value.int .i64 a, .int .i64 d, .int .i64 i] 30)).alloc (.cells #[Value.int .i64 f, .int .i64 t, .int .i64 k] 24)) w.heap.size a d i f t k :=
  ⟨(blk_alloc_lt _ _ _ (by simp)).trans (blk_alloc_new _ _), by have := blk_alloc_new (w.alloc (.cells #[Value.int .i64 a, .int .i64 d, .int .i64 i] 30)) (.cells #[Value.int .i64 f, .int .i64 t, .int .i64 k] 24); simpa using this⟩
def EE (a d i f t : Int) : Bool := decide (PP a d i f ≥ PP a d i t)
set_option maxRecDepth 100000 in
theorem empty_c (a d i f t k : Int) (ha : Sm a) (hd : Sm d) (hi : Sm i) (hf : Sm f) (ht : Sm t) (w : World) : Calls Try.prog 11 #[.agg #[.int .i64 a, .int .i64 d, .int .i64 i], .agg #[.int .i64 f, .int .i64 t, .int .i64 k]] w fun e w' => e = .returned (.bool (EE a d i f t)) ∧ Below w.heap.size w w' := by
  have C1 := Lib.hid (place_c a d i f ha hd hi hf)
  have C2 := Lib.hid (place_c a d i t ha hd hi ht)
  obtain ⟨w2, hw2⟩ : ∃ w2, w2 = (w.alloc (.cells #[Value.int .i64 a, .int .i64 d, .int .i64 i] 30)).alloc (.cells #[Value.int .i64 f, .int .i64 t, .int .i64 k] 24) := ⟨_, rfl⟩
  have b2 : Below w.heap.size w w2 := by rw [hw2]; exact ((Below.refl _ _).alloc (Nat.le_refl _) _).alloc (by simp) _
  obtain ⟨M, hM⟩ : ∃ M, M = w.heap.size := ⟨_, rfl⟩
  have s2 : SC w2 M a d i f t k := by rw [hw2, hM]; exact sc_new w a d i f t k
  obtain ⟨u0, u1, u2, v0, v1, v2⟩ := s2.cells
  have S2 := Lib.hid s2
  have HM := Lib.hid hM
  have HW := Lib.hid hw2
  have B2 := Lib.hid b2
  clear b2 hM hw2 s2
  go_enter Try.func11, Try.ntmps11
  go_upto_region 1 with (fail)
  rw [← HW.out, ← HM.out]
  refine Own.region_mix (CR [0, 2, 4, 6] [(0, ⟨M, 0, none⟩, .int .i64 a), (0, ⟨M, 1, none⟩, .int .i64 d), (0, ⟨M, 2, none⟩, .int .i64 i), (2, ⟨M + 1, 0, none⟩, .int .i64 f), (4, ⟨M, 0, none⟩, .int .i64 a), (4, ⟨M, 1, none⟩, .int .i64 d), (4, ⟨M, 2, none⟩, .int .i64 i), (6, ⟨M + 1, 1, none⟩, .int .i64 t)]) [0, 2, 4, 6] [0, 0, 2, 7, 0, 0, 32, 127, 255, 511] (Own.Ord.run [(0, true), (1, true), (2, true), (4, true), (5, true), (6, true), (3, false), (7, false), (8, true), (9, true)] .done) (by kernel_rfl) (by kernel_rfl) (fun dst v c a w h => by cases dst <;> exact h) (fun x hx w => CR.off x hx w) ?_
  simp only [Own.Ord.run]
  refine Own.st_load _ rfl rfl (.agg #[.int .i64 a, .int .i64 d, .int .i64 i]) (fun w' hw' => ?_) ?_ ?_
  · have hg0 := hw'.get (a := ⟨M, 0, none⟩) (v := .int .i64 a) (by decide) (by simp)
    have hg1 := hw'.get (a := ⟨M, 1, none⟩) (v := .int .i64 d) (by decide) (by simp)
    have hg2 := hw'.get (a := ⟨M, 2, none⟩) (v := .int .i64 i) (by decide) (by simp)
    go_simp
  · intro _ q hq e; simp only [List.mem_cons, List.mem_nil_iff, or_false] at hq; rcases hq with rfl | rfl | rfl | rfl | rfl | rfl | rfl | rfl <;> first | assumption | (simp at e; done) | (go_simp; done) | (simp; done)
  simp only [Act.put, List.setIfInBounds_toArray, List.set_cons_succ, List.set_cons_zero]
  repeat (refine Own.st_blind _ rfl rfl (CR.off _ (by decide) _) ?_; go_big_quiet_step (fail); refine wpQuiet_nil ?_)
  refine Own.st_load _ rfl rfl (.int .i64 f) (fun w' hw' => ?_) ?_ ?_
  · have hg0 := hw'.get (a := ⟨M + 1, 0, none⟩) (v := .int .i64 f) (by decide) (by simp)
    go_simp
  · intro _ q hq e; simp only [List.mem_cons, List.mem_nil_iff, or_false] at hq; rcases hq with rfl | rfl | rfl | rfl | rfl | rfl | rfl | rfl <;> first | assumption | (simp at e; done) | (go_simp; done) | (simp; done)
  simp only [Act.put, List.setIfInBounds_toArray, List.set_cons_succ, List.set_cons_zero]
  refine Own.st_load _ rfl rfl (.agg #[.int .i64 a, .int .i64 d, .int .i64 i]) (fun w' hw' => ?_) ?_ ?_
  · have hg0 := hw'.get (a := ⟨M, 0, none⟩) (v := .int .i64 a) (by decide) (by simp)
    have hg1 := hw'.get (a := ⟨M, 1, none⟩) (v := .int .i64 d) (by decide) (by simp)
    have hg2 := hw'.get (a := ⟨M, 2, none⟩) (v := .int .i64 i) (by decide) (by simp)
    go_simp
  · intro _ q hq e; simp only [List.mem_cons, List.mem_nil_iff, or_false] at hq; rcases hq with rfl | rfl | rfl | rfl | rfl | rfl | rfl | rfl <;> first | assumption | (simp at e; done) | (go_simp; done) | (simp; done)
  simp only [Act.put, List.setIfInBounds_toArray, List.set_cons_succ, List.set_cons_zero]
  repeat (refine Own.st_blind _ rfl rfl (CR.off _ (by decide) _) ?_; go_big_quiet_step (fail); refine wpQuiet_nil ?_)
  refine Own.st_load _ rfl rfl (.int .i64 t) (fun w' hw' => ?_) ?_ ?_
  · have hg0 := hw'.get (a := ⟨M + 1, 1, none⟩) (v := .int .i64 t) (by decide) (by simp)
    go_simp
  · intro _ q hq e; simp only [List.mem_cons, List.mem_nil_iff, or_false] at hq; rcases hq with rfl | rfl | rfl | rfl | rfl | rfl | rfl | rfl <;> first | assumption | (simp at e; done) | (go_simp; done) | (simp; done)
  simp only [Act.put, List.setIfInBounds_toArray, List.set_cons_succ, List.set_cons_zero]
  refine Own.st_do _ rfl rfl (fun K hK => ?_)
  go_simp
  refine (C1.out _).mono ?_
  rintro e w3 ⟨rfl, b3⟩
  have B3 := Lib.hid ((Below.trans (b := World.drew w2) ⟨rfl, rfl, rfl, Nat.le_refl _, fun _ _ => rfl⟩ b3 : Below w2.heap.size w2 w3))
  obtain ⟨x0, x1, x2, y0, y1, y2⟩ := (S2.out.below B3.out).cells
  clear b3 C1
  refine hK _ _ (fun q hq hd _ => ?_) ?_
  · intro _ q hq e; simp only [List.mem_cons, List.mem_nil_iff, or_false] at hq; rcases hq with rfl | rfl | rfl | rfl | rfl | rfl | rfl | rfl <;> first | assumption | (simp at e; done) | (go_simp; done) | (simp; done)
  clear hK K
  refine Own.st_do _ rfl rfl (fun K hK => ?_)
  go_simp
  refine (C2.out _).mono ?_
  rintro e w4 ⟨rfl, b4⟩
  have B4 := Lib.hid ((B3.out.trans (b4.mono B3.out.size) : Below w2.heap.size w2 w4))
  obtain ⟨p0, p1, p2, q0, q1, q2⟩ := (S2.out.below B4.out).cells
  clear b4 C2
  refine hK _ _ (fun q hq hd => by rw [(by decide : ∀ x ∈ [0, 2, 4, 6], Own.dep [0, 0, 2, 7, 0, 0, 32, 127, 255, 511] 7 x = true) q hq] at hd; cases hd) ?_
  clear hK K
  repeat (refine Own.st_blind _ rfl rfl (CR.off _ (by decide) _) ?_; go_big_quiet_step (fail); refine wpQuiet_nil ?_)
  refine Own.mix_done ?_
  go_wp2_with (fail)
  go_ret
  exact ⟨rfl, B2.out.trans (B4.out.mono B2.out.size)⟩
structure SD (w : World) (M : Nat) (a d i f t k : Int) : Prop where
  sc : SC w M a d i f t k
  c3 : w.heap[M + 1 + 1]? = some (.cells #[.int .i64 0, .int .i64 0, .int .i64 0] 24 (0, 0))
theorem SD.below {w w' : World} {M : Nat} {a d i f t k : Int} (h : SD w M a d i f t k) (hb : Below w.heap.size w w') : SD w' M a d i f t k :=
  ⟨h.sc.below hb, (hb.block _ (Array.getElem?_eq_some_iff.1 h.c3).1).trans h.c3⟩
theorem SD.set0 {w : World} {M : Nat} {a d i f t k : Int} (h : SD w M a d i f t k) (v : Int) : SD (w.setCell ⟨M + 1, 0, none⟩ (.int .i64 v)) M a d i v t k :=
  ⟨⟨(setCell_other _ (by simp)).trans h.sc.c1, by rw [setCell_same h.sc.c2]; rfl⟩, (setCell_other _ (by simp)).trans h.c3⟩
theorem SD.set1 {w : World} {M : Nat} {a d i f t k : Int} (h : SD w M a d i f t k) (v : Int) : SD (w.setCell ⟨M + 1, 1, none⟩ (.int .i64 v)) M a d i f v k :=
  ⟨⟨(setCell_other _ (by simp)).trans h.sc.c1, by rw [setCell_same h.sc.c2]; rfl⟩, (setCell_other _ (by simp)).trans h.c3⟩
theorem SD.froz {w : World} {M : Nat} {a d i f t k : Int} (h : SD w M a d i f t k) : (∀ j, w.frozen? ⟨M + 1, j, none⟩ = false) ∧ (∀ j, w.frozen? ⟨M + 1 + 1, j, none⟩ = false) :=
  ⟨fun j => by simp [World.frozen?, h.sc.c2], fun j => by simp [World.frozen?, h.c3]⟩
def w3N (w : World) (a d i f t k : Int) : World := ((w.alloc (.cells #[Value.int .i64 a, .int .i64 d, .int .i64 i] 30)).alloc (.cells #[Value.int .i64 f, .int .i64 t, .int .i64 k] 24)).alloc (.cells #[Value.int .i64 0, .int .i64 0, .int .i64 0] 24)
theorem sd_new (w : World) (a d i f t k : Int) : SD (w3N w a d i f t k) w.heap.size a d i f t k :=
  ⟨(sc_new w a d i f t k).below ((Below.refl _ _).alloc (Nat.le_refl _) _), by
    have := blk_alloc_new ((w.alloc (.cells #[Value.int .i64 a, .int .i64 d, .int .i64 i] 30)).alloc (.cells #[Value.int .i64 f, .int .i64 t, .int .i64 k] 24)) (.cells #[Value.int .i64 0, .int .i64 0, .int .i64 0] 24)
    simpa [w3N] using this⟩
theorem w3N_below (w : World) (a d i f t k : Int) : Below w.heap.size w (w3N w a d i f t k) := (((Below.refl _ _).alloc (Nat.le_refl _) _).alloc (by simp) _).alloc (by simp; omega) _
def UU (a d i f t k : Int) (b : Bool) : Value := .tuple #[if b = true then .agg #[.int .i64 0, .int .i64 0, .int .i64 0] else .agg #[.int .i64 (PP a d i f), .int .i64 (PP a d i t), .int .i64 k], .bool (!b)]
set_option maxRecDepth 100000 in
set_option maxHeartbeats 4000000 in
theorem unless_touched (a d i f t k : Int) (ha : Sm a) (hd : Sm d) (hi : Sm i) (hf : Sm f) (ht : Sm t) (w : World) : Calls Try.prog 9 #[.agg #[.int .i64 a, .int .i64 d, .int .i64 i], .agg #[.int .i64 f, .int .i64 t, .int .i64 k], .func (.func 10) #[] #[]] w fun e w' => e = .returned (UU a d i f t k (TT a d f t)) ∧ Below w.heap.size w w' := by
  have C1 := Lib.hid (place_c a d i f ha hd hi hf)
  have C2 := Lib.hid (place_c a d i t ha hd hi ht)
  have CG := Lib.hid (touched_c a d i f t k ha hd hi hf ht)
  obtain ⟨w2, hw2⟩ : ∃ w2, w2 = w3N w a d i f t k := ⟨_, rfl⟩
  have b2 : Below w.heap.size w w2 := by rw [hw2]; exact w3N_below w a d i f t k
  obtain ⟨M, hM⟩ : ∃ M, M = w.heap.size := ⟨_, rfl⟩
  have s2 : SD w2 M a d i f t k := by rw [hw2, hM]; exact sd_new w a d i f t k
  obtain ⟨u0, u1, u2, v0, v1, v2⟩ := s2.sc.cells
  have hw3 : w2 = ((w.alloc (.cells #[Value.int .i64 a, .int .i64 d, .int .i64 i] 30)).alloc (.cells #[Value.int .i64 f, .int .i64 t, .int .i64 k] 24)).alloc (.cells #[Value.int .i64 0, .int .i64 0, .int .i64 0] 24) := hw2
  have S2 := Lib.hid s2
  have HM := Lib.hid hM
  have HW := Lib.hid hw3
  have B2 := Lib.hid b2
  obtain ⟨g, hg⟩ : ∃ g, g = TT a d f t := ⟨_, rfl⟩
  rw [← hg] at CG
  rw [← hg]
  clear b2 hM hw2 hw3 s2 hg
  cases g with
  | true =>
    go_enter Try.func9, Try.ntmps9
    go_upto_region 1 with (fail)
    rw [← HW.out, ← HM.out]
    go_wp2_with (fail)
    refine (CG.out _).mono ?_
    rintro e w3 ⟨rfl, b3⟩
    have B3 := Lib.hid b3
    have S3 := Lib.hid (S2.out.below b3)
    have c3 := (cell3_of S3.out.c3)
    obtain ⟨n0, n1, n2⟩ := c3
    have fz := S3.out.froz.2
    clear b3 CG C1 C2
    go_wp2_with (fail)
    obtain ⟨wf, hwf⟩ : ∃ wf, wf = ((w3.setCell ⟨M + 1 + 1, 0, none⟩ (.int .i64 0)).setCell ⟨M + 1 + 1, 1, none⟩ (.int .i64 0)).setCell ⟨M + 1 + 1, 2, none⟩ (.int .i64 0) := ⟨_, rfl⟩
    rw [← hwf]
    have cf : wf.heap[M + 1 + 1]? = some (.cells #[.int .i64 0, .int .i64 0, .int .i64 0] 24 (0, 0)) := by rw [hwf, setCell_same (setCell_same (setCell_same S3.out.c3 _) _)]; rfl
    obtain ⟨f0, f1, f2⟩ := cell3_of cf
    have hM' : w.heap.size ≤ M + 1 + 1 := by rw [HM.out]; omega
    have BF : Below w.heap.size w wf := by
      rw [hwf]
      exact (((B2.out.trans (B3.out.mono B2.out.size)).setCell (p := ⟨M + 1 + 1, 0, none⟩) hM' _).setCell (p := ⟨M + 1 + 1, 1, none⟩) hM' _).setCell (p := ⟨M + 1 + 1, 2, none⟩) hM' _
    clear hwf cf
    refine bodyPost_ret (v := UU a d i f t k true) (by simp [results, Try.results9, go_sem, f0, f1, f2, UU]; done) rfl ?_
    exact ⟨rfl, BF⟩
  | false =>
    go_enter Try.func9, Try.ntmps9
    go_upto_region 1 with (fail)
    rw [← HW.out, ← HM.out]
    go_wp2_with (fail)
    refine (CG.out _).mono ?_
    rintro e w3 ⟨rfl, b3⟩
    have B3 := Lib.hid b3
    have S3 := Lib.hid (S2.out.below b3)
    obtain ⟨r0, r1, r2, r3, r4, r5⟩ := S3.out.sc.cells
    clear b3 CG u0 u1 u2 v0 v1 v2
    go_upto_region 3 with (fail)
    refine Own.region_mix (CR [0, 2, 4, 6] [(0, ⟨M, 0, none⟩, .int .i64 a), (0, ⟨M, 1, none⟩, .int .i64 d), (0, ⟨M, 2, none⟩, .int .i64 i), (2, ⟨M + 1, 0, none⟩, .int .i64 f), (4, ⟨M, 0, none⟩, .int .i64 a), (4, ⟨M, 1, none⟩, .int .i64 d), (4, ⟨M, 2, none⟩, .int .i64 i), (6, ⟨M + 1, 1, none⟩, .int .i64 t)]) [0, 2, 4, 6] [0, 0, 2, 7, 0, 0, 32, 127, 111, 511, 1023, 2047] (Own.Ord.run [(0, true), (1, true), (2, true), (4, true), (5, true), (6, true), (3, false), (8, true), (7, false), (9, false), (10, true), (11, false)] .done) (by kernel_rfl) (by kernel_rfl) (fun dst v c a w h => by cases dst <;> exact h) (fun x hx w => CR.off x hx w) ?_
    simp only [Own.Ord.run]
    refine Own.st_load _ rfl rfl (.agg #[.int .i64 a, .int .i64 d, .int .i64 i]) (fun w' hw' => ?_) ?_ ?_
    · have hg0 := hw'.get (a := ⟨M, 0, none⟩) (v := .int .i64 a) (by decide) (by simp)
      have hg1 := hw'.get (a := ⟨M, 1, none⟩) (v := .int .i64 d) (by decide) (by simp)
      have hg2 := hw'.get (a := ⟨M, 2, none⟩) (v := .int .i64 i) (by decide) (by simp)
      go_simp
    · intro _ q hq e; simp only [List.mem_cons, List.mem_nil_iff, or_false] at hq; rcases hq with rfl | rfl | rfl | rfl | rfl | rfl | rfl | rfl <;> first | assumption | (simp at e; done) | (go_simp; done) | (simp; done)
    simp only [Act.put, List.setIfInBounds_toArray, List.set_cons_succ, List.set_cons_zero]
    repeat (refine Own.st_blind _ rfl rfl (CR.off _ (by decide) _) ?_; go_big_quiet_step (fail); refine wpQuiet_nil ?_)
    refine Own.st_load _ rfl rfl (.int .i64 f) (fun w' hw' => ?_) ?_ ?_
    · have hg0 := hw'.get (a := ⟨M + 1, 0, none⟩) (v := .int .i64 f) (by decide) (by simp)
      go_simp
    · intro _ q hq e; simp only [List.mem_cons, List.mem_nil_iff, or_false] at hq; rcases hq with rfl | rfl | rfl | rfl | rfl | rfl | rfl | rfl <;> first | assumption | (simp at e; done) | (go_simp; done) | (simp; done)
    simp only [Act.put, List.setIfInBounds_toArray, List.set_cons_succ, List.set_cons_zero]
    refine Own.st_load _ rfl rfl (.agg #[.int .i64 a, .int .i64 d, .int .i64 i]) (fun w' hw' => ?_) ?_ ?_
    · have hg0 := hw'.get (a := ⟨M, 0, none⟩) (v := .int .i64 a) (by decide) (by simp)
      have hg1 := hw'.get (a := ⟨M, 1, none⟩) (v := .int .i64 d) (by decide) (by simp)
      have hg2 := hw'.get (a := ⟨M, 2, none⟩) (v := .int .i64 i) (by decide) (by simp)
      go_simp
    · intro _ q hq e; simp only [List.mem_cons, List.mem_nil_iff, or_false] at hq; rcases hq with rfl | rfl | rfl | rfl | rfl | rfl | rfl | rfl <;> first | assumption | (simp at e; done) | (go_simp; done) | (simp; done)
    simp only [Act.put, List.setIfInBounds_toArray, List.set_cons_succ, List.set_cons_zero]
    repeat (refine Own.st_blind _ rfl rfl (CR.off _ (by decide) _) ?_; go_big_quiet_step (fail); refine wpQuiet_nil ?_)
    refine Own.st_load _ rfl rfl (.int .i64 t) (fun w' hw' => ?_) ?_ ?_
    · have hg0 := hw'.get (a := ⟨M + 1, 1, none⟩) (v := .int .i64 t) (by decide) (by simp)
      go_simp
    · intro _ q hq e; simp only [List.mem_cons, List.mem_nil_iff, or_false] at hq; rcases hq with rfl | rfl | rfl | rfl | rfl | rfl | rfl | rfl <;> first | assumption | (simp at e; done) | (go_simp; done) | (simp; done)
    simp only [Act.put, List.setIfInBounds_toArray, List.set_cons_succ, List.set_cons_zero]
    refine Own.st_do _ rfl rfl (fun K hK => ?_)
    go_simp
    refine (C1.out _).mono ?_
    rintro e w4 ⟨rfl, b4⟩
    have B4 := Lib.hid ((Below.trans (b := World.drew w3) ⟨rfl, rfl, rfl, Nat.le_refl _, fun _ _ => rfl⟩ b4 : Below w3.heap.size w3 w4))
    have S4 := Lib.hid (S3.out.below B4.out)
    obtain ⟨x0, x1, x2, y0, y1, y2⟩ := S4.out.sc.cells
    clear b4 C1
    refine hK _ _ (fun q hq hd _ => ?_) ?_
    · intro _ q hq e; simp only [List.mem_cons, List.mem_nil_iff, or_false] at hq; rcases hq with rfl | rfl | rfl | rfl | rfl | rfl | rfl | rfl <;> first | assumption | (simp at e; done) | (go_simp; done) | (simp; done)
    clear hK K
    repeat (refine Own.st_blind _ rfl rfl (CR.off _ (by decide) _) ?_; go_big_quiet_step (fail); refine wpQuiet_nil ?_)
    refine Own.st_do _ rfl rfl (fun K hK => ?_)
    go_simp
    refine (C2.out _).mono ?_
    rintro e w5 ⟨rfl, b5⟩
    have B5 := Lib.hid (B2.out.trans ((B3.out.trans ((B4.out.trans (b5.mono B4.out.size)).mono B3.out.size)).mono B2.out.size))
    have S5 := Lib.hid (S4.out.below b5)
    obtain ⟨p0, p1, p2, q0, q1, q2⟩ := S5.out.sc.cells
    have fy := S5.out.froz.1
    clear b5 C2
    refine hK _ _ (fun q hq hd => by rw [(by decide : ∀ x ∈ [0, 2, 4, 6], Own.dep [0, 0, 2, 7, 0, 0, 32, 127, 111, 511, 1023, 2047] 7 x = true) q hq] at hd; cases hd) ?_
    clear hK K
    refine Own.st_do _ rfl rfl (fun K hK => ?_)
    go_simp
    obtain ⟨w6, hw6⟩ : ∃ w6, w6 = w5.setCell ⟨M + 1, 0, none⟩ (.int .i64 (PP a d i f)) := ⟨_, rfl⟩
    rw [← hw6]
    have S6 := Lib.hid (S5.out.set0 (PP a d i f))
    rw [← hw6] at S6
    have B6 := Lib.hid (B5.out.setCell (p := ⟨M + 1, 0, none⟩) (by rw [HM.out]; exact Nat.le_succ _) (.int .i64 (PP a d i f)))
    rw [← hw6] at B6
    obtain ⟨s0, s1, s2, t0, t1, t2⟩ := S6.out.sc.cells
    have fx := S6.out.froz.1
    clear hw6 p0 p1 p2 q0 q1 q2 fy
    refine hK _ _ (fun q hq hd => by rw [(by decide : ∀ x ∈ [0, 2, 4, 6], Own.dep [0, 0, 2, 7, 0, 0, 32, 127, 111, 511, 1023, 2047] 9 x = true) q hq] at hd; cases hd) ?_
    clear hK K
    repeat (refine Own.st_blind _ rfl rfl (CR.off _ (by decide) _) ?_; go_big_quiet_step (fail); refine wpQuiet_nil ?_)
    refine Own.st_do _ rfl rfl (fun K hK => ?_)
    go_simp
    obtain ⟨w7, hw7⟩ : ∃ w7, w7 = w6.setCell ⟨M + 1, 1, none⟩ (.int .i64 (PP a d i t)) := ⟨_, rfl⟩
    rw [← hw7]
    have S7 := Lib.hid (S6.out.set1 (PP a d i t))
    rw [← hw7] at S7
    have B7 := Lib.hid (B6.out.setCell (p := ⟨M + 1, 1, none⟩) (by rw [HM.out]; exact Nat.le_succ _) (.int .i64 (PP a d i t)))
    rw [← hw7] at B7
    clear hw7 s0 s1 s2 t0 t1 t2 fx
    refine hK _ _ (fun q hq hd => by rw [(by decide : ∀ x ∈ [0, 2, 4, 6], Own.dep [0, 0, 2, 7, 0, 0, 32, 127, 111, 511, 1023, 2047] 11 x = true) q hq] at hd; cases hd) ?_
    clear hK K
    refine Own.mix_done ?_
    have c3 := (cell3_of S7.out.c3)
    obtain ⟨n0, n1, n2⟩ := c3
    have fz := S7.out.froz.2
    obtain ⟨z0, z1, z2, z3, z4, z5⟩ := S7.out.sc.cells
    go_wp2_with (fail)
    obtain ⟨wf, hwf⟩ : ∃ wf, wf = ((w7.setCell ⟨M + 1 + 1, 0, none⟩ (.int .i64 (PP a d i f))).setCell ⟨M + 1 + 1, 1, none⟩ (.int .i64 (PP a d i t))).setCell ⟨M + 1 + 1, 2, none⟩ (.int .i64 k) := ⟨_, rfl⟩
    rw [← hwf]
    have cf : wf.heap[M + 1 + 1]? = some (.cells #[.int .i64 (PP a d i f), .int .i64 (PP a d i t), .int .i64 k] 24 (0, 0)) := by rw [hwf, setCell_same (setCell_same (setCell_same S7.out.c3 _) _)]; rfl
    obtain ⟨f0, f1, f2⟩ := cell3_of cf
    have hM' : w.heap.size ≤ M + 1 + 1 := by rw [HM.out]; omega
    have BF : Below w.heap.size w wf := by
      rw [hwf]
      exact ((B7.out.setCell (p := ⟨M + 1 + 1, 0, none⟩) hM' _).setCell (p := ⟨M + 1 + 1, 1, none⟩) hM' _).setCell (p := ⟨M + 1 + 1, 2, none⟩) hM' _
    clear hwf cf
    refine bodyPost_ret (v := UU a d i f t k false) (by simp [results, Try.results9, go_sem, f0, f1, f2, UU]; done) rfl ?_
    exact ⟨rfl, BF⟩
set_option maxRecDepth 100000 in
set_option maxHeartbeats 4000000 in
theorem unless_empty (a d i f t k : Int) (ha : Sm a) (hd : Sm d) (hi : Sm i) (hf : Sm f) (ht : Sm t) (w : World) : Calls Try.prog 9 #[.agg #[.int .i64 a, .int .i64 d, .int .i64 i], .agg #[.int .i64 f, .int .i64 t, .int .i64 k], .func (.func 11) #[] #[]] w fun e w' => e = .returned (UU a d i f t k (EE a d i f t)) ∧ Below w.heap.size w w' := by
  have C1 := Lib.hid (place_c a d i f ha hd hi hf)
  have C2 := Lib.hid (place_c a d i t ha hd hi ht)
  have CG := Lib.hid (empty_c a d i f t k ha hd hi hf ht)
  obtain ⟨w2, hw2⟩ : ∃ w2, w2 = w3N w a d i f t k := ⟨_, rfl⟩
  have b2 : Below w.heap.size w w2 := by rw [hw2]; exact w3N_below w a d i f t k
  obtain ⟨M, hM⟩ : ∃ M, M = w.heap.size := ⟨_, rfl⟩
  have s2 : SD w2 M a d i f t k := by rw [hw2, hM]; exact sd_new w a d i f t k
  obtain ⟨u0, u1, u2, v0, v1, v2⟩ := s2.sc.cells
  have hw3 : w2 = ((w.alloc (.cells #[Value.int .i64 a, .int .i64 d, .int .i64 i] 30)).alloc (.cells #[Value.int .i64 f, .int .i64 t, .int .i64 k] 24)).alloc (.cells #[Value.int .i64 0, .int .i64 0, .int .i64 0] 24) := hw2
  have S2 := Lib.hid s2
  have HM := Lib.hid hM
  have HW := Lib.hid hw3
  have B2 := Lib.hid b2
  obtain ⟨g, hg⟩ : ∃ g, g = EE a d i f t := ⟨_, rfl⟩
  rw [← hg] at CG
  rw [← hg]
  clear b2 hM hw2 hw3 s2 hg
  cases g with
  | true =>
    go_enter Try.func9, Try.ntmps9
    go_upto_region 1 with (fail)
    rw [← HW.out, ← HM.out]
    go_wp2_with (fail)
    refine (CG.out _).mono ?_
    rintro e w3 ⟨rfl, b3⟩
    have B3 := Lib.hid b3
    have S3 := Lib.hid (S2.out.below b3)
    have c3 := (cell3_of S3.out.c3)
    obtain ⟨n0, n1, n2⟩ := c3
    have fz := S3.out.froz.2
    clear b3 CG C1 C2
    go_wp2_with (fail)
    obtain ⟨wf, hwf⟩ : ∃ wf, wf = ((w3.setCell ⟨M + 1 + 1, 0, none⟩ (.int .i64 0)).setCell ⟨M + 1 + 1, 1, none⟩ (.int .i64 0)).setCell ⟨M + 1 + 1, 2, none⟩ (.int .i64 0) := ⟨_, rfl⟩
    rw [← hwf]
    have cf : wf.heap[M + 1 + 1]? = some (.cells #[.int .i64 0, .int .i64 0, .int .i64 0] 24 (0, 0)) := by rw [hwf, setCell_same (setCell_same (setCell_same S3.out.c3 _) _)]; rfl
    obtain ⟨f0, f1, f2⟩ := cell3_of cf
    have hM' : w.heap.size ≤ M + 1 + 1 := by rw [HM.out]; omega
    have BF : Below w.heap.size w wf := by
      rw [hwf]
      exact (((B2.out.trans (B3.out.mono B2.out.size)).setCell (p := ⟨M + 1 + 1, 0, none⟩) hM' _).setCell (p := ⟨M + 1 + 1, 1, none⟩) hM' _).setCell (p := ⟨M + 1 + 1, 2, none⟩) hM' _
    clear hwf cf
    refine bodyPost_ret (v := UU a d i f t k true) (by simp [results, Try.results9, go_sem, f0, f1, f2, UU]; done) rfl ?_
    exact ⟨rfl, BF⟩
  | false =>
    go_enter Try.func9, Try.ntmps9
    go_upto_region 1 with (fail)
    rw [← HW.out, ← HM.out]
    go_wp2_with (fail)
    refine (CG.out _).mono ?_
    rintro e w3 ⟨rfl, b3⟩
    have B3 := Lib.hid b3
    have S3 := Lib.hid (S2.out.below b3)
    obtain ⟨r0, r1, r2, r3, r4, r5⟩ := S3.out.sc.cells
    clear b3 CG u0 u1 u2 v0 v1 v2
    go_upto_region 3 with (fail)
    refine Own.region_mix (CR [0, 2, 4, 6] [(0, ⟨M, 0, none⟩, .int .i64 a), (0, ⟨M, 1, none⟩, .int .i64 d), (0, ⟨M, 2, none⟩, .int .i64 i), (2, ⟨M + 1, 0, none⟩, .int .i64 f), (4, ⟨M, 0, none⟩, .int .i64 a), (4, ⟨M, 1, none⟩, .int .i64 d), (4, ⟨M, 2, none⟩, .int .i64 i), (6, ⟨M + 1, 1, none⟩, .int .i64 t)]) [0, 2, 4, 6] [0, 0, 2, 7, 0, 0, 32, 127, 111, 511, 1023, 2047] (Own.Ord.run [(0, true), (1, true), (2, true), (4, true), (5, true), (6, true), (3, false), (8, true), (7, false), (9, false), (10, true), (11, false)] .done) (by kernel_rfl) (by kernel_rfl) (fun dst v c a w h => by cases dst <;> exact h) (fun x hx w => CR.off x hx w) ?_
    simp only [Own.Ord.run]
    refine Own.st_load _ rfl rfl (.agg #[.int .i64 a, .int .i64 d, .int .i64 i]) (fun w' hw' => ?_) ?_ ?_
    · have hg0 := hw'.get (a := ⟨M, 0, none⟩) (v := .int .i64 a) (by decide) (by simp)
      have hg1 := hw'.get (a := ⟨M, 1, none⟩) (v := .int .i64 d) (by decide) (by simp)
      have hg2 := hw'.get (a := ⟨M, 2, none⟩) (v := .int .i64 i) (by decide) (by simp)
      go_simp
    · intro _ q hq e; simp only [List.mem_cons, List.mem_nil_iff, or_false] at hq; rcases hq with rfl | rfl | rfl | rfl | rfl | rfl | rfl | rfl <;> first | assumption | (simp at e; done) | (go_simp; done) | (simp; done)
    simp only [Act.put, List.setIfInBounds_toArray, List.set_cons_succ, List.set_cons_zero]
    repeat (refine Own.st_blind _ rfl rfl (CR.off _ (by decide) _) ?_; go_big_quiet_step (fail); refine wpQuiet_nil ?_)
    refine Own.st_load _ rfl rfl (.int .i64 f) (fun w' hw' => ?_) ?_ ?_
    · have hg0 := hw'.get (a := ⟨M + 1, 0, none⟩) (v := .int .i64 f) (by decide) (by simp)
      go_simp
    · intro _ q hq e; simp only [List.mem_cons, List.mem_nil_iff, or_false] at hq; rcases hq with rfl | rfl | rfl | rfl | rfl | rfl | rfl | rfl <;> first | assumption | (simp at e; done) | (go_simp; done) | (simp; done)
    simp only [Act.put, List.setIfInBounds_toArray, List.set_cons_succ, List.set_cons_zero]
    refine Own.st_load _ rfl rfl (.agg #[.int .i64 a, .int .i64 d, .int .i64 i]) (fun w' hw' => ?_) ?_ ?_
    · have hg0 := hw'.get (a := ⟨M, 0, none⟩) (v := .int .i64 a) (by decide) (by simp)
      have hg1 := hw'.get (a := ⟨M, 1, none⟩) (v := .int .i64 d) (by decide) (by simp)
      have hg2 := hw'.get (a := ⟨M, 2, none⟩) (v := .int .i64 i) (by decide) (by simp)
      go_simp
    · intro _ q hq e; simp only [List.mem_cons, List.mem_nil_iff, or_false] at hq; rcases hq with rfl | rfl | rfl | rfl | rfl | rfl | rfl | rfl <;> first | assumption | (simp at e; done) | (go_simp; done) | (simp; done)
    simp only [Act.put, List.setIfInBounds_toArray, List.set_cons_succ, List.set_cons_zero]
    repeat (refine Own.st_blind _ rfl rfl (CR.off _ (by decide) _) ?_; go_big_quiet_step (fail); refine wpQuiet_nil ?_)
    refine Own.st_load _ rfl rfl (.int .i64 t) (fun w' hw' => ?_) ?_ ?_
    · have hg0 := hw'.get (a := ⟨M + 1, 1, none⟩) (v := .int .i64 t) (by decide) (by simp)
      go_simp
    · intro _ q hq e; simp only [List.mem_cons, List.mem_nil_iff, or_false] at hq; rcases hq with rfl | rfl | rfl | rfl | rfl | rfl | rfl | rfl <;> first | assumption | (simp at e; done) | (go_simp; done) | (simp; done)
    simp only [Act.put, List.setIfInBounds_toArray, List.set_cons_succ, List.set_cons_zero]
    refine Own.st_do _ rfl rfl (fun K hK => ?_)
    go_simp
    refine (C1.out _).mono ?_
    rintro e w4 ⟨rfl, b4⟩
    have B4 := Lib.hid ((Below.trans (b := World.drew w3) ⟨rfl, rfl, rfl, Nat.le_refl _, fun _ _ => rfl⟩ b4 : Below w3.heap.size w3 w4))
    have S4 := Lib.hid (S3.out.below B4.out)
    obtain ⟨x0, x1, x2, y0, y1, y2⟩ := S4.out.sc.cells
    clear b4 C1
    refine hK _ _ (fun q hq hd _ => ?_) ?_
    · intro _ q hq e; simp only [List.mem_cons, List.mem_nil_iff, or_false] at hq; rcases hq with rfl | rfl | rfl | rfl | rfl | rfl | rfl | rfl <;> first | assumption | (simp at e; done) | (go_simp; done) | (simp; done)
    clear hK K
    repeat (refine Own.st_blind _ rfl rfl (CR.off _ (by decide) _) ?_; go_big_quiet_step (fail); refine wpQuiet_nil ?_)
    refine Own.st_do _ rfl rfl (fun K hK => ?_)
    go_simp
    refine (C2.out _).mono ?_
    rintro e w5 ⟨rfl, b5⟩
    have B5 := Lib.hid (B2.out.trans ((B3.out.trans ((B4.out.trans (b5.mono B4.out.size)).mono B3.out.size)).mono B2.out.size))
    have S5 := Lib.hid (S4.out.below b5)
    obtain ⟨p0, p1, p2, q0, q1, q2⟩ := S5.out.sc.cells
    have fy := S5.out.froz.1
    clear b5 C2
    refine hK _ _ (fun q hq hd => by rw [(by decide : ∀ x ∈ [0, 2, 4, 6], Own.dep [0, 0, 2, 7, 0, 0, 32, 127, 111, 511, 1023, 2047] 7 x = true) q hq] at hd; cases hd) ?_
    clear hK K
    refine Own.st_do _ rfl rfl (fun K hK => ?_)
    go_simp
    obtain ⟨w6, hw6⟩ : ∃ w6, w6 = w5.setCell ⟨M + 1, 0, none⟩ (.int .i64 (PP a d i f)) := ⟨_, rfl⟩
    rw [← hw6]
    have S6 := Lib.hid (S5.out.set0 (PP a d i f))
    rw [← hw6] at S6
    have B6 := Lib.hid (B5.out.setCell (p := ⟨M + 1, 0, none⟩) (by rw [HM.out]; exact Nat.le_succ _) (.int .i64 (PP a d i f)))
    rw [← hw6] at B6
    obtain ⟨s0, s1, s2, t0, t1, t2⟩ := S6.out.sc.cells
    have fx := S6.out.froz.1
    clear hw6 p0 p1 p2 q0 q1 q2 fy
    refine hK _ _ (fun q hq hd => by rw [(by decide : ∀ x ∈ [0, 2, 4, 6], Own.dep [0, 0, 2, 7, 0, 0, 32, 127, 111, 511, 1023, 2047] 9 x = true) q hq] at hd; cases hd) ?_
    clear hK K
    repeat (refine Own.st_blind _ rfl rfl (CR.off _ (by decide) _) ?_; go_big_quiet_step (fail); refine wpQuiet_nil ?_)
    refine Own.st_do _ rfl rfl (fun K hK => ?_)
    go_simp
    obtain ⟨w7, hw7⟩ : ∃ w7, w7 = w6.setCell ⟨M + 1, 1, none⟩ (.int .i64 (PP a d i t)) := ⟨_, rfl⟩
    rw [← hw7]
    have S7 := Lib.hid (S6.out.set1 (PP a d i t))
    rw [← hw7] at S7
    have B7 := Lib.hid (B6.out.setCell (p := ⟨M + 1, 1, none⟩) (by rw [HM.out]; exact Nat.le_succ _) (.int .i64 (PP a d i t)))
    rw [← hw7] at B7
    clear hw7 s0 s1 s2 t0 t1 t2 fx
    refine hK _ _ (fun q hq hd => by rw [(by decide : ∀ x ∈ [0, 2, 4, 6], Own.dep [0, 0, 2, 7, 0, 0, 32, 127, 111, 511, 1023, 2047] 11 x = true) q hq] at hd; cases hd) ?_
    clear hK K
    refine Own.mix_done ?_
    have c3 := (cell3_of S7.out.c3)
    obtain ⟨n0, n1, n2⟩ := c3
    have fz := S7.out.froz.2
    obtain ⟨z0, z1, z2, z3, z4, z5⟩ := S7.out.sc.cells
    go_wp2_with (fail)
    obtain ⟨wf, hwf⟩ : ∃ wf, wf = ((w7.setCell ⟨M + 1 + 1, 0, none⟩ (.int .i64 (PP a d i f))).setCell ⟨M + 1 + 1, 1, none⟩ (.int .i64 (PP a d i t))).setCell ⟨M + 1 + 1, 2, none⟩ (.int .i64 k) := ⟨_, rfl⟩
    rw [← hwf]
    have cf : wf.heap[M + 1 + 1]? = some (.cells #[.int .i64 (PP a d i f), .int .i64 (PP a d i t), .int .i64 k] 24 (0, 0)) := by rw [hwf, setCell_same (setCell_same (setCell_same S7.out.c3 _) _)]; rfl
    obtain ⟨f0, f1, f2⟩ := cell3_of cf
    have hM' : w.heap.size ≤ M + 1 + 1 := by rw [HM.out]; omega
    have BF : Below w.heap.size w wf := by
      rw [hwf]
      exact ((B7.out.setCell (p := ⟨M + 1 + 1, 0, none⟩) hM' _).setCell (p := ⟨M + 1 + 1, 1, none⟩) hM' _).setCell (p := ⟨M + 1 + 1, 2, none⟩) hM' _
    clear hwf cf
    refine bodyPost_ret (v := UU a d i f t k false) (by simp [results, Try.results9, go_sem, f0, f1, f2, UU]; done) rfl ?_
    exact ⟨rfl, BF⟩
end Go.Proofs.Ytmhghmdadkghlaa

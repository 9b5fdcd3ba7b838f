/- The document's Parse of a rule: it does not panic; what it hands back. -/
import Derived.Test.YtmpckoincdkeeaaDoorRCnd
namespace Go.Proofs.YtmpckoincdkeeaaDoor
open Go.RowKit Go.Deep Go.Own
set_option linter.unusedVariables false
theorem cell6_of {w : World} {b : Nat} {x0 x1 x2 x3 x4 x5 : Value} {t : TypeId} {fr : Nat × Nat} (h : w.heap[b]? = some (.cells #[x0, x1, x2, x3, x4, x5] t fr)) : w.cell? ⟨b, 0, none⟩ = some x0 ∧ w.cell? ⟨b, 1, none⟩ = some x1 ∧ w.cell? ⟨b, 2, none⟩ = some x2 ∧ w.cell? ⟨b, 3, none⟩ = some x3 ∧ w.cell? ⟨b, 4, none⟩ = some x4 ∧ w.cell? ⟨b, 5, none⟩ = some x5 := by
  simp [World.cell?, h]
def ruleV (pf : Bool) (f : Int) (cr : Bool) (a b : ByteArray) (A : Option Addr) (n c : Nat) : Array Value := #[.bool pf, .int .i64 f, .bool cr, .string a, .string b, .slice A n c]
/-- what Parse of a rule hands back -/
def RulePost (w : World) (e : Ending) (w' : World) : Prop := (∃ (pf : Bool) (f : Int) (cr : Bool) (a b : ByteArray) (A : Option Addr) (n c : Nat) (ok : Bool), e = .returned (.tuple #[.agg (ruleV pf f cr a b A n c), .bool ok])) ∧ Below w.heap.size w w'
/-- the rule's cell is written -/
structure RuleSet (w wf : World) (M : Nat) (pf : Bool) (f : Int) (cr : Bool) (a b : ByteArray) (A : Option Addr) (n c : Nat) : Prop where
  cell : wf.heap[M]? = some (.cells (ruleV pf f cr a b A n c) 63 (0, 0))
  bel : Below w.heap.size w wf
theorem rule_set' {w wx wf : World} {M : Nat} {x0 x1 x2 x3 x4 x5 : Value} {pf : Bool} {f : Int} {cr : Bool} {a b : ByteArray} {A : Option Addr} {n c : Nat} (h : wx.heap[M]? = some (.cells #[x0, x1, x2, x3, x4, x5] 63 (0, 0)))
    (hw : wf = (((((wx.setCell ⟨M, 0, none⟩ (.bool pf)).setCell ⟨M, 1, none⟩ (.int .i64 f)).setCell ⟨M, 2, none⟩ (.bool cr)).setCell ⟨M, 3, none⟩ (.string a)).setCell ⟨M, 4, none⟩ (.string b)).setCell ⟨M, 5, none⟩ (.slice A n c)) (hb : Below w.heap.size w wx) (hM : w.heap.size ≤ M) : RuleSet w wf M pf f cr a b A n c := by
  subst hw
  refine ⟨?_, (((((hb.setCell (p := ⟨M, 0, none⟩) hM _).setCell (p := ⟨M, 1, none⟩) hM _).setCell (p := ⟨M, 2, none⟩) hM _).setCell (p := ⟨M, 3, none⟩) hM _).setCell (p := ⟨M, 4, none⟩) hM _).setCell (p := ⟨M, 5, none⟩) hM _⟩
  rw [setCell_same (setCell_same (setCell_same (setCell_same (setCell_same (setCell_same h _) _) _) _) _)]
  rfl
theorem RuleSet.drew {w wf : World} {M : Nat} {pf : Bool} {f : Int} {cr : Bool} {a b : ByteArray} {A : Option Addr} {n c : Nat} (h : RuleSet w wf M pf f cr a b A n c) : RuleSet w wf.drew M pf f cr a b A n c := ⟨h.cell, h.bel.drew⟩
theorem rule_ret {w wf : World} {M : Nat} {pf : Bool} {f : Int} {cr : Bool} {a b : ByteArray} {A : Option Addr} {n c : Nat} {ok : Bool} {act : Act} (h : RuleSet w wf M pf f cr a b A n c) (hd : act.defers = []) (ht : act.tmps[2]? = some (.pointer (some ⟨M, 0, none⟩)) ∧ act.tmps[3]? = some (.bool ok)) : bodyPost Tryd.prog Tryd.f28 (RulePost w) .ret act wf := by
  obtain ⟨r0, r1, r2, r3, r4, r5⟩ := cell6_of h.cell
  obtain ⟨h2, h3⟩ := ht
  refine bodyPost_ret (v := .tuple #[.agg (ruleV pf f cr a b A n c), .bool ok]) (by simp [results, Tryd.results28, go_sem, h2, h3, r0, r1, r2, r3, r4, r5, ruleV]; done) hd ?_
  exact ⟨⟨_, _, _, _, _, _, _, _, _, rfl⟩, h.bel⟩
set_option maxRecDepth 100000 in
set_option maxHeartbeats 16000000 in
theorem r10_calls (s : ByteArray) (w : World) (hs : s.size ≤ 1000000) : Calls Tryd.prog 28 #[.string s] w (RulePost w) := by
  obtain ⟨w1, hw1⟩ : ∃ w1, w1 = w.alloc (.cells #[Value.bool false, .int .i64 0, .bool false, .string ⟨#[]⟩, .string ⟨#[]⟩, .slice none 0 0] 63) := ⟨_, rfl⟩
  obtain ⟨M, hM⟩ : ∃ M, M = w.heap.size := ⟨_, rfl⟩
  have b1 : Below w.heap.size w w1 := by rw [hw1]; exact (Below.refl _ _).alloc (Nat.le_refl _) _
  have m1 : w1.heap[M]? = some (.cells #[.bool false, .int .i64 0, .bool false, .string ⟨#[]⟩, .string ⟨#[]⟩, .slice none 0 0] 63 (0, 0)) := by rw [hw1, hM]; exact blk_alloc_new _ _
  have CW := Lib.hid (words_c s w1 (by omega))
  have HW1 := Lib.hid (And.intro hw1 hM)
  have B1 := Lib.hid b1
  have M1 := Lib.hid m1
  have HM0 := Lib.hid (show w.heap.size ≤ M by rw [hM]; exact Nat.le_refl _)
  have hwz : ∀ x ∈ cutL 32 s.data.toList, x.length ≤ s.size := fun x hx => by have := cutL_size 32 _ x hx; simpa using this
  have HWZ := Lib.hid hwz
  obtain ⟨ws, hws⟩ : ∃ ws, ws = cutL 32 s.data.toList := ⟨_, rfl⟩
  rw [← hws] at CW HWZ
  have hwl : ws.length ≤ s.size + 1 := by rw [hws]; have := cutL_len 32 s.data.toList; simpa using this
  clear hw1 hM b1 m1 hws hwz
  go_enter Tryd.func28, Tryd.ntmps28
  go_upto_region 1 with (fail)
  rw [← HW1.out.1, ← HW1.out.2]
  go_wp2_with (fail)
  refine CW.out.mono ?_
  rintro e w2 ⟨⟨v2, rfl, r2⟩, b2⟩
  obtain ⟨A2, c2, hv2⟩ := own_is r2
  subst hv2
  have M2 := Lib.hid ((b2.block _ (Array.getElem?_eq_some_iff.1 M1.out).1).trans M1.out)
  have B2 := Lib.hid (B1.out.trans (b2.mono B1.out.size))
  have R2 := Lib.hid r2
  clear b2 r2 CW M1
  by_cases h6 : ws.length = 6
  · obtain ⟨y0, y1, y2, y3, y4, y5, hy⟩ : ∃ y0 y1 y2 y3 y4 y5, ws = [y0, y1, y2, y3, y4, y5] := by
      match ws, h6 with
      | [y0, y1, y2, y3, y4, y5], _ => exact ⟨_, _, _, _, _, _, rfl⟩
    obtain ⟨q, cap, e2, _, hq, _, _, hc, _⟩ := row_at R2.out (by omega)
    injection e2 with e2 e3 e4
    subst e2 e4
    have k0 := hc 0 (.string (mkB y0)) (by rw [hy]; rfl)
    have k1 := hc 1 (.string (mkB y1)) (by rw [hy]; rfl)
    have k2 := hc 2 (.string (mkB y2)) (by rw [hy]; rfl)
    have k3 := hc 3 (.string (mkB y3)) (by rw [hy]; rfl)
    have k4 := hc 4 (.string (mkB y4)) (by rw [hy]; rfl)
    have k5 := hc 5 (.string (mkB y5)) (by rw [hy]; rfl)
    have z3 := HWZ.out y3 (by rw [hy]; simp)
    have z4 := HWZ.out y4 (by rw [hy]; simp)
    have z5 := HWZ.out y5 (by rw [hy]; simp)
    obtain ⟨x0, hx0⟩ : ∃ x, x = mkB y0 := ⟨_, rfl⟩
    obtain ⟨x1, hx1⟩ : ∃ x, x = mkB y1 := ⟨_, rfl⟩
    obtain ⟨x2, hx2⟩ : ∃ x, x = mkB y2 := ⟨_, rfl⟩
    obtain ⟨x3, hx3⟩ : ∃ x, x = mkB y3 := ⟨_, rfl⟩
    obtain ⟨x4, hx4⟩ : ∃ x, x = mkB y4 := ⟨_, rfl⟩
    obtain ⟨x5, hx5⟩ : ∃ x, x = mkB y5 := ⟨_, rfl⟩
    have zx3 : x3.size ≤ s.size := by rw [hx3, mk_size]; exact z3
    have zx4 : x4.size ≤ s.size := by rw [hx4, mk_size]; exact z4
    have zx5 : x5.size ≤ s.size := by rw [hx5, mk_size]; exact z5
    rw [← hx0] at k0
    rw [← hx1] at k1
    rw [← hx2] at k2
    rw [← hx3] at k3
    rw [← hx4] at k4
    rw [← hx5] at k5
    have KB := Lib.hid (show ∀ wx, Below w2.heap.size w2 wx → wx.cell? ⟨q, 0, none⟩ = some (.string x0) ∧ wx.cell? ⟨q, 1, none⟩ = some (.string x1) ∧ wx.cell? ⟨q, 2, none⟩ = some (.string x2) ∧ wx.cell? ⟨q, 3, none⟩ = some (.string x3) ∧ wx.cell? ⟨q, 4, none⟩ = some (.string x4) ∧ wx.cell? ⟨q, 5, none⟩ = some (.string x5) from fun wx hb =>
      ⟨(hb.cell (p := ⟨q, 0, none⟩) hq).trans k0, (hb.cell (p := ⟨q, 1, none⟩) hq).trans k1, (hb.cell (p := ⟨q, 2, none⟩) hq).trans k2, (hb.cell (p := ⟨q, 3, none⟩) hq).trans k3, (hb.cell (p := ⟨q, 4, none⟩) hq).trans k4, (hb.cell (p := ⟨q, 5, none⟩) hq).trans k5⟩)
    rw [h6]
    have CF := Lib.hid (fun w : World => flag_calls x1 w)
    clear hc hy hx0 hx1 hx2 hx3 hx4 hx5 z3 z4 z5 hwl k3 k4 k5 hq
    have HWS := Lib.hid h6
    clear h6 e3
    go_upto_region 2 with (fail)
    go_cut [46] (fun v wx => (∃ bb : Bool, v = .bool bb) ∧ w2 = wx)
    case first =>
      by_cases p0 : x0 = ⟨#[80, 70, 88]⟩
      · subst p0
        go_wp2_with (go_at_call 47; refine (CF.out _).mono ?_; rintro e w' ⟨rfl, rfl⟩)
        all_goals (go_meet; exact ⟨⟨_, rfl⟩, rfl⟩)
      · have n0 := list_ne p0
        go_wp2_with (go_at_call 47; refine (CF.out _).mono ?_; rintro e w' ⟨rfl, rfl⟩)
        all_goals (go_meet; exact ⟨⟨_, rfl⟩, rfl⟩)
    obtain ⟨⟨bb, rfl⟩, rfl⟩ := hcut
    cases bb with
    | true =>
      obtain ⟨m0, m1, m2, m3, m4, m5⟩ := cell6_of M2.out
      have fz : ∀ j, w2.frozen? ⟨M, j, none⟩ = false := fun j => by have := M2.out; simp [World.frozen?, this]
      go_wp2_with (fail)
      generalize hwf : ((((((w2).setCell ⟨M, 0, none⟩ (.bool _)).setCell ⟨M, 1, none⟩ (.int .i64 _)).setCell ⟨M, 2, none⟩ (.bool _)).setCell ⟨M, 3, none⟩ (.string _)).setCell ⟨M, 4, none⟩ (.string _)).setCell ⟨M, 5, none⟩ (.slice _ _ _) = wf
      have HWF := rule_set' M2.out hwf.symm B2.out HM0.out
      clear hwf
      exact rule_ret HWF rfl ⟨rfl, rfl⟩
    | false =>
      have CP1 := Lib.hid (part_calls x3 w2 (by omega))
      unfold PartPost at CP1
      obtain ⟨_, _, _, k3, _, _⟩ := KB.out w2 (Below.refl _ _)
      clear k0 k1 k2
      go_upto_region 4 with (fail)
      go_wp2_with (fail)
      refine CP1.out.mono ?_
      rintro e w3 ⟨⟨t1, o1, rfl⟩, b3⟩
      have M3 := Lib.hid ((b3.block _ (Array.getElem?_eq_some_iff.1 M2.out).1).trans M2.out)
      have B3 := Lib.hid (B2.out.trans (b3.mono B2.out.size))
      have D3 := Lib.hid b3
      have CP2 := Lib.hid (part_calls x4 w3 (by omega))
      unfold PartPost at CP2
      obtain ⟨_, _, _, _, k4, _⟩ := KB.out w3 b3
      clear CP1 b3 k3 M2 B2
      go_upto_region 5 with (fail)
      go_wp2_with (fail)
      refine CP2.out.mono ?_
      rintro e w4 ⟨⟨t2, o2, rfl⟩, b4⟩
      have M4 := Lib.hid ((b4.block _ (Array.getElem?_eq_some_iff.1 M3.out).1).trans M3.out)
      have B4 := Lib.hid (B3.out.trans (b4.mono B3.out.size))
      have D4 := Lib.hid (D3.out.trans (b4.mono D3.out.size))
      have CP3 := Lib.hid (r9_calls x5 w4 (by omega))
      unfold R9Post at CP3
      obtain ⟨_, _, _, _, _, k5⟩ := KB.out w4 D4.out
      clear CP2 b4 k4 M3 B3 D3
      go_upto_region 6 with (fail)
      go_wp2_with (fail)
      refine CP3.out.mono ?_
      rintro e w5 ⟨⟨A9, n9, c9, o3, rfl⟩, b5⟩
      have M5 := Lib.hid ((b5.block _ (Array.getElem?_eq_some_iff.1 M4.out).1).trans M4.out)
      have B5 := Lib.hid (B4.out.trans (b5.mono B4.out.size))
      have D5 := Lib.hid (D4.out.trans (b5.mono D4.out.size))
      clear CP3 b5 k5 M4 B4 D4
      cases o1 with
      | false =>
        obtain ⟨m0, m1, m2, m3, m4, m5⟩ := cell6_of M5.out
        have fz : ∀ j, w5.frozen? ⟨M, j, none⟩ = false := fun j => by have := M5.out; simp [World.frozen?, this]
        go_wp2_with (fail)
        generalize hwf : ((((((w5).setCell ⟨M, 0, none⟩ (.bool _)).setCell ⟨M, 1, none⟩ (.int .i64 _)).setCell ⟨M, 2, none⟩ (.bool _)).setCell ⟨M, 3, none⟩ (.string _)).setCell ⟨M, 4, none⟩ (.string _)).setCell ⟨M, 5, none⟩ (.slice _ _ _) = wf
        have HWF := rule_set' M5.out hwf.symm B5.out HM0.out
        clear hwf
        exact rule_ret HWF rfl ⟨rfl, rfl⟩
      | true =>
      cases o2 with
      | false =>
        obtain ⟨m0, m1, m2, m3, m4, m5⟩ := cell6_of M5.out
        have fz : ∀ j, w5.frozen? ⟨M, j, none⟩ = false := fun j => by have := M5.out; simp [World.frozen?, this]
        go_wp2_with (fail)
        generalize hwf : ((((((w5).setCell ⟨M, 0, none⟩ (.bool _)).setCell ⟨M, 1, none⟩ (.int .i64 _)).setCell ⟨M, 2, none⟩ (.bool _)).setCell ⟨M, 3, none⟩ (.string _)).setCell ⟨M, 4, none⟩ (.string _)).setCell ⟨M, 5, none⟩ (.slice _ _ _) = wf
        have HWF := rule_set' M5.out hwf.symm B5.out HM0.out
        clear hwf
        exact rule_ret HWF rfl ⟨rfl, rfl⟩
      | true =>
      cases o3 with
      | false =>
        obtain ⟨m0, m1, m2, m3, m4, m5⟩ := cell6_of M5.out
        have fz : ∀ j, w5.frozen? ⟨M, j, none⟩ = false := fun j => by have := M5.out; simp [World.frozen?, this]
        go_wp2_with (fail)
        generalize hwf : ((((((w5).setCell ⟨M, 0, none⟩ (.bool _)).setCell ⟨M, 1, none⟩ (.int .i64 _)).setCell ⟨M, 2, none⟩ (.bool _)).setCell ⟨M, 3, none⟩ (.string _)).setCell ⟨M, 4, none⟩ (.string _)).setCell ⟨M, 5, none⟩ (.slice _ _ _) = wf
        have HWF := rule_set' M5.out hwf.symm B5.out HM0.out
        clear hwf
        exact rule_ret HWF rfl ⟨rfl, rfl⟩
      | true =>
          obtain ⟨k0, k1, k2, _, _, _⟩ := KB.out w5 D5.out
          obtain ⟨m0, m1, m2, m3, m4, m5⟩ := cell6_of M5.out
          have fz : ∀ j, w5.frozen? ⟨M, j, none⟩ = false := fun j => by have := M5.out; simp [World.frozen?, this]
          go_upto_region 9 with (fail)
          refine Own.region_mix (CR [2, 6, 10] [(2, ⟨q, 0, none⟩, .string x0), (6, ⟨q, 1, none⟩, .string x1), (10, ⟨q, 2, none⟩, .string x2)]) [2, 6, 10] [0, 1, 3, 7, 0, 16, 48, 112, 0, 256, 768, 1792, 0, 0, 0, 32767, 65535, 131071] (Own.Ord.run [(0, true), (1, true), (2, true), (3, true), (4, true), (5, true), (6, true), (8, true), (9, true), (10, true), (11, true), (12, true), (13, true), (14, true), (7, false), (15, false), (16, false), (17, true)] .done) (by kernel_rfl) (by kernel_rfl) (fun dst v c a w h => by cases dst <;> exact h) (fun x hx w => CR.off x hx w) ?_
          simp only [Own.Ord.run]
          repeat (refine Own.st_blind _ rfl rfl (CR.off _ (by decide) _) ?_; go_big_quiet_step (fail); refine wpQuiet_nil ?_)
          refine Own.st_load _ rfl rfl (.string x0) (fun w' hw' => ?_) ?_ ?_
          · have hg0 := hw'.get (a := ⟨q, 0, none⟩) (v := .string x0) (by decide) (by simp)
            go_simp
          · intro _ q hq e; simp only [List.mem_cons, List.mem_nil_iff, or_false] at hq; rcases hq with rfl | rfl | rfl <;> first | assumption | (simp at e; done) | (go_simp; done) | (simp; done)
          simp only [Act.put, List.setIfInBounds_toArray, List.set_cons_succ, List.set_cons_zero]
          repeat (refine Own.st_blind _ rfl rfl (CR.off _ (by decide) _) ?_; go_big_quiet_step (fail); refine wpQuiet_nil ?_)
          refine Own.st_load _ rfl rfl (.string x1) (fun w' hw' => ?_) ?_ ?_
          · have hg0 := hw'.get (a := ⟨q, 1, none⟩) (v := .string x1) (by decide) (by simp)
            go_simp
          · intro _ q hq e; simp only [List.mem_cons, List.mem_nil_iff, or_false] at hq; rcases hq with rfl | rfl | rfl <;> first | assumption | (simp at e; done) | (go_simp; done) | (simp; done)
          simp only [Act.put, List.setIfInBounds_toArray, List.set_cons_succ, List.set_cons_zero]
          repeat (refine Own.st_blind _ rfl rfl (CR.off _ (by decide) _) ?_; go_big_quiet_step (fail); refine wpQuiet_nil ?_)
          refine Own.st_load _ rfl rfl (.string x2) (fun w' hw' => ?_) ?_ ?_
          · have hg0 := hw'.get (a := ⟨q, 2, none⟩) (v := .string x2) (by decide) (by simp)
            go_simp
          · intro _ q hq e; simp only [List.mem_cons, List.mem_nil_iff, or_false] at hq; rcases hq with rfl | rfl | rfl <;> first | assumption | (simp at e; done) | (go_simp; done) | (simp; done)
          simp only [Act.put, List.setIfInBounds_toArray, List.set_cons_succ, List.set_cons_zero]
          repeat (refine Own.st_blind _ rfl rfl (CR.off _ (by decide) _) ?_; go_big_quiet_step (fail); refine wpQuiet_nil ?_)
          refine Own.st_do _ rfl rfl (fun K hK => ?_)
          go_simp
          refine (CF.out _).mono ?_
          rintro e wf ⟨rfl, hwf⟩
          subst hwf
          refine hK _ _ (fun q hq hd _ => ?_) ?_
          · intro _ q hq e; simp only [List.mem_cons, List.mem_nil_iff, or_false] at hq; rcases hq with rfl | rfl | rfl <;> first | assumption | (simp at e; done) | (go_simp; done) | (simp; done)
          clear hK K
          refine Own.st_do _ rfl rfl (fun K hK => ?_)
          go_simp
          refine hK _ _ (fun q hq hd => by rw [(by decide : ∀ x ∈ [2, 6, 10], Own.dep [0, 1, 3, 7, 0, 16, 48, 112, 0, 256, 768, 1792, 0, 0, 0, 32767, 65535, 131071] 15 x = true) q hq] at hd; cases hd) ?_
          clear hK K
          refine Own.st_do _ rfl rfl (fun K hK => ?_)
          go_simp
          generalize hwf : ((((((w5).setCell ⟨M, 0, none⟩ (.bool _)).setCell ⟨M, 1, none⟩ (.int .i64 _)).setCell ⟨M, 2, none⟩ (.bool _)).setCell ⟨M, 3, none⟩ (.string _)).setCell ⟨M, 4, none⟩ (.string _)).setCell ⟨M, 5, none⟩ (.slice _ _ _) = wf
          have HWF := Lib.hid (rule_set' M5.out hwf.symm B5.out HM0.out)
          clear hwf
          refine hK _ _ (fun q hq hd => by rw [(by decide : ∀ x ∈ [2, 6, 10], Own.dep [0, 1, 3, 7, 0, 16, 48, 112, 0, 256, 768, 1792, 0, 0, 0, 32767, 65535, 131071] 16 x = true) q hq] at hd; cases hd) ?_
          clear hK K
          repeat (refine Own.st_blind _ rfl rfl (CR.off _ (by decide) _) ?_; go_big_quiet_step (fail); refine wpQuiet_nil ?_)
          refine Own.mix_done ?_
          go_wp2_with (fail)
          first | exact rule_ret HWF.out rfl ⟨rfl, rfl⟩ | exact rule_ret HWF.out.drew rfl ⟨rfl, rfl⟩
  · have g1 : ((ws.length : Int) == 6) = false := by simp; omega
    have g2 : ((ws.length : Int) != 6) = true := by simp; omega
    clear h6
    obtain ⟨m0, m1, m2, m3, m4, m5⟩ := cell6_of M2.out
    have fz : ∀ j, w2.frozen? ⟨M, j, none⟩ = false := fun j => by have := M2.out; simp [World.frozen?, this]
    go_wp2_with (fail)
    generalize hwf : ((((((w2).setCell ⟨M, 0, none⟩ (.bool _)).setCell ⟨M, 1, none⟩ (.int .i64 _)).setCell ⟨M, 2, none⟩ (.bool _)).setCell ⟨M, 3, none⟩ (.string _)).setCell ⟨M, 4, none⟩ (.string _)).setCell ⟨M, 5, none⟩ (.slice _ _ _) = wf
    have HWF := rule_set' M2.out hwf.symm B2.out HM0.out
    clear hwf
    exact rule_ret HWF rfl ⟨rfl, rfl⟩
end Go.Proofs.YtmpckoincdkeeaaDoor

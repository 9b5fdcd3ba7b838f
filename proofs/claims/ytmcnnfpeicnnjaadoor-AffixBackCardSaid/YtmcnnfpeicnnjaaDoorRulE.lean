/- rule.Text, rule.Check. -/
import Derived.Test.YtmcnnfpeicnnjaaDoorRulD
namespace Go.Proofs.YtmcnnfpeicnnjaaDoor
open Go.RowKit Go.Deep Go.Own
set_option linter.unusedVariables false
theorem fit_read {s : ByteArray} {r : RuP} (h : ruleV s = some r) (hs : s.size ≤ 1000) : FitR r := by
  have hv := rule_read h
  unfold ruleV at h
  split at h
  · rename_i a b c d e f hc
    have hz : ∀ x ∈ [a, b, c, d, e, f], x.size ≤ s.size := fun x hx => cutB_size (c := 32) (by rw [hc]; exact hx)
    have zf := hz f (by simp)
    unfold fieldsV at h
    split at h
    · cases hd : affV d with
      | none => rw [hd] at h; cases h
      | some s1 =>
        cases he : affV e with
        | none => rw [hd, he] at h; cases h
        | some s2 =>
          cases hf : condV f with
          | none => rw [hd, he, hf] at h; cases h
          | some l =>
            rw [hd, he, hf] at h
            cases h
            obtain ⟨c1, c2, c3, c4⟩ := cond_read hf
            refine ⟨hv, small_read hf (by omega), ?_, (aff_read hd).2.1, (aff_read he).2.1⟩
            have h1 := text_small 1000 l (fun x hx => by have := c4 x hx; omega)
            have h2 : l.length * (4 * 1000 + 3) ≤ 8 * (4 * 1000 + 3) := Nat.mul_le_mul_right _ c3
            show (textIs l).length ≤ 900000
            omega
    · cases h
  · cases h
theorem line_small {r : RuP} (h : FitR r) : (lineT r).size ≤ 900100 := by
  have hz : ∀ s : ByteArray, s.data.toList.length = s.size := fun s => by simp
  rw [lnT, mk_size]
  simp only [List.length_append, List.length_cons, List.length_nil, hz]
  have e1 : (lnP r.pfx).size = 3 := by cases r.pfx <;> rfl
  have e2 : (lnX r.cross).size = 1 := by cases r.cross <;> rfl
  have e3 : (⟨#[r.flag.toUInt8]⟩ : ByteArray).size = 1 := rfl
  have e4 : ∀ s : ByteArray, s.size ≤ 20 → (or0 s).size ≤ 20 := fun s h => by unfold or0; split <;> first | exact h | decide
  have h1 := e4 r.strip h.strip
  have h2 := e4 r.add h.add
  have h3 : (condT r.cond).size ≤ 900000 := by rw [condT_val h.val.cond h.val.ne h.val.len, mk_size]; exact h.text
  omega
set_option maxRecDepth 100000 in
set_option maxHeartbeats 16000000 in
theorem rtext_calls (r : RuP) (cs : Array Value) (w : World) (hr : GotR w cs r) (hf : FitR r) (hT : TabsL w) : Calls Tryd.prog 23 #[.agg cs] w fun e w' => e = .returned (.string (lineT r)) ∧ Below w.heap.size w w' := by
  obtain ⟨A, c, hcs, hi⟩ := hr.out
  subst hcs
  obtain ⟨M, hM⟩ : ∃ M, M = w.heap.size := ⟨_, rfl⟩
  obtain ⟨w1, hw1⟩ : ∃ w1, w1 = w.alloc (.cells #[.bool r.pfx, .int .i64 (r.flag : Nat), .bool r.cross, .string r.strip, .string r.add, .slice A r.cond.length c] 47) := ⟨_, rfl⟩
  have b1 : Below w.heap.size w w1 := by rw [hw1]; exact (Below.refl _ _).alloc (Nat.le_refl _) _
  have m1 : w1.heap[M]? = some (.cells #[.bool r.pfx, .int .i64 (r.flag : Nat), .bool r.cross, .string r.strip, .string r.add, .slice A r.cond.length c] 47 (0, 0)) := by rw [hw1, hM]; exact blk_alloc_new _ _
  have CT := Lib.hid (rline_calls r _ w1 (hr.below b1) hf (hT.below b1))
  have CC := Lib.hid (fun A c w2 (hb : Below w.heap.size w w2) (hg : GotI w2 (.slice A r.cond.length c) r.cond) => ctext_calls r.cond _ w2 hg hf.val.cond hf.small hf.text (hT.below hb))
  have HL := Lib.hid (ruleT_val hf.val).2
  have HI := Lib.hid (hi.below b1)
  have hLz := line_small hf
  obtain ⟨L, hL⟩ : ∃ L, L = lineT r := ⟨_, rfl⟩
  rw [← hL] at HL CT hLz
  rw [← hL]
  have CP := Lib.hid (fun w2 (hb : Below w.heap.size w w2) => rparse_got L w2 (by omega) (hT.below hb))
  unfold GRPost at CP
  obtain ⟨T, hTx⟩ : ∃ T, T = condT r.cond := ⟨_, rfl⟩
  rw [← hTx] at CC
  have HB1 := Lib.hid b1
  have HM1 := Lib.hid m1
  have HW1 := Lib.hid (And.intro hw1 hM)
  obtain ⟨n, hn⟩ : ∃ n, n = r.cond.length := ⟨_, rfl⟩
  obtain ⟨rr, hrr⟩ : ∃ rr, rr = r := ⟨_, rfl⟩
  have HRR := Lib.hid hrr
  rw [← hrr] at HL
  rw [← hn] at CT HM1 HW1 HI CC
  rw [← hn]
  obtain ⟨pf, u, cr, st, ad, cd⟩ := r
  simp only at HM1 HW1 HB1 CT HI CC hn ⊢
  have HNC := Lib.hid hn
  have gb : ∀ b : Bool, (b != b) = false := fun b => by cases b <;> rfl
  have gp := gb pf
  have gc := gb cr
  clear hr hf hT hi b1 m1 hw1 hM hTx hn hL hrr gb
  go_enter Tryd.func23, Tryd.ntmps23
  go_upto_region 1 with (fail)
  rw [← HW1.out.1, ← HW1.out.2]
  clear HW1
  obtain ⟨m0, mm1, m2, m3, m4, m5⟩ := cell6_of HM1.out
  go_wp2_with (fail)
  refine CT.out.mono ?_
  rintro e w2 ⟨rfl, b2⟩
  have B2 := Lib.hid (HB1.out.trans (b2.mono HB1.out.size))
  have BB := Lib.hid b2
  clear CT b2 m0 mm1 m2 m3 m4 m5
  go_wp2_with (fail)
  refine (CP.out _ B2.out).mono ?_
  rintro e w3 ⟨⟨cs2, x, ok, rfl, g3, h1, h2⟩, b3⟩
  have hok : ok = true := by
    cases ok with
    | true => rfl
    | false => have := (h2 rfl).1; rw [HL.out.1] at this; cases this
  subst hok
  have hx : x = rr := by have := h1 rfl; rw [HL.out.1] at this; exact (Option.some.inj this).symm
  subst hx
  rw [HRR.out] at g3
  obtain ⟨A2, c2, hcs2, hi3⟩ := g3.out
  simp only at hcs2 hi3
  rw [← HNC.out] at hcs2 hi3
  subst hcs2
  have B3 := Lib.hid (B2.out.trans (b3.mono B2.out.size))
  have I1 := Lib.hid ((HI.out.below BB.out).below b3)
  obtain ⟨w4, hw4⟩ : ∃ w4, w4 = w3.alloc (.cells #[.bool pf, .int .i64 (u : Nat), .bool cr, .string st, .string ad, .slice A2 n c2] 47) := ⟨_, rfl⟩
  obtain ⟨N, hN⟩ : ∃ N, N = w3.heap.size := ⟨_, rfl⟩
  have b4 : Below w3.heap.size w3 w4 := by rw [hw4]; exact (Below.refl _ _).alloc (Nat.le_refl _) _
  have n4 : w4.heap[N]? = some (.cells #[.bool pf, .int .i64 (u : Nat), .bool cr, .string st, .string ad, .slice A2 n c2] 47 (0, 0)) := by rw [hw4, hN]; exact blk_alloc_new _ _
  have mq : w4.heap[M]? = some (.cells #[.bool pf, .int .i64 (u : Nat), .bool cr, .string st, .string ad, .slice A n c] 47 (0, 0)) := by
    have := (BB.out.block _ (Array.getElem?_eq_some_iff.1 HM1.out).1).trans HM1.out
    have := (b3.block _ (Array.getElem?_eq_some_iff.1 this).1).trans this
    exact (b4.block _ (Array.getElem?_eq_some_iff.1 this).1).trans this
  have HN := Lib.hid (fun wx (hb : Below w4.heap.size w4 wx) => (hb.block _ (Array.getElem?_eq_some_iff.1 n4).1).trans n4)
  have HM := Lib.hid (fun wx (hb : Below w4.heap.size w4 wx) => (hb.block _ (Array.getElem?_eq_some_iff.1 mq).1).trans mq)
  have B4 := Lib.hid (B3.out.trans (b4.mono B3.out.size))
  have CN := Lib.hid (fun wx (hb : Below w4.heap.size w4 wx) => CC.out A2 c2 wx (B4.out.trans (hb.mono B4.out.size)) ((hi3.below b4).below hb))
  have CM := Lib.hid (fun wx (hb : Below w4.heap.size w4 wx) => CC.out A c wx (B4.out.trans (hb.mono B4.out.size)) ((I1.out.below b4).below hb))
  have HW4 := Lib.hid (And.intro hw4 hN)
  clear CP b3 hi3 g3 h1 h2 hw4 hN b4 n4 mq CC HI HM1 BB HL HRR HNC I1
  go_upto_region 3 with (fail)
  rw [← HW4.out.1, ← HW4.out.2]
  clear HW4
  obtain ⟨m0, mm1, m2, m3, m4, m5⟩ := cell6_of (HM.out _ (Below.refl _ _))
  obtain ⟨n0, n1, n2, n3, n4, n5⟩ := cell6_of (HN.out _ (Below.refl _ _))
  have BD := Lib.hid (show Below w4.heap.size w4 w4.drew from (Below.refl _ _).drew)
  refine Own.region_mix (CR [4, 6, 11, 13, 18, 20, 25, 27, 32, 34, 39, 42] [(4, ⟨N, 0, none⟩, .bool pf), (6, ⟨M, 0, none⟩, .bool pf), (11, ⟨N, 1, none⟩, .int .i64 (u : Nat)), (13, ⟨M, 1, none⟩, .int .i64 (u : Nat)), (18, ⟨N, 2, none⟩, .bool cr), (20, ⟨M, 2, none⟩, .bool cr), (25, ⟨N, 3, none⟩, .string st), (27, ⟨M, 3, none⟩, .string st), (32, ⟨N, 4, none⟩, .string ad), (34, ⟨M, 4, none⟩, .string ad), (39, ⟨N, 5, none⟩, .slice A2 n c2), (42, ⟨M, 5, none⟩, .slice A n c)]) [4, 6, 11, 13, 18, 20, 25, 27, 32, 34, 39, 42] [0, 1, 3, 7, 15, 7, 39, 127, 255, 511, 1023, 2047, 1023, 5119, 16383, 32767, 65535, 131071, 262143, 131071, 655359, 2097151, 4194303, 8388607, 16777215, 33554431, 16777215, 83886079, 268435455, 536870911, 1073741823, 2147483647, 4294967295, 2147483647, 10737418239, 34359738367, 68719476735, 137438953471, 274877906943, 549755813887, 1099511627775, 274877906943, 2473901162495, 8796093022207, 17592186044415, 35184372088831] (Own.Ord.run [(0, true), (1, true), (2, true), (3, true), (4, true), (5, true), (6, true), (7, true), (8, true), (9, true), (10, true), (11, true), (12, true), (13, true), (14, true), (15, true), (16, true), (17, true), (18, true), (19, true), (20, true), (21, true), (22, true), (23, true), (24, true), (25, true), (26, true), (27, true), (28, true), (29, true), (30, true), (31, true), (32, true), (33, true), (34, true), (35, true), (36, true), (37, true), (38, true), (39, true), (41, true), (42, true), (40, false), (43, false), (44, true), (45, true)] .done) (by kernel_rfl) (by kernel_rfl) (fun dst v c a w h => by cases dst <;> exact h) (fun x hx w => CR.off x hx w) ?_
  simp only [Own.Ord.run]
  repeat (refine Own.st_blind _ rfl rfl (CR.off _ (by decide) _) ?_; go_big_quiet_step (fail); refine wpQuiet_nil ?_)
  refine Own.st_load _ rfl rfl (.bool pf) (fun w' hw' => ?_) ?_ ?_
  · have hg0 := hw'.get (a := ⟨N, 0, none⟩) (v := .bool pf) (by decide) (by simp)
    go_simp
  · intro _ q hq e; simp only [List.mem_cons, List.mem_nil_iff, or_false] at hq; rcases hq with rfl | rfl | rfl | rfl | rfl | rfl | rfl | rfl | rfl | rfl | rfl | rfl <;> first | assumption | (simp at e; done) | (go_simp; done) | (simp; done)
  simp only [Act.put, List.setIfInBounds_toArray, List.set_cons_succ, List.set_cons_zero]
  repeat (refine Own.st_blind _ rfl rfl (CR.off _ (by decide) _) ?_; go_big_quiet_step (fail); refine wpQuiet_nil ?_)
  refine Own.st_load _ rfl rfl (.bool pf) (fun w' hw' => ?_) ?_ ?_
  · have hg0 := hw'.get (a := ⟨M, 0, none⟩) (v := .bool pf) (by decide) (by simp)
    go_simp
  · intro _ q hq e; simp only [List.mem_cons, List.mem_nil_iff, or_false] at hq; rcases hq with rfl | rfl | rfl | rfl | rfl | rfl | rfl | rfl | rfl | rfl | rfl | rfl <;> first | assumption | (simp at e; done) | (go_simp; done) | (simp; done)
  simp only [Act.put, List.setIfInBounds_toArray, List.set_cons_succ, List.set_cons_zero]
  repeat (refine Own.st_blind _ rfl rfl (CR.off _ (by decide) _) ?_; go_big_quiet_step (fail); refine wpQuiet_nil ?_)
  refine Own.st_load _ rfl rfl (.int .i64 (u : Nat)) (fun w' hw' => ?_) ?_ ?_
  · have hg0 := hw'.get (a := ⟨N, 1, none⟩) (v := .int .i64 (u : Nat)) (by decide) (by simp)
    go_simp
  · intro _ q hq e; simp only [List.mem_cons, List.mem_nil_iff, or_false] at hq; rcases hq with rfl | rfl | rfl | rfl | rfl | rfl | rfl | rfl | rfl | rfl | rfl | rfl <;> first | assumption | (simp at e; done) | (go_simp; done) | (simp; done)
  simp only [Act.put, List.setIfInBounds_toArray, List.set_cons_succ, List.set_cons_zero]
  repeat (refine Own.st_blind _ rfl rfl (CR.off _ (by decide) _) ?_; go_big_quiet_step (fail); refine wpQuiet_nil ?_)
  refine Own.st_load _ rfl rfl (.int .i64 (u : Nat)) (fun w' hw' => ?_) ?_ ?_
  · have hg0 := hw'.get (a := ⟨M, 1, none⟩) (v := .int .i64 (u : Nat)) (by decide) (by simp)
    go_simp
  · intro _ q hq e; simp only [List.mem_cons, List.mem_nil_iff, or_false] at hq; rcases hq with rfl | rfl | rfl | rfl | rfl | rfl | rfl | rfl | rfl | rfl | rfl | rfl <;> first | assumption | (simp at e; done) | (go_simp; done) | (simp; done)
  simp only [Act.put, List.setIfInBounds_toArray, List.set_cons_succ, List.set_cons_zero]
  repeat (refine Own.st_blind _ rfl rfl (CR.off _ (by decide) _) ?_; go_big_quiet_step (fail); refine wpQuiet_nil ?_)
  refine Own.st_load _ rfl rfl (.bool cr) (fun w' hw' => ?_) ?_ ?_
  · have hg0 := hw'.get (a := ⟨N, 2, none⟩) (v := .bool cr) (by decide) (by simp)
    go_simp
  · intro _ q hq e; simp only [List.mem_cons, List.mem_nil_iff, or_false] at hq; rcases hq with rfl | rfl | rfl | rfl | rfl | rfl | rfl | rfl | rfl | rfl | rfl | rfl <;> first | assumption | (simp at e; done) | (go_simp; done) | (simp; done)
  simp only [Act.put, List.setIfInBounds_toArray, List.set_cons_succ, List.set_cons_zero]
  repeat (refine Own.st_blind _ rfl rfl (CR.off _ (by decide) _) ?_; go_big_quiet_step (fail); refine wpQuiet_nil ?_)
  refine Own.st_load _ rfl rfl (.bool cr) (fun w' hw' => ?_) ?_ ?_
  · have hg0 := hw'.get (a := ⟨M, 2, none⟩) (v := .bool cr) (by decide) (by simp)
    go_simp
  · intro _ q hq e; simp only [List.mem_cons, List.mem_nil_iff, or_false] at hq; rcases hq with rfl | rfl | rfl | rfl | rfl | rfl | rfl | rfl | rfl | rfl | rfl | rfl <;> first | assumption | (simp at e; done) | (go_simp; done) | (simp; done)
  simp only [Act.put, List.setIfInBounds_toArray, List.set_cons_succ, List.set_cons_zero]
  repeat (refine Own.st_blind _ rfl rfl (CR.off _ (by decide) _) ?_; go_big_quiet_step (fail); refine wpQuiet_nil ?_)
  refine Own.st_load _ rfl rfl (.string st) (fun w' hw' => ?_) ?_ ?_
  · have hg0 := hw'.get (a := ⟨N, 3, none⟩) (v := .string st) (by decide) (by simp)
    go_simp
  · intro _ q hq e; simp only [List.mem_cons, List.mem_nil_iff, or_false] at hq; rcases hq with rfl | rfl | rfl | rfl | rfl | rfl | rfl | rfl | rfl | rfl | rfl | rfl <;> first | assumption | (simp at e; done) | (go_simp; done) | (simp; done)
  simp only [Act.put, List.setIfInBounds_toArray, List.set_cons_succ, List.set_cons_zero]
  repeat (refine Own.st_blind _ rfl rfl (CR.off _ (by decide) _) ?_; go_big_quiet_step (fail); refine wpQuiet_nil ?_)
  refine Own.st_load _ rfl rfl (.string st) (fun w' hw' => ?_) ?_ ?_
  · have hg0 := hw'.get (a := ⟨M, 3, none⟩) (v := .string st) (by decide) (by simp)
    go_simp
  · intro _ q hq e; simp only [List.mem_cons, List.mem_nil_iff, or_false] at hq; rcases hq with rfl | rfl | rfl | rfl | rfl | rfl | rfl | rfl | rfl | rfl | rfl | rfl <;> first | assumption | (simp at e; done) | (go_simp; done) | (simp; done)
  simp only [Act.put, List.setIfInBounds_toArray, List.set_cons_succ, List.set_cons_zero]
  repeat (refine Own.st_blind _ rfl rfl (CR.off _ (by decide) _) ?_; go_big_quiet_step (fail); refine wpQuiet_nil ?_)
  refine Own.st_load _ rfl rfl (.string ad) (fun w' hw' => ?_) ?_ ?_
  · have hg0 := hw'.get (a := ⟨N, 4, none⟩) (v := .string ad) (by decide) (by simp)
    go_simp
  · intro _ q hq e; simp only [List.mem_cons, List.mem_nil_iff, or_false] at hq; rcases hq with rfl | rfl | rfl | rfl | rfl | rfl | rfl | rfl | rfl | rfl | rfl | rfl <;> first | assumption | (simp at e; done) | (go_simp; done) | (simp; done)
  simp only [Act.put, List.setIfInBounds_toArray, List.set_cons_succ, List.set_cons_zero]
  repeat (refine Own.st_blind _ rfl rfl (CR.off _ (by decide) _) ?_; go_big_quiet_step (fail); refine wpQuiet_nil ?_)
  refine Own.st_load _ rfl rfl (.string ad) (fun w' hw' => ?_) ?_ ?_
  · have hg0 := hw'.get (a := ⟨M, 4, none⟩) (v := .string ad) (by decide) (by simp)
    go_simp
  · intro _ q hq e; simp only [List.mem_cons, List.mem_nil_iff, or_false] at hq; rcases hq with rfl | rfl | rfl | rfl | rfl | rfl | rfl | rfl | rfl | rfl | rfl | rfl <;> first | assumption | (simp at e; done) | (go_simp; done) | (simp; done)
  simp only [Act.put, List.setIfInBounds_toArray, List.set_cons_succ, List.set_cons_zero]
  repeat (refine Own.st_blind _ rfl rfl (CR.off _ (by decide) _) ?_; go_big_quiet_step (fail); refine wpQuiet_nil ?_)
  refine Own.st_load _ rfl rfl (.slice A2 n c2) (fun w' hw' => ?_) ?_ ?_
  · have hg0 := hw'.get (a := ⟨N, 5, none⟩) (v := .slice A2 n c2) (by decide) (by simp)
    go_simp
  · intro _ q hq e; simp only [List.mem_cons, List.mem_nil_iff, or_false] at hq; rcases hq with rfl | rfl | rfl | rfl | rfl | rfl | rfl | rfl | rfl | rfl | rfl | rfl <;> first | assumption | (simp at e; done) | (go_simp; done) | (simp; done)
  simp only [Act.put, List.setIfInBounds_toArray, List.set_cons_succ, List.set_cons_zero]
  repeat (refine Own.st_blind _ rfl rfl (CR.off _ (by decide) _) ?_; go_big_quiet_step (fail); refine wpQuiet_nil ?_)
  refine Own.st_load _ rfl rfl (.slice A n c) (fun w' hw' => ?_) ?_ ?_
  · have hg0 := hw'.get (a := ⟨M, 5, none⟩) (v := .slice A n c) (by decide) (by simp)
    go_simp
  · intro _ q hq e; simp only [List.mem_cons, List.mem_nil_iff, or_false] at hq; rcases hq with rfl | rfl | rfl | rfl | rfl | rfl | rfl | rfl | rfl | rfl | rfl | rfl <;> first | assumption | (simp at e; done) | (go_simp; done) | (simp; done)
  simp only [Act.put, List.setIfInBounds_toArray, List.set_cons_succ, List.set_cons_zero]
  refine Own.st_do _ rfl rfl (fun K hK => ?_)
  go_simp
  refine (CN.out _ BD.out).mono ?_
  rintro e w6 ⟨rfl, hb6⟩
  have BW6 := Lib.hid (BD.out.trans (hb6.mono BD.out.size))
  clear hb6
  obtain ⟨m0, mm1, m2, m3, m4, m5⟩ := cell6_of (HM.out _ BW6.out)
  obtain ⟨n0, n1, n2, n3, n4, n5⟩ := cell6_of (HN.out _ BW6.out)
  refine hK _ _ (fun q hq hd _ => ?_) ?_
  · intro _ q hq e; simp only [List.mem_cons, List.mem_nil_iff, or_false] at hq; rcases hq with rfl | rfl | rfl | rfl | rfl | rfl | rfl | rfl | rfl | rfl | rfl | rfl <;> first | assumption | (simp at e; done) | (go_simp; done) | (simp; done)
  clear hK K
  refine Own.st_do _ rfl rfl (fun K hK => ?_)
  go_simp
  refine (CM.out _ BW6.out).mono ?_
  rintro e w7 ⟨rfl, hb7⟩
  have BW7 := Lib.hid (BW6.out.trans (hb7.mono BW6.out.size))
  clear hb7
  obtain ⟨m0, mm1, m2, m3, m4, m5⟩ := cell6_of (HM.out _ BW7.out)
  obtain ⟨n0, n1, n2, n3, n4, n5⟩ := cell6_of (HN.out _ BW7.out)
  refine hK _ _ (fun q hq hd => by rw [(by decide : ∀ x ∈ [4, 6, 11, 13, 18, 20, 25, 27, 32, 34, 39, 42], Own.dep [0, 1, 3, 7, 15, 7, 39, 127, 255, 511, 1023, 2047, 1023, 5119, 16383, 32767, 65535, 131071, 262143, 131071, 655359, 2097151, 4194303, 8388607, 16777215, 33554431, 16777215, 83886079, 268435455, 536870911, 1073741823, 2147483647, 4294967295, 2147483647, 10737418239, 34359738367, 68719476735, 137438953471, 274877906943, 549755813887, 1099511627775, 274877906943, 2473901162495, 8796093022207, 17592186044415, 35184372088831] 43 x = true) q hq] at hd; cases hd) ?_
  clear hK K
  repeat (refine Own.st_blind _ rfl rfl (CR.off _ (by decide) _) ?_; go_big_quiet_step (fail); refine wpQuiet_nil ?_)
  refine Own.mix_done ?_
  have B9 := Lib.hid (B4.out.trans (BW7.out.mono B4.out.size))
  clear BD BW6 BW7 m0 mm1 m2 m3 m4 m5 n0 n1 n2 n3 n4 n5 CN CM HM HN
  go_wp2_with (fail)
  go_ret
  exact ⟨rfl, B9.out⟩
set_option maxRecDepth 100000 in
set_option maxHeartbeats 16000000 in
theorem rcheck_calls (r : RuP) (cs : Array Value) (w : World) (hr : GotR w cs r) (hf : FitR r) (hT : TabsL w) : Calls Tryd.prog 24 #[.agg cs] w fun e w' => e = .returned (.bool true) ∧ Below w.heap.size w w' := by
  obtain ⟨A, c, hcs, hi⟩ := hr.out
  obtain ⟨M, hM⟩ : ∃ M, M = w.heap.size := ⟨_, rfl⟩
  obtain ⟨w1, hw1⟩ : ∃ w1, w1 = w.alloc (.cells cs 47) := ⟨_, rfl⟩
  have b1 : Below w.heap.size w w1 := by rw [hw1]; exact (Below.refl _ _).alloc (Nat.le_refl _) _
  have m1 : w1.heap[M]? = some (.cells cs 47 (0, 0)) := by rw [hw1, hM]; exact blk_alloc_new _ _
  have CT := Lib.hid (rtext_calls r _ w1 (hr.below b1) hf (hT.below b1))
  have HL := Lib.hid (ruleT_val hf.val).2.2
  obtain ⟨L, hL⟩ : ∃ L, L = lineT r := ⟨_, rfl⟩
  rw [← hL] at HL CT
  have k1 := isEmpty_not HL.out
  subst hcs
  have HB1 := Lib.hid b1
  have HW1 := Lib.hid (And.intro hw1 hM)
  obtain ⟨m0, mm1, m2, m3, m4, m5⟩ := cell6_of m1
  clear hr hf hT hi b1 m1 hw1 hM hL
  go_enter Tryd.func24, Tryd.ntmps24
  go_upto_region 1 with (fail)
  rw [← HW1.out.1, ← HW1.out.2]
  clear HW1
  go_wp2_with (fail)
  refine CT.out.mono ?_
  rintro e w2 ⟨rfl, b2⟩
  have B2 := Lib.hid (HB1.out.trans (b2.mono HB1.out.size))
  clear CT b2 m0 mm1 m2 m3 m4 m5
  go_wp2_with (fail)
  go_ret
  exact ⟨by first | rfl | (rw [k1]; rfl), B2.out⟩
end Go.Proofs.YtmcnnfpeicnnjaaDoor

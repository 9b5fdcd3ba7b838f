/- FoldTwice. -/
import Derived.Test.YtmpckoincdkeeaaDoorFoldT
import Derived.Test.YtmpckoincdkeeaaDoorRAff
import Derived.Test.YtmpckoincdkeeaaDoorFoldE
namespace Go.Proofs.YtmpckoincdkeeaaDoor
open Go.RowKit Go.Deep Go.Own Go.Maps
set_option linter.unusedVariables false
set_option maxRecDepth 100000 in
set_option maxHeartbeats 16000000 in
theorem foldTwice_calls (file s : ByteArray) (w : World) (h1 : file.size ≤ 140737488351232) (h2 : s.size ≤ 140737488351232) (hT : Tabs2 w) :
    Calls Tryd.prog 3 #[.string file, .string s] w fun e w' => e = .returned (.bool true) ∧ Below w.heap.size w w' := by
  have CK := Lib.hid (fun (wx : World) (h : Below w.heap.size w wx) => fawake_calls wx (hT.below h))
  have HT := Lib.hid hT
  clear hT
  by_cases hb1 : 1000 < file.size
  · have g1 : decide (1000 < (file.size : Int)) = true := by simp; omega
    have C0 := Lib.hid (CK.out w (Below.refl _ _))
    clear hb1 CK
    go_enter Tryd.func3, Tryd.ntmps3
    go_wp2_with (fail)
    refine C0.out.mono ?_
    rintro e w1 ⟨rfl, b1⟩
    go_wp2_with (fail)
    go_ret
    exact ⟨rfl, b1⟩
  have g1 : decide (1000 < (file.size : Int)) = false := by simp; omega
  by_cases hb2 : 500 < s.size
  · have g2 : decide (500 < (s.size : Int)) = true := by simp; omega
    have C0 := Lib.hid (CK.out w (Below.refl _ _))
    clear hb1 hb2 CK
    go_enter Tryd.func3, Tryd.ntmps3
    go_wp2_with (fail)
    refine C0.out.mono ?_
    rintro e w1 ⟨rfl, b1⟩
    go_wp2_with (fail)
    go_ret
    exact ⟨rfl, b1⟩
  have g2 : decide (500 < (s.size : Int)) = false := by simp; omega
  have CA := Lib.hid (aff_calls file w (by omega))
  unfold AffPost at CA
  have HZ := Lib.hid (show s.size ≤ 500 by omega)
  clear hb1 hb2 h1 h2
  go_enter Tryd.func3, Tryd.ntmps3
  go_upto_region 3 with (fail)
  go_wp2_with (fail)
  refine CA.out.mono ?_
  rintro e w1 ⟨⟨A1, n1, c1, A2, c2, ps, ln, er, rfl, hg, hr, hl⟩, b1⟩
  obtain ⟨w2, hw2⟩ : ∃ w2, w2 = w1.alloc (.cells #[Value.slice A1 n1 c1, .slice A2 ps.length c2] 26) := ⟨_, rfl⟩
  obtain ⟨M, hM⟩ : ∃ M, M = w1.heap.size := ⟨_, rfl⟩
  have b2 : Below w1.heap.size w1 w2 := by rw [hw2]; exact (Below.refl _ _).alloc (Nat.le_refl _) _
  have B2 := Lib.hid (b1.trans (b2.mono b1.size))
  have m2 : w2.heap[M]? = some (.cells #[Value.slice A1 n1 c1, .slice A2 ps.length c2] 26 (0, 0)) := by rw [hw2, hM]; exact blk_alloc_new _ _
  have R2 := Lib.hid (hr.below b2)
  have HG := Lib.hid hg
  have HL := Lib.hid hl
  have HM := Lib.hid (show ∀ wx, Below w2.heap.size w2 wx → wx.cell? ⟨M, 1, none⟩ = some (.slice A2 ps.length c2) from fun wx hb => (cell2_of ((hb.block _ (Array.getElem?_eq_some_iff.1 m2).1).trans m2)).2)
  clear CA hg hr hl b1 b2 m2
  go_upto_region 4 with (fail)
  rw [← hw2, ← hM]
  clear hw2 hM
  by_cases he : er = 0
  · subst he
    obtain ⟨t, ht⟩ : ∃ t, t = turnS (smallF ps) s s.size := ⟨_, rfl⟩
    have C1 := Lib.hid (small_calls ps s A2 c2 w2 R2.out HL.out HG.out.pairsV (by have := HZ.out; omega) (HT.out.below B2.out))
    rw [← ht] at C1
    have hcs : ∀ c ∈ codes t, smallF ps c = none := by rw [ht]; exact good_codes HG.out s
    have htz : t.size ≤ 2500 := by rw [ht]; have := turnS_fine (smallF ps) s s.size (small_v HG.out.pairsV); have := HZ.out; omega
    have HTZ := Lib.hid htz
    have E1 := Lib.hid (turn_same _ (small_v HG.out.pairsV) t hcs)
    have E2 := Lib.hid (shape_none (g := greatF ps) hcs)
    have e3 := shape_title (g := greatF ps) (great_v HG.out.pairsV) t hcs
    obtain ⟨ti, hti⟩ : ∃ ti, ti = turnS (greatF ps) t 1 := ⟨_, rfl⟩
    have htz2 : ti.size ≤ 12500 := by rw [hti]; have := turnS_fine (greatF ps) t 1 (great_v HG.out.pairsV); omega
    have HTZ2 := Lib.hid htz2
    rw [← hti] at e3
    obtain ⟨k, hk⟩ : ∃ k, k = shapeOf (smallF ps) (greatF ps) (codes ti) := ⟨_, rfl⟩
    rw [← hk] at e3
    have HTI := Lib.hid hti
    have HK := Lib.hid hk
    have E3 := Lib.hid e3
    have x0 := HM.out w2 (Below.refl _ _)
    clear ht hcs htz hti htz2 hk e3
    go_upto_region 6 with (fail)
    go_wp2_with (fail)
    refine C1.out.mono ?_
    rintro e w3 ⟨rfl, b3⟩
    have B3 := Lib.hid b3
    have BW := Lib.hid (show ∀ wx, Below w3.heap.size w3 wx → Below w2.heap.size w2 wx from fun wx hb => B3.out.trans (hb.mono B3.out.size))
    have CT := Lib.hid (show ∀ wx, Below w3.heap.size w3 wx → Calls Tryd.prog 16 #[.slice A2 ps.length c2, .string t] wx fun e w' => e = .returned (.string ti) ∧ Below wx.heap.size wx w' from fun wx hb => by
      have := title_calls ps t A2 c2 wx (R2.out.below (BW.out _ hb)) HL.out HG.out.pairsV (by have := HTZ.out; omega) (HT.out.below (B2.out.trans ((BW.out _ hb).mono B2.out.size)))
      rw [← HTI.out] at this
      exact this)
    have CS := Lib.hid (show ∀ wx, Below w3.heap.size w3 wx → Calls Tryd.prog 15 #[.slice A2 ps.length c2, .string ti] wx fun e w' => e = .returned (.int .i64 k) ∧ Below wx.heap.size wx w' from fun wx hb => by
      have := shape_calls ps ti A2 c2 wx (R2.out.below (BW.out _ hb)) HL.out HG.out.pairsV (by have := HTZ2.out; omega) (HT.out.below (B2.out.trans ((BW.out _ hb).mono B2.out.size)))
      rw [← HK.out] at this
      exact this)
    have xc1 := HM.out w3 b3
    clear C1 b3 x0
    go_upto_region 7 with (fail)
    refine Own.region_mix (CR [1, 3] [(1, ⟨M, 1, none⟩, .slice A2 ps.length c2), (3, ⟨M, 1, none⟩, .slice A2 ps.length c2)]) [1, 3] [0, 1, 0, 4, 0, 28, 63, 127] (Own.Ord.run [(0, true), (1, true), (2, true), (3, true), (4, true), (5, false), (6, false), (7, true)] .done) (by kernel_rfl) (by kernel_rfl) (fun dst v c a w h => by cases dst <;> exact h) (fun x hx w => CR.off x hx w) ?_
    simp only [Own.Ord.run]
    repeat (refine Own.st_blind _ rfl rfl (CR.off _ (by decide) _) ?_; go_big_quiet_step (fail); refine wpQuiet_nil ?_)
    refine Own.st_load _ rfl rfl (.slice A2 ps.length c2) (fun w' hw' => ?_) ?_ ?_
    · have hg0 := hw'.get (a := ⟨M, 1, none⟩) (v := .slice A2 ps.length c2) (by decide) (by simp)
      go_simp
    · intro _ q hq e; simp only [List.mem_cons, List.mem_nil_iff, or_false] at hq; rcases hq with rfl | rfl <;> first | assumption | (simp at e; done) | (go_simp; done) | (simp; done)
    simp only [Act.put, List.setIfInBounds_toArray, List.set_cons_succ, List.set_cons_zero]
    repeat (refine Own.st_blind _ rfl rfl (CR.off _ (by decide) _) ?_; go_big_quiet_step (fail); refine wpQuiet_nil ?_)
    refine Own.st_load _ rfl rfl (.slice A2 ps.length c2) (fun w' hw' => ?_) ?_ ?_
    · have hg0 := hw'.get (a := ⟨M, 1, none⟩) (v := .slice A2 ps.length c2) (by decide) (by simp)
      go_simp
    · intro _ q hq e; simp only [List.mem_cons, List.mem_nil_iff, or_false] at hq; rcases hq with rfl | rfl <;> first | assumption | (simp at e; done) | (go_simp; done) | (simp; done)
    simp only [Act.put, List.setIfInBounds_toArray, List.set_cons_succ, List.set_cons_zero]
    repeat (refine Own.st_blind _ rfl rfl (CR.off _ (by decide) _) ?_; go_big_quiet_step (fail); refine wpQuiet_nil ?_)
    refine Own.st_do _ rfl rfl (fun K hK => ?_)
    go_simp
    refine (CT.out _ ((Below.refl _ _).drew)).mono ?_
    rintro e x1 ⟨rfl, hx1⟩
    have X1 := Lib.hid (show Below w3.heap.size w3 x1 by have h0 : Below w3.heap.size w3 (World.drew w3) := (Below.refl _ _).drew; exact h0.trans (hx1.mono h0.size))
    have y1 := HM.out x1 (BW.out _ X1.out)
    clear hx1 CT
    refine hK _ _ (fun q hq hd _ => ?_) ?_
    · intro _ q hq e; simp only [List.mem_cons, List.mem_nil_iff, or_false] at hq; rcases hq with rfl | rfl <;> first | assumption | (simp at e; done) | (go_simp; done) | (simp; done)
    clear hK K
    refine Own.st_do _ rfl rfl (fun K hK => ?_)
    go_simp
    refine (CS.out _ X1.out).mono ?_
    rintro e x2 ⟨rfl, hx2⟩
    have X2 := Lib.hid (X1.out.trans (hx2.mono X1.out.size))
    clear hx2 X1 CS
    refine hK _ _ (fun q hq hd => by rw [(by decide : ∀ x ∈ [1, 3], Own.dep [0, 1, 0, 4, 0, 28, 63, 127] 6 x = true) q hq] at hd; cases hd) ?_
    clear hK K
    repeat (refine Own.st_blind _ rfl rfl (CR.off _ (by decide) _) ?_; go_big_quiet_step (fail); refine wpQuiet_nil ?_)
    refine Own.mix_done ?_
    go_upto_region 8 with (fail)
    obtain ⟨w5, hw5⟩ : ∃ w5, w5 = x2 := ⟨_, rfl⟩
    have BX := Lib.hid (BW.out _ X2.out)
    have CS1 := Lib.hid (small_calls ps t A2 c2 x2 (R2.out.below BX.out) HL.out HG.out.pairsV (by have := HTZ.out; omega) (HT.out.below (B2.out.trans (BX.out.mono B2.out.size))))
    rw [E1.out] at CS1
    have x2c := HM.out x2 BX.out
    clear xc1 y1
    go_wp2_with (fail)
    refine CS1.out.mono ?_
    rintro e x3 ⟨rfl, b3⟩
    have BX3 := Lib.hid (BX.out.trans (b3.mono BX.out.size))
    have CS2 := Lib.hid (shape_calls ps t A2 c2 x3 (R2.out.below BX3.out) HL.out HG.out.pairsV (by have := HTZ.out; omega) (HT.out.below (B2.out.trans (BX3.out.mono B2.out.size))))
    rw [E2.out] at CS2
    have x3c := HM.out x3 BX3.out
    clear CS1 b3 x2c
    go_wp2_with (fail)
    refine CS2.out.mono ?_
    rintro e x4 ⟨rfl, b4⟩
    have BX4 := Lib.hid (BX3.out.trans (b4.mono BX3.out.size))
    have CW := Lib.hid (CK.out x4 (B2.out.trans (BX4.out.mono B2.out.size)))
    clear CS2 b4 x3c CK
    rcases E3.out with h0 | h0
    · subst h0
      clear HK E3
      go_wp2_with (fail)
      refine CW.out.mono ?_
      rintro e x5 ⟨rfl, b5⟩
      go_wp2_with (fail)
      go_ret
      exact ⟨rfl, B2.out.trans ((BX4.out.trans (b5.mono BX4.out.size)).mono B2.out.size)⟩
    · subst h0
      clear HK E3
      go_wp2_with (fail)
      refine CW.out.mono ?_
      rintro e x5 ⟨rfl, b5⟩
      go_wp2_with (fail)
      go_ret
      exact ⟨rfl, B2.out.trans ((BX4.out.trans (b5.mono BX4.out.size)).mono B2.out.size)⟩
  · have g3 : (er == 0) = false := by simpa using he
    have g4 : (er != 0) = true := by simpa using he
    have C0 := Lib.hid (CK.out w2 B2.out)
    clear he CK
    go_wp2_with (fail)
    refine C0.out.mono ?_
    rintro e w3 ⟨rfl, b3⟩
    go_wp2_with (fail)
    go_ret
    exact ⟨rfl, B2.out.trans (b3.mono B2.out.size)⟩
end Go.Proofs.YtmpckoincdkeeaaDoor

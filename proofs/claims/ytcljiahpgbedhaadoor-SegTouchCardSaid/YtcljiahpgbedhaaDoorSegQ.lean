/- SegTouch. -/
import Derived.Test.YtcljiahpgbedhaaDoorSegP
import Derived.Test.YtcljiahpgbedhaaDoorRAll
import Derived.Test.YtcljiahpgbedhaaDoorPlace
namespace Go.Proofs.YtcljiahpgbedhaaDoor
open Go.RowKit Go.Deep Go.Own
set_option linter.unusedVariables false
def atOf (ts : List Tok) : Nat → Int
  | 0 => -1
  | k + 1 => match ts[k]? with | some t => (t.t : Nat) | none => 0
theorem atOf_lt {rs : List Rng} {s : ByteArray} {j : Nat} {x : Tok} (h : (toksOf rs s)[j]? = some x) : atOf (toksOf rs s) j < (x.f : Int) := by
  cases j with
  | zero => show (-1 : Int) < _; omega
  | succ k =>
    obtain ⟨hj, hx⟩ := List.getElem?_eq_some_iff.1 h
    have hp := List.pairwise_iff_getElem.1 (toksOf_good rs s).2 k (k + 1) (by omega) hj (by omega)
    rw [hx] at hp
    show (match (toksOf rs s)[k]? with | some t => ((t.t : Nat) : Int) | none => 0) < _
    rw [List.getElem?_eq_getElem (by omega : k < (toksOf rs s).length)]
    show (((toksOf rs s)[k].t : Nat) : Int) < _
    omega
theorem table32 : clsOf tableL 32 = 0 := by decide +kernel
theorem strong_or {c : Int} (h : strongB c = true) : c = 1 ∨ c = 2 := by
  unfold strongB at h
  simpa using h
set_option maxRecDepth 100000 in
set_option maxHeartbeats 8000000 in
theorem segTouch_walk (s : ByteArray) (w : World) (hs : s.size ≤ 140737488351232) (hT : Tabs w) :
    Calls Tryd.prog 8 #[.string s] w fun e w' => e = .returned (.bool true) ∧ Below w.heap.size w w' := by
  by_cases h1 : 1500 < s.size
  · have g1 : decide (1500 < s.size) = true := by simpa using h1
    have CA := Lib.hid (sawake_calls w hT)
    clear hT
    go_enter Tryd.func8, Tryd.ntmps8
    go_wp2_with (fail)
    refine CA.out.mono ?_
    rintro e w1 ⟨rfl, b1⟩
    go_wp2_with (fail)
    go_ret
    exact ⟨rfl, b1⟩
  have g1 : decide (1500 < s.size) = false := by simpa using h1
  have hsz : s.size ≤ 1500 := by omega
  have htl := toksOf_len tableL s
  have HTL := Lib.hid htl
  have HT := Lib.hid hT
  have CT := Lib.hid (table_calls w)
  clear hT hs htl
  go_enter Tryd.func8, Tryd.ntmps8
  go_wp2_with (fail)
  refine CT.out.mono ?_
  rintro e w1 ⟨⟨A1, rfl, r1⟩, b1⟩
  have CA := Lib.hid (all_calls tableL s A1 5 w1 (HT.out.below b1) r1 (by decide) (by decide) (by omega))
  have R1 := Lib.hid r1
  have B1 := Lib.hid b1
  clear r1 b1 CT
  go_wp2_with (fail)
  refine CA.out.mono ?_
  rintro e w2 ⟨⟨A2, c2, rfl, r2⟩, b2⟩
  have B2 := Lib.hid (B1.out.trans (b2.mono B1.out.size))
  have R12 := Lib.hid (R1.out.below b2)
  have R2 := Lib.hid r2
  obtain ⟨ts, hts⟩ : ∃ ts, ts = toksOf tableL s := ⟨_, rfl⟩
  rw [← hts] at R2 HTL ⊢
  have HTS := Lib.hid hts
  clear r2 b2 CA B1 R1 hts
  go_wp2_with (fail)
  go_loopw [5, 6] (fun av iv wr => ∃ j : Nat, j ≤ ts.length ∧ av = .int .i64 (atOf ts j) ∧ iv = .int .i64 (j : Nat) ∧ Below w2.heap.size w2 wr) (fun _ iv _ => ts.length - (intOf iv).toNat)
  case atStart => exact ⟨0, Nat.zero_le _, rfl, rfl, Below.refl _ _⟩
  case round =>
    obtain ⟨j, hj, rfl, rfl, hb⟩ := hrel
    by_cases hjl : j < ts.length
    · have g2 : decide (j < ts.length) = true := by simpa using hjl
      obtain ⟨⟨f, t, wd⟩, hx⟩ : ∃ x, ts[j]? = some x := ⟨_, List.getElem?_eq_getElem hjl⟩
      have hat := atOf_lt (x := ⟨f, t, wd⟩) (by rw [← HTS.out]; exact hx)
      rw [← HTS.out] at hat
      have hgd := (toksOf_good tableL s).1 ⟨f, t, wd⟩ (by rw [← HTS.out]; exact List.mem_of_getElem? hx)
      have hlt := hgd.lt
      obtain ⟨m, ⟨xa, xn, cx⟩, ⟨ya, yn, cy⟩, m1, m2, m3, m4, m5⟩ := hgd
      simp only at hlt hat m1 m2 m3 m4 m5
      have hun := units_part s f t hlt.2 m m1
      have hml : m.length ≤ s.size := by have := (chain_le m1).1; omega
      obtain ⟨L, hL⟩ : ∃ L, m.length = L + 1 := by
        cases m with
        | nil => simp at m2
        | cons u m => exact ⟨m.length, rfl⟩
      have k0 : (m.map (unshU f))[0]? = some (xa - f, xn, cx) := by
        rw [List.getElem?_map, ← List.head?_eq_getElem?, m2]; rfl
      have k1 : (m.map (unshU f))[L]? = some (ya - f, yn, cy) := by
        have e : m[L]? = some (ya, yn, cy) := by rw [List.getLast?_eq_getElem?, hL] at m3; exact m3
        rw [List.getElem?_map, e]; rfl
      obtain ⟨at0, hat0⟩ : ∃ z, z = atOf ts j := ⟨_, rfl⟩
      rw [← hat0] at hat
      have p1 : decide ((f : Int) ≤ at0) = false := by simp; omega
      have p2 : decide (t ≤ f) = false := by simp; omega
      have p3 : decide (s.size < t) = false := by simp; omega
      obtain ⟨q, rfl, hq, d0, d1, d2⟩ := (R2.out.below hb).at hx
      have FS : ∀ w : World, (Instr.slice 9 (.string s) (some (.int .i64 (f : Nat))) (some (.int .i64 (t : Nat))) none).run Tryd.prog w = .ok (.string (s.extract f t)) w := fun w => by
        rw [run_slice_string (t := 9) (s := s) (k := .i64) (k' := .i64) (i := (f : Nat)) (j := (t : Nat)) (h := Tryd.underlying9)]
        · rfl
        all_goals omega
      have hez : (s.extract f t).size ≤ 1500 := by rw [ByteArray.size_extract]; omega
      have HUN := Lib.hid hun
      have HXJ := Lib.hid hx
      have HLT := Lib.hid hlt
      have HAT := Lib.hid hat
      have HM4 := Lib.hid m4
      have HM5 := Lib.hid m5
      have HK0 := Lib.hid k0
      have HK1 := Lib.hid k1
      have HL := Lib.hid hL
      have HML := Lib.hid hml
      have HB := Lib.hid hb
      have HEZ := Lib.hid hez
      rw [← hat0]
      have HA0 := Lib.hid hat0
      clear hun hx hlt hat m1 m2 m3 m4 m5 k0 k1 hL hml hb hez hat0
      go_wp2_with (fail)
      go_quiet (fail)
      obtain ⟨w3, hw3⟩ : ∃ w3, w3 = wr.drewN nq := ⟨_, rfl⟩
      rw [← hw3]
      have B3 := Lib.hid (show Below w2.heap.size w2 w3 by rw [hw3]; exact HB.out.trans ((below_drewN wr nq).mono HB.out.size))
      have e0 : w3.cell? ⟨q, j * 3, none⟩ = some (.int .i64 (f : Nat)) := by rw [hw3]; exact d0
      have e1 : w3.cell? ⟨q, j * 3 + 1, none⟩ = some (.int .i64 (t : Nat)) := by rw [hw3]; exact d1
      have CU := Lib.hid (fun w' : World => rall_calls (s.extract f t) w' (by have := HEZ.out; omega))
      rw [HUN.out] at CU
      clear hw3 d0 d1 d2 p1 p2 p3
      go_wp2_with (fail)
      refine Own.region_mix (CR [5, 10] [(5, ⟨q, j * 3, none⟩, .int .i64 (f : Nat)), (10, ⟨q, j * 3 + 1, none⟩, .int .i64 (t : Nat))]) [5, 10] [0, 0, 0, 6, 14, 30, 0, 0, 192, 448, 960, 2047, 4095, 8191] (Own.Ord.run [(0, true), (1, true), (2, true), (3, true), (4, true), (5, true), (6, true), (7, true), (8, true), (9, true), (10, true), (11, true), (12, false), (13, true)] .done) (by kernel_rfl) (by kernel_rfl) (fun dst v c a w h => by cases dst <;> exact h) (fun x hx w => CR.off x hx w) ?_
      simp only [Own.Ord.run]
      repeat (refine Own.st_blind _ rfl rfl (CR.off _ (by decide) _) ?_; go_big_quiet_step (fail); refine wpQuiet_nil ?_)
      refine Own.st_load _ rfl rfl (.int .i64 (f : Nat)) (fun w' hw' => ?_) ?_ ?_
      · have hg0 := hw'.get (a := ⟨q, j * 3, none⟩) (v := .int .i64 (f : Nat)) (by decide) (by simp)
        go_simp
      · intro _ q hq e; simp only [List.mem_cons, List.mem_nil_iff, or_false] at hq; rcases hq with rfl | rfl <;> first | assumption | (simp at e; done) | (go_simp; done) | (simp; done)
      simp only [Act.put, List.setIfInBounds_toArray, List.set_cons_succ, List.set_cons_zero]
      repeat (refine Own.st_blind _ rfl rfl (CR.off _ (by decide) _) ?_; go_big_quiet_step (fail); refine wpQuiet_nil ?_)
      refine Own.st_load _ rfl rfl (.int .i64 (t : Nat)) (fun w' hw' => ?_) ?_ ?_
      · have hg0 := hw'.get (a := ⟨q, j * 3 + 1, none⟩) (v := .int .i64 (t : Nat)) (by decide) (by simp)
        go_simp
      · intro _ q hq e; simp only [List.mem_cons, List.mem_nil_iff, or_false] at hq; rcases hq with rfl | rfl <;> first | assumption | (simp at e; done) | (go_simp; done) | (simp; done)
      simp only [Act.put, List.setIfInBounds_toArray, List.set_cons_succ, List.set_cons_zero]
      repeat (refine Own.st_blind _ rfl rfl (CR.off _ (by decide) _) ?_; go_big_quiet_step (fail); refine wpQuiet_nil ?_)
      refine Own.st_do _ rfl rfl (fun K hK => ?_)
      go_simp
      refine (CU.out _).mono ?_
      rintro e w4 ⟨v, rfl, hR, b4⟩
      obtain ⟨A4, c4, rfl⟩ := own_is hR
      have R4 := Lib.hid hR.reads.2
      have B4 := Lib.hid b4
      clear hR b4
      refine hK _ _ (fun q hq hd => by rw [(by decide : ∀ x ∈ [5, 10], Own.dep [0, 0, 0, 6, 14, 30, 0, 0, 192, 448, 960, 2047, 4095, 8191] 12 x = true) q hq] at hd; cases hd) ?_
      clear hK K
      repeat (refine Own.st_blind _ rfl rfl (CR.off _ (by decide) _) ?_; go_big_quiet_step (fail); refine wpQuiet_nil ?_)
      refine Own.mix_done ?_
      have B44 := Lib.hid (show Below w2.heap.size w2 w4 from Below.trans (b := World.drew w3) (B3.out.trans ⟨rfl, rfl, rfl, Nat.le_refl _, fun _ _ => rfl⟩) (B4.out.mono B3.out.size))
      have hlen : (m.map (unshU f)).length = L + 1 := by rw [List.length_map, HL.out]
      have hml := HML.out
      rw [HL.out] at hml
      rw [hlen]
      obtain ⟨q4, rfl, hq4, v0, v1, u1⟩ := R4.out.at HK0.out
      obtain ⟨q4', hqq, _, z0, z1, u2⟩ := R4.out.at HK1.out
      obtain rfl : q4 = q4' := by simpa using hqq
      simp only [Nat.zero_mul, Nat.zero_add] at u1
      have CX := Lib.hid (fun (w' : World) (h : Below w4.heap.size w4 w') => rof_calls tableL cx A1 5 w' (R12.out.below (B44.out.trans (h.mono B44.out.size))) (by decide))
      have CY := Lib.hid (fun (w' : World) (h : Below w4.heap.size w4 w') => rof_calls tableL cy A1 5 w' (R12.out.below (B44.out.trans (h.mono B44.out.size))) (by decide))
      clear hqq v0 v1 z0 z1 hlen e0 e1 B4 R4 CU
      go_wp2_with (fail)
      refine Own.region_mix (CR [4, 13] [(4, ⟨q4, 2, none⟩, .int .i64 cx), (13, ⟨q4, L * 3 + 2, none⟩, .int .i64 cy)]) [4, 13] [0, 0, 2, 6, 14, 31, 0, 0, 0, 256, 768, 1920, 3968, 8064, 16383, 32767, 65535] (Own.Ord.run [(0, true), (1, true), (2, true), (3, true), (4, true), (6, true), (7, true), (8, true), (9, true), (10, true), (11, true), (12, true), (13, true), (5, false), (14, false), (15, true), (16, true)] .done) (by kernel_rfl) (by kernel_rfl) (fun dst v c a w h => by cases dst <;> exact h) (fun x hx w => CR.off x hx w) ?_
      simp only [Own.Ord.run]
      repeat (refine Own.st_blind _ rfl rfl (CR.off _ (by decide) _) ?_; go_big_quiet_step (fail); refine wpQuiet_nil ?_)
      refine Own.st_load _ rfl rfl (.int .i64 cx) (fun w' hw' => ?_) ?_ ?_
      · have hg0 := hw'.get (a := ⟨q4, 2, none⟩) (v := .int .i64 cx) (by decide) (by simp)
        go_simp
      · intro _ q hq e; simp only [List.mem_cons, List.mem_nil_iff, or_false] at hq; rcases hq with rfl | rfl <;> first | assumption | (simp at e; done) | (go_simp; done) | (simp; done)
      simp only [Act.put, List.setIfInBounds_toArray, List.set_cons_succ, List.set_cons_zero]
      repeat (refine Own.st_blind _ rfl rfl (CR.off _ (by decide) _) ?_; go_big_quiet_step (fail); refine wpQuiet_nil ?_)
      refine Own.st_load _ rfl rfl (.int .i64 cy) (fun w' hw' => ?_) ?_ ?_
      · have hg0 := hw'.get (a := ⟨q4, L * 3 + 2, none⟩) (v := .int .i64 cy) (by decide) (by simp)
        go_simp
      · intro _ q hq e; simp only [List.mem_cons, List.mem_nil_iff, or_false] at hq; rcases hq with rfl | rfl <;> first | assumption | (simp at e; done) | (go_simp; done) | (simp; done)
      simp only [Act.put, List.setIfInBounds_toArray, List.set_cons_succ, List.set_cons_zero]
      refine Own.st_do _ rfl rfl (fun K hK => ?_)
      go_simp
      refine (CX.out (World.drew w4) ⟨rfl, rfl, rfl, Nat.le_refl _, fun _ _ => rfl⟩).mono ?_
      rintro e w5 ⟨rfl, b5⟩
      have B5 := Lib.hid (show Below w4.heap.size w4 w5 from Below.trans (b := World.drew w4) (B := w4.heap.size) ⟨rfl, rfl, rfl, Nat.le_refl _, fun _ _ => rfl⟩ b5)
      have l1 := (b5.cell (p := ⟨q4, L * 3 + 2, none⟩) hq4).trans u2
      have l0 := (b5.cell (p := ⟨q4, 2, none⟩) hq4).trans u1
      clear b5
      refine hK _ _ (fun q hq hd _ => ?_) ?_
      · intro _ q hq e; simp only [List.mem_cons, List.mem_nil_iff, or_false] at hq; rcases hq with rfl | rfl <;> first | assumption | (simp at e; done) | (go_simp; done) | (simp; done)
      clear hK K
      refine Own.st_do _ rfl rfl (fun K hK => ?_)
      go_simp
      refine (CY.out _ B5.out).mono ?_
      rintro e w6 ⟨rfl, b6⟩
      have B6 := Lib.hid b6
      clear b6
      refine hK _ _ (fun q hq hd => by rw [(by decide : ∀ x ∈ [4, 13], Own.dep [0, 0, 2, 6, 14, 31, 0, 0, 0, 256, 768, 1920, 3968, 8064, 16383, 32767, 65535] 14 x = true) q hq] at hd; cases hd) ?_
      clear hK K
      repeat (refine Own.st_blind _ rfl rfl (CR.off _ (by decide) _) ?_; go_big_quiet_step (fail); refine wpQuiet_nil ?_)
      refine Own.mix_done ?_
      have B66 := Lib.hid (show Below w2.heap.size w2 w6 from B44.out.trans ((B5.out.trans (B6.out.mono B5.out.size)).mono B44.out.size))
      clear l0 l1 u1 u2 B5 B6 CX CY
      have a4 := strong_or HM4.out
      have a5 := strong_or HM5.out
      have hn1 : atOf ts (j + 1) = (t : Nat) := by
        show (match ts[j]? with | some t => ((t.t : Nat) : Int) | none => 0) = _
        rw [HXJ.out]
      obtain ⟨ka, hka⟩ : ∃ z, z = clsOf tableL cx := ⟨_, rfl⟩
      obtain ⟨kb, hkb⟩ : ∃ z, z = clsOf tableL cy := ⟨_, rfl⟩
      rw [← hka] at a4 ⊢
      rw [← hkb] at a5 ⊢
      have HN1 := Lib.hid hn1
      have htl := HTL.out
      clear hka hkb HM4 HM5 hn1
      rcases a4 with rfl | rfl <;> rcases a5 with rfl | rfl <;>
        (go_wp2_with (fail)
         go_roundw
         case rel => exact ⟨j + 1, by omega, by rw [HN1.out], by go_num, B66.out⟩
         case measure => simp [intOf]; omega)
    · have g2 : decide (j < ts.length) = false := by simpa using hjl
      obtain rfl : j = ts.length := by omega
      have BR := Lib.hid hb
      have hab := toks_twice tableL s table32
      have CA2 := Lib.hid (fun (w' : World) (h : Below w2.heap.size w2 w') => all_calls tableL (s ++ ⟨#[32]⟩ ++ s) A1 5 w' (HT.out.below (B2.out.trans (h.mono B2.out.size))) (R12.out.below h) (by decide) (by decide) (by simp only [ByteArray.size_append]; show s.size + 1 + s.size ≤ _; omega))
      rw [hab, ← HTS.out] at CA2
      have CW := Lib.hid (fun (w' : World) (h : Below w2.heap.size w2 w') => sawake_calls w' (HT.out.below (B2.out.trans (h.mono B2.out.size))))
      have htl := HTL.out
      clear hb hab hj hjl
      go_wp2_with (fail)
      refine (CA2.out _ BR.out).mono ?_
      rintro e w4 ⟨⟨A4, c4, rfl, _⟩, b4⟩
      have B4 := Lib.hid (BR.out.trans (b4.mono BR.out.size))
      clear b4
      go_wp2_with (fail)
      refine (CW.out _ B4.out).mono ?_
      rintro e w5 ⟨rfl, b5⟩
      have B5 := Lib.hid (B4.out.trans (b5.mono B4.out.size))
      clear b5
      go_wp2_with (fail)
      go_ret
      exact ⟨rfl, B2.out.trans (B5.out.mono B2.out.size)⟩
end Go.Proofs.YtcljiahpgbedhaaDoor

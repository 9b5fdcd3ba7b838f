/- affix: (*file).line. -/
import Derived.Test.YtmcnnfpeicnnjaaDoorAffC
namespace Go.Proofs.YtmcnnfpeicnnjaaDoor
open Go.RowKit Go.Deep Go.Own
set_option linter.unusedVariables false
theorem cell4_of {w : World} {b : Nat} {x0 x1 x2 x3 : Value} {t : TypeId} {fr : Nat × Nat} (h : w.heap[b]? = some (.cells #[x0, x1, x2, x3] t fr)) : w.cell? ⟨b, 0, none⟩ = some x0 ∧ w.cell? ⟨b, 1, none⟩ = some x1 ∧ w.cell? ⟨b, 2, none⟩ = some x2 ∧ w.cell? ⟨b, 3, none⟩ = some x3 := by
  simp [World.cell?, h]
def LnPost (B : Nat) (w0 : World) (F Q : Nat) (ls : List ByteArray) (f : FileP) (i : Nat) (s : ByteArray) (e : Ending) (w' : World) : Prop :=
  e = .returned (.tuple #[]) ∧ ∃ rv pv av rs ps ats bad, AxS B w0 w' F Q ls rv pv av bad rv pv av rs ps ats ∧ (⟨rs.map RuS.p, ps, ats, bad⟩ : FileP) = stepF f i s
set_option maxRecDepth 100000 in
set_option maxHeartbeats 32000000 in
theorem line_calls (B : Nat) (w0 : World) (F Q : Nat) (ls : List ByteArray) (rv pv av : Value) (rs : List RuS) (ps : List (Int × Int)) (ats : List Int) (bad i : Nat) (s : ByteArray) (w : World) (h : AxS B w0 w F Q ls rv pv av bad rv pv av rs ps ats)
    (hrl : rs.length ≤ 1000000) (hpl : ps.length ≤ 1000000) (hal : ats.length ≤ 1000000) (hil : i ≤ 1000000) (hbl : bad ≤ 1000000) (hs : s.size ≤ 1000000) (hT : TabsL w) :
    Calls Tryd.prog 30 #[.pointer (some ⟨F, 0, none⟩), .int .i64 (i : Nat), .string s] w (LnPost B w0 F Q ls ⟨rs.map RuS.p, ps, ats, bad⟩ i s) := by
  obtain ⟨iI, hiI, hzI, hsI, hbI⟩ := info_parts infoI
  obtain ⟨iR, hiR, hzR, hsR, hbR⟩ := info_parts infoRu
  obtain ⟨iP, hiP, hzP, hsP, hbP⟩ := info_parts infoPr
  have HS := Lib.hid h
  have HT := Lib.hid hT
  clear h hT
  by_cases h0 : s.size = 0
  · have k1 := isE h0
    have E := Lib.hid (show (⟨rs.map RuS.p, ps, ats, bad⟩ : FileP) = stepF ⟨rs.map RuS.p, ps, ats, bad⟩ i s from (if_pos (.inl h0)).symm)
    clear h0
    go_enter Tryd.func30, Tryd.ntmps30
    go_wp2_with (fail)
    first | go_end0 | refine bodyPost_ret (results_none rfl _ _ _) rfl ?_
    exact ⟨rfl, _, _, _, _, _, _, _, HS.out, E.out⟩
  have k1 := notE (r := s) (by omega)
  have hix : ∀ w : World, (Instr.index 9 (.string s) (.int .i64 0)).run Tryd.prog w = .ok (.int .u8 (uB s 0 : Nat)) w := fun w => s_index s 0 (by omega) w
  obtain ⟨uu, huu⟩ : ∃ uu, uu = uB s 0 := ⟨_, rfl⟩
  rw [← huu] at hix
  by_cases h35 : uu = 35
  · have g2 : ((uu : Int) == 35) = true := by rw [h35]; rfl
    have E := Lib.hid (show (⟨rs.map RuS.p, ps, ats, bad⟩ : FileP) = stepF ⟨rs.map RuS.p, ps, ats, bad⟩ i s from (if_pos (.inr (by rw [← huu]; exact h35))).symm)
    clear h35 h0 huu
    go_enter Tryd.func30, Tryd.ntmps30
    go_wp2_with (fail)
    first | go_end0 | refine bodyPost_ret (results_none rfl _ _ _) rfl ?_
    exact ⟨rfl, _, _, _, _, _, _, _, HS.out, E.out⟩
  have g2 : ((uu : Int) == 35) = false := by simp; omega
  have g3 : (uu == 35) = false := by simpa using h35
  obtain ⟨fs, hfs⟩ : ∃ fs, fs = stepF ⟨rs.map RuS.p, ps, ats, bad⟩ i s := ⟨_, rfl⟩
  have hst : fs = match ruleV s with
      | some r => ⟨rs.map RuS.p ++ [r], ps, ats ++ [(i : Int) + 1], bad⟩
      | none => match pairV ps s with
        | some p => ⟨rs.map RuS.p, ps ++ [p], ats, bad⟩
        | none => ⟨rs.map RuS.p, ps, ats, if bad = 0 then i + 1 else bad⟩ := by
    rw [hfs]
    exact if_neg (fun h => by rcases h with h | h; exact h0 h; exact h35 (by rw [huu]; exact h))
  have HST := Lib.hid hst
  have CP := Lib.hid (rparse_calls s w hs HT.out)
  unfold RuPost at CP
  have CQ := Lib.hid (fun c0 c2 c3 A cp wx (hb : Below w.heap.size w wx) (hF : wx.heap[F]? = some (.cells #[c0, .slice A ps.length cp, c2, c3] 67 (0, 0))) (hr : ReadsP wx A ps) => pair_calls F c0 c2 c3 A cp ps s wx hF hr hpl hs (HT.out.below hb))
  unfold PrPost at CQ
  unfold LnPost
  rw [← hfs]
  obtain ⟨Ar, cr, hrv⟩ := own_is HS.out.rr
  obtain ⟨Ap, cp, hpv⟩ := own_is HS.out.pr
  obtain ⟨Aa, ca, hav⟩ := own_is HS.out.ar
  subst hrv hpv hav
  clear hst hfs huu h35 h0
  go_enter Tryd.func30, Tryd.ntmps30
  go_wp2_with (fail)
  refine CP.out.mono ?_
  rintro e u0 ⟨⟨r, ok, rfl, hR, hF, hr1, hr2⟩, bu0⟩
  obtain ⟨w1, hw1⟩ : ∃ w1, w1 = u0.alloc (.cells (ruCells r) 47) := ⟨_, rfl⟩
  obtain ⟨T, hT⟩ : ∃ T, T = u0.heap.size := ⟨_, rfl⟩
  have b1 : Below u0.heap.size u0 w1 := by rw [hw1]; exact (Below.refl _ _).alloc (Nat.le_refl _) _
  have t1 : w1.heap[T]? = some (.cells (ruCells r) 47 (0, 0)) := by rw [hw1, hT]; exact blk_alloc_new _ _
  have B1 := Lib.hid (bu0.trans (b1.mono bu0.size))
  have S1 := Lib.hid (HS.out.below B1.out)
  have HRI : Hid (RowIt w1 B r.v r.xs ∧ FlIt w1 B r.xs ∧ ∀ x ∈ r.xs, ∀ q, x.v.ownBlock = some q → (Value.slice Aa ats.length ca).ownBlock ≠ some q) := Lib.hid ⟨own_below (own_base hR HS.out.big) b1, (show FlIt u0 B r.xs from fun x hx => own_base (hF x hx) HS.out.big).below b1, fun x hx q hq e => by
    have h1 := (own_block_lt (hF x hx) hq).1
    have h2 := (own_block_lt HS.out.ar e).2
    omega⟩
  have HTW := Lib.hid (show w.heap.size ≤ T by rw [hT]; exact bu0.size)
  have HR12 := Lib.hid (And.intro hr1 hr2)
  have HW1 := Lib.hid (And.intro hw1 hT)
  unfold ruCells at t1 HW1
  have T1 := Lib.hid t1
  unfold ruCells
  clear CP bu0 hw1 hT b1 hR hF hr1 hr2 t1 hix g2 g3 k1
  go_upto_region 2 with (fail)
  rw [← HW1.out.1, ← HW1.out.2]
  clear HW1
  cases ok with
  | true =>
    have HSTEP : Hid ((⟨(rs ++ [r]).map RuS.p, ps, ats ++ [(i : Int) + 1], bad⟩ : FileP) = fs) := Lib.hid (by
      rw [HST.out, HR12.out.1 rfl, List.map_append]
      rfl)
    obtain ⟨t0, t1, t2, t3, t4, t5⟩ := cell6_of T1.out
    have tkw1 := T1.out
    obtain ⟨f0, f1, f2, f3⟩ := cell4_of S1.out.cF
    clear CQ HST HR12
    go_upto_region 3 with (fail)
    refine Own.region_mix (CR [6, 7, 13] [(6, ⟨F, 0, none⟩, .slice Ar rs.length cr), (7, ⟨T, 0, none⟩, .bool r.pfx), (7, ⟨T, 1, none⟩, .int .i64 (r.flag : Nat)), (7, ⟨T, 2, none⟩, .bool r.cross), (7, ⟨T, 3, none⟩, .string r.strip), (7, ⟨T, 4, none⟩, .string r.add), (7, ⟨T, 5, none⟩, .slice r.A r.xs.length r.c), (13, ⟨F, 2, none⟩, .slice Aa ats.length ca)]) [6, 7, 13] [0, 0, 0, 4, 12, 28, 60, 0, 128, 508, 0, 1024, 3072, 7168, 0, 16384, 49152, 131068, 262141, 524285, 1048573, 2097149, 4194303, 8388607, 16777215] (Own.Ord.run [(0, true), (1, true), (2, true), (3, true), (4, true), (5, true), (6, true), (7, true), (10, true), (11, true), (12, true), (13, true), (14, true), (15, true)] (.fork (.go 8 false (Own.Ord.run [] (.fork (.go 9 false (Own.Ord.run [(16, false), (17, false), (18, true), (19, true), (20, true), (21, false), (22, true), (23, true), (24, false)] .done)) (.go 16 false (Own.Ord.run [(9, false), (17, false), (18, true), (19, true), (20, true), (21, false), (22, true), (23, true), (24, false)] .done))))) (.go 16 false (Own.Ord.run [(8, false), (9, false), (17, false), (18, true), (19, true), (20, true), (21, false), (22, true), (23, true), (24, false)] .done)))) (by kernel_rfl) (by kernel_rfl) (fun dst v c a w h => by cases dst <;> exact h) (fun x hx w => CR.off x hx w) ?_
    simp only [Own.Ord.run]
    repeat (refine Own.st_blind _ rfl rfl (CR.off _ (by decide) _) ?_; go_big_quiet_step (fail); refine wpQuiet_nil ?_)
    refine Own.st_load _ rfl rfl (.pointer (some ⟨F, 0, none⟩)) (fun w' _ => by go_simp) (CR.off _ (by decide) _) ?_
    simp only [Act.put, List.setIfInBounds_toArray, List.set_cons_succ, List.set_cons_zero]
    repeat (refine Own.st_blind _ rfl rfl (CR.off _ (by decide) _) ?_; go_big_quiet_step (fail); refine wpQuiet_nil ?_)
    refine Own.st_load _ rfl rfl (.slice Ar rs.length cr) (fun w' hw' => ?_) ?_ ?_
    · have hg0 := hw'.get (a := ⟨F, 0, none⟩) (v := .slice Ar rs.length cr) (by decide) (by simp)
      go_simp
    · intro _ q hq e; simp only [List.mem_cons, List.mem_nil_iff, or_false] at hq; rcases hq with rfl | rfl | rfl | rfl | rfl | rfl | rfl | rfl <;> first | assumption | (simp at e; done) | (go_simp; done) | (simp; done)
    simp only [Act.put, List.setIfInBounds_toArray, List.set_cons_succ, List.set_cons_zero]
    refine Own.st_load _ rfl rfl (.agg #[.bool r.pfx, .int .i64 (r.flag : Nat), .bool r.cross, .string r.strip, .string r.add, .slice r.A r.xs.length r.c]) (fun w' hw' => ?_) ?_ ?_
    · have hg0 := hw'.get (a := ⟨T, 0, none⟩) (v := .bool r.pfx) (by decide) (by simp)
      have hg1 := hw'.get (a := ⟨T, 1, none⟩) (v := .int .i64 (r.flag : Nat)) (by decide) (by simp)
      have hg2 := hw'.get (a := ⟨T, 2, none⟩) (v := .bool r.cross) (by decide) (by simp)
      have hg3 := hw'.get (a := ⟨T, 3, none⟩) (v := .string r.strip) (by decide) (by simp)
      have hg4 := hw'.get (a := ⟨T, 4, none⟩) (v := .string r.add) (by decide) (by simp)
      have hg5 := hw'.get (a := ⟨T, 5, none⟩) (v := .slice r.A r.xs.length r.c) (by decide) (by simp)
      go_simp
    · intro _ q hq e; simp only [List.mem_cons, List.mem_nil_iff, or_false] at hq; rcases hq with rfl | rfl | rfl | rfl | rfl | rfl | rfl | rfl <;> first | assumption | (simp at e; done) | (go_simp; done) | (simp; done)
    simp only [Act.put, List.setIfInBounds_toArray, List.set_cons_succ, List.set_cons_zero]
    repeat (refine Own.st_blind _ rfl rfl (CR.off _ (by decide) _) ?_; go_big_quiet_step (fail); refine wpQuiet_nil ?_)
    refine Own.st_load _ rfl rfl (.pointer (some ⟨F, 0, none⟩)) (fun w' _ => by go_simp) (CR.off _ (by decide) _) ?_
    simp only [Act.put, List.setIfInBounds_toArray, List.set_cons_succ, List.set_cons_zero]
    repeat (refine Own.st_blind _ rfl rfl (CR.off _ (by decide) _) ?_; go_big_quiet_step (fail); refine wpQuiet_nil ?_)
    refine Own.st_load _ rfl rfl (.slice Aa ats.length ca) (fun w' hw' => ?_) ?_ ?_
    · have hg0 := hw'.get (a := ⟨F, 2, none⟩) (v := .slice Aa ats.length ca) (by decide) (by simp)
      go_simp
    · intro _ q hq e; simp only [List.mem_cons, List.mem_nil_iff, or_false] at hq; rcases hq with rfl | rfl | rfl | rfl | rfl | rfl | rfl | rfl <;> first | assumption | (simp at e; done) | (go_simp; done) | (simp; done)
    simp only [Act.put, List.setIfInBounds_toArray, List.set_cons_succ, List.set_cons_zero]
    repeat (refine Own.st_blind _ rfl rfl (CR.off _ (by decide) _) ?_; go_big_quiet_step (fail); refine wpQuiet_nil ?_)
    refine Own.mix_fork ?_ ?_
    · refine Own.st_do _ rfl rfl (fun K hK => ?_)
      go_simp
      obtain ⟨u8, hu8⟩ : ∃ v, v = World.drew (w1.alloc (.cells #[.bool r.pfx, .int .i64 (r.flag : Nat), .bool r.cross, .string r.strip, .string r.add, .slice r.A r.xs.length r.c] 47)) := ⟨_, rfl⟩
      obtain ⟨K8, hK8⟩ : ∃ v, v = w1.heap.size := ⟨_, rfl⟩
      rw [← hu8, ← hK8]
      have b8 : Below w1.heap.size w1 u8 := by rw [hu8]; exact ((Below.refl _ _).alloc (Nat.le_refl _) _).drew
      have S8 := Lib.hid (S1.out.below b8)
      have k8u8 : u8.heap[K8]? = some (.cells #[.bool r.pfx, .int .i64 (r.flag : Nat), .bool r.cross, .string r.strip, .string r.add, .slice r.A r.xs.length r.c] 47 (0, 0)) := by rw [hu8, hK8]; exact blk_alloc_new w1 _
      have bbu8 : Below w1.heap.size w1 u8 := b8
      have tku8 := (b8.block _ (Array.getElem?_eq_some_iff.1 tkw1).1).trans tkw1
      obtain ⟨t0, t1, t2, t3, t4, t5⟩ := cell6_of tku8
      obtain ⟨f0, f1, f2, f3⟩ := cell4_of S8.out.cF
      clear hu8 hK8
      refine hK _ _ (fun q hq hd _ => ?_) ?_
      · intro _ q hq e; simp only [List.mem_cons, List.mem_nil_iff, or_false] at hq; rcases hq with rfl | rfl | rfl | rfl | rfl | rfl | rfl | rfl <;> first | assumption | (simp at e; done) | (go_simp; done) | (simp; done)
      clear hK K
      refine Own.mix_fork ?_ ?_
      · refine Own.st_do _ rfl rfl (fun K hK => ?_)
        have hsrc := Lib.hid (src_rule k8u8)
        refine own_append_wp (.tmp 29) (.tmp 31) 26 26 rfl B 47 iR _ 6 80 Tryd.underlying26 hiR hzR hsR hbR rfl (by decide) (.slice Ar rs.length cr) rs.length _ rfl S8.out.rr (.slice (some ⟨K8, 0, none⟩) 1 1) rfl 1 _ hsrc.out (by unfold maxLen; omega) (by omega) S8.out.big ?_
        intro v' u9 O9 G9 V9
        have S9 := Lib.hid (S8.out.appR (HRI.out.1.below bbu8) (HRI.out.2.1.below bbu8) HRI.out.2.2 G9 O9)
        obtain ⟨A9, c9, rfl⟩ := own_is O9
        have tku9 := (G9.block T (Array.getElem?_eq_some_iff.1 tku8).1 (fun e => by have := (own_block_lt HS.out.rr e.symm).2; have := HTW.out; omega)).trans tku8
        obtain ⟨t0, t1, t2, t3, t4, t5⟩ := cell6_of tku9
        obtain ⟨f0, f1, f2, f3⟩ := cell4_of S9.out.cF
        clear O9 G9 V9 hsrc
        simp only [Act.put, List.setIfInBounds_toArray, List.set_cons_succ, List.set_cons_zero]
        refine hK _ _ (fun q hq hd _ => ?_) ?_
        · intro _ q hq e; simp only [List.mem_cons, List.mem_nil_iff, or_false] at hq; rcases hq with rfl | rfl | rfl | rfl | rfl | rfl | rfl | rfl <;> first | assumption | (simp at e; done) | (go_simp; done) | (simp; done)
        clear hK K
        refine Own.st_do _ rfl rfl (fun K hK => ?_)
        go_simp
        obtain ⟨u16, hu16⟩ : ∃ v, v = u9.alloc (.cells #[Value.int .i64 ((i : Int) + 1)] 3) := ⟨_, rfl⟩
        obtain ⟨K16, hK16⟩ : ∃ v, v = u9.heap.size := ⟨_, rfl⟩
        rw [← hu16, ← hK16]
        have b16 : Below u9.heap.size u9 u16 := by rw [hu16]; exact ((Below.refl _ _).alloc (Nat.le_refl _) _)
        have S16 := Lib.hid (S9.out.below b16)
        have k16u16 : u16.heap[K16]? = some (.cells #[Value.int .i64 ((i : Int) + 1)] 3 (0, 0)) := by rw [hu16, hK16]; exact blk_alloc_new u9 _
        have tku16 := (b16.block _ (Array.getElem?_eq_some_iff.1 tku9).1).trans tku9
        obtain ⟨t0, t1, t2, t3, t4, t5⟩ := cell6_of tku16
        obtain ⟨f0, f1, f2, f3⟩ := cell4_of S16.out.cF
        clear hu16 hK16
        refine hK _ _ (fun q hq hd _ => ?_) ?_
        · intro _ q hq e; simp only [List.mem_cons, List.mem_nil_iff, or_false] at hq; rcases hq with rfl | rfl | rfl | rfl | rfl | rfl | rfl | rfl <;> first | assumption | (simp at e; done) | (go_simp; done) | (simp; done)
        clear hK K
        refine Own.st_do _ rfl rfl (fun K hK => ?_)
        have hsrc : Hid (Src Tryd.prog 1 41 (.slice (some ⟨K16, 0, none⟩) 1 1) 1 [.int .i64 ((i : Int) + 1)] u16) := Lib.hid (src_one Tryd.underlying41 rfl (by simp [World.cell?, k16u16]))
        refine own_append_wp (.tmp 36) (.tmp 39) 41 41 rfl B 3 iI _ 1 8 Tryd.underlying41 hiI hzI hsI hbI rfl (by decide) (.slice Aa ats.length ca) ats.length _ rfl S16.out.ar (.slice (some ⟨K16, 0, none⟩) 1 1) rfl 1 _ hsrc.out (by unfold maxLen; omega) (by omega) S16.out.big ?_
        intro v' u17 O17 G17 V17
        have S17 := Lib.hid (S16.out.appA G17 (ownI_push O17) V17)
        obtain ⟨A17, c17, rfl⟩ := own_is O17
        clear O17 G17 V17 hsrc
        simp only [Act.put, List.setIfInBounds_toArray, List.set_cons_succ, List.set_cons_zero]
        refine hK _ _ (fun q hq hd => by rw [(by decide : ∀ x ∈ [6, 7, 13], Own.dep [0, 0, 0, 4, 12, 28, 60, 0, 128, 508, 0, 1024, 3072, 7168, 0, 16384, 49152, 131068, 262141, 524285, 1048573, 2097149, 4194303, 8388607, 16777215] 17 x = true) q hq] at hd; cases hd) ?_
        clear hK K
        refine Own.st_load _ rfl rfl (.pointer (some ⟨F, 0, none⟩)) (fun w' _ => by go_simp) (CR.off _ (by decide) _) ?_
        simp only [Act.put, List.setIfInBounds_toArray, List.set_cons_succ, List.set_cons_zero]
        repeat (refine Own.st_blind _ rfl rfl (CR.off _ (by decide) _) ?_; go_big_quiet_step (fail); refine wpQuiet_nil ?_)
        refine Own.st_do _ rfl rfl (fun K hK => ?_)
        obtain ⟨f0, f1, f2, f3⟩ := cell4_of S17.out.cF
        have fz : ∀ j, u17.frozen? ⟨F, j, none⟩ = false := fun j => by have := S17.out.cF; simp [World.frozen?, this]
        go_simp
        obtain ⟨u21, hu21⟩ : ∃ v, v = u17.setCell ⟨F, 0, none⟩ (.slice A9 (rs.length + 1) c9) := ⟨_, rfl⟩
        rw [← hu21]
        have S21 := Lib.hid (show AxS B w0 u21 F Q ls (.slice A9 (rs.length + 1) c9) (.slice Ap ps.length cp) (.slice Aa ats.length ca) bad _ _ _ _ _ _ by rw [hu21]; exact S17.out.set rfl)
        clear hu21 f0 f1 f2 f3 fz
        refine hK _ _ (fun q hq hd => by rw [(by decide : ∀ x ∈ [6, 7, 13], Own.dep [0, 0, 0, 4, 12, 28, 60, 0, 128, 508, 0, 1024, 3072, 7168, 0, 16384, 49152, 131068, 262141, 524285, 1048573, 2097149, 4194303, 8388607, 16777215] 21 x = true) q hq] at hd; cases hd) ?_
        clear hK K
        refine Own.st_load _ rfl rfl (.pointer (some ⟨F, 0, none⟩)) (fun w' _ => by go_simp) (CR.off _ (by decide) _) ?_
        simp only [Act.put, List.setIfInBounds_toArray, List.set_cons_succ, List.set_cons_zero]
        repeat (refine Own.st_blind _ rfl rfl (CR.off _ (by decide) _) ?_; go_big_quiet_step (fail); refine wpQuiet_nil ?_)
        refine Own.st_do _ rfl rfl (fun K hK => ?_)
        obtain ⟨f0, f1, f2, f3⟩ := cell4_of S21.out.cF
        have fz : ∀ j, u21.frozen? ⟨F, j, none⟩ = false := fun j => by have := S21.out.cF; simp [World.frozen?, this]
        go_simp
        obtain ⟨u24, hu24⟩ : ∃ v, v = u21.setCell ⟨F, 2, none⟩ (.slice A17 (ats.length + 1) c17) := ⟨_, rfl⟩
        rw [← hu24]
        have S24 := Lib.hid (show AxS B w0 u24 F Q ls (.slice A9 (rs.length + 1) c9) (.slice Ap ps.length cp) (.slice A17 (ats.length + 1) c17) bad _ _ _ _ _ _ by rw [hu24]; exact S21.out.set rfl)
        clear hu24 f0 f1 f2 f3 fz
        refine hK _ _ (fun q hq hd => by rw [(by decide : ∀ x ∈ [6, 7, 13], Own.dep [0, 0, 0, 4, 12, 28, 60, 0, 128, 508, 0, 1024, 3072, 7168, 0, 16384, 49152, 131068, 262141, 524285, 1048573, 2097149, 4194303, 8388607, 16777215] 24 x = true) q hq] at hd; cases hd) ?_
        clear hK K
        refine Own.mix_done ?_
        go_wp2_with (fail)
        first | go_end0 | refine bodyPost_ret (results_none rfl _ _ _) rfl ?_
        exact ⟨rfl, _, _, _, _, _, _, _, S24.out, HSTEP.out⟩
      · refine Own.st_do _ rfl rfl (fun K hK => ?_)
        go_simp
        obtain ⟨u16, hu16⟩ : ∃ v, v = u8.alloc (.cells #[Value.int .i64 ((i : Int) + 1)] 3) := ⟨_, rfl⟩
        obtain ⟨K16, hK16⟩ : ∃ v, v = u8.heap.size := ⟨_, rfl⟩
        rw [← hu16, ← hK16]
        have b16 : Below u8.heap.size u8 u16 := by rw [hu16]; exact ((Below.refl _ _).alloc (Nat.le_refl _) _)
        have S16 := Lib.hid (S8.out.below b16)
        have k16u16 : u16.heap[K16]? = some (.cells #[Value.int .i64 ((i : Int) + 1)] 3 (0, 0)) := by rw [hu16, hK16]; exact blk_alloc_new u8 _
        have k8u16 := (b16.block _ (Array.getElem?_eq_some_iff.1 k8u8).1).trans k8u8
        have bbu16 : Below w1.heap.size w1 u16 := bbu8.trans (b16.mono bbu8.size)
        have tku16 := (b16.block _ (Array.getElem?_eq_some_iff.1 tku8).1).trans tku8
        obtain ⟨t0, t1, t2, t3, t4, t5⟩ := cell6_of tku16
        obtain ⟨f0, f1, f2, f3⟩ := cell4_of S16.out.cF
        clear hu16 hK16
        refine hK _ _ (fun q hq hd _ => ?_) ?_
        · intro _ q hq e; simp only [List.mem_cons, List.mem_nil_iff, or_false] at hq; rcases hq with rfl | rfl | rfl | rfl | rfl | rfl | rfl | rfl <;> first | assumption | (simp at e; done) | (go_simp; done) | (simp; done)
        clear hK K
        refine Own.st_do _ rfl rfl (fun K hK => ?_)
        have hsrc := Lib.hid (src_rule k8u16)
        refine own_append_wp (.tmp 29) (.tmp 31) 26 26 rfl B 47 iR _ 6 80 Tryd.underlying26 hiR hzR hsR hbR rfl (by decide) (.slice Ar rs.length cr) rs.length _ rfl S16.out.rr (.slice (some ⟨K8, 0, none⟩) 1 1) rfl 1 _ hsrc.out (by unfold maxLen; omega) (by omega) S16.out.big ?_
        intro v' u9 O9 G9 V9
        have S9 := Lib.hid (S16.out.appR (HRI.out.1.below bbu16) (HRI.out.2.1.below bbu16) HRI.out.2.2 G9 O9)
        obtain ⟨A9, c9, rfl⟩ := own_is O9
        have k16u9 := (kept_other k16u16 S16.out.rr (by decide) G9).trans k16u16
        have tku9 := (G9.block T (Array.getElem?_eq_some_iff.1 tku16).1 (fun e => by have := (own_block_lt HS.out.rr e.symm).2; have := HTW.out; omega)).trans tku16
        obtain ⟨t0, t1, t2, t3, t4, t5⟩ := cell6_of tku9
        obtain ⟨f0, f1, f2, f3⟩ := cell4_of S9.out.cF
        clear O9 G9 V9 hsrc
        simp only [Act.put, List.setIfInBounds_toArray, List.set_cons_succ, List.set_cons_zero]
        refine hK _ _ (fun q hq hd _ => ?_) ?_
        · intro _ q hq e; simp only [List.mem_cons, List.mem_nil_iff, or_false] at hq; rcases hq with rfl | rfl | rfl | rfl | rfl | rfl | rfl | rfl <;> first | assumption | (simp at e; done) | (go_simp; done) | (simp; done)
        clear hK K
        refine Own.st_do _ rfl rfl (fun K hK => ?_)
        have hsrc : Hid (Src Tryd.prog 1 41 (.slice (some ⟨K16, 0, none⟩) 1 1) 1 [.int .i64 ((i : Int) + 1)] u9) := Lib.hid (src_one Tryd.underlying41 rfl (by simp [World.cell?, k16u9]))
        refine own_append_wp (.tmp 36) (.tmp 39) 41 41 rfl B 3 iI _ 1 8 Tryd.underlying41 hiI hzI hsI hbI rfl (by decide) (.slice Aa ats.length ca) ats.length _ rfl S9.out.ar (.slice (some ⟨K16, 0, none⟩) 1 1) rfl 1 _ hsrc.out (by unfold maxLen; omega) (by omega) S9.out.big ?_
        intro v' u17 O17 G17 V17
        have S17 := Lib.hid (S9.out.appA G17 (ownI_push O17) V17)
        obtain ⟨A17, c17, rfl⟩ := own_is O17
        clear O17 G17 V17 hsrc
        simp only [Act.put, List.setIfInBounds_toArray, List.set_cons_succ, List.set_cons_zero]
        refine hK _ _ (fun q hq hd => by rw [(by decide : ∀ x ∈ [6, 7, 13], Own.dep [0, 0, 0, 4, 12, 28, 60, 0, 128, 508, 0, 1024, 3072, 7168, 0, 16384, 49152, 131068, 262141, 524285, 1048573, 2097149, 4194303, 8388607, 16777215] 17 x = true) q hq] at hd; cases hd) ?_
        clear hK K
        refine Own.st_load _ rfl rfl (.pointer (some ⟨F, 0, none⟩)) (fun w' _ => by go_simp) (CR.off _ (by decide) _) ?_
        simp only [Act.put, List.setIfInBounds_toArray, List.set_cons_succ, List.set_cons_zero]
        repeat (refine Own.st_blind _ rfl rfl (CR.off _ (by decide) _) ?_; go_big_quiet_step (fail); refine wpQuiet_nil ?_)
        refine Own.st_do _ rfl rfl (fun K hK => ?_)
        obtain ⟨f0, f1, f2, f3⟩ := cell4_of S17.out.cF
        have fz : ∀ j, u17.frozen? ⟨F, j, none⟩ = false := fun j => by have := S17.out.cF; simp [World.frozen?, this]
        go_simp
        obtain ⟨u21, hu21⟩ : ∃ v, v = u17.setCell ⟨F, 0, none⟩ (.slice A9 (rs.length + 1) c9) := ⟨_, rfl⟩
        rw [← hu21]
        have S21 := Lib.hid (show AxS B w0 u21 F Q ls (.slice A9 (rs.length + 1) c9) (.slice Ap ps.length cp) (.slice Aa ats.length ca) bad _ _ _ _ _ _ by rw [hu21]; exact S17.out.set rfl)
        clear hu21 f0 f1 f2 f3 fz
        refine hK _ _ (fun q hq hd => by rw [(by decide : ∀ x ∈ [6, 7, 13], Own.dep [0, 0, 0, 4, 12, 28, 60, 0, 128, 508, 0, 1024, 3072, 7168, 0, 16384, 49152, 131068, 262141, 524285, 1048573, 2097149, 4194303, 8388607, 16777215] 21 x = true) q hq] at hd; cases hd) ?_
        clear hK K
        refine Own.st_load _ rfl rfl (.pointer (some ⟨F, 0, none⟩)) (fun w' _ => by go_simp) (CR.off _ (by decide) _) ?_
        simp only [Act.put, List.setIfInBounds_toArray, List.set_cons_succ, List.set_cons_zero]
        repeat (refine Own.st_blind _ rfl rfl (CR.off _ (by decide) _) ?_; go_big_quiet_step (fail); refine wpQuiet_nil ?_)
        refine Own.st_do _ rfl rfl (fun K hK => ?_)
        obtain ⟨f0, f1, f2, f3⟩ := cell4_of S21.out.cF
        have fz : ∀ j, u21.frozen? ⟨F, j, none⟩ = false := fun j => by have := S21.out.cF; simp [World.frozen?, this]
        go_simp
        obtain ⟨u24, hu24⟩ : ∃ v, v = u21.setCell ⟨F, 2, none⟩ (.slice A17 (ats.length + 1) c17) := ⟨_, rfl⟩
        rw [← hu24]
        have S24 := Lib.hid (show AxS B w0 u24 F Q ls (.slice A9 (rs.length + 1) c9) (.slice Ap ps.length cp) (.slice A17 (ats.length + 1) c17) bad _ _ _ _ _ _ by rw [hu24]; exact S21.out.set rfl)
        clear hu24 f0 f1 f2 f3 fz
        refine hK _ _ (fun q hq hd => by rw [(by decide : ∀ x ∈ [6, 7, 13], Own.dep [0, 0, 0, 4, 12, 28, 60, 0, 128, 508, 0, 1024, 3072, 7168, 0, 16384, 49152, 131068, 262141, 524285, 1048573, 2097149, 4194303, 8388607, 16777215] 24 x = true) q hq] at hd; cases hd) ?_
        clear hK K
        refine Own.mix_done ?_
        go_wp2_with (fail)
        first | go_end0 | refine bodyPost_ret (results_none rfl _ _ _) rfl ?_
        exact ⟨rfl, _, _, _, _, _, _, _, S24.out, HSTEP.out⟩
    · refine Own.st_do _ rfl rfl (fun K hK => ?_)
      go_simp
      obtain ⟨u16, hu16⟩ : ∃ v, v = World.drew (w1.alloc (.cells #[Value.int .i64 ((i : Int) + 1)] 3)) := ⟨_, rfl⟩
      obtain ⟨K16, hK16⟩ : ∃ v, v = w1.heap.size := ⟨_, rfl⟩
      rw [← hu16, ← hK16]
      have b16 : Below w1.heap.size w1 u16 := by rw [hu16]; exact ((Below.refl _ _).alloc (Nat.le_refl _) _).drew
      have S16 := Lib.hid (S1.out.below b16)
      have k16u16 : u16.heap[K16]? = some (.cells #[Value.int .i64 ((i : Int) + 1)] 3 (0, 0)) := by rw [hu16, hK16]; exact blk_alloc_new w1 _
      have bbu16 : Below w1.heap.size w1 u16 := b16
      have tku16 := (b16.block _ (Array.getElem?_eq_some_iff.1 tkw1).1).trans tkw1
      obtain ⟨t0, t1, t2, t3, t4, t5⟩ := cell6_of tku16
      obtain ⟨f0, f1, f2, f3⟩ := cell4_of S16.out.cF
      clear hu16 hK16
      refine hK _ _ (fun q hq hd _ => ?_) ?_
      · intro _ q hq e; simp only [List.mem_cons, List.mem_nil_iff, or_false] at hq; rcases hq with rfl | rfl | rfl | rfl | rfl | rfl | rfl | rfl <;> first | assumption | (simp at e; done) | (go_simp; done) | (simp; done)
      clear hK K
      refine Own.st_do _ rfl rfl (fun K hK => ?_)
      go_simp
      obtain ⟨u8, hu8⟩ : ∃ v, v = u16.alloc (.cells #[.bool r.pfx, .int .i64 (r.flag : Nat), .bool r.cross, .string r.strip, .string r.add, .slice r.A r.xs.length r.c] 47) := ⟨_, rfl⟩
      obtain ⟨K8, hK8⟩ : ∃ v, v = u16.heap.size := ⟨_, rfl⟩
      rw [← hu8, ← hK8]
      have b8 : Below u16.heap.size u16 u8 := by rw [hu8]; exact ((Below.refl _ _).alloc (Nat.le_refl _) _)
      have S8 := Lib.hid (S16.out.below b8)
      have k8u8 : u8.heap[K8]? = some (.cells #[.bool r.pfx, .int .i64 (r.flag : Nat), .bool r.cross, .string r.strip, .string r.add, .slice r.A r.xs.length r.c] 47 (0, 0)) := by rw [hu8, hK8]; exact blk_alloc_new u16 _
      have k16u8 := (b8.block _ (Array.getElem?_eq_some_iff.1 k16u16).1).trans k16u16
      have bbu8 : Below w1.heap.size w1 u8 := bbu16.trans (b8.mono bbu16.size)
      have tku8 := (b8.block _ (Array.getElem?_eq_some_iff.1 tku16).1).trans tku16
      obtain ⟨t0, t1, t2, t3, t4, t5⟩ := cell6_of tku8
      obtain ⟨f0, f1, f2, f3⟩ := cell4_of S8.out.cF
      clear hu8 hK8
      refine hK _ _ (fun q hq hd _ => ?_) ?_
      · intro _ q hq e; simp only [List.mem_cons, List.mem_nil_iff, or_false] at hq; rcases hq with rfl | rfl | rfl | rfl | rfl | rfl | rfl | rfl <;> first | assumption | (simp at e; done) | (go_simp; done) | (simp; done)
      clear hK K
      refine Own.st_do _ rfl rfl (fun K hK => ?_)
      have hsrc := Lib.hid (src_rule k8u8)
      refine own_append_wp (.tmp 29) (.tmp 31) 26 26 rfl B 47 iR _ 6 80 Tryd.underlying26 hiR hzR hsR hbR rfl (by decide) (.slice Ar rs.length cr) rs.length _ rfl S8.out.rr (.slice (some ⟨K8, 0, none⟩) 1 1) rfl 1 _ hsrc.out (by unfold maxLen; omega) (by omega) S8.out.big ?_
      intro v' u9 O9 G9 V9
      have S9 := Lib.hid (S8.out.appR (HRI.out.1.below bbu8) (HRI.out.2.1.below bbu8) HRI.out.2.2 G9 O9)
      obtain ⟨A9, c9, rfl⟩ := own_is O9
      have k16u9 := (kept_other k16u8 S8.out.rr (by decide) G9).trans k16u8
      have tku9 := (G9.block T (Array.getElem?_eq_some_iff.1 tku8).1 (fun e => by have := (own_block_lt HS.out.rr e.symm).2; have := HTW.out; omega)).trans tku8
      obtain ⟨t0, t1, t2, t3, t4, t5⟩ := cell6_of tku9
      obtain ⟨f0, f1, f2, f3⟩ := cell4_of S9.out.cF
      clear O9 G9 V9 hsrc
      simp only [Act.put, List.setIfInBounds_toArray, List.set_cons_succ, List.set_cons_zero]
      refine hK _ _ (fun q hq hd _ => ?_) ?_
      · intro _ q hq e; simp only [List.mem_cons, List.mem_nil_iff, or_false] at hq; rcases hq with rfl | rfl | rfl | rfl | rfl | rfl | rfl | rfl <;> first | assumption | (simp at e; done) | (go_simp; done) | (simp; done)
      clear hK K
      refine Own.st_do _ rfl rfl (fun K hK => ?_)
      have hsrc : Hid (Src Tryd.prog 1 41 (.slice (some ⟨K16, 0, none⟩) 1 1) 1 [.int .i64 ((i : Int) + 1)] u9) := Lib.hid (src_one Tryd.underlying41 rfl (by simp [World.cell?, k16u9]))
      refine own_append_wp (.tmp 36) (.tmp 39) 41 41 rfl B 3 iI _ 1 8 Tryd.underlying41 hiI hzI hsI hbI rfl (by decide) (.slice Aa ats.length ca) ats.length _ rfl S9.out.ar (.slice (some ⟨K16, 0, none⟩) 1 1) rfl 1 _ hsrc.out (by unfold maxLen; omega) (by omega) S9.out.big ?_
      intro v' u17 O17 G17 V17
      have S17 := Lib.hid (S9.out.appA G17 (ownI_push O17) V17)
      obtain ⟨A17, c17, rfl⟩ := own_is O17
      clear O17 G17 V17 hsrc
      simp only [Act.put, List.setIfInBounds_toArray, List.set_cons_succ, List.set_cons_zero]
      refine hK _ _ (fun q hq hd => by rw [(by decide : ∀ x ∈ [6, 7, 13], Own.dep [0, 0, 0, 4, 12, 28, 60, 0, 128, 508, 0, 1024, 3072, 7168, 0, 16384, 49152, 131068, 262141, 524285, 1048573, 2097149, 4194303, 8388607, 16777215] 17 x = true) q hq] at hd; cases hd) ?_
      clear hK K
      refine Own.st_load _ rfl rfl (.pointer (some ⟨F, 0, none⟩)) (fun w' _ => by go_simp) (CR.off _ (by decide) _) ?_
      simp only [Act.put, List.setIfInBounds_toArray, List.set_cons_succ, List.set_cons_zero]
      repeat (refine Own.st_blind _ rfl rfl (CR.off _ (by decide) _) ?_; go_big_quiet_step (fail); refine wpQuiet_nil ?_)
      refine Own.st_do _ rfl rfl (fun K hK => ?_)
      obtain ⟨f0, f1, f2, f3⟩ := cell4_of S17.out.cF
      have fz : ∀ j, u17.frozen? ⟨F, j, none⟩ = false := fun j => by have := S17.out.cF; simp [World.frozen?, this]
      go_simp
      obtain ⟨u21, hu21⟩ : ∃ v, v = u17.setCell ⟨F, 0, none⟩ (.slice A9 (rs.length + 1) c9) := ⟨_, rfl⟩
      rw [← hu21]
      have S21 := Lib.hid (show AxS B w0 u21 F Q ls (.slice A9 (rs.length + 1) c9) (.slice Ap ps.length cp) (.slice Aa ats.length ca) bad _ _ _ _ _ _ by rw [hu21]; exact S17.out.set rfl)
      clear hu21 f0 f1 f2 f3 fz
      refine hK _ _ (fun q hq hd => by rw [(by decide : ∀ x ∈ [6, 7, 13], Own.dep [0, 0, 0, 4, 12, 28, 60, 0, 128, 508, 0, 1024, 3072, 7168, 0, 16384, 49152, 131068, 262141, 524285, 1048573, 2097149, 4194303, 8388607, 16777215] 21 x = true) q hq] at hd; cases hd) ?_
      clear hK K
      refine Own.st_load _ rfl rfl (.pointer (some ⟨F, 0, none⟩)) (fun w' _ => by go_simp) (CR.off _ (by decide) _) ?_
      simp only [Act.put, List.setIfInBounds_toArray, List.set_cons_succ, List.set_cons_zero]
      repeat (refine Own.st_blind _ rfl rfl (CR.off _ (by decide) _) ?_; go_big_quiet_step (fail); refine wpQuiet_nil ?_)
      refine Own.st_do _ rfl rfl (fun K hK => ?_)
      obtain ⟨f0, f1, f2, f3⟩ := cell4_of S21.out.cF
      have fz : ∀ j, u21.frozen? ⟨F, j, none⟩ = false := fun j => by have := S21.out.cF; simp [World.frozen?, this]
      go_simp
      obtain ⟨u24, hu24⟩ : ∃ v, v = u21.setCell ⟨F, 2, none⟩ (.slice A17 (ats.length + 1) c17) := ⟨_, rfl⟩
      rw [← hu24]
      have S24 := Lib.hid (show AxS B w0 u24 F Q ls (.slice A9 (rs.length + 1) c9) (.slice Ap ps.length cp) (.slice A17 (ats.length + 1) c17) bad _ _ _ _ _ _ by rw [hu24]; exact S21.out.set rfl)
      clear hu24 f0 f1 f2 f3 fz
      refine hK _ _ (fun q hq hd => by rw [(by decide : ∀ x ∈ [6, 7, 13], Own.dep [0, 0, 0, 4, 12, 28, 60, 0, 128, 508, 0, 1024, 3072, 7168, 0, 16384, 49152, 131068, 262141, 524285, 1048573, 2097149, 4194303, 8388607, 16777215] 24 x = true) q hq] at hd; cases hd) ?_
      clear hK K
      refine Own.mix_done ?_
      go_wp2_with (fail)
      first | go_end0 | refine bodyPost_ret (results_none rfl _ _ _) rfl ?_
      exact ⟨rfl, _, _, _, _, _, _, _, S24.out, HSTEP.out⟩
  | false =>
    have hrn := HR12.out.2 rfl
    have CP2 := Lib.hid (CQ.out _ _ _ Ap cp w1 B1.out S1.out.cF (reads_pairs S1.out.pr))
    have hst := HST.out
    rw [hrn.1] at hst
    have HST2 := Lib.hid hst
    clear CQ HST HR12 hrn hst HRI T1
    go_upto_region 4 with (fail)
    go_wp2_with (fail)
    refine CP2.out.mono ?_
    rintro e u2 ⟨⟨g, k, ok, rfl, hp1, hp2⟩, bu2⟩
    obtain ⟨w3, hw3⟩ : ∃ w3, w3 = u2.alloc (.cells #[.int .i64 g, .int .i64 k] 92) := ⟨_, rfl⟩
    obtain ⟨T2, hT2⟩ : ∃ T2, T2 = u2.heap.size := ⟨_, rfl⟩
    have b3 : Below u2.heap.size u2 w3 := by rw [hw3]; exact (Below.refl _ _).alloc (Nat.le_refl _) _
    have t3 : w3.heap[T2]? = some (.cells #[.int .i64 g, .int .i64 k] 92 (0, 0)) := by rw [hw3, hT2]; exact blk_alloc_new _ _
    have S3 := Lib.hid (S1.out.below (bu2.trans (b3.mono bu2.size)))
    have HP12 := Lib.hid (And.intro hp1 hp2)
    have HW3 := Lib.hid (And.intro hw3 hT2)
    obtain ⟨t0, t1⟩ := pcell2 t3
    have T3 := Lib.hid t3
    clear CP2 bu2 hw3 hT2 b3 t3 hp1 hp2 S1
    go_upto_region 5 with (fail)
    rw [← HW3.out.1, ← HW3.out.2]
    clear HW3
    obtain ⟨f0, f1, f2, f3⟩ := cell4_of S3.out.cF
    cases ok with
    | true =>
      have HSTEP : Hid ((⟨rs.map RuS.p, ps ++ [(g, k)], ats, bad⟩ : FileP) = fs) := Lib.hid (by
        rw [HST2.out, HP12.out.1 rfl])
      clear HP12 HST2
      go_upto_region 6 with (fail)
      refine Own.region_mix (CR [5, 6] [(5, ⟨F, 1, none⟩, .slice Ap ps.length cp), (6, ⟨T2, 0, none⟩, .int .i64 g), (6, ⟨T2, 1, none⟩, .int .i64 k)]) [5, 6] [0, 0, 2, 6, 14, 30, 0, 64, 254, 511, 1023, 2047, 4095] (Own.Ord.run [(0, true), (1, true), (2, true), (3, true), (4, true), (5, true), (6, true), (7, false), (8, false), (9, true), (10, true), (11, true), (12, false)] .done) (by kernel_rfl) (by kernel_rfl) (fun dst v c a w h => by cases dst <;> exact h) (fun x hx w => CR.off x hx w) ?_
      simp only [Own.Ord.run]
      repeat (refine Own.st_blind _ rfl rfl (CR.off _ (by decide) _) ?_; go_big_quiet_step (fail); refine wpQuiet_nil ?_)
      refine Own.st_load _ rfl rfl (.pointer (some ⟨F, 0, none⟩)) (fun w' _ => by go_simp) (CR.off _ (by decide) _) ?_
      simp only [Act.put, List.setIfInBounds_toArray, List.set_cons_succ, List.set_cons_zero]
      repeat (refine Own.st_blind _ rfl rfl (CR.off _ (by decide) _) ?_; go_big_quiet_step (fail); refine wpQuiet_nil ?_)
      refine Own.st_load _ rfl rfl (.slice Ap ps.length cp) (fun w' hw' => ?_) ?_ ?_
      · have hg0 := hw'.get (a := ⟨F, 1, none⟩) (v := .slice Ap ps.length cp) (by decide) (by simp)
        go_simp
      · intro _ q hq e; simp only [List.mem_cons, List.mem_nil_iff, or_false] at hq; rcases hq with rfl | rfl | rfl <;> first | assumption | (simp at e; done) | (go_simp; done) | (simp; done)
      simp only [Act.put, List.setIfInBounds_toArray, List.set_cons_succ, List.set_cons_zero]
      refine Own.st_load _ rfl rfl (.agg #[.int .i64 g, .int .i64 k]) (fun w' hw' => ?_) ?_ ?_
      · have hg0 := hw'.get (a := ⟨T2, 0, none⟩) (v := .int .i64 g) (by decide) (by simp)
        have hg1 := hw'.get (a := ⟨T2, 1, none⟩) (v := .int .i64 k) (by decide) (by simp)
        go_simp
      · intro _ q hq e; simp only [List.mem_cons, List.mem_nil_iff, or_false] at hq; rcases hq with rfl | rfl | rfl <;> first | assumption | (simp at e; done) | (go_simp; done) | (simp; done)
      simp only [Act.put, List.setIfInBounds_toArray, List.set_cons_succ, List.set_cons_zero]
      refine Own.st_do _ rfl rfl (fun K hK => ?_)
      go_simp
      obtain ⟨u7, hu7⟩ : ∃ v, v = World.drew (w3.alloc (.cells #[Value.int .i64 g, .int .i64 k] 92)) := ⟨_, rfl⟩
      obtain ⟨K7, hK7⟩ : ∃ v, v = w3.heap.size := ⟨_, rfl⟩
      rw [← hu7, ← hK7]
      have b7 : Below w3.heap.size w3 u7 := by rw [hu7]; exact ((Below.refl _ _).alloc (Nat.le_refl _) _).drew
      have S7 := Lib.hid (S3.out.below b7)
      have k7 : u7.heap[K7]? = some (.cells #[Value.int .i64 g, .int .i64 k] 92 (0, 0)) := by rw [hu7, hK7]; exact blk_alloc_new w3 _
      obtain ⟨f0, f1, f2, f3⟩ := cell4_of S7.out.cF
      have tk7 := (b7.block _ (Array.getElem?_eq_some_iff.1 T3.out).1).trans T3.out
      obtain ⟨t0, t1⟩ := pcell2 tk7
      clear hu7 hK7
      refine hK _ _ (fun q hq hd _ => ?_) ?_
      · intro _ q hq e; simp only [List.mem_cons, List.mem_nil_iff, or_false] at hq; rcases hq with rfl | rfl | rfl <;> first | assumption | (simp at e; done) | (go_simp; done) | (simp; done)
      clear hK K
      refine Own.st_do _ rfl rfl (fun K hK => ?_)
      have hsrc := Lib.hid (src_pair k7)
      refine own_append_wp (.tmp 59) (.tmp 61) 27 27 rfl B 92 iP _ 2 16 Tryd.underlying27 hiP hzP hsP hbP rfl (by decide) (.slice Ap ps.length cp) ps.length _ rfl S7.out.pr (.slice (some ⟨K7, 0, none⟩) 1 1) rfl 1 _ hsrc.out (by unfold maxLen; omega) (by omega) S7.out.big ?_
      intro v' u8 O8 G8 V8
      have S8 := Lib.hid (S7.out.appP G8 O8)
      obtain ⟨A8, c8, rfl⟩ := own_is O8
      clear O8 G8 V8 hsrc
      simp only [Act.put, List.setIfInBounds_toArray, List.set_cons_succ, List.set_cons_zero]
      refine hK _ _ (fun q hq hd => by rw [(by decide : ∀ x ∈ [5, 6], Own.dep [0, 0, 2, 6, 14, 30, 0, 64, 254, 511, 1023, 2047, 4095] 8 x = true) q hq] at hd; cases hd) ?_
      clear hK K
      refine Own.st_load _ rfl rfl (.pointer (some ⟨F, 0, none⟩)) (fun w' _ => by go_simp) (CR.off _ (by decide) _) ?_
      simp only [Act.put, List.setIfInBounds_toArray, List.set_cons_succ, List.set_cons_zero]
      repeat (refine Own.st_blind _ rfl rfl (CR.off _ (by decide) _) ?_; go_big_quiet_step (fail); refine wpQuiet_nil ?_)
      refine Own.st_do _ rfl rfl (fun K hK => ?_)
      obtain ⟨f0, f1, f2, f3⟩ := cell4_of S8.out.cF
      have fz : ∀ j, u8.frozen? ⟨F, j, none⟩ = false := fun j => by have := S8.out.cF; simp [World.frozen?, this]
      go_simp
      obtain ⟨u12, hu12⟩ : ∃ v, v = u8.setCell ⟨F, 1, none⟩ (.slice A8 (ps.length + 1) c8) := ⟨_, rfl⟩
      rw [← hu12]
      have S24 := Lib.hid (show AxS B w0 u12 F Q ls (.slice Ar rs.length cr) (.slice A8 (ps.length + 1) c8) (.slice Aa ats.length ca) bad _ _ _ _ _ _ by rw [hu12]; exact S8.out.set rfl)
      clear hu12 f0 f1 f2 f3 fz
      refine hK _ _ (fun q hq hd => by rw [(by decide : ∀ x ∈ [5, 6], Own.dep [0, 0, 2, 6, 14, 30, 0, 64, 254, 511, 1023, 2047, 4095] 12 x = true) q hq] at hd; cases hd) ?_
      clear hK K
      refine Own.mix_done ?_
      go_wp2_with (fail)
      first | go_end0 | refine bodyPost_ret (results_none rfl _ _ _) rfl ?_
      exact ⟨rfl, _, _, _, _, _, _, _, S24.out, HSTEP.out⟩
    | false =>
      have HSTEP : Hid ((⟨rs.map RuS.p, ps, ats, if bad = 0 then i + 1 else bad⟩ : FileP) = fs) := Lib.hid (by
        rw [HST2.out, HP12.out.2 rfl])
      clear HP12 HST2
      by_cases hb0 : bad = 0
      · have g4 : ((bad : Int) == 0) = true := by rw [hb0]; rfl
        have HS2 : Hid ((⟨rs.map RuS.p, ps, ats, i + 1⟩ : FileP) = fs) := Lib.hid (by have := HSTEP.out; rw [if_pos hb0] at this; exact this)
        have fz : ∀ j, w3.frozen? ⟨F, j, none⟩ = false := fun j => by have := S3.out.cF; simp [World.frozen?, this]
        clear HSTEP hb0
        go_wp2_with (fail)
        first | go_end0 | refine bodyPost_ret (results_none rfl _ _ _) rfl ?_
        exact ⟨rfl, _, _, _, _, _, _, i + 1, S3.out.set (by simp), HS2.out⟩
      · have g4 : ((bad : Int) == 0) = false := by simp; omega
        have g5 : (bad == 0) = false := by simpa using hb0
        have HS2 : Hid ((⟨rs.map RuS.p, ps, ats, bad⟩ : FileP) = fs) := Lib.hid (by have := HSTEP.out; rw [if_neg hb0] at this; exact this)
        clear HSTEP hb0
        go_wp2_with (fail)
        first | go_end0 | refine bodyPost_ret (results_none rfl _ _ _) rfl ?_
        exact ⟨rfl, _, _, _, _, _, _, _, S3.out, HS2.out⟩
end Go.Proofs.YtmcnnfpeicnnjaaDoor

/- The document's Parse of an affix file. -/
import Derived.Test.YtmpckoincdkeeaaDoorRAffP
namespace Go.Proofs.YtmpckoincdkeeaaDoor
open Go.RowKit Go.Deep Go.Own
set_option linter.unusedVariables false
structure AffSet (w wf : World) (N0 : Nat) (A1 : Option Addr) (n1 c1 : Nat) (A2 : Option Addr) (c2 : Nat) (ps : List (Int × Int)) : Prop where
  cell : wf.heap[N0]? = some (.cells #[.slice A1 n1 c1, .slice A2 ps.length c2] 26 (0, 0))
  gp : GoodPs ps
  rd : ReadsP wf A2 ps
  len : ps.length ≤ 1000000
  bel : Below w.heap.size w wf
theorem aff_ret {w wf : World} {N0 : Nat} {A1 : Option Addr} {n1 c1 : Nat} {A2 : Option Addr} {c2 : Nat} {ps : List (Int × Int)} {ln er : Int} {act : Act} (x : AffSet w wf N0 A1 n1 c1 A2 c2 ps) (hd : act.defers = [])
    (ht : act.tmps[2]? = some (.pointer (some ⟨N0, 0, none⟩)) ∧ act.tmps[3]? = some (.int .i64 ln) ∧ act.tmps[4]? = some (.int .i64 er)) : bodyPost Tryd.prog Tryd.f13 (AffPost w) .ret act wf := by
  obtain ⟨r0, r1⟩ := cell2_of x.cell
  obtain ⟨h2, h3, h4⟩ := ht
  refine bodyPost_ret (v := .tuple #[.agg #[.slice A1 n1 c1, .slice A2 ps.length c2], .int .i64 ln, .int .i64 er]) (by simp [results, Tryd.results13, go_sem, h2, h3, h4, r0, r1]; done) hd ?_
  exact ⟨⟨_, _, _, _, _, _, _, _, rfl, x.gp, x.rd, x.len⟩, x.bel⟩
theorem aff_zero {w wx wf : World} {N0 : Nat} {x0 x1 : Value} (hx : wx.heap[N0]? = some (.cells #[x0, x1] 26 (0, 0)))
    (hw : wf = (wx.setCell ⟨N0, 0, none⟩ (.slice none 0 0)).setCell ⟨N0, 1, none⟩ (.slice none 0 0)) (hb : Below w.heap.size w wx) (hN : w.heap.size ≤ N0) : AffSet w wf N0 none 0 0 none 0 [] := by
  subst hw
  refine ⟨?_, GoodPs.nil, fun h => absurd h (by simp), by simp, (hb.setCell (p := ⟨N0, 0, none⟩) hN _).setCell (p := ⟨N0, 1, none⟩) hN _⟩
  rw [setCell_same (setCell_same hx _)]
  rfl
theorem AffSet.drew {w wf : World} {N0 : Nat} {A1 : Option Addr} {n1 c1 : Nat} {A2 : Option Addr} {c2 : Nat} {ps : List (Int × Int)} (x : AffSet w wf N0 A1 n1 c1 A2 c2 ps) : AffSet w wf.drew N0 A1 n1 c1 A2 c2 ps := ⟨x.cell, x.gp, x.rd.below (belowN wf 1), x.len, x.bel.drew⟩
theorem aff_fin {w wx wf : World} {N0 M : Nat} {A1 : Option Addr} {c1 : Nat} {A2 : Option Addr} {c2 : Nat} {av : Value} {rs : List RuleS} {ps : List (Int × Int)} {ats : List Int} (h : AfS w.heap.size w wx N0 M (.slice A1 rs.length c1) (.slice A2 ps.length c2) av rs ps ats)
    (hw : wf = (wx.setCell ⟨N0, 0, none⟩ (.slice A1 rs.length c1)).setCell ⟨N0, 1, none⟩ (.slice A2 ps.length c2)) (hg : GoodPs ps) (hl : ps.length ≤ 1000000) : AffSet w wf N0 A1 rs.length c1 A2 c2 ps := by
  subst hw
  have h1 : (wx.setCell ⟨N0, 0, none⟩ (.slice A1 rs.length c1)).heap[N0]? = some (.cells #[.slice A1 rs.length c1, .slice none 0 0] 26 (0, 0)) := setCell_same (j := 0) h.cN (.slice A1 rs.length c1)
  refine ⟨?_, hg, reads_pairs (row_set (row_set h.pr h.cN (by decide)) h1 (by decide)), hl, (h.bel.setCell (p := ⟨N0, 0, none⟩) h.hN _).setCell (p := ⟨N0, 1, none⟩) h.hN _⟩
  rw [setCell_same h1]
  rfl
structure AffR1 (w wr : World) (N0 M : Nat) (lv rv pv av : Value) (rs : List RuleS) (ps : List (Int × Int)) (ats : List Int) (ls : List (List UInt8)) : Prop where
  s : AfS w.heap.size w wr N0 M rv pv av rs ps ats
  l : RowS wr w.heap.size lv ls
  g : GoodPs ps
  al : ats.length = rs.length
theorem AffR1.below {w wr wx : World} {N0 M : Nat} {lv rv pv av : Value} {rs : List RuleS} {ps : List (Int × Int)} {ats : List Int} {ls : List (List UInt8)} (h : AffR1 w wr N0 M lv rv pv av rs ps ats ls) (hb : Below wr.heap.size wr wx) : AffR1 w wx N0 M lv rv pv av rs ps ats ls :=
  ⟨h.s.below hb, h.l.below hb, h.g, h.al⟩
theorem lines_len (l : List UInt8) : (linesR l).length ≤ l.length + 1 := by
  unfold linesR
  have h := cutL_len 10 l
  have hne := cutL_ne 10 l
  have h0 : 0 < (cutL 10 l).length := by
    cases hc : cutL 10 l with
    | nil => exact absurd hc hne
    | cons a t => simp
  rw [List.length_append, List.length_dropLast]
  split
  · simp; omega
  · cases (cutL 10 l).getLast? <;> simp <;> omega
theorem lines_size {l x : List UInt8} (h : x ∈ linesR l) : x.length ≤ l.length := by
  unfold linesR at h
  refine cutL_size 10 l x ?_
  rcases List.mem_append.1 h with h | h
  · exact List.dropLast_subset _ h
  · split at h
    · cases h
    · have := Option.mem_toList.1 h
      exact List.mem_of_getLast? this
theorem row_str {w : World} {B : Nat} {A : Option Addr} {c : Nat} {ls : List (List UInt8)} (h : RowS w B (.slice A ls.length c) ls) {i : Nat} {l : List UInt8} (hi : ls[i]? = some l) : ∃ q, A = some ⟨q, 0, none⟩ ∧ w.cell? ⟨q, i, none⟩ = some (.string (mkB l)) := by
  obtain ⟨q, cap, e, _, _, _, _, hc, _⟩ := row_at h (by have := (List.getElem?_eq_some_iff.1 hi).1; omega)
  injection e with e1 _ _
  exact ⟨q, e1, hc i _ (by rw [List.getElem?_map, hi]; rfl)⟩
theorem zero_toList {r : ByteArray} (h : r.size = 0) : r.toList.isEmpty = true := by
  rw [ByteArray.toList_eq]
  have e : r.data.toList.length = r.size := by simp
  rw [h] at e
  rw [List.length_eq_zero_iff.1 e]
  rfl
theorem row_ne {w : World} {base e size n : Nat} {v : Value} {xs : List Value} {k q : Nat} {c : Array Value} {t : TypeId} {fr : Nat × Nat} (hr : w.ownsRow base e size v n xs) (hk : w.heap[k]? = some (.cells c t fr)) (hne : t ≠ e) (hq : v.ownBlock = some q) : q ≠ k := fun h => by
  obtain ⟨c2, h2⟩ := own_row_type hr hq
  subst h
  rw [hk] at h2
  injection h2 with h2
  injection h2 with _ h3 _
  exact hne h3
set_option maxRecDepth 100000 in
set_option maxHeartbeats 32000000 in
theorem aff_calls (s : ByteArray) (w : World) (hs : s.size ≤ 1000000000) : Calls Tryd.prog 13 #[.string s] w (AffPost w) := by
  obtain ⟨iI, hiI, hzI, hsI, hbI⟩ := info_parts infoI
  obtain ⟨iR, hiR, hzR, hsR, hbR⟩ := info_parts infoRu
  obtain ⟨iP, hiP, hzP, hsP, hbP⟩ := info_parts infoPr
  obtain ⟨w1, hw1⟩ : ∃ w1, w1 = w.alloc (.cells #[Value.slice none 0 0, .slice none 0 0] 26) := ⟨_, rfl⟩
  obtain ⟨N0, hN0⟩ : ∃ N0, N0 = w.heap.size := ⟨_, rfl⟩
  have b1 : Below w.heap.size w w1 := by rw [hw1]; exact (Below.refl _ _).alloc (Nat.le_refl _) _
  have n1 : w1.heap[N0]? = some (.cells #[.slice none 0 0, .slice none 0 0] 26 (0, 0)) := by rw [hw1, hN0]; exact blk_alloc_new _ _
  have HW1 := Lib.hid (And.intro hw1 hN0)
  have B1 := Lib.hid b1
  have N1 := Lib.hid n1
  have HN := Lib.hid (show w.heap.size ≤ N0 by rw [hN0]; exact Nat.le_refl _)
  clear hw1 hN0 b1 n1
  by_cases hbig : 65536 < s.size
  · have g1 : decide (65536 < (s.size : Int)) = true := by simp; omega
    go_enter Tryd.func13, Tryd.ntmps13
    go_upto_region 1 with (fail)
    rw [← HW1.out.1, ← HW1.out.2]
    obtain ⟨m0, m1⟩ := cell2_of N1.out
    have fz : ∀ j, w1.frozen? ⟨N0, j, none⟩ = false := fun j => by have := N1.out; simp [World.frozen?, this]
    clear hbig
    go_wp2_with (fail)
    generalize hwf : (w1.setCell ⟨N0, 0, none⟩ _).setCell ⟨N0, 1, none⟩ _ = wf
    have HWF := aff_zero N1.out hwf.symm B1.out HN.out
    clear hwf
    exact aff_ret HWF rfl ⟨rfl, rfl, rfl⟩
  · have g1 : decide (65536 < (s.size : Int)) = false := by simp; omega
    have CL := Lib.hid (lines_calls s w1 (by omega))
    obtain ⟨ls, hls⟩ : ∃ ls, ls = linesR s.data.toList := ⟨_, rfl⟩
    have hln : ls.length ≤ 65537 := by
      rw [hls]
      have := lines_len s.data.toList
      have e : s.data.toList.length = s.size := by simp
      omega
    have HLZ := Lib.hid (show ∀ x ∈ ls, (mkB x).size ≤ 65536 from fun x hx => by
      rw [hls] at hx
      have := lines_size hx
      have e : s.data.toList.length = s.size := by simp
      rw [mk_size]
      omega)
    rw [← hls] at CL
    clear hls hbig hs
    go_enter Tryd.func13, Tryd.ntmps13
    go_upto_region 1 with (fail)
    rw [← HW1.out.1, ← HW1.out.2]
    go_wp2_with (fail)
    refine CL.out.mono ?_
    rintro e w2 ⟨⟨v2, rfl, o2⟩, b2⟩
    obtain ⟨AL, cL, rfl⟩ := own_is o2
    have L2 := Lib.hid (show RowS w2 w.heap.size (.slice AL ls.length cL) ls from own_base o2 B1.out.size)
    have B2 := Lib.hid (B1.out.trans (b2.mono B1.out.size))
    have N2 := Lib.hid ((b2.block _ (Array.getElem?_eq_some_iff.1 N1.out).1).trans N1.out)
    clear CL o2 b2 HW1 B1 N1
    obtain ⟨n, hn⟩ : ∃ n, n = ls.length := ⟨_, rfl⟩
    go_upto_region 5 with (fail)
    obtain ⟨w3, hw3⟩ : ∃ w3, w3 = w2.alloc (.cells #[Value.slice none 0 0, .slice none 0 0] 26) := ⟨_, rfl⟩
    obtain ⟨M, hM⟩ : ∃ M, M = w2.heap.size := ⟨_, rfl⟩
    rw [← hw3, ← hM]
    have b3 : Below w2.heap.size w2 w3 := by rw [hw3]; exact (Below.refl _ _).alloc (Nat.le_refl _) _
    have I3 := Lib.hid (show AffR1 w w3 N0 M (.slice AL ls.length cL) (.slice none 0 0) (.slice none 0 0) (.slice none 0 0) [] [] [] ls from
      ⟨⟨(b3.block _ (Array.getElem?_eq_some_iff.1 N2.out).1).trans N2.out, by rw [hw3, hM]; exact blk_alloc_new _ _, World.ownsRow_nil _ _ _ _, World.ownsRow_nil _ _ _ _, OwnI.nil _ _ _, B2.out.trans (b3.mono B2.out.size), by rw [hM]; have := (Array.getElem?_eq_some_iff.1 N2.out).1; omega, HN.out, by rw [hM]; exact B2.out.size⟩, L2.out.below b3, GoodPs.nil, rfl⟩)
    have HNL := Lib.hid hn
    rw [← hn] at I3 hln ⊢
    clear hw3 hM b3 hn B2 N2 L2
    go_wp2_with (fail)
    go_loopw [7, 8, 9] (fun av bv iv wr => ∃ (i bad : Nat) (rs : List RuleS) (ps : List (Int × Int)) (ats : List Int) (rv pv : Value), iv = .int .i64 (i : Nat) ∧ i ≤ n ∧ bv = .int .i64 (bad : Nat) ∧ bad ≤ i ∧ AffR1 w wr N0 M (.slice AL n cL) rv pv av rs ps ats ls ∧ rs.length + ps.length ≤ i) (fun _ _ iv _ => n - (intOf iv).toNat)
    case atStart => exact ⟨0, 0, [], [], [], _, _, rfl, Nat.zero_le _, rfl, Nat.le_refl _, I3.out, Nat.le_refl _⟩
    case round =>
      clear I3
      obtain ⟨i, bad, rs, ps, ats, rv, pv, rfl, hi, rfl, hbi, hI, hrp⟩ := hrel
      obtain ⟨Ar, cr, rfl⟩ := own_is hI.s.rr
      obtain ⟨Ap, cp, rfl⟩ := own_is hI.s.pr
      obtain ⟨Aa, ca, rfl⟩ := own_is hI.s.ar
      have HI := Lib.hid hI
      clear hI
      by_cases hlt : i < n
      · have g1 : decide (i < n) = true := by simpa using hlt
        obtain ⟨l, hl⟩ : ∃ l, ls[i]? = some l := ⟨_, List.getElem?_eq_getElem (by have := HNL.out; omega)⟩
        obtain ⟨q, hq, hc⟩ := row_str (show RowS wr w.heap.size (.slice AL ls.length cL) ls by rw [← HNL.out]; exact HI.out.l) hl
        subst hq
        have hrz : (mkB l).size ≤ 65536 := HLZ.out l (List.mem_of_getElem? hl)
        obtain ⟨r, hr⟩ : ∃ r, r = mkB l := ⟨_, rfl⟩
        rw [← hr] at hc hrz
        have HC := Lib.hid (show ∀ wx, Below wr.heap.size wr wx → wx.cell? ⟨q, i, none⟩ = some (.string r) from fun wx hb => (hb.cell (World.block_lt_of_cell? _ _ hc)).trans hc)
        clear hr hl
        by_cases k1 : r.toList.isEmpty = true
        · go_wp2_with (fail)
          go_roundw
          case rel => exact ⟨i + 1, bad, rs, ps, ats, _, _, by go_num, hlt, rfl, by omega, HI.out, by omega⟩
          case measure => simp [intOf]; omega
        have k1 : r.toList.isEmpty = false := by simpa using k1
        have hr0 : 0 < r.size := by
          by_cases h : r.size = 0
          · rw [zero_toList h] at k1; cases k1
          · omega
        have hix : ∀ w : World, (Instr.index 9 (.string r) (.int .i64 0)).run Tryd.prog w = .ok (.int .u8 (uB r 0 : Nat)) w := fun w => s_index r 0 hr0 w
        obtain ⟨u, hu⟩ : ∃ u, u = uB r 0 := ⟨_, rfl⟩
        rw [← hu] at hix
        clear hr0 hu
        by_cases k2 : u = 35
        · have g2 : ((u : Int) == 35) = true := by rw [k2]; rfl
          clear k2
          go_wp2_with (fail)
          go_roundw
          case rel => exact ⟨i + 1, bad, rs, ps, ats, _, _, by go_num, hlt, rfl, by omega, HI.out, by omega⟩
          case measure => simp [intOf]; omega
        have g2 : ((u : Int) == 35) = false := by simp; omega
        have g3 : (u == 35) = false := by simpa using k2
        clear k2
        go_upto_region 11 with (fail)
        go_cut [10, 11] (fun v10 v11 wx => ∃ (T : Nat) (g k : Int) (ok : Bool), v10 = .pointer (some ⟨T, 0, none⟩) ∧ v11 = .bool ok ∧ wx.heap[T]? = some (.cells #[.int .i64 g, .int .i64 k] 37 (0, 0)) ∧ (ok = true → PairOk ps g k) ∧ Below wr.heap.size wr wx)
        case first =>
          have CP := Lib.hid (show ∀ wx, Below wr.heap.size wr wx → Calls Tryd.prog 27 #[.string r, .slice Ap ps.length cp] wx (PairPost ps wx) from fun wx hb => pair_calls r ps Ap cp wx (by omega) (reads_pairs (HI.out.below hb).s.pr) (by omega))
          unfold PairPost at CP
          have x0 := HC.out wr (Below.refl _ _)
          obtain ⟨_, x1⟩ := cell2_of HI.out.s.cM
          clear hix
          refine Own.region_mix (CR [3, 5] [(3, ⟨q, i, none⟩, .string r), (5, ⟨M, 1, none⟩, .slice Ap ps.length cp)]) [3, 5] [0, 0, 3, 7, 0, 16, 63, 127, 255, 255, 0, 1535, 4095] (Own.Ord.run [(0, true), (1, true), (2, true), (3, true), (4, true), (5, true)] (.fork (.go 6 false (Own.Ord.run [(7, true), (8, true), (9, true), (10, false), (11, false), (12, true)] .done)) (.go 10 false (Own.Ord.run [(6, false), (7, true), (8, true), (9, true), (11, false), (12, true)] .done)))) (by kernel_rfl) (by kernel_rfl) (fun dst v c a w h => by cases dst <;> exact h) (fun x hx w => CR.off x hx w) ?_
          simp only [Own.Ord.run]
          repeat (refine Own.st_blind _ rfl rfl (CR.off _ (by decide) _) ?_; go_big_quiet_step (fail); refine wpQuiet_nil ?_)
          refine Own.st_load _ rfl rfl (.string r) (fun w' hw' => ?_) ?_ ?_
          · have hg0 := hw'.get (a := ⟨q, i, none⟩) (v := .string r) (by decide) (by simp)
            go_simp
          · intro _ q hq e; simp only [List.mem_cons, List.mem_nil_iff, or_false] at hq; rcases hq with rfl | rfl <;> first | assumption | (simp at e; done) | (go_simp; done) | (simp; done)
          simp only [Act.put, List.setIfInBounds_toArray, List.set_cons_succ, List.set_cons_zero]
          repeat (refine Own.st_blind _ rfl rfl (CR.off _ (by decide) _) ?_; go_big_quiet_step (fail); refine wpQuiet_nil ?_)
          refine Own.st_load _ rfl rfl (.slice Ap ps.length cp) (fun w' hw' => ?_) ?_ ?_
          · have hg0 := hw'.get (a := ⟨M, 1, none⟩) (v := .slice Ap ps.length cp) (by decide) (by simp)
            go_simp
          · intro _ q hq e; simp only [List.mem_cons, List.mem_nil_iff, or_false] at hq; rcases hq with rfl | rfl <;> first | assumption | (simp at e; done) | (go_simp; done) | (simp; done)
          simp only [Act.put, List.setIfInBounds_toArray, List.set_cons_succ, List.set_cons_zero]
          refine Own.mix_fork ?_ ?_
          · refine Own.st_do _ rfl rfl (fun K hK => ?_)
            go_simp
            refine (CP.out _ ((Below.refl _ _).drew)).mono ?_
            rintro e u1 ⟨⟨g, k, ok, rfl, hok⟩, hbu1⟩
            have bu1 : Below wr.heap.size wr u1 := by have h0 : Below wr.heap.size wr (World.drew wr) := (Below.refl _ _).drew; exact h0.trans (hbu1.mono h0.size)
            refine hK _ _ (fun q hq hd => by rw [(by decide : ∀ x ∈ [3, 5], Own.dep [0, 0, 3, 7, 0, 16, 63, 127, 255, 255, 0, 1535, 4095] 6 x = true) q hq] at hd; cases hd) ?_
            clear hK K
            repeat (refine Own.st_blind _ rfl rfl (CR.off _ (by decide) _) ?_; go_big_quiet_step (fail); refine wpQuiet_nil ?_)
            refine Own.st_do _ rfl rfl (fun K hK => ?_)
            go_simp
            obtain ⟨u2, hwu2⟩ : ∃ v, v = u1.alloc (.cells #[Value.int .i64 0, .int .i64 0] 37) := ⟨_, rfl⟩
            obtain ⟨T, hT⟩ : ∃ v, v = u1.heap.size := ⟨_, rfl⟩
            rw [← hwu2, ← hT]
            have bu2 : Below wr.heap.size wr u2 := by rw [hwu2]; exact bu1.alloc bu1.size _
            have nu2 : u2.heap[T]? = some (.cells #[Value.int .i64 0, .int .i64 0] 37 (0, 0)) := by rw [hwu2, hT]; exact blk_alloc_new _ _
            have hTw : wr.heap.size ≤ T := by rw [hT]; exact bu1.size
            have y0 := HC.out u2 bu2
            have y1 := (cell2_of (HI.out.below bu2).s.cM).2
            clear hwu2 hT
            refine hK _ _ (fun q hq hd _ => ?_) ?_
            · intro _ q hq e; simp only [List.mem_cons, List.mem_nil_iff, or_false] at hq; rcases hq with rfl | rfl <;> first | assumption | (simp at e; done) | (go_simp; done) | (simp; done)
            clear hK K
            refine Own.st_do _ rfl rfl (fun K hK => ?_)
            obtain ⟨z0, z1⟩ := cell2_of nu2
            have fz : ∀ j, u2.frozen? ⟨T, j, none⟩ = false := fun j => by simp [World.frozen?, nu2]
            go_simp
            generalize hwf : (u2.setCell ⟨T, 0, none⟩ (.int .i64 g)).setCell ⟨T, 1, none⟩ (.int .i64 k) = wf
            have HWF := Lib.hid (pair_set nu2 hwf.symm bu2 hTw)
            clear hwf
            refine hK _ _ (fun q hq hd => by rw [(by decide : ∀ x ∈ [3, 5], Own.dep [0, 0, 3, 7, 0, 16, 63, 127, 255, 255, 0, 1535, 4095] 11 x = true) q hq] at hd; cases hd) ?_
            clear hK K
            repeat (refine Own.st_blind _ rfl rfl (CR.off _ (by decide) _) ?_; go_big_quiet_step (fail); refine wpQuiet_nil ?_)
            refine Own.mix_done ?_
            go_wp2_with (fail)
            go_meet
            first | exact ⟨T, g, k, ok, rfl, rfl, HWF.out.cell, hok, HWF.out.bel⟩ | exact ⟨T, g, k, ok, rfl, rfl, HWF.out.drew.cell, hok, HWF.out.drew.bel⟩
          · refine Own.st_do _ rfl rfl (fun K hK => ?_)
            go_simp
            obtain ⟨u1, hwu1⟩ : ∃ v, v = (wr.alloc (.cells #[Value.int .i64 0, .int .i64 0] 37)).drew := ⟨_, rfl⟩
            obtain ⟨T, hT⟩ : ∃ v, v = wr.heap.size := ⟨_, rfl⟩
            rw [← hwu1, ← hT]
            have bu1 : Below wr.heap.size wr u1 := by rw [hwu1]; exact ((Below.refl _ _).alloc (Nat.le_refl _) _).drew
            have nu1 : u1.heap[T]? = some (.cells #[Value.int .i64 0, .int .i64 0] 37 (0, 0)) := by rw [hwu1, hT]; exact blk_alloc_new wr _
            have hTw : wr.heap.size ≤ T := by rw [hT]; exact Nat.le_refl _
            have y0 := HC.out u1 bu1
            have y1 := (cell2_of (HI.out.below bu1).s.cM).2
            clear hwu1 hT
            refine hK _ _ (fun q hq hd _ => ?_) ?_
            · intro _ q hq e; simp only [List.mem_cons, List.mem_nil_iff, or_false] at hq; rcases hq with rfl | rfl <;> first | assumption | (simp at e; done) | (go_simp; done) | (simp; done)
            clear hK K
            refine Own.st_do _ rfl rfl (fun K hK => ?_)
            go_simp
            refine (CP.out _ bu1).mono ?_
            rintro e u2 ⟨⟨g, k, ok, rfl, hok⟩, hbu2⟩
            have bu2 : Below wr.heap.size wr u2 := bu1.trans (hbu2.mono bu1.size)
            have nu2 := (hbu2.block _ (Array.getElem?_eq_some_iff.1 nu1).1).trans nu1
            refine hK _ _ (fun q hq hd => by rw [(by decide : ∀ x ∈ [3, 5], Own.dep [0, 0, 3, 7, 0, 16, 63, 127, 255, 255, 0, 1535, 4095] 6 x = true) q hq] at hd; cases hd) ?_
            clear hK K
            repeat (refine Own.st_blind _ rfl rfl (CR.off _ (by decide) _) ?_; go_big_quiet_step (fail); refine wpQuiet_nil ?_)
            refine Own.st_do _ rfl rfl (fun K hK => ?_)
            obtain ⟨z0, z1⟩ := cell2_of nu2
            have fz : ∀ j, u2.frozen? ⟨T, j, none⟩ = false := fun j => by simp [World.frozen?, nu2]
            go_simp
            generalize hwf : (u2.setCell ⟨T, 0, none⟩ (.int .i64 g)).setCell ⟨T, 1, none⟩ (.int .i64 k) = wf
            have HWF := Lib.hid (pair_set nu2 hwf.symm bu2 hTw)
            clear hwf
            refine hK _ _ (fun q hq hd => by rw [(by decide : ∀ x ∈ [3, 5], Own.dep [0, 0, 3, 7, 0, 16, 63, 127, 255, 255, 0, 1535, 4095] 11 x = true) q hq] at hd; cases hd) ?_
            clear hK K
            repeat (refine Own.st_blind _ rfl rfl (CR.off _ (by decide) _) ?_; go_big_quiet_step (fail); refine wpQuiet_nil ?_)
            refine Own.mix_done ?_
            go_wp2_with (fail)
            go_meet
            first | exact ⟨T, g, k, ok, rfl, rfl, HWF.out.cell, hok, HWF.out.bel⟩ | exact ⟨T, g, k, ok, rfl, rfl, HWF.out.drew.cell, hok, HWF.out.drew.bel⟩
        obtain ⟨T, g, k, ok, rfl, rfl, hT, hok, hb⟩ := hcut
        have HI1 := Lib.hid (HI.out.below hb)
        have HC1 := Lib.hid (show ∀ wx, Below wc.heap.size wc wx → wx.cell? ⟨q, i, none⟩ = some (.string r) from fun wx hb' => HC.out wx (hb.trans (hb'.mono hb.size)))
        have HOK := Lib.hid hok
        have HTT := Lib.hid hT
        clear HI HC hix hok hT hb k1 g2 g3 hc
        cases ok with
        | true =>
          obtain ⟨o, ho⟩ : ∃ o, o = Obj.cells #[Value.int .i64 g, .int .i64 k] 37 := ⟨_, rfl⟩
          have b4 : Below wc.heap.size wc (wc.alloc o) := (Below.refl _ _).alloc (Nat.le_refl _) _
          have I4 := Lib.hid (HI1.out.below b4)
          have N4 := Lib.hid (show (wc.alloc o).heap[wc.heap.size]? = some (.cells #[.int .i64 g, .int .i64 k] 37 (0, 0)) by rw [ho]; exact blk_alloc_new _ _)
          have hG := Lib.hid (I4.out.g.snoc (HOK.out rfl))
          obtain ⟨z0, z1⟩ := cell2_of HTT.out
          obtain ⟨_, x1⟩ := cell2_of HI1.out.s.cM
          subst ho
          clear b4 HOK
          go_wp2_with (at_builtin; refine own_append (o := ⟨some 57, _, _, _, _, _⟩) rfl (.tmp 54) (.tmp 56) 24 24 rfl w.heap.size 37 iP _ 2 16 Tryd.underlying24 hiP hzP hsP hbP rfl (by decide) (.slice Ap ps.length cp) ps.length _ rfl I4.out.s.pr (.slice (some ⟨wc.heap.size, 0, none⟩) 1 1) rfl 1 _ (src_pair N4.out) (by unfold maxLen; omega) (by omega) I4.out.s.big ?_; intro v5 w5 O5 G5 V5; obtain ⟨hM5, S5⟩ := AfS.pushP I4.out.s G5 O5; have L5 := row_set (kept_row I4.out.l I4.out.s.pr (by decide) G5) hM5 (by decide) (j := 1) (x := v5); obtain ⟨A5, c5, hv5⟩ := own_is O5; subst hv5; obtain ⟨m0, m1⟩ := cell2_of hM5; have fz : ∀ j, w5.frozen? ⟨M, j, none⟩ = false := fun j => by simp [World.frozen?, hM5])
          go_roundw
          case rel => exact ⟨i + 1, bad, rs, ps ++ [(g, k)], ats, _, _, by go_num, hlt, rfl, by omega, ⟨S5, L5, hG.out, I4.out.al⟩, by simp; omega⟩
          case measure => simp [intOf]; omega
        | false =>
          have y0 := HC1.out wc (Below.refl _ _)
          have CR0 := Lib.hid (r10_calls r wc (by omega))
          unfold RulePost at CR0
          clear HOK HTT
          go_upto_region 14 with (fail)
          go_wp2_with (fail)
          refine CR0.out.mono ?_
          rintro e wd ⟨⟨pf, f, xr, ra, rb, Ax, nx, cx, ok, rfl⟩, bd⟩
          unfold ruleV
          have HI2 := Lib.hid (HI1.out.below bd)
          clear CR0 bd y0 HI1 HC1
          go_upto_region 15 with (fail)
          obtain ⟨we, hwe⟩ : ∃ we, we = wd.alloc (.cells #[Value.bool pf, .int .i64 f, .bool xr, .string ra, .string rb, .slice Ax nx cx] 63) := ⟨_, rfl⟩
          obtain ⟨K6, hK6⟩ : ∃ K6, K6 = wd.heap.size := ⟨_, rfl⟩
          rw [← hwe, ← hK6]
          have be : Below wd.heap.size wd we := by rw [hwe]; exact (Below.refl _ _).alloc (Nat.le_refl _) _
          have HI3 := Lib.hid (HI2.out.below be)
          have NK := Lib.hid (show we.heap[K6]? = some (.cells #[Value.bool pf, .int .i64 f, .bool xr, .string ra, .string rb, .slice Ax nx cx] 63 (0, 0)) by rw [hwe, hK6]; exact blk_alloc_new _ _)
          clear hwe hK6 be HI2
          cases ok with
          | false =>
            by_cases hb0 : bad = 0
            · subst hb0
              go_wp2_with (fail)
              go_roundw
              case rel => exact ⟨i + 1, i + 1, rs, ps, ats, _, _, by go_num, hlt, by go_num, by omega, HI3.out, by omega⟩
              case measure => simp [intOf]; omega
            · have g4 : ((bad : Int) == 0) = false := by simp; omega
              go_wp2_with (fail)
              go_roundw
              case rel => exact ⟨i + 1, bad, rs, ps, ats, _, _, by go_num, hlt, rfl, by omega, HI3.out, by omega⟩
              case measure => simp [intOf]; omega
          | true =>
            obtain ⟨ru, hru⟩ : ∃ ru : RuleS, ru = ⟨pf, f, xr, ra, rb, Ax, nx, cx⟩ := ⟨_, rfl⟩
            obtain ⟨o, ho⟩ : ∃ o, o = Obj.cells #[Value.bool pf, .int .i64 f, .bool xr, .string ra, .string rb, .slice Ax nx cx] 63 := ⟨_, rfl⟩
            have b4 : Below we.heap.size we (we.alloc o) := (Below.refl _ _).alloc (Nat.le_refl _) _
            have I4 := Lib.hid (HI3.out.below b4)
            have N4 := Lib.hid (show (we.alloc o).heap[we.heap.size]? = some (.cells #[.bool ru.pf, .int .i64 ru.f, .bool ru.cr, .string ru.a, .string ru.b, .slice ru.A ru.n ru.c] 63 (0, 0)) by rw [ho, hru]; exact blk_alloc_new _ _)
            obtain ⟨z0, z1, z2, z3, z4, z5⟩ := cell6_of NK.out
            obtain ⟨x1, _⟩ := cell2_of HI3.out.s.cM
            have HAL := Lib.hid I4.out.al
            have hal : ats.length ≤ 65537 := by have := I4.out.al; omega
            clear hru b4
            subst ho
            go_wp2_with (first
              | (at_builtin; refine own_append (o := ⟨some 77, _, _, _, _, _⟩) rfl (.tmp 74) (.tmp 76) 23 23 rfl w.heap.size 63 iR _ 6 80 Tryd.underlying23 hiR hzR hsR hbR rfl (by decide) (.slice Ar rs.length cr) rs.length _ rfl I4.out.s.rr (.slice (some ⟨we.heap.size, 0, none⟩) 1 1) rfl 1 _ (src_rule N4.out) (by unfold maxLen; omega) (by omega) I4.out.s.big ?_; intro v5 w5 O5 G5 V5; have S5 := AfS.growR I4.out.s G5 O5; have L5 := kept_row I4.out.l I4.out.s.rr (by decide) G5; have S6 := S5.below ((Below.refl _ _).alloc (Nat.le_refl _) (.cells #[Value.int .i64 ((i : Int) + 1)] 3)); have L6 := RowS.below L5 ((Below.refl _ _).alloc (Nat.le_refl _) (.cells #[Value.int .i64 ((i : Int) + 1)] 3)); obtain ⟨A5, c5, hv5⟩ := own_is O5; subst hv5; have N6 := blk_alloc_new w5 (.cells #[Value.int .i64 ((i : Int) + 1)] 3))
              | (at_builtin; refine own_append (o := ⟨some 82, _, _, _, _, _⟩) rfl (.tmp 78) (.tmp 81) 48 48 rfl w.heap.size 3 iI _ 1 8 Tryd.underlying48 hiI hzI hsI hbI rfl (by decide) (.slice Aa ats.length ca) ats.length _ rfl S6.ar (.slice (some ⟨w5.heap.size, 0, none⟩) 1 1) rfl 1 _ (src_one Tryd.underlying48 rfl (by rw [World.cell?]; simp only [N6]; rfl)) (by unfold maxLen; omega) (by omega) S6.big ?_; intro v7 w7 O7 G7 V7; obtain ⟨hM7, S7⟩ := AfR.pushA S6 G7 (ownI_push O7); have L7 := row_set (kept_row L6 S6.ar (by decide) G7) hM7 (by decide) (j := 0) (x := .slice A5 (rs.length + 1) c5); obtain ⟨A7, c7, hv7⟩ := own_is O7; subst hv7; obtain ⟨m0, m1⟩ := cell2_of hM7; have fz : ∀ j, w7.frozen? ⟨M, j, none⟩ = false := fun j => by simp [World.frozen?, hM7]))
            go_roundw
            case rel => exact ⟨i + 1, bad, rs ++ [ru], ps, ats ++ [(i : Int) + 1], _, _, by go_num, hlt, rfl, by omega, ⟨S7, L7, HI3.out.g, by simp [HAL.out]⟩, by simp; omega⟩
            case measure => simp [intOf]; omega
      · obtain rfl : i = n := by omega
        have g1 : decide (i < i) = false := by simp
        have HS := Lib.hid HI.out.s
        have HG := Lib.hid HI.out.g
        have HAL := Lib.hid HI.out.al
        obtain ⟨x0, x1⟩ := cell2_of HS.out.cM
        obtain ⟨m0, m1⟩ := cell2_of HS.out.cN
        have fz : ∀ j, wr.frozen? ⟨N0, j, none⟩ = false := fun j => by have := HS.out.cN; simp [World.frozen?, this]
        have hrl : rs.length ≤ 65537 := by omega
        have hpl : ps.length ≤ 65537 := by omega
        clear HI hlt hrp hi HLZ HNL hln
        by_cases h2 : 200 < rs.length
        · have g2 : decide (200 < (rs.length : Int)) = true := by simp; omega
          clear h2
          go_wp2_with (fail)
          generalize hwf : (wr.setCell ⟨N0, 0, none⟩ _).setCell ⟨N0, 1, none⟩ _ = wf
          have HWF := aff_zero HS.out.cN hwf.symm HS.out.bel HN.out
          clear hwf
          exact aff_ret HWF rfl ⟨rfl, rfl, rfl⟩
        have g2 : decide (200 < (rs.length : Int)) = false := by simp; omega
        by_cases h3 : 200 < ps.length
        · have g3 : decide (200 < (ps.length : Int)) = true := by simp; omega
          clear h3
          go_wp2_with (fail)
          generalize hwf : (wr.setCell ⟨N0, 0, none⟩ _).setCell ⟨N0, 1, none⟩ _ = wf
          have HWF := aff_zero HS.out.cN hwf.symm HS.out.bel HN.out
          clear hwf
          exact aff_ret HWF rfl ⟨rfl, rfl, rfl⟩
        have g3 : decide (200 < (ps.length : Int)) = false := by simp; omega
        by_cases h4 : 0 < bad
        · have g4 : decide (0 < bad) = true := by simpa using h4
          have g4' : decide (0 < (bad : Int)) = true := by simp; omega
          clear h4
          go_wp2_with (fail)
          generalize hwf : (wr.setCell ⟨N0, 0, none⟩ _).setCell ⟨N0, 1, none⟩ _ = wf
          have HWF := aff_zero HS.out.cN hwf.symm HS.out.bel HN.out
          clear hwf
          exact aff_ret HWF rfl ⟨rfl, rfl, rfl⟩
        have g4 : decide (0 < bad) = false := by simp; omega
        have g4' : decide (0 < (bad : Int)) = false := by simp; omega
        clear h2 h3 h4 hbi
        go_wp2_with (fail)
        go_loopw [14] (fun iv wx => ∃ k : Nat, k ≤ rs.length ∧ iv = .int .i64 (k : Nat) ∧ AfS w.heap.size w wx N0 M (.slice Ar rs.length cr) (.slice Ap ps.length cp) (.slice Aa ats.length ca) rs ps ats) (fun iv _ => rs.length - (intOf iv).toNat)
        case atStart => exact ⟨0, Nat.zero_le _, rfl, HS.out⟩
        case round =>
          clear HS x0 x1 m0 m1 fz
          obtain ⟨k, hk, rfl, hS⟩ := hrel
          have HS := Lib.hid hS
          obtain ⟨x0, x1⟩ := cell2_of HS.out.cM
          clear hS
          by_cases hlt : k < rs.length
          · have g5 : decide (k < rs.length) = true := by simpa using hlt
            go_wp2_with (fail)
            go_loopw [15] (fun iv wx => ∃ j : Nat, j ≤ k ∧ iv = .int .i64 (j : Nat) ∧ AfS w.heap.size w wx N0 M (.slice Ar rs.length cr) (.slice Ap ps.length cp) (.slice Aa ats.length ca) rs ps ats) (fun iv _ => k - (intOf iv).toNat)
            case atStart => exact ⟨0, Nat.zero_le _, rfl, HS.out⟩
            case round =>
              clear HS x0 x1
              obtain ⟨j, hj, rfl, hS⟩ := hrel
              have HS := Lib.hid hS
              obtain ⟨x0, x1⟩ := cell2_of HS.out.cM
              clear hS
              by_cases hjk : j < k
              · have g6 : decide (j < k) = true := by simpa using hjk
                obtain ⟨q, cq, eq, _, _, _, _, hcell, _⟩ := row_at HS.out.rr (by omega)
                injection eq with eq _ eq2
                subst eq
                subst eq2
                go_upto_region 29 with (fail)
                go_cut [138] (fun v wx => (∃ bb : Bool, v = .bool bb) ∧ AfS w.heap.size w wx N0 M (.slice (some ⟨q, 0, none⟩) rs.length cr) (.slice Ap ps.length cp) (.slice Aa ats.length ca) rs ps ats)
                case first =>
                  obtain ⟨rj, hrj⟩ : ∃ r, rs[j]? = some r := ⟨_, List.getElem?_eq_getElem (by omega)⟩
                  obtain ⟨rk, hrk⟩ : ∃ r, rs[k]? = some r := ⟨_, List.getElem?_eq_getElem (by omega)⟩
                  have c0 := hcell _ _ (rcells rs j rj hrj).1
                  have c1 := hcell _ _ (rcells rs j rj hrj).2
                  have d0 := hcell _ _ (rcells rs k rk hrk).1
                  have d1 := hcell _ _ (rcells rs k rk hrk).2
                  clear hcell hrj hrk
                  obtain ⟨pj, fj, _, _, _, _, _, _⟩ := rj
                  obtain ⟨pk, fk, _, _, _, _, _, _⟩ := rk
                  simp only at c0 c1 d0 d1
                  by_cases hf : fj = fk
                  · have g7 : (fj == fk) = true := by simpa using hf
                    clear hf
                    refine Own.region_all (fun w' => ∃ n, w' = World.drewN wr n) (by kernel_rfl) (by kernel_rfl) ⟨1, rfl⟩ ?_
                    repeat (go_big_quiet_step (fail))
                    refine wpQuiet_nil ?_
                    rintro _ ⟨nq, rfl⟩
                    go_wp2_with (fail)
                    go_meet
                    exact ⟨⟨_, rfl⟩, HS.out.below (belowN _ _)⟩
                  · have g7 : (fj == fk) = false := by simpa using hf
                    clear hf
                    refine Own.region_all (fun w' => ∃ n, w' = World.drewN wr n) (by kernel_rfl) (by kernel_rfl) ⟨1, rfl⟩ ?_
                    repeat (go_big_quiet_step (fail))
                    refine wpQuiet_nil ?_
                    rintro _ ⟨nq, rfl⟩
                    go_wp2_with (fail)
                    go_meet
                    exact ⟨⟨_, rfl⟩, HS.out.below (belowN _ _)⟩
                obtain ⟨⟨bb, rfl⟩, hS⟩ := hcut
                clear HS x0 x1 hcell
                have HS := Lib.hid hS
                clear hS
                cases bb with
                | true =>
                  obtain ⟨xa, hxa⟩ : ∃ r, ats[k]? = some r := ⟨_, List.getElem?_eq_getElem (by have := HAL.out; omega)⟩
                  obtain ⟨A', c', ea, _, hra⟩ := HS.out.ar.reads
                  injection ea with ea _ ea2
                  subst ea
                  subst ea2
                  obtain ⟨qa, oa, rfl, k0⟩ := reads_at hra (Below.refl _ _) hxa
                  obtain ⟨m0, m1⟩ := cell2_of HS.out.cN
                  have fz : ∀ j, wc.frozen? ⟨N0, j, none⟩ = false := fun j => by have := HS.out.cN; simp [World.frozen?, this]
                  have hal : k < ats.length := by have := HAL.out; omega
                  have hqN : qa ≠ N0 := row_ne HS.out.ar HS.out.cN (by decide) rfl
                  clear hra hxa
                  go_upto_region 30 with (fail)
                  refine Own.region_mix (CR [4] [(4, ⟨qa, oa + k, none⟩, .int .i64 xa)]) [4] [0, 0, 0, 6, 14, 1, 63, 127] (Own.Ord.run [(1, true), (2, true), (3, true), (4, true), (0, false), (5, false), (6, true), (7, true)] .done) (by kernel_rfl) (by kernel_rfl) (fun dst v c a w h => by cases dst <;> exact h) (fun x hx w => CR.off x hx w) ?_
                  simp only [Own.Ord.run]
                  repeat (refine Own.st_blind _ rfl rfl (CR.off _ (by decide) _) ?_; go_big_quiet_step (fail); refine wpQuiet_nil ?_)
                  refine Own.st_load _ rfl rfl (.int .i64 xa) (fun w' hw' => ?_) ?_ ?_
                  · have hg0 := hw'.get (a := ⟨qa, oa + k, none⟩) (v := .int .i64 xa) (by decide) (by simp)
                    go_simp
                  · intro _ q hq e; simp only [List.mem_cons, List.mem_nil_iff, or_false] at hq; subst hq <;> first | assumption | (simp at e; done) | (go_simp; done) | (simp; done)
                  simp only [Act.put, List.setIfInBounds_toArray, List.set_cons_succ, List.set_cons_zero]
                  refine Own.st_do _ rfl rfl (fun K hK => ?_)
                  go_simp
                  refine hK _ _ (fun q hq hd _ => ?_) ?_
                  · intro _ q hq e; simp only [List.mem_cons, List.mem_nil_iff, or_false] at hq; subst hq <;> first | assumption | (simp at e; done) | (go_simp; done) | (simp; done)
                  clear hK K
                  refine Own.st_do _ rfl rfl (fun K hK => ?_)
                  go_simp
                  generalize hwf : (wc.setCell ⟨N0, 0, none⟩ _).setCell ⟨N0, 1, none⟩ _ = wf
                  have HWF := Lib.hid (aff_zero HS.out.cN hwf.symm HS.out.bel HN.out)
                  have yy : wf.cell? ⟨qa, oa + k, none⟩ = some (.int .i64 xa) := by
                    have hb : wf.heap[qa]? = wc.heap[qa]? := by rw [← hwf]; exact (setCell_other _ hqN).trans (setCell_other _ hqN)
                    rw [← k0]
                    simp only [World.cell?, hb]
                  clear hwf
                  refine hK _ _ (fun q hq hd _ => ?_) ?_
                  · intro _ q hq e; simp only [List.mem_cons, List.mem_nil_iff, or_false] at hq; subst hq <;> first | assumption | (simp at e; done) | (go_simp; done) | (simp; done)
                  clear hK K
                  repeat (refine Own.st_blind _ rfl rfl (CR.off _ (by decide) _) ?_; go_big_quiet_step (fail); refine wpQuiet_nil ?_)
                  refine Own.mix_done ?_
                  go_wp2_with (fail)
                  first | exact aff_ret HWF.out rfl ⟨rfl, rfl, rfl⟩ | exact aff_ret HWF.out.drew rfl ⟨rfl, rfl, rfl⟩
                | false =>
                  go_wp2_with (fail)
                  go_roundw
                  case rel => exact ⟨j + 1, hjk, by go_num, HS.out⟩
                  case measure => simp [intOf]; omega
              · obtain rfl : j = k := by omega
                have g6 : decide (j < j) = false := by simp
                go_wp2_with (fail)
                go_roundw
                case rel => exact ⟨j + 1, hlt, by go_num, HS.out⟩
                case measure => simp [intOf]; omega
          · obtain rfl : k = rs.length := by omega
            have g5 : decide (rs.length < rs.length) = false := by simp
            obtain ⟨m0, m1⟩ := cell2_of HS.out.cN
            have fz : ∀ j, wr.frozen? ⟨N0, j, none⟩ = false := fun j => by have := HS.out.cN; simp [World.frozen?, this]
            go_wp2_with (fail)
            generalize hwf : (wr.setCell ⟨N0, 0, none⟩ _).setCell ⟨N0, 1, none⟩ _ = wf
            have HWF := aff_fin HS.out hwf.symm HG.out (by omega)
            clear hwf
            exact aff_ret HWF rfl ⟨rfl, rfl, rfl⟩
end Go.Proofs.YtmpckoincdkeeaaDoor

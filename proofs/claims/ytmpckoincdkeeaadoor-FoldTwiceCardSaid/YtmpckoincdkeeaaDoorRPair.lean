/- The document's pair of letters. -/
import Derived.Test.YtmpckoincdkeeaaDoorRWrd
import Derived.Test.YtmpckoincdkeeaaDoorFoldF
namespace Go.Proofs.YtmpckoincdkeeaaDoor
open Go.RowKit Go.Deep Go.Own
set_option linter.unusedVariables false
structure PairOk (ps : List (Int × Int)) (g h : Int) : Prop where
  vg : ValidC g
  vh : ValidC h
  ne : g ≠ h
  pg : letC g = false
  ph : letC h = false
  new : ∀ p ∈ ps, p.1 ≠ g ∧ p.1 ≠ h ∧ p.2 ≠ g ∧ p.2 ≠ h
def PairPost (ps : List (Int × Int)) (w : World) (e : Ending) (w' : World) : Prop := (∃ (g h : Int) (ok : Bool), e = .returned (.tuple #[.agg #[.int .i64 g, .int .i64 h], .bool ok]) ∧ (ok = true → PairOk ps g h)) ∧ Below w.heap.size w w'
theorem code_valid (s : ByteArray) (i : Nat) (h : i < s.size) (hv : 0 ≤ uCode s i) : ValidC (uCode s i) := by
  have e := enc_dec s i h hv
  by_cases hval : Utf8.valid (uCode s i) = true
  · rw [valid_int] at hval
    exact hval
  · rw [enc_not hval] at e
    have hz := congrArg ByteArray.size e
    rw [ByteArray.size_extract] at hz
    have h1 : 1 ≤ uLen s i := u_len1 s i
    have h2 : i + uLen s i ≤ s.size := u_fits s i h
    have : (⟨#[]⟩ : ByteArray).size = 0 := rfl
    omega
theorem codes_valid (s : ByteArray) : ∀ (f i : Nat) (c : Int), c ∈ (unitsFrom s f i).map (fun u => u.2.2) → 0 ≤ c → ValidC c
  | 0, i, c, h, _ => by cases h
  | f + 1, i, c, h, h0 => by
    unfold unitsFrom at h
    split at h
    · rename_i hi
      rw [List.map_cons] at h
      rcases List.mem_cons.1 h with rfl | h
      · exact code_valid s i hi h0
      · exact codes_valid s f _ c h h0
    · cases h
theorem codesOf_valid {s : ByteArray} {c : Int} (h : c ∈ codesOf s) : ValidC c := by
  unfold codesOf at h
  split at h
  · rename_i hok
    refine codes_valid s s.size 0 c h ?_
    unfold okU at hok
    obtain ⟨u, hu, rfl⟩ := List.mem_map.1 h
    exact of_decide_eq_true (List.all_eq_true.1 hok u hu)
  · cases h
structure PairSet (w wf : World) (M : Nat) (g h : Int) : Prop where
  cell : wf.heap[M]? = some (.cells #[.int .i64 g, .int .i64 h] 37 (0, 0))
  bel : Below w.heap.size w wf
theorem pair_set {w wx wf : World} {M : Nat} {x0 x1 : Value} {g h : Int} (hx : wx.heap[M]? = some (.cells #[x0, x1] 37 (0, 0)))
    (hw : wf = (wx.setCell ⟨M, 0, none⟩ (.int .i64 g)).setCell ⟨M, 1, none⟩ (.int .i64 h)) (hb : Below w.heap.size w wx) (hM : w.heap.size ≤ M) : PairSet w wf M g h := by
  subst hw
  refine ⟨?_, (hb.setCell (p := ⟨M, 0, none⟩) hM _).setCell (p := ⟨M, 1, none⟩) hM _⟩
  rw [setCell_same (setCell_same hx _)]
  rfl
theorem PairSet.drew {w wf : World} {M : Nat} {g h : Int} (x : PairSet w wf M g h) : PairSet w wf.drew M g h := ⟨x.cell, x.bel.drew⟩
theorem pair_ret {ps : List (Int × Int)} {w wf : World} {M : Nat} {g h : Int} {ok : Bool} {act : Act} (x : PairSet w wf M g h) (hd : act.defers = []) (ht : act.tmps[4]? = some (.pointer (some ⟨M, 0, none⟩)) ∧ act.tmps[5]? = some (.bool ok)) (hp : ok = true → PairOk ps g h) : bodyPost Tryd.prog Tryd.f27 (PairPost ps w) .ret act wf := by
  obtain ⟨r0, r1⟩ := cell2_of x.cell
  obtain ⟨h2, h3⟩ := ht
  refine bodyPost_ret (v := .tuple #[.agg #[.int .i64 g, .int .i64 h], .bool ok]) (by simp [results, Tryd.results27, go_sem, h2, h3, r0, r1]; done) hd ?_
  exact ⟨⟨_, _, _, rfl, hp⟩, x.bel⟩
set_option maxRecDepth 100000 in
set_option maxHeartbeats 32000000 in
theorem pair_calls (s : ByteArray) (ps : List (Int × Int)) (A : Option Addr) (cp : Nat) (w : World) (hs : s.size ≤ 1000000) (hA : ReadsP w A ps) (hl : ps.length ≤ 1000000) :
    Calls Tryd.prog 27 #[.string s, .slice A ps.length cp] w (PairPost ps w) := by
  obtain ⟨w1, hw1⟩ : ∃ w1, w1 = w.alloc (.cells #[Value.int .i64 0, .int .i64 0] 37) := ⟨_, rfl⟩
  obtain ⟨M, hM⟩ : ∃ M, M = w.heap.size := ⟨_, rfl⟩
  have b1 : Below w.heap.size w w1 := by rw [hw1]; exact (Below.refl _ _).alloc (Nat.le_refl _) _
  have m1 : w1.heap[M]? = some (.cells #[.int .i64 0, .int .i64 0] 37 (0, 0)) := by rw [hw1, hM]; exact blk_alloc_new _ _
  have HW1 := Lib.hid (And.intro hw1 hM)
  have B1 := Lib.hid b1
  have M1 := Lib.hid m1
  have RA := Lib.hid hA
  have HM0 := Lib.hid (show w.heap.size ≤ M by rw [hM]; exact Nat.le_refl _)
  clear hw1 hM b1 m1 hA
  by_cases h6 : s.size < 6
  · have g1 : decide ((s.size : Int) < 6) = true := by simp; omega
    clear h6
    go_enter Tryd.func27, Tryd.ntmps27
    go_upto_region 1 with (fail)
    rw [← HW1.out.1, ← HW1.out.2]
    obtain ⟨m0, m1⟩ := cell2_of M1.out
    have fz : ∀ j, (w1).frozen? ⟨M, j, none⟩ = false := fun j => by have := M1.out; simp [World.frozen?, this]
    go_wp2_with (fail)
    generalize hwf : ((w1).setCell ⟨M, 0, none⟩ (.int .i64 _)).setCell ⟨M, 1, none⟩ (.int .i64 _) = wf
    have HWF := pair_set M1.out hwf.symm B1.out HM0.out
    clear hwf
    exact pair_ret HWF rfl ⟨rfl, rfl⟩ (fun h => by cases h)
  · have g1 : decide ((s.size : Int) < 6) = false := by simp; omega
    have FS1 : ∀ w : World, (Instr.slice 9 (.string s) none (some (.int .i64 5)) none).run Tryd.prog w = .ok (.string (s.extract 0 5)) w := fun w => by
      rw [run_slice_string_h (t := 9) (s := s) (ht := Tryd.underlying9) (kh := .i64) (h := 5)]
      · rfl
      all_goals omega
    obtain ⟨P, hP⟩ : ∃ P, P = s.extract 0 5 := ⟨_, rfl⟩
    rw [← hP] at FS1
    by_cases hc : P = ⟨#[67, 65, 83, 69, 32]⟩
    · have FS2 : ∀ w : World, (Instr.slice 9 (.string s) (some (.int .i64 5)) none none).run Tryd.prog w = .ok (.string (s.extract 5 s.size)) w := fun w => by
        rw [run_slice_string_l (t := 9) (s := s) (ht := Tryd.underlying9) (kl := .i64) (l := 5)]
        · rfl
        all_goals omega
      obtain ⟨R, hR⟩ : ∃ R, R = s.extract 5 s.size := ⟨_, rfl⟩
      rw [← hR] at FS2
      have hRz : R.size ≤ s.size := by rw [hR, ByteArray.size_extract]; omega
      subst hc
      have CC := Lib.hid (rcodes_calls R w1 (by omega))
      unfold CodesPost at CC
      have hcv : ∀ c ∈ codesOf R, ValidC c := fun c h => codesOf_valid h
      obtain ⟨cs, hcs⟩ : ∃ cs, cs = codesOf R := ⟨_, rfl⟩
      rw [← hcs] at CC hcv
      have HCV := Lib.hid hcv
      clear h6 hP hR hcs hcv
      go_enter Tryd.func27, Tryd.ntmps27
      go_upto_region 1 with (fail)
      rw [← HW1.out.1, ← HW1.out.2]
      go_wp2_with (fail)
      refine CC.out.mono ?_
      rintro e w2 ⟨⟨v2, rfl, o2⟩, b2⟩
      obtain ⟨A2, c2, hv2, _, r2⟩ := o2.reads
      subst hv2
      have M2 := Lib.hid ((b2.block _ (Array.getElem?_eq_some_iff.1 M1.out).1).trans M1.out)
      have B2 := Lib.hid (B1.out.trans (b2.mono B1.out.size))
      have R2 := Lib.hid r2
      clear CC o2 b2 r2 M1 FS1 FS2
      go_upto_region 4 with (fail)
      go_cut [6, 7, 51] (fun v6 v7 v wx => v6 = .slice A2 cs.length c2 ∧ v7 = .bool (okU R) ∧ ∃ (bb : Bool) (n : Nat), v = .bool bb ∧ wx = w2.drewN n ∧ (bb = false → ∃ c0 c1, cs = [c0, c1] ∧ c0 ≠ c1 ∧ letC c0 = false ∧ letC c1 = false))
      case first =>
        cases hok : okU R with
        | false =>
          have HOK := Lib.hid hok
          clear hok
          refine Own.region_all (fun w' => ∃ n, w' = World.drewN w2 n) (by kernel_rfl) (by kernel_rfl) ⟨1, rfl⟩ ?_
          repeat (go_big_quiet_step (fail))
          refine wpQuiet_nil ?_
          rintro _ ⟨nq, rfl⟩
          go_wp2_with (fail)
          go_meet
          exact ⟨rfl, by rw [HOK.out], true, nq, rfl, rfl, fun h => by cases h⟩
        | true =>
          have HOK := Lib.hid hok
          clear hok
          by_cases h2 : cs.length = 2
          · obtain ⟨c0, c1, hcc⟩ : ∃ c0 c1, cs = [c0, c1] := by
              match cs, h2 with
              | [c0, c1], _ => exact ⟨_, _, rfl⟩
            obtain ⟨qc, oc, rfl, k0⟩ := reads_at R2.out (Below.refl _ _) (i := 0) (v := c0) (by rw [hcc]; rfl)
            obtain ⟨qc2, oc2, e2, k1⟩ := reads_at R2.out (Below.refl _ _) (i := 1) (v := c1) (by rw [hcc]; rfl)
            injection e2 with e2
            injection e2 with e3 e4 _
            subst e3 e4
            rw [Nat.add_zero] at k0
            have CP0 := Lib.hid (fun w : World => plain_calls c0 w)
            have CP1 := Lib.hid (fun w : World => plain_calls c1 w)
            rw [h2]
            have HCC := Lib.hid hcc
            have H2 := Lib.hid h2
            obtain ⟨l0, hl0⟩ : ∃ l, l = letC c0 := ⟨_, rfl⟩
            obtain ⟨l1, hl1⟩ : ∃ l, l = letC c1 := ⟨_, rfl⟩
            rw [← hl0] at CP0
            rw [← hl1] at CP1
            have HL := Lib.hid (And.intro hl0 hl1)
            clear hcc h2 hl0 hl1
            by_cases h01 : c0 = c1
            · have g2 : (c0 == c1) = true := by simpa using h01
              clear h01
              refine Own.region_all (fun w' => ∃ n, w' = World.drewN w2 n) (by kernel_rfl) (by kernel_rfl) ⟨1, rfl⟩ ?_
              repeat (go_big_quiet_step (first | with_reducible exact Calls.quiet_of_same (CP0.out _) | with_reducible exact Calls.quiet_of_same (CP1.out _)))
              refine wpQuiet_nil ?_
              rintro _ ⟨nq, rfl⟩
              go_wp2_with (fail)
              go_meet
              exact ⟨by rw [H2.out], by rw [HOK.out], true, nq, rfl, rfl, fun h => by cases h⟩
            · have g2 : (c0 == c1) = false := by simpa using h01
              have H01 := Lib.hid h01
              clear h01
              cases l0 with
              | true =>
                refine Own.region_all (fun w' => ∃ n, w' = World.drewN w2 n) (by kernel_rfl) (by kernel_rfl) ⟨1, rfl⟩ ?_
                repeat (go_big_quiet_step (first | with_reducible exact Calls.quiet_of_same (CP0.out _) | with_reducible exact Calls.quiet_of_same (CP1.out _)))
                refine wpQuiet_nil ?_
                rintro _ ⟨nq, rfl⟩
                go_wp2_with (fail)
                go_meet
                exact ⟨by rw [H2.out], by rw [HOK.out], true, nq, rfl, rfl, fun h => by cases h⟩
              | false =>
                refine Own.region_all (fun w' => ∃ n, w' = World.drewN w2 n) (by kernel_rfl) (by kernel_rfl) ⟨1, rfl⟩ ?_
                repeat (go_big_quiet_step (first | with_reducible exact Calls.quiet_of_same (CP0.out _) | with_reducible exact Calls.quiet_of_same (CP1.out _)))
                refine wpQuiet_nil ?_
                rintro _ ⟨nq, rfl⟩
                go_wp2_with (fail)
                go_meet
                refine ⟨by rw [H2.out], by rw [HOK.out], l1, nq, rfl, rfl, fun h => ⟨c0, c1, HCC.out, H01.out, HL.out.1.symm, ?_⟩⟩
                rw [← HL.out.2, h]
          · have g2 : ((cs.length : Int) == 2) = false := by simp; omega
            have g3 : ((cs.length : Int) != 2) = true := by simp; omega
            refine Own.region_all (fun w' => ∃ n, w' = World.drewN w2 n) (by kernel_rfl) (by kernel_rfl) ⟨1, rfl⟩ ?_
            repeat (go_big_quiet_step (fail))
            refine wpQuiet_nil ?_
            rintro _ ⟨nq, rfl⟩
            go_wp2_with (fail)
            go_meet
            exact ⟨rfl, by rw [HOK.out], true, nq, rfl, rfl, fun h => by cases h⟩
      obtain ⟨rfl, rfl, bb, nk, rfl, rfl, hbb⟩ := hcut
      have M3 : Hid ((w2.drewN nk).heap[M]? = some (.cells #[.int .i64 0, .int .i64 0] 37 (0, 0))) := Lib.hid M2.out
      have B3 := Lib.hid (B2.out.trans ((belowN w2 nk).mono B2.out.size))
      have HBB := Lib.hid hbb
      clear hbb
      cases bb with
      | true =>
        obtain ⟨m0, m1⟩ := cell2_of M3.out
        have fz : ∀ j, (w2.drewN nk).frozen? ⟨M, j, none⟩ = false := fun j => by have := M2.out; simp [World.frozen?, this]
        go_wp2_with (fail)
        generalize hwf : ((w2.drewN nk).setCell ⟨M, 0, none⟩ (.int .i64 _)).setCell ⟨M, 1, none⟩ (.int .i64 _) = wf
        have HWF := pair_set M3.out hwf.symm B3.out HM0.out
        clear hwf
        exact pair_ret HWF rfl ⟨rfl, rfl⟩ (fun h => by cases h)
      | false =>
        obtain ⟨c0, c1, hcc, h01, hp0, hp1⟩ := HBB.out rfl
        obtain ⟨qc, oc, rfl, k0⟩ := reads_at R2.out (Below.refl _ _) (i := 0) (v := c0) (by rw [hcc]; rfl)
        obtain ⟨qc2, oc2, e2, k1⟩ := reads_at R2.out (Below.refl _ _) (i := 1) (v := c1) (by rw [hcc]; rfl)
        injection e2 with e2
        injection e2 with e3 e4 _
        subst e3 e4
        rw [Nat.add_zero] at k0
        have hlen : cs.length = 2 := by rw [hcc]; rfl
        have HV := Lib.hid (And.intro (HCV.out c0 (by rw [hcc]; simp)) (And.intro (HCV.out c1 (by rw [hcc]; simp)) (And.intro h01 (And.intro hp0 hp1))))
        rw [hlen]
        clear hcc h01 hp0 hp1 HCV HBB M3 B3
        go_wp2_with (fail)
        go_loopw [8] (fun iv wr => ∃ i n : Nat, i ≤ ps.length ∧ iv = .int .i64 (i : Nat) ∧ wr = w2.drewN n ∧ ∀ p ∈ ps.take i, p.1 ≠ c0 ∧ p.1 ≠ c1 ∧ p.2 ≠ c0 ∧ p.2 ≠ c1) (fun iv _ => ps.length - (intOf iv).toNat)
        case atStart => exact ⟨0, nk, Nat.zero_le _, rfl, rfl, fun p hp => by simp at hp⟩
        case round =>
          obtain ⟨i, n, hi, rfl, rfl, hfr⟩ := hrel
          have HFR := Lib.hid hfr
          clear hfr
          by_cases hlt : i < ps.length
          · have g2 : decide (i < ps.length) = true := by simpa using hlt
            obtain ⟨p, hp⟩ : ∃ p, ps[i]? = some p := ⟨_, List.getElem?_eq_getElem hlt⟩
            obtain ⟨qp, op, rfl, hqp, hcl⟩ := RA.out (by omega)
            obtain ⟨d0', d1'⟩ := hcl i p hp
            have d0 := (B2.out.cell (p := ⟨qp, op + i * 2, none⟩) hqp).trans d0'
            have d1 := (B2.out.cell (p := ⟨qp, op + i * 2 + 1, none⟩) hqp).trans d1'
            have HP := Lib.hid hp
            obtain ⟨pa, pb⟩ := p
            simp only at d0 d1
            clear hcl d0' d1' hp hqp
            go_upto_region 9 with (fail)
            go_cut [100] (fun v wx => ∃ (bb : Bool) (n : Nat), v = .bool bb ∧ wx = w2.drewN n ∧ (bb = false → pa ≠ c0 ∧ pa ≠ c1 ∧ pb ≠ c0 ∧ pb ≠ c1))
            case first =>
              by_cases x0 : pa = c0
              · have y0 : (pa == c0) = true := by simpa using x0
                clear x0
                refine Own.region_all (fun w' => ∃ n, w' = World.drewN w2 n) (by kernel_rfl) (by kernel_rfl) ⟨n + 1, by first | rfl | simp⟩ ?_
                repeat (go_big_quiet_step (fail))
                refine wpQuiet_nil ?_
                rintro _ ⟨nq, rfl⟩
                go_wp2_with (fail)
                go_meet
                exact ⟨true, nq, rfl, rfl, fun h => by cases h⟩
              · have y0 : (pa == c0) = false := by simpa using x0
                by_cases x1 : pa = c1
                · have y1 : (pa == c1) = true := by simpa using x1
                  clear x1
                  refine Own.region_all (fun w' => ∃ n, w' = World.drewN w2 n) (by kernel_rfl) (by kernel_rfl) ⟨n + 1, by first | rfl | simp⟩ ?_
                  repeat (go_big_quiet_step (fail))
                  refine wpQuiet_nil ?_
                  rintro _ ⟨nq, rfl⟩
                  go_wp2_with (fail)
                  go_meet
                  exact ⟨true, nq, rfl, rfl, fun h => by cases h⟩
                · have y1 : (pa == c1) = false := by simpa using x1
                  by_cases x2 : pb = c0
                  · have y2 : (pb == c0) = true := by simpa using x2
                    clear x2
                    refine Own.region_all (fun w' => ∃ n, w' = World.drewN w2 n) (by kernel_rfl) (by kernel_rfl) ⟨n + 1, by first | rfl | simp⟩ ?_
                    repeat (go_big_quiet_step (fail))
                    refine wpQuiet_nil ?_
                    rintro _ ⟨nq, rfl⟩
                    go_wp2_with (fail)
                    go_meet
                    exact ⟨true, nq, rfl, rfl, fun h => by cases h⟩
                  · have y2 : (pb == c0) = false := by simpa using x2
                    by_cases x3 : pb = c1
                    · have y3 : (pb == c1) = true := by simpa using x3
                      clear x3
                      refine Own.region_all (fun w' => ∃ n, w' = World.drewN w2 n) (by kernel_rfl) (by kernel_rfl) ⟨n + 1, by first | rfl | simp⟩ ?_
                      repeat (go_big_quiet_step (fail))
                      refine wpQuiet_nil ?_
                      rintro _ ⟨nq, rfl⟩
                      go_wp2_with (fail)
                      go_meet
                      exact ⟨true, nq, rfl, rfl, fun h => by cases h⟩
                    · have y3 : (pb == c1) = false := by simpa using x3
                      refine Own.region_all (fun w' => ∃ n, w' = World.drewN w2 n) (by kernel_rfl) (by kernel_rfl) ⟨n + 1, by first | rfl | simp⟩ ?_
                      repeat (go_big_quiet_step (fail))
                      refine wpQuiet_nil ?_
                      rintro _ ⟨nq, rfl⟩
                      go_wp2_with (fail)
                      go_meet
                      exact ⟨false, nq, rfl, rfl, fun _ => ⟨x0, x1, x2, x3⟩⟩
            obtain ⟨bb, n2, rfl, rfl, hbb⟩ := hcut
            cases bb with
            | true =>
              have M3 : Hid ((w2.drewN n2).heap[M]? = some (.cells #[.int .i64 0, .int .i64 0] 37 (0, 0))) := Lib.hid M2.out
              have B3 := Lib.hid (B2.out.trans ((belowN w2 n2).mono B2.out.size))
              clear hbb
              obtain ⟨m0, m1⟩ := cell2_of M3.out
              have fz : ∀ j, (w2.drewN n2).frozen? ⟨M, j, none⟩ = false := fun j => by have := M2.out; simp [World.frozen?, this]
              go_wp2_with (fail)
              generalize hwf : ((w2.drewN n2).setCell ⟨M, 0, none⟩ (.int .i64 _)).setCell ⟨M, 1, none⟩ (.int .i64 _) = wf
              have HWF := pair_set M3.out hwf.symm B3.out HM0.out
              clear hwf
              exact pair_ret HWF rfl ⟨rfl, rfl⟩ (fun h => by cases h)
            | false =>
              have hne := hbb rfl
              have E := Lib.hid (show ∀ p ∈ ps.take (i + 1), p.1 ≠ c0 ∧ p.1 ≠ c1 ∧ p.2 ≠ c0 ∧ p.2 ≠ c1 from fun p hp => by
                obtain ⟨hl2, hx⟩ := List.getElem?_eq_some_iff.1 HP.out
                rw [List.take_succ_eq_append_getElem hl2, hx] at hp
                rcases List.mem_append.1 hp with h | h
                · exact HFR.out p h
                · obtain rfl := List.mem_singleton.1 h; exact hne)
              clear hbb hne
              go_wp2_with (fail)
              go_roundw
              case rel => exact ⟨i + 1, n2, hlt, by go_num, rfl, E.out⟩
              case measure => simp [intOf]; omega
          · have g2 : decide (i < ps.length) = false := by simpa using hlt
            have HNEW := Lib.hid (show ∀ p ∈ ps, p.1 ≠ c0 ∧ p.1 ≠ c1 ∧ p.2 ≠ c0 ∧ p.2 ≠ c1 by have := HFR.out; rw [List.take_of_length_le (by omega)] at this; exact this)
            obtain ⟨wc, hwc⟩ : ∃ wc, wc = w2.drewN n := ⟨_, rfl⟩
            have M4 := Lib.hid (show wc.heap[M]? = some (.cells #[.int .i64 0, .int .i64 0] 37 (0, 0)) by rw [hwc]; exact M2.out)
            have B4 := Lib.hid (show Below w.heap.size w wc by rw [hwc]; exact B2.out.trans ((belowN w2 n).mono B2.out.size))
            have k0' : wc.cell? ⟨qc, oc, none⟩ = some (.int .i64 c0) := by rw [hwc]; exact k0
            have k1' : wc.cell? ⟨qc, oc + 1, none⟩ = some (.int .i64 c1) := by rw [hwc]; exact k1
            obtain ⟨m0, m1⟩ := cell2_of M4.out
            have fz : ∀ j, wc.frozen? ⟨M, j, none⟩ = false := fun j => by have := M4.out; simp [World.frozen?, this]
            rw [← hwc]
            clear hwc HFR k0 k1
            go_upto_region 11 with (fail)
            refine Own.region_mix (CR [2, 5] [(2, ⟨qc, oc, none⟩, .int .i64 c0), (5, ⟨qc, oc + 1, none⟩, .int .i64 c1)]) [2, 5] [0, 1, 3, 0, 8, 24, 63, 127, 255] (Own.Ord.run [(0, true), (1, true), (2, true), (3, true), (4, true), (5, true), (6, false), (7, false), (8, true)] .done) (by kernel_rfl) (by kernel_rfl) (fun dst v c a w h => by cases dst <;> exact h) (fun x hx w => CR.off x hx w) ?_
            simp only [Own.Ord.run]
            repeat (refine Own.st_blind _ rfl rfl (CR.off _ (by decide) _) ?_; go_big_quiet_step (fail); refine wpQuiet_nil ?_)
            refine Own.st_load _ rfl rfl (.int .i64 c0) (fun w' hw' => ?_) ?_ ?_
            · have hg0 := hw'.get (a := ⟨qc, oc, none⟩) (v := .int .i64 c0) (by decide) (by simp)
              go_simp
            · intro _ q hq e; simp only [List.mem_cons, List.mem_nil_iff, or_false] at hq; rcases hq with rfl | rfl <;> first | assumption | (simp at e; done) | (go_simp; done) | (simp; done)
            simp only [Act.put, List.setIfInBounds_toArray, List.set_cons_succ, List.set_cons_zero]
            repeat (refine Own.st_blind _ rfl rfl (CR.off _ (by decide) _) ?_; go_big_quiet_step (fail); refine wpQuiet_nil ?_)
            refine Own.st_load _ rfl rfl (.int .i64 c1) (fun w' hw' => ?_) ?_ ?_
            · have hg0 := hw'.get (a := ⟨qc, oc + 1, none⟩) (v := .int .i64 c1) (by decide) (by simp)
              go_simp
            · intro _ q hq e; simp only [List.mem_cons, List.mem_nil_iff, or_false] at hq; rcases hq with rfl | rfl <;> first | assumption | (simp at e; done) | (go_simp; done) | (simp; done)
            simp only [Act.put, List.setIfInBounds_toArray, List.set_cons_succ, List.set_cons_zero]
            refine Own.st_do _ rfl rfl (fun K hK => ?_)
            go_simp
            refine hK _ _ (fun q hq hd => by rw [(by decide : ∀ x ∈ [2, 5], Own.dep [0, 1, 3, 0, 8, 24, 63, 127, 255] 6 x = true) q hq] at hd; cases hd) ?_
            clear hK K
            refine Own.st_do _ rfl rfl (fun K hK => ?_)
            go_simp
            generalize hwf : (wc.setCell ⟨M, 0, none⟩ (.int .i64 c0)).setCell ⟨M, 1, none⟩ (.int .i64 c1) = wf
            have HWF := Lib.hid (pair_set M4.out hwf.symm B4.out HM0.out)
            clear hwf
            refine hK _ _ (fun q hq hd => by rw [(by decide : ∀ x ∈ [2, 5], Own.dep [0, 1, 3, 0, 8, 24, 63, 127, 255] 7 x = true) q hq] at hd; cases hd) ?_
            clear hK K
            repeat (refine Own.st_blind _ rfl rfl (CR.off _ (by decide) _) ?_; go_big_quiet_step (fail); refine wpQuiet_nil ?_)
            refine Own.mix_done ?_
            go_wp2_with (fail)
            first | exact pair_ret HWF.out rfl ⟨rfl, rfl⟩ (fun _ => ⟨HV.out.1, HV.out.2.1, HV.out.2.2.1, HV.out.2.2.2.1, HV.out.2.2.2.2, HNEW.out⟩) | exact pair_ret HWF.out.drew rfl ⟨rfl, rfl⟩ (fun _ => ⟨HV.out.1, HV.out.2.1, HV.out.2.2.1, HV.out.2.2.2.1, HV.out.2.2.2.2, HNEW.out⟩)
    · have n0 := list_ne hc
      rw [show (⟨#[67, 65, 83, 69, 32]⟩ : ByteArray).toList = [67, 65, 83, 69, 32] from by rw [ByteArray.toList_eq]] at n0
      have n1 : (P.toList == [67, 65, 83, 69, 32]) = false := by simpa using n0
      have n2 : (P.toList != [67, 65, 83, 69, 32]) = true := by simpa using n0
      clear h6 hP hc
      go_enter Tryd.func27, Tryd.ntmps27
      go_upto_region 1 with (fail)
      rw [← HW1.out.1, ← HW1.out.2]
      obtain ⟨m0, m1⟩ := cell2_of M1.out
      have fz : ∀ j, (w1).frozen? ⟨M, j, none⟩ = false := fun j => by have := M1.out; simp [World.frozen?, this]
      go_wp2_with (fail)
      generalize hwf : ((w1).setCell ⟨M, 0, none⟩ (.int .i64 _)).setCell ⟨M, 1, none⟩ (.int .i64 _) = wf
      have HWF := pair_set M1.out hwf.symm B1.out HM0.out
      clear hwf
      exact pair_ret HWF rfl ⟨rfl, rfl⟩ (fun h => by cases h)
end Go.Proofs.YtmpckoincdkeeaaDoor

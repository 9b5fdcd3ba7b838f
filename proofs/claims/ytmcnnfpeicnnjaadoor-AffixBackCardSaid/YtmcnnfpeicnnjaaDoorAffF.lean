/- affix.Parse. -/
import Derived.Test.YtmcnnfpeicnnjaaDoorAffE
namespace Go.Proofs.YtmcnnfpeicnnjaaDoor
open Go.RowKit Go.Deep Go.Own
set_option linter.unusedVariables false
def zeroF : FileP := ⟨[], [], [], 0⟩
def foldF : FileP → Nat → List ByteArray → FileP
  | f, _, [] => f
  | f, i, s :: t => foldF (stepF f i s) (i + 1) t
theorem foldF_app : ∀ (l : List ByteArray) (f : FileP) (i : Nat) (m : List ByteArray), foldF f i (l ++ m) = foldF (foldF f i l) (i + l.length) m
  | [], f, i, m => rfl
  | s :: l, f, i, m => by
    have := foldF_app l (stepF f i s) (i + 1) m
    rw [List.cons_append, foldF, foldF, this, List.length_cons]
    congr 1
    omega
structure InvF (f : FileP) (i : Nat) : Prop where
  rows : f.rows.length = f.rules.length
  len : f.rules.length + f.pairs.length ≤ i
  bad : f.bad ≤ i
theorem InvF.step {f : FileP} {i : Nat} (h : InvF f i) (s : ByteArray) : InvF (stepF f i s) (i + 1) := by
  obtain ⟨h1, h2, h3⟩ := h
  unfold stepF
  split
  · exact ⟨h1, by omega, by omega⟩
  · split
    · exact ⟨by simp [h1], by simp only [List.length_append, List.length_singleton]; omega, by simp only; omega⟩
    · split
      · exact ⟨h1, by simp only [List.length_append, List.length_singleton]; omega, by simp only; omega⟩
      · refine ⟨h1, by simp only; omega, ?_⟩
        simp only
        split <;> omega
theorem InvF.fold : ∀ (l : List ByteArray) {f : FileP} {i : Nat}, InvF f i → InvF (foldF f i l) (i + l.length)
  | [], f, i, h => h
  | s :: l, f, i, h => by
    have := InvF.fold l (h.step s)
    rw [foldF, List.length_cons, show i + (l.length + 1) = i + 1 + l.length by omega]
    exact this
theorem InvF.zero : InvF zeroF 0 := ⟨rfl, Nat.le_refl _, Nat.le_refl _⟩
structure AffR where
  rules : List RuP
  pairs : List (Int × Int)
  line : Int
  err : Int
deriving DecidableEq
def fileV (s : ByteArray) : FileP := foldF zeroF 0 (rowsB s)
def doneV (f : FileP) : AffR := if 200 < f.rules.length ∨ 200 < f.pairs.length then ⟨[], [], 0, 3⟩ else if 0 < f.bad then ⟨[], [], (f.bad : Nat), 5⟩ else if 0 < bothV2 f.rules f.rows then ⟨[], [], bothV2 f.rules f.rows, 6⟩ else ⟨f.rules, f.pairs, 0, 0⟩
/-- what is read of an affix file -/
def aFile (s : ByteArray) : AffR := if 65536 < s.size then ⟨[], [], 0, 3⟩ else doneV (fileV s)
structure GotA (w : World) (cs : Array Value) (rs : List RuP) (ps : List (Int × Int)) : Prop where
  out : ∃ Ar cr Ap cp, cs = #[.slice Ar rs.length cr, .slice Ap ps.length cp] ∧ rs.length ≤ cr ∧ ps.length ≤ cp ∧ GotRs w Ar rs ∧ ReadsP w Ap ps
theorem GotA.below {w w' : World} {cs : Array Value} {rs : List RuP} {ps : List (Int × Int)} (h : GotA w cs rs ps) (hb : Below w.heap.size w w') : GotA w' cs rs ps := by
  obtain ⟨Ar, cr, Ap, cp, e, h1, h2, h3, h4⟩ := h.out
  exact ⟨⟨Ar, cr, Ap, cp, e, h1, h2, GotRs.below h3 hb, ReadsP.below h4 hb⟩⟩
theorem GotA.nil (w : World) : GotA w #[.slice none 0 0, .slice none 0 0] [] [] := ⟨⟨none, 0, none, 0, rfl, Nat.le_refl _, Nat.le_refl _, fun h => absurd h (by decide), fun h => absurd h (by decide)⟩⟩
def APost (w : World) (a : AffR) (e : Ending) (w' : World) : Prop := (∃ cs, e = .returned (.tuple #[.agg cs, .int .i64 a.line, .int .i64 a.err]) ∧ GotA w' cs a.rules a.pairs) ∧ Below w.heap.size w w'
structure ApD (w wf : World) (N0 : Nat) (v0 v1 : Value) : Prop where
  cell : wf.heap[N0]? = some (.cells #[v0, v1] 29 (0, 0))
  bel : Below w.heap.size w wf
theorem ApD.drew {w wf : World} {N0 : Nat} {v0 v1 : Value} (h : ApD w wf N0 v0 v1) : ApD w wf.drew N0 v0 v1 := ⟨h.cell, h.bel.drew⟩
theorem ap_put {w wx wf : World} {N0 : Nat} {x0 x1 : Value} (v0 v1 : Value) (h : wx.heap[N0]? = some (.cells #[x0, x1] 29 (0, 0))) (hw : wf = (wx.setCell ⟨N0, 0, none⟩ v0).setCell ⟨N0, 1, none⟩ v1) (hb : Below w.heap.size w wx) (hN : w.heap.size ≤ N0) : ApD w wf N0 v0 v1 := by
  subst hw
  refine ⟨?_, (hb.setCell (p := ⟨N0, 0, none⟩) hN _).setCell (p := ⟨N0, 1, none⟩) hN _⟩
  rw [setCell_same (setCell_same h _)]
  rfl
theorem ap_ret {w wf : World} {N0 : Nat} {v0 v1 : Value} {a : AffR} {act : Act} (h : ApD w wf N0 v0 v1) (hd : act.defers = []) (ht : act.tmps[2]? = some (.pointer (some ⟨N0, 0, none⟩)) ∧ act.tmps[3]? = some (.int .i64 a.line) ∧ act.tmps[4]? = some (.int .i64 a.err)) (hg : GotA wf #[v0, v1] a.rules a.pairs) : bodyPost Tryd.prog Tryd.f12 (APost w a) .ret act wf := by
  obtain ⟨r0, r1⟩ := pcell2 h.cell
  obtain ⟨t2, t3, t4⟩ := ht
  refine bodyPost_ret (v := .tuple #[.agg #[v0, v1], .int .i64 a.line, .int .i64 a.err]) (by simp [results, Tryd.results12, go_sem, t2, t3, t4, r0, r1]; done) hd ?_
  exact ⟨⟨_, rfl, hg⟩, h.bel⟩
theorem take_fold (ls : List ByteArray) (i : Nat) (s : ByteArray) (h : ls[i]? = some s) (f : FileP) : foldF f 0 (ls.take (i + 1)) = stepF (foldF f 0 (ls.take i)) i s := by
  obtain ⟨hl, e⟩ := List.getElem?_eq_some_iff.1 h
  rw [List.take_succ_eq_append_getElem hl, e, foldF_app, List.length_take, Nat.min_eq_left (by omega), Nat.zero_add]
  rfl
set_option maxRecDepth 100000 in
set_option maxHeartbeats 32000000 in
theorem aparse_calls (s : ByteArray) (w : World) (hs : s.size ≤ 1000000000) (hT : TabsL w) : Calls Tryd.prog 12 #[.string s] w (APost w (aFile s)) := by
  obtain ⟨w1, hw1⟩ : ∃ w1, w1 = w.alloc (.cells #[Value.slice none 0 0, .slice none 0 0] 29) := ⟨_, rfl⟩
  obtain ⟨N0, hN0⟩ : ∃ N0, N0 = w.heap.size := ⟨_, rfl⟩
  have b1 : Below w.heap.size w w1 := by rw [hw1]; exact (Below.refl _ _).alloc (Nat.le_refl _) _
  have n1 : w1.heap[N0]? = some (.cells #[.slice none 0 0, .slice none 0 0] 29 (0, 0)) := by rw [hw1, hN0]; exact blk_alloc_new _ _
  have HW1 := Lib.hid (And.intro hw1 hN0)
  have B1 := Lib.hid b1
  have N1 := Lib.hid n1
  have HN := Lib.hid (show w.heap.size ≤ N0 by rw [hN0]; exact Nat.le_refl _)
  obtain ⟨a, ha⟩ : ∃ a, a = aFile s := ⟨_, rfl⟩
  rw [← ha]
  by_cases hbig : 65536 < s.size
  · have g1 : decide (65536 < (s.size : Int)) = true := by simp; omega
    have hav : a = ⟨[], [], 0, 3⟩ := by rw [ha]; exact if_pos hbig
    subst hav
    clear hw1 hN0 b1 n1 hbig ha
    go_enter Tryd.func12, Tryd.ntmps12
    go_upto_region 1 with (fail)
    rw [← HW1.out.1, ← HW1.out.2]
    obtain ⟨m0, m1⟩ := pcell2 N1.out
    have fz : ∀ j, w1.frozen? ⟨N0, j, none⟩ = false := fun j => by have := N1.out; simp [World.frozen?, this]
    go_wp2_with (fail)
    generalize hwf : (w1.setCell ⟨N0, 0, none⟩ (.slice none 0 0)).setCell ⟨N0, 1, none⟩ (.slice none 0 0) = wf
    have HWF := ap_put _ _ N1.out hwf.symm B1.out HN.out
    clear hwf
    exact ap_ret HWF rfl ⟨rfl, rfl, rfl⟩ (GotA.nil _)
  have g1 : decide (65536 < (s.size : Int)) = false := by simp; omega
  have hav : a = doneV (fileV s) := by rw [ha]; exact if_neg hbig
  have HAV := Lib.hid hav
  obtain ⟨ls, hls⟩ : ∃ ls, ls = rowsB s := ⟨_, rfl⟩
  have hfv : fileV s = foldF zeroF 0 ls := by rw [hls]; rfl
  have HFV := Lib.hid hfv
  have hlz : ∀ x ∈ ls, x.size ≤ 65536 := fun x hx => by
    rw [hls] at hx
    have := cutB_size (c := 10) hx
    have := trimN_size s
    omega
  have hln : ls.length ≤ 65537 := by
    rw [hls]
    have := cutB_len 10 (trimN s)
    have := trimN_size s
    unfold rowsB
    omega
  obtain ⟨w2, hw2⟩ : ∃ w2, w2 = w1.alloc (.cells #[Value.slice none 0 0, .slice none 0 0, .slice none 0 0, .int .i64 0] 67) := ⟨_, rfl⟩
  obtain ⟨F, hF⟩ : ∃ F, F = w1.heap.size := ⟨_, rfl⟩
  have b2 : Below w1.heap.size w1 w2 := by rw [hw2]; exact (Below.refl _ _).alloc (Nat.le_refl _) _
  have f2 : w2.heap[F]? = some (.cells #[Value.slice none 0 0, .slice none 0 0, .slice none 0 0, .int .i64 0] 67 (0, 0)) := by rw [hw2, hF]; exact blk_alloc_new _ _
  have CT := Lib.hid (fun wx => Tryd.strings_TrimSuffix s ⟨#[10]⟩ wx (by omega))
  have CT2 : Hid (∀ wx, Calls Tryd.prog 32 #[.string s, .string ⟨#[10]⟩] wx fun e w' => e = .returned (.string (trimN s)) ∧ w' = wx) := Lib.hid (fun wx => CT.out wx)
  have CS := Lib.hid (split_calls 10 (trimN s) w2 (by have := trimN_size s; omega) ((hT.below b1).below b2))
  rw [show cutB 10 (trimN s) = ls from hls.symm] at CS
  obtain ⟨tn, htn⟩ : ∃ tn, tn = trimN s := ⟨_, rfl⟩
  rw [← htn] at CT2 CS
  obtain ⟨w3, hw3⟩ : ∃ w3, w3 = w2.alloc (.cells (ls.map Value.string).toArray 9) := ⟨_, rfl⟩
  obtain ⟨Q, hQ⟩ : ∃ Q, Q = w2.heap.size := ⟨_, rfl⟩
  have b3 : Below w2.heap.size w2 w3 := by rw [hw3]; exact (Below.refl _ _).alloc (Nat.le_refl _) _
  have q3 : BlkS w3 Q ls := by rw [hw3, hQ]; exact blk_alloc_new _ _
  rw [← hw3, ← hQ] at CS
  have S3 := Lib.hid (show AxS w1.heap.size w1 w3 F Q ls (.slice none 0 0) (.slice none 0 0) (.slice none 0 0) 0 (.slice none 0 0) (.slice none 0 0) (.slice none 0 0) [] [] [] from
    ⟨(b3.block _ (Array.getElem?_eq_some_iff.1 f2).1).trans f2, World.ownsRow_nil _ _ _ _, fun r hr => absurd hr List.not_mem_nil, World.ownsRow_nil _ _ _ _, OwnI.nil _ _ _, fun r hr => absurd hr List.not_mem_nil, b2.trans (b3.mono b2.size), by rw [hF]; exact Nat.le_refl _, q3⟩)
  have HW2 := Lib.hid (And.intro hw2 (show F = N0 + 1 by rw [hF, hw1, hN0]; exact Array.size_push _))
  have HT := Lib.hid (hT.below b1)
  have HLZ := Lib.hid hlz
  obtain ⟨n, hn⟩ : ∃ n, n = ls.length := ⟨_, rfl⟩
  rw [← hn] at CS hln
  have HNL := Lib.hid hn
  clear hw1 hN0 b1 n1 ha hav hls hfv hw2 hF b2 f2 CT htn hw3 hQ b3 q3 hT hlz hn hbig hs
  go_enter Tryd.func12, Tryd.ntmps12
  go_upto_region 5 with (fail)
  rw [← HW1.out.1, ← HW1.out.2, ← HW2.out.2, ← HW2.out.1]
  clear HW1 HW2
  go_wp2_with (fail)
  refine (CT2.out _).mono ?_
  rintro e w0 ⟨rfl, hw0⟩
  subst hw0
  clear CT2
  go_wp2_with (fail)
  refine CS.out.mono ?_
  rintro e w0 ⟨rfl, hw0⟩
  obtain rfl : w3 = w0 := hw0.symm
  clear CS
  go_wp2_with (fail)
  go_loopw [21] (fun iv wr => ∃ (i : Nat) (rv pv av : Value) (rs : List RuS) (ps : List (Int × Int)) (ats : List Int) (bad : Nat), iv = .int .i64 (i : Nat) ∧ i ≤ n ∧ AxS w1.heap.size w1 wr F Q ls rv pv av bad rv pv av rs ps ats ∧ (⟨rs.map RuS.p, ps, ats, bad⟩ : FileP) = foldF zeroF 0 (ls.take i)) (fun iv _ => n - (intOf iv).toNat)
  case atStart => exact ⟨0, _, _, _, [], [], [], 0, rfl, Nat.zero_le _, S3.out, rfl⟩
  case round =>
    clear S3
    obtain ⟨i, rv, pv, av, rs, ps, ats, bad, rfl, hi, hS, hfo⟩ := hrel
    have HS := Lib.hid hS
    have HFO := Lib.hid hfo
    have hinv := InvF.fold (ls.take i) InvF.zero
    rw [← hfo] at hinv
    have hti : (ls.take i).length = i := by rw [List.length_take]; have := HNL.out; omega
    rw [hti, Nat.zero_add] at hinv
    have hr1 : rs.length + ps.length ≤ i := by have := hinv.len; simpa using this
    have hr2 : ats.length = rs.length := by have := hinv.rows; simpa using this
    have hr3 : bad ≤ i := hinv.bad
    clear hS hfo hinv hti
    by_cases hlt : i < n
    · have g2 : decide (i < n) = true := by simpa using hlt
      obtain ⟨x, hx⟩ : ∃ p, ls[i]? = some p := ⟨_, List.getElem?_eq_getElem (by have := HNL.out; omega)⟩
      have c0 := HS.out.q.cell hx
      have hxz := HLZ.out x (List.mem_of_getElem? hx)
      have CL := Lib.hid (line_calls w1.heap.size w1 F Q ls rv pv av rs ps ats bad i x wr HS.out (by omega) (by omega) (by omega) (by omega) (by omega) (by omega) (HT.out.below HS.out.bel))
      unfold LnPost at CL
      rw [HFO.out, ← take_fold ls i x hx] at CL
      clear hx hxz
      go_wp2_with (fail)
      refine CL.out.mono ?_
      rintro e wx ⟨rfl, rv', pv', av', rs', ps', ats', bad', hS', hfo'⟩
      have HS' := Lib.hid hS'
      have HFO' := Lib.hid hfo'
      clear CL c0 hS' hfo'
      go_wp2_with (fail)
      go_roundw
      case rel => exact ⟨i + 1, rv', pv', av', rs', ps', ats', bad', by go_num, hlt, HS'.out, HFO'.out⟩
      case measure => simp [intOf]; omega
    · obtain rfl : i = n := by omega
      have g2 : decide (i < i) = false := by simp
      have hfo := HFO.out
      rw [List.take_of_length_le (by rw [← HNL.out]; exact Nat.le_refl _), ← HFV.out] at hfo
      have hav := HAV.out
      rw [← hfo] at hav
      unfold doneV at hav
      simp only [List.length_map] at hav
      have HAV2 := Lib.hid hav
      have HBW := Lib.hid (B1.out.trans (HS.out.bel.mono B1.out.size))
      have HNr := Lib.hid ((HS.out.bel.block _ (Array.getElem?_eq_some_iff.1 N1.out).1).trans N1.out)
      obtain ⟨Ar, cr, hrv, hcr, _⟩ := row_is HS.out.rr
      obtain ⟨Ap, cp, hpv, hcp, _⟩ := row_is HS.out.pr
      obtain ⟨Aa, ca, hav2, hrda, hrd⟩ := HS.out.ar.reads
      subst hrv hpv hav2
      have HRD := Lib.hid hrd
      obtain ⟨f0, f1, f2, f3⟩ := cell4_of HS.out.cF
      obtain ⟨m0, m1⟩ := pcell2 HNr.out
      have fz : ∀ j, wr.frozen? ⟨N0, j, none⟩ = false := fun j => by have := HNr.out; simp [World.frozen?, this]
      clear hfo hav HAV HFV HFO HLZ hrda hrd hlt hi
      by_cases h2 : 200 < rs.length
      · have g2 : decide (200 < (rs.length : Int)) = true := by simp; omega
        have E := HAV2.out
        rw [if_pos (.inl h2)] at E
        subst E
        clear h2 HAV2
        go_wp2_with (fail)
        generalize hwf : (wr.setCell ⟨N0, 0, none⟩ (.slice none 0 0)).setCell ⟨N0, 1, none⟩ (.slice none 0 0) = wf
        have HWF := ap_put _ _ HNr.out hwf.symm HBW.out HN.out
        clear hwf
        exact ap_ret HWF rfl ⟨rfl, rfl, rfl⟩ (GotA.nil _)
      have g2' : decide (200 < (rs.length : Int)) = false := by simp; omega
      by_cases h3 : 200 < ps.length
      · have g3 : decide (200 < (ps.length : Int)) = true := by simp; omega
        have E := HAV2.out
        rw [if_pos (.inr h3)] at E
        subst E
        clear h2 h3 HAV2
        go_wp2_with (fail)
        generalize hwf : (wr.setCell ⟨N0, 0, none⟩ (.slice none 0 0)).setCell ⟨N0, 1, none⟩ (.slice none 0 0) = wf
        have HWF := ap_put _ _ HNr.out hwf.symm HBW.out HN.out
        clear hwf
        exact ap_ret HWF rfl ⟨rfl, rfl, rfl⟩ (GotA.nil _)
      have g3 : decide (200 < (ps.length : Int)) = false := by simp; omega
      have E0 := HAV2.out
      rw [if_neg (fun h => h.elim h2 h3)] at E0
      clear h2 h3 HAV2
      have HAV3 := Lib.hid E0
      clear E0
      by_cases h4 : 0 < bad
      · have g4 : decide (0 < bad) = true := by simpa using h4
        have g4' : decide (0 < (bad : Int)) = true := by simp; omega
        have E := HAV3.out
        rw [if_pos h4] at E
        subst E
        clear h4 HAV3
        go_upto_region 13 with (fail)
        refine Own.region_mix (CR [4] [(4, ⟨F, 3, none⟩, .int .i64 (bad : Nat))]) [4] [0, 0, 2, 6, 14, 1, 63, 127] (Own.Ord.run [(1, true), (2, true), (3, true), (4, true), (0, false), (5, false), (6, true), (7, true)] .done) (by kernel_rfl) (by kernel_rfl) (fun dst v c a w h => by cases dst <;> exact h) (fun x hx w => CR.off x hx w) ?_
        simp only [Own.Ord.run]
        repeat (refine Own.st_blind _ rfl rfl (CR.off _ (by decide) _) ?_; go_big_quiet_step (fail); refine wpQuiet_nil ?_)
        refine Own.st_load _ rfl rfl (.pointer (some ⟨F, 0, none⟩)) (fun w' _ => by go_simp) (CR.off _ (by decide) _) ?_
        simp only [Act.put, List.setIfInBounds_toArray, List.set_cons_succ, List.set_cons_zero]
        repeat (refine Own.st_blind _ rfl rfl (CR.off _ (by decide) _) ?_; go_big_quiet_step (fail); refine wpQuiet_nil ?_)
        refine Own.st_load _ rfl rfl (.int .i64 (bad : Nat)) (fun w' hw' => ?_) ?_ ?_
        · have hg0 := hw'.get (a := ⟨F, 3, none⟩) (v := .int .i64 (bad : Nat)) (by decide) (by simp)
          go_simp
        · intro _ q hq e; simp only [List.mem_cons, List.mem_nil_iff, or_false] at hq; subst hq <;> first | assumption | (simp at e; done) | (go_simp; done) | (simp; done)
        simp only [Act.put, List.setIfInBounds_toArray, List.set_cons_succ, List.set_cons_zero]
        refine Own.st_do _ rfl rfl (fun K hK => ?_)
        go_simp
        obtain ⟨u5, hu5⟩ : ∃ u, u = wr.drew := ⟨_, rfl⟩
        have hm6 : u5.heap[N0]? = some (.cells #[.slice none 0 0, .slice none 0 0] 29 (0, 0)) := by rw [hu5]; exact HNr.out
        have b6 : Below w.heap.size w u5 := by rw [hu5]; exact HBW.out.drew
        rw [← hu5]
        have fF : u5.heap[F]? = some (.cells #[.slice Ar rs.length cr, .slice Ap ps.length cp, .slice Aa ats.length ca, .int .i64 (bad : Nat)] 67 (0, 0)) := by rw [hu5]; exact HS.out.cF
        obtain ⟨f0', f1', f2', f3'⟩ := cell4_of fF
        have hFN : F ≠ N0 := fun e => by
          rw [e, hm6] at fF
          injection fF with h1
          injection h1 with _ h2 _
          exact absurd h2 (by decide)
        clear hu5
        refine hK _ _ (fun q hq hd _ => ?_) ?_
        · intro _ q hq e; simp only [List.mem_cons, List.mem_nil_iff, or_false] at hq; subst hq <;> first | assumption | (simp at e; done) | (go_simp; done) | (simp; done)
        clear hK K
        refine Own.st_do _ rfl rfl (fun K hK => ?_)
        obtain ⟨m0, m1⟩ := pcell2 hm6
        have fz : ∀ j, u5.frozen? ⟨N0, j, none⟩ = false := fun j => by simp [World.frozen?, hm6]
        go_simp
        generalize hwf : (u5.setCell ⟨N0, 0, none⟩ (.slice none 0 0)).setCell ⟨N0, 1, none⟩ (.slice none 0 0) = wf
        have HWF := Lib.hid (ap_put _ _ hm6 hwf.symm b6 HN.out)
        have f3w : wf.cell? ⟨F, 3, none⟩ = some (.int .i64 (bad : Nat)) := by
          have hb : wf.heap[F]? = u5.heap[F]? := by rw [← hwf]; exact (setCell_other _ hFN).trans (setCell_other _ hFN)
          exact (World.cell?_of_block hb).trans f3'
        clear hwf
        refine hK _ _ (fun q hq hd _ => ?_) ?_
        · intro _ q hq e; simp only [List.mem_cons, List.mem_nil_iff, or_false] at hq; subst hq <;> first | assumption | (simp at e; done) | (go_simp; done) | (simp; done)
        clear hK K
        repeat (refine Own.st_blind _ rfl rfl (CR.off _ (by decide) _) ?_; go_big_quiet_step (fail); refine wpQuiet_nil ?_)
        refine Own.mix_done ?_
        go_wp2_with (fail)
        first | exact ap_ret HWF.out rfl ⟨rfl, rfl, rfl⟩ (GotA.nil _) | exact ap_ret HWF.out.drew rfl ⟨rfl, rfl, rfl⟩ (GotA.nil _)
      have g4 : decide (0 < bad) = false := by simp; omega
      have g4' : decide (0 < (bad : Int)) = false := by simp; omega
      have E0 := HAV3.out
      rw [if_neg h4] at E0
      have HAV4 := Lib.hid E0
      clear E0 HAV3 h4
      have CB := Lib.hid (fun wx (hb : Below wr.heap.size wr wx) => both_m_calls F (.slice Ap ps.length cp) (.int .i64 (bad : Nat)) Ar Aa cr ca (rs.map RuS.p) ats wx (by
        rw [List.length_map]
        exact (hb.block _ (Array.getElem?_eq_some_iff.1 HS.out.cF).1).trans HS.out.cF) (GotRs.below (reads_rules HS.out.rr HS.out.it) hb) (HRD.out.later hb) (by rw [List.length_map]; exact hr2) (by rw [List.length_map]; omega) (by rw [List.length_map]; exact hcr))
      obtain ⟨V, hV⟩ : ∃ V, V = bothV2 (rs.map RuS.p) ats := ⟨_, rfl⟩
      rw [← hV] at CB HAV4
      clear hV
      by_cases h5 : 0 < V
      · have g5 : decide (0 < V) = true := by simpa using h5
        have E := HAV4.out
        rw [if_pos h5] at E
        subst E
        clear h5 HAV4
        go_wp2_with (fail)
        refine (CB.out _ (Below.refl _ _)).mono ?_
        rintro e w4 ⟨rfl, b4⟩
        have B4 := Lib.hid b4
        clear b4 f0 f1 f2 f3 m0 m1 fz
        go_wp2_with (fail)
        refine (CB.out _ B4.out).mono ?_
        rintro e w5 ⟨rfl, b5⟩
        have B5 := Lib.hid (B4.out.trans (b5.mono B4.out.size))
        have HBX := Lib.hid (HBW.out.trans (B5.out.mono HBW.out.size))
        have HNx := Lib.hid ((B5.out.block _ (Array.getElem?_eq_some_iff.1 HNr.out).1).trans HNr.out)
        obtain ⟨m0, m1⟩ := pcell2 HNx.out
        have fz : ∀ j, w5.frozen? ⟨N0, j, none⟩ = false := fun j => by have := HNx.out; simp [World.frozen?, this]
        clear b5 CB
        go_wp2_with (fail)
        generalize hwf : (w5.setCell ⟨N0, 0, none⟩ (.slice none 0 0)).setCell ⟨N0, 1, none⟩ (.slice none 0 0) = wf
        have HWF := ap_put _ _ HNx.out hwf.symm HBX.out HN.out
        clear hwf
        exact ap_ret HWF rfl ⟨rfl, rfl, rfl⟩ (GotA.nil _)
      · have g5 : decide (0 < V) = false := by simpa using h5
        have E := HAV4.out
        rw [if_neg h5] at E
        subst E
        clear h5 HAV4
        go_wp2_with (fail)
        refine (CB.out _ (Below.refl _ _)).mono ?_
        rintro e w4 ⟨rfl, b4⟩
        have B4 := Lib.hid b4
        have HBX := Lib.hid (HBW.out.trans (b4.mono HBW.out.size))
        have S4 := Lib.hid (HS.out.below b4)
        have HNx := Lib.hid ((b4.block _ (Array.getElem?_eq_some_iff.1 HNr.out).1).trans HNr.out)
        clear b4 f0 f1 f2 f3 m0 m1 fz CB
        obtain ⟨f0, f1, f2, f3⟩ := cell4_of S4.out.cF
        obtain ⟨m0, m1⟩ := pcell2 HNx.out
        have fz : ∀ j, w4.frozen? ⟨N0, j, none⟩ = false := fun j => by have := HNx.out; simp [World.frozen?, this]
        go_wp2_with (fail)
        generalize hwf : (w4.setCell ⟨N0, 0, none⟩ (.slice Ar rs.length cr)).setCell ⟨N0, 1, none⟩ (.slice Ap ps.length cp) = wf
        have HWF := ap_put _ _ HNx.out hwf.symm HBX.out HN.out
        have hne : N0 ≠ F := fun e => by
          have h1 := HNx.out
          rw [e, S4.out.cF] at h1
          injection h1 with h1
          injection h1 with _ h2 _
          exact absurd h2 (by decide)
        have h1 : (w4.setCell ⟨N0, 0, none⟩ (.slice Ar rs.length cr)).heap[N0]? = some (.cells #[.slice Ar rs.length cr, .slice none 0 0] 29 (0, 0)) := setCell_same (j := 0) HNx.out (.slice Ar rs.length cr)
        have hgr : GotRs wf Ar (rs.map RuS.p) := by
          rw [← hwf]
          exact reads_rules (row_set (row_set S4.out.rr HNx.out (by decide)) h1 (by decide)) (fun r hr => ⟨row_set (row_set (S4.out.it r hr).1 HNx.out (by decide)) h1 (by decide), fun y hy => row_set (row_set ((S4.out.it r hr).2 y hy) HNx.out (by decide)) h1 (by decide)⟩)
        have hgp : ReadsP wf Ap ps := by
          rw [← hwf]
          exact reads_pairs (row_set (row_set S4.out.pr HNx.out (by decide)) h1 (by decide))
        clear hwf
        exact ap_ret HWF rfl ⟨rfl, rfl, rfl⟩ ⟨⟨Ar, cr, Ap, cp, by simp only [List.length_map], by simp only [List.length_map]; exact hcr, hcp, hgr, hgp⟩⟩
end Go.Proofs.YtmcnnfpeicnnjaaDoor

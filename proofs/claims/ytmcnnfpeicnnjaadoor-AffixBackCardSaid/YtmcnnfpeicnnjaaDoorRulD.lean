/- rule.line. -/
import Derived.Test.YtmcnnfpeicnnjaaDoorRulC
import Derived.Deep.DeepCutAuto
namespace Go.Proofs.YtmcnnfpeicnnjaaDoor
open Go.RowKit Go.Deep Go.Own
set_option linter.unusedVariables false
/-- what a caller reads of a rule -/
structure GotR (w : World) (cs : Array Value) (r : RuP) : Prop where
  out : ∃ A c, cs = #[.bool r.pfx, .int .i64 (r.flag : Nat), .bool r.cross, .string r.strip, .string r.add, .slice A r.cond.length c] ∧ GotI w (.slice A r.cond.length c) r.cond
theorem GotR.below {w w' : World} {cs : Array Value} {r : RuP} (h : GotR w cs r) (hb : Below w.heap.size w w') : GotR w' cs r := by
  obtain ⟨A, c, e, hi⟩ := h.out
  exact ⟨⟨A, c, e, hi.below hb⟩⟩
def GRPost (w : World) (s : ByteArray) (e : Ending) (w' : World) : Prop :=
  (∃ (cs : Array Value) (r : RuP) (ok : Bool), e = .returned (.tuple #[.agg cs, .bool ok]) ∧ GotR w' cs r ∧ (ok = true → ruleV s = some r) ∧ (ok = false → ruleV s = none ∧ r = zeroR)) ∧ Below w.heap.size w w'
theorem rparse_got (s : ByteArray) (w : World) (hs : s.size ≤ 1000000) (hT : TabsL w) : Calls Tryd.prog 21 #[.string s] w (GRPost w s) :=
  (rparse_calls s w hs hT).mono fun e w' ⟨⟨r, ok, e1, h1, h2, h3, h4⟩, hb⟩ => ⟨⟨ruCells r, r.p, ok, e1, ⟨⟨r.A, r.c, by
    show ruCells r = _
    unfold ruCells RuS.p
    simp only [List.length_map], by
    have := goti_of h1 h2
    show GotI w' (.slice r.A (r.xs.map ItV.p).length r.c) (r.xs.map ItV.p)
    rw [List.length_map]
    exact this⟩⟩, h3, h4⟩, hb⟩
/-- a rule whose line can be written -/
structure FitR (r : RuP) : Prop where
  val : ValR r
  small : smallI r.cond
  text : (textIs r.cond).length ≤ 900000
  strip : r.strip.size ≤ 20
  add : r.add.size ≤ 20
theorem BlkS.set {w : World} {q : Nat} {ps : List ByteArray} (h : BlkS w q ps) (j : Nat) (p : ByteArray) : BlkS (w.setCell ⟨q, j, none⟩ (.string p)) q (ps.set j p) := by
  have := setCell_same (j := j) h (.string p)
  unfold BlkS
  rw [this, List.map_set]
  simp
structure LnS (w3 wx : World) (q : Nat) (ps : List ByteArray) : Prop where
  blk : BlkS wx q ps
  keep : ∀ k, k ≠ q → wx.heap[k]? = w3.heap[k]?
  bel : Below q w3 wx
theorem LnS.set {w3 wx : World} {q : Nat} {ps : List ByteArray} (h : LnS w3 wx q ps) (j : Nat) (p : ByteArray) : LnS w3 (wx.setCell ⟨q, j, none⟩ (.string p)) q (ps.set j p) :=
  ⟨h.blk.set j p, fun k hk => (setCell_other (a := ⟨q, j, none⟩) _ hk).trans (h.keep k hk), h.bel.setCell (p := ⟨q, j, none⟩) (Nat.le_refl _) _⟩
theorem lnJoin (a b c d e f : ByteArray) : (⟨(Lib.join ([a, b, c, d, e, f].map (·.data.toList)) (⟨#[32]⟩ : ByteArray).data.toList).toArray⟩ : ByteArray) = mkB (a.data.toList ++ 32 :: (b.data.toList ++ 32 :: (c.data.toList ++ 32 :: (d.data.toList ++ 32 :: (e.data.toList ++ 32 :: f.data.toList))))) := by
  unfold mkB
  simp [Lib.join]
theorem letter_enc {u : Nat} (h : letU u = true) : Utf8.encode (u : Int) = ⟨#[u.toUInt8]⟩ := by
  obtain ⟨h1, _, _⟩ := let_byte h
  have hv : Utf8.valid (u : Int) = true := (valid_int _).2 (by omega)
  have := enc_nat u (by omega)
  rw [enc_valid hv, if_pos h1] at this
  exact this
theorem lnLen (a b c d e f : ByteArray) : (Lib.join ([a, b, c, d, e, f].map (·.data.toList)) (⟨#[32]⟩ : ByteArray).data.toList).length = a.size + b.size + c.size + d.size + e.size + f.size + 5 := by
  have h := congrArg ByteArray.size (lnJoin a b c d e f)
  have hz : ∀ s : ByteArray, s.data.toList.length = s.size := fun s => by simp
  have h2 : (⟨(Lib.join ([a, b, c, d, e, f].map (·.data.toList)) (⟨#[32]⟩ : ByteArray).data.toList).toArray⟩ : ByteArray).size = (Lib.join ([a, b, c, d, e, f].map (·.data.toList)) (⟨#[32]⟩ : ByteArray).data.toList).length := mk_size _
  rw [h2, mk_size] at h
  rw [h]
  simp only [List.length_append, List.length_cons, hz]
  omega
def lnP (b : Bool) : ByteArray := if b = true then bPFX else bSFX
def lnX (b : Bool) : ByteArray := if b = true then bY else bN
theorem lnT {r : RuP} : lineT r = mkB ((lnP r.pfx).data.toList ++ 32 :: ((⟨#[r.flag.toUInt8]⟩ : ByteArray).data.toList ++ 32 :: ((lnX r.cross).data.toList ++ 32 :: ((or0 r.strip).data.toList ++ 32 :: ((or0 r.add).data.toList ++ 32 :: (condT r.cond).data.toList))))) := by
  unfold lineT lineL lnP lnX
  congr 1
  simp
set_option maxRecDepth 100000 in
set_option maxHeartbeats 16000000 in
theorem rline_calls (r : RuP) (cs : Array Value) (w : World) (hr : GotR w cs r) (hf : FitR r) (hT : TabsL w) : Calls Tryd.prog 43 #[.agg cs] w fun e w' => e = .returned (.string (lineT r)) ∧ Below w.heap.size w w' := by
  obtain ⟨A, c, hcs, hi⟩ := hr.out
  subst hcs
  obtain ⟨M, hM⟩ : ∃ M, M = w.heap.size := ⟨_, rfl⟩
  obtain ⟨w1, hw1⟩ : ∃ w1, w1 = w.alloc (.cells #[.bool r.pfx, .int .i64 (r.flag : Nat), .bool r.cross, .string r.strip, .string r.add, .slice A r.cond.length c] 47) := ⟨_, rfl⟩
  have b1 : Below w.heap.size w w1 := by rw [hw1]; exact (Below.refl _ _).alloc (Nat.le_refl _) _
  have m1 : w1.heap[M]? = some (.cells #[.bool r.pfx, .int .i64 (r.flag : Nat), .bool r.cross, .string r.strip, .string r.add, .slice A r.cond.length c] 47 (0, 0)) := by rw [hw1, hM]; exact blk_alloc_new _ _
  have CT := Lib.hid (ctext_calls r.cond _ w1 (hi.below b1) hf.val.cond hf.small hf.text (hT.below b1))
  have hv := hf.val
  have htx := condT_val hv.cond hv.ne hv.len
  obtain ⟨T, hTx⟩ : ∃ T, T = condT r.cond := ⟨_, rfl⟩
  have hTz : T.size ≤ 900000 := by rw [hTx, htx, mk_size]; exact hf.text
  have HL := Lib.hid (lnT (r := r))
  rw [← hTx] at HL CT
  have HB1 := Lib.hid b1
  have HM1 := Lib.hid m1
  have HW1 := Lib.hid (And.intro hw1 hM)
  have zs := hf.strip
  have za := hf.add
  have CL := Lib.hid (fun wx => letter_nat r.flag wx)
  rw [hv.flag] at CL
  have HFL := Lib.hid hv.flag
  obtain ⟨n, hn⟩ : ∃ n, n = r.cond.length := ⟨_, rfl⟩
  rw [← hn] at CT HM1 HW1
  rw [← hn]
  obtain ⟨L, hL⟩ : ∃ L, L = lineT r := ⟨_, rfl⟩
  rw [← hL] at HL
  rw [← hL]
  obtain ⟨pf, u, cr, st, ad, cd⟩ := r
  simp only at HL HM1 HW1 HB1 CL HFL zs za ⊢
  have hu := let_byte HFL.out
  have hu1 : (u : Int) < 128 := by omega
  have HU := Lib.hid hu
  clear hr hf hT hi b1 m1 hw1 hM htx hTx hv hn hL hu
  go_enter Tryd.func43, Tryd.ntmps43
  go_upto_region 1 with (fail)
  rw [← HW1.out.1, ← HW1.out.2]
  clear HW1
  obtain ⟨m0, mm1, m2, m3, m4, m5⟩ := cell6_of HM1.out
  go_wp2_with (fail)
  refine CT.out.mono ?_
  rintro e w2 ⟨rfl, b2⟩
  clear CT m0 mm1 m2 m3 m4 m5
  obtain ⟨w3, hw3⟩ : ∃ w3, w3 = w2.alloc (.cells #[.string ⟨#[83, 70, 88]⟩, .string ⟨#[]⟩, .string ⟨#[78]⟩, .string ⟨#[48]⟩, .string ⟨#[48]⟩, .string T] 9) := ⟨_, rfl⟩
  obtain ⟨q, hq⟩ : ∃ q, q = w2.heap.size := ⟨_, rfl⟩
  have b3 : Below w2.heap.size w2 w3 := by rw [hw3]; exact (Below.refl _ _).alloc (Nat.le_refl _) _
  have m3 : w3.heap[M]? = some (.cells #[.bool pf, .int .i64 (u : Nat), .bool cr, .string st, .string ad, .slice A n c] 47 (0, 0)) := by
    have := (b2.block _ (Array.getElem?_eq_some_iff.1 HM1.out).1).trans HM1.out
    exact (b3.block _ (Array.getElem?_eq_some_iff.1 this).1).trans this
  have hMq : M ≠ q := fun e => by
    have h1 := (Array.getElem?_eq_some_iff.1 HM1.out).1
    have := b2.size
    omega
  have S3 := Lib.hid (show LnS w3 w3 q [bSFX, ⟨#[]⟩, bN, ⟨#[48]⟩, ⟨#[48]⟩, T] from ⟨by rw [hw3, hq]; exact blk_alloc_new _ _, fun _ _ => rfl, Below.refl _ _⟩)
  have HB3 := Lib.hid (show ∀ wx, Below q w3 wx → Below w.heap.size w wx from fun wx h => by
    have hh := (HB1.out.trans (b2.mono HB1.out.size)).trans (b3.mono (Nat.le_trans HB1.out.size b2.size))
    exact hh.trans (h.mono (by rw [hq]; exact Nat.le_trans HB1.out.size b2.size)))
  have HM3 := Lib.hid (show ∀ wx ps, LnS w3 wx q ps → wx.heap[M]? = _ from fun wx ps h => (h.keep M hMq).trans m3)
  have HQ3 := Lib.hid (Array.getElem?_eq_some_iff.1 S3.out.blk).1
  have HW3 := Lib.hid (And.intro hw3 hq)
  clear hw3 hq b3 m3 hMq b2 HM1
  go_upto_region 2 with (fail)
  rw [← HW3.out.1, ← HW3.out.2]
  clear HW3
  obtain ⟨m0, mm1, m2, m3, m4, m5⟩ := cell6_of (HM3.out _ _ S3.out)
  have fz : ∀ j, w3.frozen? ⟨q, j, none⟩ = false := fun j => by have := S3.out.blk; simp [World.frozen?, show w3.heap[q]? = _ from this]
  have qc := BlkS.cell S3.out.blk (j := 0) (p := bSFX) rfl
  go_upto_if 9 with (fail)
  go_cut [] (fun wx => LnS w3 wx q [lnP pf, ⟨#[]⟩, bN, ⟨#[48]⟩, ⟨#[48]⟩, T])
  case first =>
    have hk := LnS.set S3.out 0 bPFX
    cases pf with
    | true =>
      go_wp2_with (fail)
      go_meet
      exact hk
    | false =>
      go_wp2_with (fail)
      go_meet
      exact S3.out
  clear m0 mm1 m2 m3 m4 m5 fz qc
  have S4 := Lib.hid hcut
  clear hcut
  obtain ⟨wd0, hwd⟩ : ∃ x, x = wc := ⟨_, rfl⟩
  subst hwd
  obtain ⟨m0, mm1, m2, m3, m4, m5⟩ := cell6_of (HM3.out _ _ S4.out)
  have fz : ∀ j, wd0.frozen? ⟨q, j, none⟩ = false := fun j => by have := S4.out.blk; simp [World.frozen?, show wd0.heap[q]? = _ from this]
  have qc := BlkS.cell S4.out.blk (j := 1) (p := ⟨#[]⟩) rfl
  go_upto_region 4 with (fail)
  go_wp2_with (fail)
  refine (CL.out _).mono ?_
  rintro e w0 ⟨rfl, hw0⟩
  subst hw0
  go_upto_if 14 with (fail)
  go_cut [] (fun wx => LnS w3 wx q [lnP pf, ⟨#[u.toUInt8]⟩, bN, ⟨#[48]⟩, ⟨#[48]⟩, T])
  case first =>
    have hk := LnS.set S4.out 1 ⟨#[u.toUInt8]⟩
    go_wp2_with (fail)
    go_meet
    rw [letter_enc HFL.out]
    exact hk
  clear m0 mm1 m2 m3 m4 m5 fz qc
  have S5 := Lib.hid hcut
  clear hcut S4
  obtain ⟨wd1, hwd⟩ : ∃ x, x = wc := ⟨_, rfl⟩
  subst hwd
  obtain ⟨m0, mm1, m2, m3, m4, m5⟩ := cell6_of (HM3.out _ _ S5.out)
  have fz : ∀ j, wd1.frozen? ⟨q, j, none⟩ = false := fun j => by have := S5.out.blk; simp [World.frozen?, show wd1.heap[q]? = _ from this]
  have qc := BlkS.cell S5.out.blk (j := 2) (p := bN) rfl
  go_upto_if 22 with (fail)
  go_cut [] (fun wx => LnS w3 wx q [lnP pf, ⟨#[u.toUInt8]⟩, lnX cr, ⟨#[48]⟩, ⟨#[48]⟩, T])
  case first =>
    have hk := LnS.set S5.out 2 bY
    cases cr with
    | true =>
      go_wp2_with (fail)
      go_meet
      exact hk
    | false =>
      go_wp2_with (fail)
      go_meet
      exact S5.out
  clear m0 mm1 m2 m3 m4 m5 fz qc
  have S6 := Lib.hid hcut
  clear hcut S5
  obtain ⟨wd2, hwd⟩ : ∃ x, x = wc := ⟨_, rfl⟩
  subst hwd
  obtain ⟨m0, mm1, m2, m3, m4, m5⟩ := cell6_of (HM3.out _ _ S6.out)
  have fz : ∀ j, wd2.frozen? ⟨q, j, none⟩ = false := fun j => by have := S6.out.blk; simp [World.frozen?, show wd2.heap[q]? = _ from this]
  have qc := BlkS.cell S6.out.blk (j := 3) (p := ⟨#[48]⟩) rfl
  go_upto_if 27 with (fail)
  generalize hbb : (!st.toList.isEmpty) = bb
  have HBB := Lib.hid hbb
  clear hbb
  go_cut [] (fun wx => LnS w3 wx q [lnP pf, ⟨#[u.toUInt8]⟩, lnX cr, or0 st, ⟨#[48]⟩, T])
  case first =>
    have hk := LnS.set S6.out 3 st
    cases bb with
    | false =>
      have E := Lib.hid (show or0 st = ⟨#[48]⟩ by
        by_cases he : st = ⟨#[]⟩
        · rw [he]; rfl
        · have := HBB.out; rw [isEmpty_not he] at this; cases this)
      go_wp2_with (fail)
      go_meet
      rw [E.out]
      exact S6.out
    | true =>
      have E := Lib.hid (show or0 st = st by
        by_cases he : st = ⟨#[]⟩
        · have := HBB.out; rw [isEmpty_of he] at this; cases this
        · unfold or0; rw [if_neg he])
      go_wp2_with (fail)
      go_meet
      rw [E.out]
      exact hk
  clear HBB
  clear m0 mm1 m2 m3 m4 m5 fz qc
  have S7 := Lib.hid hcut
  clear hcut S6
  obtain ⟨wd3, hwd⟩ : ∃ x, x = wc := ⟨_, rfl⟩
  subst hwd
  obtain ⟨m0, mm1, m2, m3, m4, m5⟩ := cell6_of (HM3.out _ _ S7.out)
  have fz : ∀ j, wd3.frozen? ⟨q, j, none⟩ = false := fun j => by have := S7.out.blk; simp [World.frozen?, show wd3.heap[q]? = _ from this]
  have qc := BlkS.cell S7.out.blk (j := 4) (p := ⟨#[48]⟩) rfl
  go_upto_if 34 with (fail)
  generalize hbb : (!ad.toList.isEmpty) = bb
  have HBB := Lib.hid hbb
  clear hbb
  go_cut [] (fun wx => LnS w3 wx q [lnP pf, ⟨#[u.toUInt8]⟩, lnX cr, or0 st, or0 ad, T])
  case first =>
    have hk := LnS.set S7.out 4 ad
    cases bb with
    | false =>
      have E := Lib.hid (show or0 ad = ⟨#[48]⟩ by
        by_cases he : ad = ⟨#[]⟩
        · rw [he]; rfl
        · have := HBB.out; rw [isEmpty_not he] at this; cases this)
      go_wp2_with (fail)
      go_meet
      rw [E.out]
      exact S7.out
    | true =>
      have E := Lib.hid (show or0 ad = ad by
        by_cases he : ad = ⟨#[]⟩
        · have := HBB.out; rw [isEmpty_of he] at this; cases this
        · unfold or0; rw [if_neg he])
      go_wp2_with (fail)
      go_meet
      rw [E.out]
      exact hk
  clear HBB
  clear m0 mm1 m2 m3 m4 m5 fz qc
  have S8 := Lib.hid hcut
  clear hcut S7
  obtain ⟨wd4, hwd⟩ : ∃ x, x = wc := ⟨_, rfl⟩
  subst hwd
  have HZ := Lib.hid (show (Lib.join ([lnP pf, ⟨#[u.toUInt8]⟩, lnX cr, or0 st, or0 ad, T].map (·.data.toList)) (⟨#[32]⟩ : ByteArray).data.toList).length ≤ 140737488355328 by
    rw [lnLen]
    have e1 : (lnP pf).size = 3 := by cases pf <;> rfl
    have e2 : (lnX cr).size = 1 := by cases cr <;> rfl
    have e3 : (⟨#[u.toUInt8]⟩ : ByteArray).size = 1 := rfl
    have e4 : ∀ s : ByteArray, s.size ≤ 20 → (or0 s).size ≤ 20 := fun s h => by unfold or0; split <;> first | exact h | decide
    have := e4 st zs
    have := e4 ad za
    omega)
  have CJ := Lib.hid (Tryd.strings_Join q 0 6 [lnP pf, ⟨#[u.toUInt8]⟩, lnX cr, or0 st, or0 ad, T] ⟨#[32]⟩ wd4 (fun j x hx => by rw [Nat.zero_add]; exact BlkS.cell S8.out.blk hx) (by have := S8.out.bel.size; have := HQ3.out; omega) (by simp) (Nat.le_refl _) HZ.out)
  rw [lnJoin, ← HL.out] at CJ
  go_wp2_with (fail)
  refine CJ.out.mono ?_
  rintro e w9 ⟨rfl, b9⟩
  have B9 := Lib.hid ((HB3.out _ S8.out.bel).trans (b9.mono (HB3.out _ S8.out.bel).size))
  clear CJ b9
  go_wp2_with (fail)
  go_ret
  exact ⟨rfl, B9.out⟩
end Go.Proofs.YtmcnnfpeicnnjaaDoor

/- rule.applies, rule.Apply, rule.Both. -/
import Derived.Test.YtmcnnfpeicnnjaaDoorRulE
namespace Go.Proofs.YtmcnnfpeicnnjaaDoor
open Go.RowKit Go.Deep Go.Own
set_option linter.unusedVariables false
def preB (x t : ByteArray) : Bool := Lib.hasPrefix x.data.toList t.data.toList
def sufB (x t : ByteArray) : Bool := Lib.hasSuffix x.data.toList t.data.toList
def cutP (x t : ByteArray) : ByteArray := ⟨(Lib.trimPrefix x.data.toList t.data.toList).toArray⟩
def cutS (x t : ByteArray) : ByteArray := ⟨(Lib.trimSuffix x.data.toList t.data.toList).toArray⟩
theorem cutP_size (x t : ByteArray) : (cutP x t).size ≤ x.size := by
  have h := Lib.trimPrefix_le x.data.toList t.data.toList
  have e : x.data.toList.length = x.size := by simp
  have : (cutP x t).size = (Lib.trimPrefix x.data.toList t.data.toList).length := by unfold cutP; exact mk_size _
  omega
theorem cutS_size (x t : ByteArray) : (cutS x t).size ≤ x.size := by
  have h := Lib.trimSuffix_le x.data.toList t.data.toList
  have e : x.data.toList.length = x.size := by simp
  have : (cutS x t).size = (Lib.trimSuffix x.data.toList t.data.toList).length := by unfold cutS; exact mk_size _
  omega
/-- does a rule fit a word -/
def appV (r : RuP) (x : ByteArray) : Bool := if r.pfx = true then okU x && preB x r.strip && startsV r.cond (codesOf x) else okU x && sufB x r.strip && endsV r.cond (codesOf x)
def appT (r : RuP) (x : ByteArray) : ByteArray := if r.pfx = true then r.add ++ cutP x r.strip else cutS x r.strip ++ r.add
def neB (x : ByteArray) : Bool := !x.toList.isEmpty
/-- what comes of a word -/
def applyV (r : RuP) (x : ByteArray) : ByteArray × Bool := if appV r x = true then (appT r x, neB (appT r x)) else (⟨#[]⟩, false)
theorem codesOf_len (s : ByteArray) : (codesOf s).length ≤ s.size := by
  unfold codesOf
  split
  · exact codes_count s
  · simp
set_option maxRecDepth 100000 in
set_option maxHeartbeats 16000000 in
theorem applies_calls (r : RuP) (cs : Array Value) (x : ByteArray) (w : World) (hr : GotR w cs r) (hs : smallI r.cond) (hx : x.size ≤ 1000000) (hT : TabsL w) : Calls Tryd.prog 44 #[.agg cs, .string x] w fun e w' => e = .returned (.bool (appV r x)) ∧ Below w.heap.size w w' := by
  obtain ⟨A, c, hcs, hi⟩ := hr.out
  subst hcs
  obtain ⟨M, hM⟩ : ∃ M, M = w.heap.size := ⟨_, rfl⟩
  obtain ⟨w1, hw1⟩ : ∃ w1, w1 = w.alloc (.cells #[.bool r.pfx, .int .i64 (r.flag : Nat), .bool r.cross, .string r.strip, .string r.add, .slice A r.cond.length c] 47) := ⟨_, rfl⟩
  have b1 : Below w.heap.size w w1 := by rw [hw1]; exact (Below.refl _ _).alloc (Nat.le_refl _) _
  have m1 : w1.heap[M]? = some (.cells #[.bool r.pfx, .int .i64 (r.flag : Nat), .bool r.cross, .string r.strip, .string r.add, .slice A r.cond.length c] 47 (0, 0)) := by rw [hw1, hM]; exact blk_alloc_new _ _
  have CU := Lib.hid (ucodes_calls x w1 (by omega) (hT.below b1).1)
  unfold CodesPost at CU
  have hlc := codesOf_len x
  have CS := Lib.hid (fun A2 c2 wx (hb : Below w1.heap.size w1 wx) (hc : Reads wx A2 (codesOf x)) => starts_calls r.cond _ A2 c2 (codesOf x) wx ((hi.below b1).below hb) hc hs (by omega))
  have CE := Lib.hid (fun A2 c2 wx (hb : Below w1.heap.size w1 wx) (hc : Reads wx A2 (codesOf x)) (hcc : (codesOf x).length ≤ c2) => ends_calls r.cond _ A2 c2 (codesOf x) wx ((hi.below b1).below hb) hc hs (by omega) hcc)
  have HP := Lib.hid (fun wx => Tryd.strings_HasPrefix x r.strip wx)
  have HS := Lib.hid (fun wx => Tryd.strings_HasSuffix x r.strip wx (by omega))
  obtain ⟨R, hR⟩ : ∃ R, R = appV r x := ⟨_, rfl⟩
  have HR := Lib.hid hR
  rw [← hR]
  unfold appV preB sufB at HR
  have HB1 := Lib.hid b1
  have HM1 := Lib.hid m1
  have HW1 := Lib.hid (And.intro hw1 hM)
  obtain ⟨n, hn⟩ : ∃ n, n = r.cond.length := ⟨_, rfl⟩
  rw [← hn] at HM1 HW1 CS CE
  rw [← hn]
  obtain ⟨ok, hok⟩ : ∃ ok, ok = okU x := ⟨_, rfl⟩
  rw [← hok] at HR CU
  obtain ⟨cl, hcl⟩ : ∃ cl, cl = codesOf x := ⟨_, rfl⟩
  rw [← hcl] at HR CU CS CE
  obtain ⟨pf, u, cr, st, ad, cd⟩ := r
  simp only at HM1 HW1 HB1 CS CE HP HS HR ⊢
  obtain ⟨hp, hhp⟩ : ∃ hp, hp = Lib.hasPrefix x.data.toList st.data.toList := ⟨_, rfl⟩
  obtain ⟨sp, hsp⟩ : ∃ sp, sp = Lib.hasSuffix x.data.toList st.data.toList := ⟨_, rfl⟩
  rw [← hhp] at HP HR
  rw [← hsp] at HS HR
  obtain ⟨sv, hsv⟩ : ∃ sv, sv = startsV cd cl := ⟨_, rfl⟩
  obtain ⟨ev, hev⟩ : ∃ ev, ev = endsV cd cl := ⟨_, rfl⟩
  rw [← hsv] at CS HR
  rw [← hev] at CE HR
  clear hr hs hx hT hi b1 m1 hw1 hM hn hok hcl hhp hsp hsv hev hR hlc
  go_enter Tryd.func44, Tryd.ntmps44
  go_upto_region 1 with (fail)
  rw [← HW1.out.1, ← HW1.out.2]
  clear HW1
  go_wp2_with (fail)
  refine CU.out.mono ?_
  rintro e w2 ⟨⟨v, rfl, ho⟩, b2⟩
  obtain ⟨A2, c2, rfl, hcc, hrd⟩ := ho.reads
  have RD := Lib.hid hrd
  have CC := Lib.hid hcc
  have B2 := Lib.hid (HB1.out.trans (b2.mono HB1.out.size))
  have BB := Lib.hid b2
  have hm2 := (b2.block _ (Array.getElem?_eq_some_iff.1 HM1.out).1).trans HM1.out
  have HM2 := Lib.hid hm2
  obtain ⟨m0, mm1, m2, m3, m4, m5⟩ := cell6_of hm2
  clear CU b2 hcc hrd ho hm2 HM1
  cases pf with
  | true =>
    cases ok with
    | false =>
      have E := Lib.hid (show R = false from HR.out)
      go_wp2_with (fail)
      go_ret
      exact ⟨by rw [E.out]; rfl, B2.out⟩
    | true =>
      cases hp with
      | false =>
        have E := Lib.hid (show R = false from HR.out)
        go_wp2_with (fail)
        refine (HP.out _).mono ?_
        rintro e w3 ⟨rfl, rfl⟩
        go_wp2_with (fail)
        go_ret
        exact ⟨by rw [E.out]; rfl, B2.out⟩
      | true =>
        have E := Lib.hid (show R = sv from HR.out)
        go_wp2_with (fail)
        refine (HP.out _).mono ?_
        rintro e w3 ⟨rfl, rfl⟩
        go_wp2_with (fail)
        refine (CS.out A2 c2 _ BB.out RD.out).mono ?_
        rintro e w4 ⟨rfl, b4⟩
        have B4 := Lib.hid (B2.out.trans (b4.mono B2.out.size))
        clear b4 m0 mm1 m2 m3 m4 m5
        go_wp2_with (fail)
        go_ret
        exact ⟨by rw [E.out]; rfl, B4.out⟩
  | false =>
    cases ok with
    | false =>
      have E := Lib.hid (show R = false from HR.out)
      go_wp2_with (fail)
      go_ret
      exact ⟨by rw [E.out]; rfl, B2.out⟩
    | true =>
      cases sp with
      | false =>
        have E := Lib.hid (show R = false from HR.out)
        go_wp2_with (fail)
        refine (HS.out _).mono ?_
        rintro e w3 ⟨rfl, rfl⟩
        go_wp2_with (fail)
        go_ret
        exact ⟨by rw [E.out]; rfl, B2.out⟩
      | true =>
        have E := Lib.hid (show R = ev from HR.out)
        go_wp2_with (fail)
        refine (HS.out _).mono ?_
        rintro e w3 ⟨rfl, rfl⟩
        go_wp2_with (fail)
        refine (CE.out A2 c2 _ BB.out RD.out CC.out).mono ?_
        rintro e w4 ⟨rfl, b4⟩
        have B4 := Lib.hid (B2.out.trans (b4.mono B2.out.size))
        clear b4 m0 mm1 m2 m3 m4 m5
        go_wp2_with (fail)
        go_ret
        exact ⟨by rw [E.out]; rfl, B4.out⟩
set_option maxRecDepth 100000 in
set_option maxHeartbeats 16000000 in
theorem apply_calls (r : RuP) (cs : Array Value) (x : ByteArray) (w : World) (hr : GotR w cs r) (hs : smallI r.cond) (hx : x.size ≤ 1000000) (ha : r.add.size ≤ 1000000) (hT : TabsL w) : Calls Tryd.prog 25 #[.agg cs, .string x] w fun e w' => e = .returned (.tuple #[.string (applyV r x).1, .bool (applyV r x).2]) ∧ Below w.heap.size w w' := by
  obtain ⟨A, c, hcs, hi⟩ := hr.out
  obtain ⟨M, hM⟩ : ∃ M, M = w.heap.size := ⟨_, rfl⟩
  obtain ⟨w1, hw1⟩ : ∃ w1, w1 = w.alloc (.cells cs 47) := ⟨_, rfl⟩
  have b1 : Below w.heap.size w w1 := by rw [hw1]; exact (Below.refl _ _).alloc (Nat.le_refl _) _
  have m1 : w1.heap[M]? = some (.cells cs 47 (0, 0)) := by rw [hw1, hM]; exact blk_alloc_new _ _
  have CA := Lib.hid (applies_calls r cs x w1 (hr.below b1) hs hx (hT.below b1))
  have CS := Lib.hid (fun wx => Tryd.strings_TrimSuffix x r.strip wx (by omega))
  have CP := Lib.hid (fun wx => Tryd.strings_TrimPrefix x r.strip wx)
  obtain ⟨R, hR⟩ : ∃ R, R = applyV r x := ⟨_, rfl⟩
  rw [← hR]
  unfold applyV appT cutP cutS at hR
  have HR := Lib.hid hR
  obtain ⟨X, hX⟩ : ∃ X, X = cutS x r.strip := ⟨_, rfl⟩
  obtain ⟨Y, hY⟩ : ∃ Y, Y = cutP x r.strip := ⟨_, rfl⟩
  have zX := cutS_size x r.strip
  have zY := cutP_size x r.strip
  rw [← hX] at zX
  rw [← hY] at zY
  unfold cutS at hX
  unfold cutP at hY
  rw [← hX] at HR CS
  rw [← hY] at HR CP
  obtain ⟨ap, hap⟩ : ∃ ap, ap = appV r x := ⟨_, rfl⟩
  rw [← hap] at HR CA
  subst hcs
  obtain ⟨n, hn⟩ : ∃ n, n = r.cond.length := ⟨_, rfl⟩
  rw [← hn] at CA m1 hw1
  rw [← hn]
  have HB1 := Lib.hid b1
  have HM1 := Lib.hid m1
  have HW1 := Lib.hid (And.intro hw1 hM)
  obtain ⟨pf, u, cr, st, ad, cd⟩ := r
  simp only at HR HM1 HW1 HB1 CA CS CP ha ⊢
  obtain ⟨m0, mm1, m2, m3, m4, m5⟩ := cell6_of HM1.out
  clear hr hs hT hi b1 m1 hw1 hM hn hap hX hY hR
  go_enter Tryd.func25, Tryd.ntmps25
  go_upto_region 1 with (fail)
  rw [← HW1.out.1, ← HW1.out.2]
  clear HW1
  go_wp2_with (fail)
  refine CA.out.mono ?_
  rintro e w2 ⟨rfl, b2⟩
  have B2 := Lib.hid (HB1.out.trans (b2.mono HB1.out.size))
  have hm2 := (b2.block _ (Array.getElem?_eq_some_iff.1 HM1.out).1).trans HM1.out
  clear CA b2 m0 mm1 m2 m3 m4 m5
  obtain ⟨m0, mm1, m2, m3, m4, m5⟩ := cell6_of hm2
  clear hm2
  cases ap with
  | false =>
    have E := Lib.hid (show R = (⟨#[]⟩, false) from HR.out)
    clear m0 mm1 m2 m3 m4 m5
    go_wp2_with (fail)
    go_ret2
    exact ⟨by rw [E.out]; rfl, B2.out⟩
  | true =>
    have CQ : Hid (∀ z : Nat, Calls Tryd.prog 32 #[.string x, .string st] (w2.drewN z) fun e w' => e = .returned (.string X) ∧ w' = w2.drewN z) := Lib.hid (fun z => CS.out _)
    go_upto_region 3 with (fail)
    refine Own.region_all (fun w' => ∃ n, w' = World.drewN w2 n) (by kernel_rfl) (by kernel_rfl) ⟨1, by first | rfl | simp | trace_state⟩ ?_
    repeat (go_big_quiet_step (with_reducible exact Calls.quiet_of_same (CQ.out _)))
    refine wpQuiet_nil ?_
    rintro _ ⟨nq, rfl⟩
    clear CQ CS
    have B3 := Lib.hid (B2.out.trans ((belowN w2 nq).mono B2.out.size))
    cases pf with
    | false =>
      have E := Lib.hid (show R = (X ++ ad, neB (X ++ ad)) from HR.out)
      unfold neB at E
      go_wp2_with (fail)
      go_ret2
      exact ⟨by rw [E.out]; rfl, B3.out⟩
    | true =>
      have E := Lib.hid (show R = (ad ++ Y, neB (ad ++ Y)) from HR.out)
      unfold neB at E
      have CQ : Hid (∀ z : Nat, Calls Tryd.prog 45 #[.string x, .string st] (w2.drewN z) fun e w' => e = .returned (.string Y) ∧ w' = w2.drewN z) := Lib.hid (fun z => CP.out _)
      go_upto_region 5 with (fail)
      refine Own.region_all (fun w' => ∃ n, w' = World.drewN w2 n) (by kernel_rfl) (by kernel_rfl) ⟨nq + 1, by first | rfl | simp | trace_state⟩ ?_
      repeat (go_big_quiet_step (with_reducible exact Calls.quiet_of_same (CQ.out _)))
      refine wpQuiet_nil ?_
      rintro _ ⟨nq2, rfl⟩
      clear CQ CP
      have B4 := Lib.hid (B2.out.trans ((belowN w2 nq2).mono B2.out.size))
      clear m0 mm1 m2 m3 m4 m5
      go_wp2_with (fail)
      go_ret2
      exact ⟨by rw [E.out]; rfl, B4.out⟩
/-- what comes of a word by a prefix and a suffix -/
def bothT (p s : RuP) (x : ByteArray) : ByteArray := p.add ++ x.extract p.strip.size (x.size - s.strip.size) ++ s.add
def bothC (p s : RuP) (x : ByteArray) : Bool := !(applyV p x).2 || !(applyV s x).2 || !p.pfx || s.pfx || !p.cross || !s.cross || decide (x.size < p.strip.size + s.strip.size)
def bothV (p s : RuP) (x : ByteArray) : ByteArray × Bool := if bothC p s x = true then (⟨#[]⟩, false) else (bothT p s x, neB (bothT p s x))
set_option maxRecDepth 100000 in
set_option maxHeartbeats 16000000 in
theorem both_calls (p s : RuP) (ps ss : Array Value) (x : ByteArray) (w : World) (hp : GotR w ps p) (hs : GotR w ss s) (hps : smallI p.cond) (hss : smallI s.cond) (hx : x.size ≤ 1000000) (hpa : p.add.size ≤ 1000000) (hsa : s.add.size ≤ 1000000) (hpt : p.strip.size ≤ 1000000) (hst : s.strip.size ≤ 1000000) (hT : TabsL w) : Calls Tryd.prog 26 #[.agg ps, .agg ss, .string x] w fun e w' => e = .returned (.tuple #[.string (bothV p s x).1, .bool (bothV p s x).2]) ∧ Below w.heap.size w w' := by
  obtain ⟨A, c, hcs, hi⟩ := hp.out
  obtain ⟨B, d, hds, hj⟩ := hs.out
  obtain ⟨M, hM⟩ : ∃ M, M = w.heap.size := ⟨_, rfl⟩
  obtain ⟨w1, hw1⟩ : ∃ w1, w1 = w.alloc (.cells ps 47) := ⟨_, rfl⟩
  have b1 : Below w.heap.size w w1 := by rw [hw1]; exact (Below.refl _ _).alloc (Nat.le_refl _) _
  have m1 : w1.heap[M]? = some (.cells ps 47 (0, 0)) := by rw [hw1, hM]; exact blk_alloc_new _ _
  obtain ⟨N, hN⟩ : ∃ N, N = w1.heap.size := ⟨_, rfl⟩
  obtain ⟨w2, hw2⟩ : ∃ w2, w2 = w1.alloc (.cells ss 47) := ⟨_, rfl⟩
  have b2 : Below w1.heap.size w1 w2 := by rw [hw2]; exact (Below.refl _ _).alloc (Nat.le_refl _) _
  have m2 : w2.heap[M]? = some (.cells ps 47 (0, 0)) := (b2.block _ (Array.getElem?_eq_some_iff.1 m1).1).trans m1
  have n2 : w2.heap[N]? = some (.cells ss 47 (0, 0)) := by rw [hw2, hN]; exact blk_alloc_new _ _
  have B2 := Lib.hid (b1.trans (b2.mono b1.size))
  have CA1 := Lib.hid (apply_calls p ps x w2 ((hp.below b1).below b2) hps hx hpa (hT.below B2.out))
  have CA2 := Lib.hid (fun w3 (hb : Below w2.heap.size w2 w3) => apply_calls s ss x w3 (((hs.below b1).below b2).below hb) hss hx hsa ((hT.below B2.out).below hb))
  obtain ⟨R, hR⟩ : ∃ R, R = bothV p s x := ⟨_, rfl⟩
  rw [← hR]
  unfold bothV bothC bothT at hR
  have HR := Lib.hid hR
  obtain ⟨a1, ha1⟩ : ∃ a1, a1 = applyV p x := ⟨_, rfl⟩
  obtain ⟨a2, ha2⟩ : ∃ a2, a2 = applyV s x := ⟨_, rfl⟩
  rw [← ha1] at HR CA1
  rw [← ha2] at HR CA2
  subst hcs hds
  have HM := Lib.hid (fun wx (hb : Below w2.heap.size w2 wx) => (hb.block _ (Array.getElem?_eq_some_iff.1 m2).1).trans m2)
  have HN := Lib.hid (fun wx (hb : Below w2.heap.size w2 wx) => (hb.block _ (Array.getElem?_eq_some_iff.1 n2).1).trans n2)
  have HW1 := Lib.hid (And.intro hw1 hM)
  have HW2 := Lib.hid (And.intro hw2 (show N = M + 1 by rw [hN, hw1, hM]; exact Array.size_push _))
  obtain ⟨n, hn⟩ : ∃ n, n = p.cond.length := ⟨_, rfl⟩
  obtain ⟨k, hk⟩ : ∃ k, k = s.cond.length := ⟨_, rfl⟩
  rw [← hn] at CA1 HM HW1
  rw [← hk] at CA2 HN HW2
  rw [← hn, ← hk]
  obtain ⟨pf, u, cr, st, ad, cd⟩ := p
  obtain ⟨qf, v, dr, tt, ae, ce⟩ := s
  simp only at HR HM HN HW1 HW2 CA1 CA2 hpa hsa hpt hst ⊢
  obtain ⟨x1, y1⟩ := a1
  obtain ⟨x2, y2⟩ := a2
  simp only at HR CA1 CA2
  clear hp hs hps hss hT hi hj b1 m1 hw1 hM hn hk hw2 hN b2 m2 n2 hR ha1 ha2
  obtain ⟨m0, mm1, m2, m3, m4, m5⟩ := cell6_of (HM.out _ (Below.refl _ _))
  obtain ⟨n0, n1, n2, n3, n4, n5⟩ := cell6_of (HN.out _ (Below.refl _ _))
  go_enter Tryd.func26, Tryd.ntmps26
  go_upto_region 1 with (fail)
  rw [← HW1.out.1, ← HW1.out.2, ← HW2.out.1, ← HW2.out.2]
  clear HW1 HW2
  go_wp2_with (fail)
  refine CA1.out.mono ?_
  rintro e w3 ⟨rfl, b3⟩
  have B3 := Lib.hid b3
  clear CA1 b3 m0 mm1 m2 m3 m4 m5 n0 n1 n2 n3 n4 n5
  obtain ⟨m0, mm1, m2, m3, m4, m5⟩ := cell6_of (HM.out _ B3.out)
  obtain ⟨n0, n1, n2, n3, n4, n5⟩ := cell6_of (HN.out _ B3.out)
  go_wp2_with (fail)
  refine (CA2.out _ B3.out).mono ?_
  rintro e w4 ⟨rfl, b4⟩
  have B4 := Lib.hid (B3.out.trans (b4.mono B3.out.size))
  clear CA2 b4 m0 mm1 m2 m3 m4 m5 n0 n1 n2 n3 n4 n5
  obtain ⟨m0, mm1, m2, m3, m4, m5⟩ := cell6_of (HM.out _ B4.out)
  obtain ⟨n0, n1, n2, n3, n4, n5⟩ := cell6_of (HN.out _ B4.out)
  have B5 := Lib.hid (B2.out.trans (B4.out.mono B2.out.size))
  have g1 : decide (((x.size : Nat) : Int) < (st.size : Int) + (tt.size : Int)) = decide (x.size < st.size + tt.size) := by
    rw [decide_eq_decide]; omega
  cases y1 with
  | false =>
    have E := Lib.hid (show R = (⟨#[]⟩, false) from HR.out)
    clear HR
    go_wp2_with (fail)
    go_ret2
    exact ⟨by rw [E.out]; rfl, B5.out⟩
  | true =>
    cases y2 with
    | false =>
      have E := Lib.hid (show R = (⟨#[]⟩, false) from HR.out)
      clear HR
      go_wp2_with (fail)
      go_ret2
      exact ⟨by rw [E.out]; rfl, B5.out⟩
    | true =>
      cases pf with
      | false =>
        have E := Lib.hid (show R = (⟨#[]⟩, false) from HR.out)
        clear HR
        go_wp2_with (fail)
        go_ret2
        exact ⟨by rw [E.out]; rfl, B5.out⟩
      | true =>
        cases qf with
        | true =>
          have E := Lib.hid (show R = (⟨#[]⟩, false) from HR.out)
          clear HR
          go_wp2_with (fail)
          go_ret2
          exact ⟨by rw [E.out]; rfl, B5.out⟩
        | false =>
          cases cr with
          | false =>
            have E := Lib.hid (show R = (⟨#[]⟩, false) from HR.out)
            clear HR
            go_wp2_with (fail)
            go_ret2
            exact ⟨by rw [E.out]; rfl, B5.out⟩
          | true =>
            cases dr with
            | false =>
              have E := Lib.hid (show R = (⟨#[]⟩, false) from HR.out)
              clear HR
              go_wp2_with (fail)
              go_ret2
              exact ⟨by rw [E.out]; rfl, B5.out⟩
            | true =>
              cases hdd : decide (x.size < st.size + tt.size) with
              | true =>
                have E := Lib.hid (show R = (⟨#[]⟩, false) by have := HR.out; rw [hdd] at this; exact this)
                rw [hdd] at g1
                clear HR hdd
                go_wp2_with (fail)
                go_ret2
                exact ⟨by rw [E.out]; rfl, B5.out⟩
              | false =>
                have E := Lib.hid (show R = (ad ++ x.extract st.size (x.size - tt.size) ++ ae, neB (ad ++ x.extract st.size (x.size - tt.size) ++ ae)) by have := HR.out; rw [hdd] at this; exact this)
                unfold neB at E
                rw [hdd] at g1
                have hlt : st.size + tt.size ≤ x.size := by have := of_decide_eq_false hdd; omega
                obtain ⟨X, hX⟩ : ∃ X, X = x.extract st.size (x.size - tt.size) := ⟨_, rfl⟩
                have zX : X.size ≤ 1000000 := by rw [hX, ByteArray.size_extract]; omega
                rw [← hX] at E
                have FS : ∀ w : World, (Instr.slice 9 (.string x) (some (.int .i64 (st.size : Nat))) (some (.int .i64 (((x.size : Nat) : Int) - (tt.size : Nat)))) none).run Tryd.prog w = .ok (.string X) w := fun w => by
                  rw [run_slice_string (t := 9) (s := x) (k := .i64) (k' := .i64) (i := (st.size : Nat)) (j := ((x.size : Nat) : Int) - (tt.size : Nat)) (h := Tryd.underlying9)]
                  · show Result.ok (Value.string (x.extract ((st.size : Nat) : Int).toNat (((x.size : Nat) : Int) - (tt.size : Nat)).toNat)) w = _
                    rw [show (((x.size : Nat) : Int) - ((tt.size : Nat) : Int)).toNat = x.size - tt.size by omega, hX]
                    rfl
                  all_goals omega
                clear HR hdd hlt hX
                go_upto_region 5 with (fail)
                refine Own.region_all (fun w' => ∃ n, w' = World.drewN w4 n) (by kernel_rfl) (by kernel_rfl) ⟨1, by first | rfl | simp | trace_state⟩ ?_
                repeat (go_big_quiet_step (fail))
                refine wpQuiet_nil ?_
                rintro _ ⟨nq2, rfl⟩
                have B6 := Lib.hid (B5.out.trans ((belowN w4 nq2).mono B5.out.size))
                clear m0 mm1 m2 m3 m4 m5 n0 n1 n2 n3 n4 n5 FS
                go_wp2_with (fail)
                go_ret2
                exact ⟨by rw [E.out]; rfl, B6.out⟩
end Go.Proofs.YtmcnnfpeicnnjaaDoor

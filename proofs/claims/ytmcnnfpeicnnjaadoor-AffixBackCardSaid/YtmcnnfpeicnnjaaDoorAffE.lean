/- affix: (*file).both. -/
import Derived.Test.YtmcnnfpeicnnjaaDoorAffD
namespace Go.Proofs.YtmcnnfpeicnnjaaDoor
open Go.RowKit Go.Deep Go.Own
set_option linter.unusedVariables false
def hitR (r x : RuP) : Bool := (x.flag == r.flag) && (x.pfx != r.pfx)
set_option maxRecDepth 100000 in
set_option maxHeartbeats 4000000 in
theorem bothC_calls (r x : RuP) (rs xs : Array Value) (K : Nat) (w : World) (hK : w.heap[K]? = some (.cells rs 47 (0, 0))) (hr : GotR w rs r) (hx : GotR w xs x) :
    Calls Tryd.prog 54 #[.agg xs, .pointer (some ⟨K, 0, none⟩)] w fun e w' => e = .returned (.bool (hitR r x)) ∧ Below w.heap.size w w' := by
  obtain ⟨w1, hw1⟩ : ∃ w1, w1 = w.alloc (.cells xs 47) := ⟨_, rfl⟩
  obtain ⟨M, hM⟩ : ∃ M, M = w.heap.size := ⟨_, rfl⟩
  have b1 : Below w.heap.size w w1 := by rw [hw1]; exact (Below.refl _ _).alloc (Nat.le_refl _) _
  have m1 : w1.heap[M]? = some (.cells xs 47 (0, 0)) := by rw [hw1, hM]; exact blk_alloc_new _ _
  have k1 := (b1.block _ (Array.getElem?_eq_some_iff.1 hK).1).trans hK
  obtain ⟨A, c, hrs, _⟩ := hr.out
  obtain ⟨B, d, hxs, _⟩ := hx.out
  subst hrs hxs
  obtain ⟨q, hq⟩ : ∃ q, q = hitR r x := ⟨_, rfl⟩
  rw [← hq]
  unfold hitR at hq
  obtain ⟨m0, mm1, m2, m3, m4, m5⟩ := cell6_of m1
  obtain ⟨n0, n1, n2, n3, n4, n5⟩ := cell6_of k1
  have HW := Lib.hid (And.intro hw1 hM)
  have B1 := Lib.hid b1
  obtain ⟨fb, hfb⟩ : ∃ fb, fb = (x.flag == r.flag) := ⟨_, rfl⟩
  obtain ⟨pb, hpb⟩ : ∃ pb, pb = (x.pfx != r.pfx) := ⟨_, rfl⟩
  have g1 : (((x.flag : Nat) : Int) == ((r.flag : Nat) : Int)) = fb := by
    rw [hfb, Bool.eq_iff_iff]
    simp
    omega
  have g1' : (x.flag == r.flag) = fb := hfb.symm
  rw [← hfb, ← hpb] at hq
  have HQ := Lib.hid hq
  obtain ⟨pf, u, cr, st, ad, cd⟩ := r
  obtain ⟨qf, v, dr, tt, ae, ce⟩ := x
  simp only at g1 g1' hpb m0 mm1 m2 m3 m4 m5 n0 n1 n2 n3 n4 n5 HW
  have g2 : (qf != pf) = pb := hpb.symm
  have HPB := Lib.hid hpb
  clear hK hr hx hw1 hM b1 m1 k1 hq hfb hpb
  cases fb with
  | false =>
    have E := Lib.hid (show q = false from HQ.out)
    go_enter Tryd.func54, Tryd.ntmps54
    go_upto_region 1 with (fail)
    rw [← HW.out.1, ← HW.out.2]
    go_wp2_with (fail)
    go_ret
    exact ⟨by rw [E.out]; rfl, B1.out⟩
  | true =>
    have E := Lib.hid (show q = (qf != pf) by rw [HQ.out, ← HPB.out]; rfl)
    clear g2
    go_enter Tryd.func54, Tryd.ntmps54
    go_upto_region 1 with (fail)
    rw [← HW.out.1, ← HW.out.2]
    go_wp2_with (fail)
    go_ret
    exact ⟨by rw [E.out]; cases qf <;> cases pf <;> rfl, B1.out⟩
def bothF (K : Nat) : Value := .func (.func 54) #[] #[.pointer (some ⟨K, 0, none⟩)]
set_option maxRecDepth 100000 in
set_option maxHeartbeats 4000000 in
theorem bothI_calls (r : RuP) (rs : Array Value) (K : Nat) (l : List RuP) (B : Option Addr) (cp : Nat) (w : World) (hK : w.heap[K]? = some (.cells rs 47 (0, 0))) (hr : GotR w rs r) (hl : GotRs w B l) (hll : l.length ≤ 1000000) :
    Calls Tryd.prog 77 #[.slice B l.length cp, bothF K] w fun e w' => (∃ i : Int, e = .returned (.int .i64 i) ∧ decide (0 ≤ i) = l.any (hitR r)) ∧ Below w.heap.size w w' := by
  have CH := Lib.hid (fun (x : RuP) xs wx (hb : Below w.heap.size w wx) (hx : GotR wx xs x) => bothC_calls r x rs xs K wx ((hb.block _ (Array.getElem?_eq_some_iff.1 hK).1).trans hK) (hr.below hb) hx)
  have HP := Lib.hid hl
  obtain ⟨n, hn⟩ : ∃ n, n = l.length := ⟨_, rfl⟩
  have HN := Lib.hid hn
  rw [← hn] at hll ⊢
  unfold bothF
  clear hK hr hl hn
  go_enter Tryd.func77, Tryd.ntmps77
  go_wp2_with (fail)
  go_loopw [8] (fun iv wr => ∃ i : Nat, i ≤ n ∧ iv = .int .i64 (i : Nat) ∧ (l.take i).any (hitR r) = false ∧ Below w.heap.size w wr) (fun iv _ => n - (intOf iv).toNat)
  case atStart => exact ⟨0, Nat.zero_le _, rfl, rfl, Below.refl _ _⟩
  case round =>
    obtain ⟨i, hi, rfl, hany, hbw⟩ := hrel
    by_cases hlt : i < n
    · have g1 : decide (i < n) = true := by simpa using hlt
      obtain ⟨x, hx⟩ : ∃ p, l[i]? = some p := ⟨_, List.getElem?_eq_getElem (by have := HN.out; omega)⟩
      obtain ⟨q, o, rfl, hq, hc⟩ := GotRs.below HP.out hbw (by have := HN.out; omega)
      obtain ⟨xs, hgx, hk⟩ := hc i x hx
      have CC := Lib.hid (CH.out x xs wr hbw hgx)
      obtain ⟨A, c, hxs, _⟩ := hgx.out
      subst hxs
      have c0 := hk 0 _ rfl
      have c1 := hk 1 _ rfl
      have c2 := hk 2 _ rfl
      have c3 := hk 3 _ rfl
      have c4 := hk 4 _ rfl
      have c5 := hk 5 _ rfl
      rw [Nat.add_zero] at c0
      obtain ⟨b, hb⟩ : ∃ b, b = hitR r x := ⟨_, rfl⟩
      rw [← hb] at CC
      have HR := Lib.hid (show (l.take (i + 1)).any (hitR r) = b by
        obtain ⟨l1, e1⟩ := List.getElem?_eq_some_iff.1 hx
        rw [List.take_succ_eq_append_getElem l1, e1, List.any_append, hany, hb]
        simp)
      have HX := Lib.hid (And.intro hx hb)
      have BW := Lib.hid hbw
      obtain ⟨m, hm⟩ : ∃ m, m = x.cond.length := ⟨_, rfl⟩
      rw [← hm] at CC c5
      obtain ⟨pf, u, cr, st, ad, cd⟩ := x
      simp only at c0 c1 c2 c3 c4 c5 CC
      clear hx hc hany hb hq hbw hk hgx hm
      go_wp2_with (fail)
      refine CC.out.mono ?_
      rintro e w2 ⟨rfl, b2⟩
      have B2 := Lib.hid (BW.out.trans (b2.mono BW.out.size))
      clear CC b2 c0 c1 c2 c3 c4 c5
      cases b with
      | true =>
        have E := Lib.hid (show l.any (hitR r) = true by
          obtain ⟨h1, h2⟩ := HX.out
          rw [List.any_eq_true]
          exact ⟨_, List.mem_of_getElem? h1, h2.symm⟩)
        go_wp2_with (fail)
        go_ret
        exact ⟨⟨_, rfl, by rw [E.out]; simp⟩, B2.out⟩
      | false =>
        go_wp2_with (fail)
        go_roundw
        case rel => exact ⟨i + 1, hlt, by go_num, HR.out, B2.out⟩
        case measure => simp [intOf]; omega
    · obtain rfl : i = n := by omega
      have g1 : decide (i < i) = false := by simp
      have E := Lib.hid (show l.any (hitR r) = false by rw [List.take_of_length_le (by have := HN.out; omega)] at hany; exact hany)
      have BW := Lib.hid hbw
      clear hany hbw
      go_wp2_with (fail)
      go_ret
      exact ⟨⟨_, rfl, by rw [E.out]; decide⟩, BW.out⟩
set_option maxRecDepth 100000 in
set_option maxHeartbeats 4000000 in
theorem bothK_calls (r : RuP) (rs : Array Value) (K : Nat) (l : List RuP) (B : Option Addr) (cp : Nat) (w : World) (hK : w.heap[K]? = some (.cells rs 47 (0, 0))) (hr : GotR w rs r) (hl : GotRs w B l) (hll : l.length ≤ 1000000) :
    Calls Tryd.prog 53 #[.slice B l.length cp, bothF K] w fun e w' => e = .returned (.bool (l.any (hitR r))) ∧ Below w.heap.size w w' := by
  have C1 := Lib.hid (bothI_calls r rs K l B cp w hK hr hl hll)
  obtain ⟨V, hV⟩ : ∃ V, V = bothF K := ⟨_, rfl⟩
  rw [← hV] at C1 ⊢
  obtain ⟨b, hb⟩ : ∃ b, b = l.any (hitR r) := ⟨_, rfl⟩
  rw [← hb]
  have HB := Lib.hid hb
  obtain ⟨n, hn⟩ : ∃ n, n = l.length := ⟨_, rfl⟩
  rw [← hn] at C1 ⊢
  clear hK hr hl hll hV hn hb
  go_enter Tryd.func53, Tryd.ntmps53
  go_wp2_with (fail)
  refine C1.out.mono ?_
  rintro e w1 ⟨⟨i, rfl, hi⟩, b1⟩
  have B1 := Lib.hid b1
  clear C1 b1
  go_wp2_with (fail)
  go_ret
  exact ⟨by rw [HB.out]; first | rfl | (rw [← hi]; rfl), B1.out⟩
/-- does a rule clash with one ahead of it -/
def clashV (l : List RuP) (i : Nat) : Bool := match l[i]? with
  | some r => (l.take i).any (hitR r)
  | none => false
def bothV2 (l : List RuP) (ats : List Int) : Int := match (List.range l.length).find? (clashV l) with
  | some i => ats.getD i 0
  | none => 0
theorem find_none {p : Nat → Bool} {n : Nat} (h : ∀ i, i < n → p i = false) : (List.range n).find? p = none := by
  rw [List.find?_eq_none]
  intro i hi
  have := h i (List.mem_range.1 hi)
  rw [this]
  decide
theorem find_some {p : Nat → Bool} {n i : Nat} (hi : i < n) (h : ∀ j, j < i → p j = false) (hp : p i = true) : (List.range n).find? p = some i := by
  rw [List.find?_range_eq_some]
  refine ⟨hp, List.mem_range.2 hi, fun j hj => ?_⟩
  rw [h j hj]
  rfl
set_option maxRecDepth 100000 in
set_option maxHeartbeats 8000000 in
theorem both_m_calls (F : Nat) (c1 c3 : Value) (Ar Aa : Option Addr) (cr ca : Nat) (l : List RuP) (ats : List Int) (w : World) (hF : w.heap[F]? = some (.cells #[.slice Ar l.length cr, c1, .slice Aa ats.length ca, c3] 67 (0, 0))) (hl : GotRs w Ar l) (ha : Reads w Aa ats)
    (hal : ats.length = l.length) (hll : l.length ≤ 1000000) (hcr : l.length ≤ cr) : Calls Tryd.prog 33 #[.pointer (some ⟨F, 0, none⟩)] w fun e w' => e = .returned (.int .i64 (bothV2 l ats)) ∧ Below w.heap.size w w' := by
  have HF := Lib.hid (fun wx (hb : Below w.heap.size w wx) => (hb.block _ (Array.getElem?_eq_some_iff.1 hF).1).trans hF)
  have HL := Lib.hid hl
  have HA := Lib.hid ha
  obtain ⟨n, hn⟩ : ∃ n, n = l.length := ⟨_, rfl⟩
  have HN := Lib.hid (And.intro hn hal)
  rw [← hn] at HF hll hcr
  obtain ⟨V, hV⟩ : ∃ V, V = bothV2 l ats := ⟨_, rfl⟩
  rw [← hV]
  have HV := Lib.hid hV
  obtain ⟨m, hm⟩ : ∃ m, m = ats.length := ⟨_, rfl⟩
  rw [← hm] at HF
  have hmn : m = n := by omega
  obtain ⟨f0, f1, f2, f3⟩ := cell4_of (HF.out w (Below.refl _ _))
  clear hF hl ha hal hn hV hm
  go_enter Tryd.func33, Tryd.ntmps33
  go_wp2_with (fail)
  clear f0 f1 f2 f3
  go_loopw [11] (fun iv wr => ∃ i : Nat, i ≤ n ∧ iv = .int .i64 (i : Nat) ∧ (∀ j, j < i → clashV l j = false) ∧ Below w.heap.size w wr) (fun iv _ => n - (intOf iv).toNat)
  case atStart => exact ⟨0, Nat.zero_le _, rfl, fun j hj => by omega, Below.refl _ _⟩
  case round =>
    obtain ⟨i, hi, rfl, hno, hbw⟩ := hrel
    by_cases hlt : i < n
    · have g1 : decide (i < n) = true := by simpa using hlt
      obtain ⟨x, hx⟩ : ∃ p, l[i]? = some p := ⟨_, List.getElem?_eq_getElem (by have := HN.out.1; omega)⟩
      have hgs := GotRs.below HL.out hbw
      obtain ⟨q, o, rfl, hq, hc⟩ := hgs (by have := HN.out.1; omega)
      obtain ⟨xs, hgx, hk⟩ := hc i x hx
      obtain ⟨w1, hw1⟩ : ∃ w1, w1 = wr.alloc (.cells xs 47) := ⟨_, rfl⟩
      obtain ⟨M, hM⟩ : ∃ M, M = wr.heap.size := ⟨_, rfl⟩
      have b1 : Below wr.heap.size wr w1 := by rw [hw1]; exact (Below.refl _ _).alloc (Nat.le_refl _) _
      have m1 : w1.heap[M]? = some (.cells xs 47 (0, 0)) := by rw [hw1, hM]; exact blk_alloc_new _ _
      have hgt : GotRs w1 (some ⟨q, o, none⟩) (l.take i) := fun h0 => by
        obtain ⟨q', o', e', hq', hc'⟩ := GotRs.below hgs b1 (by have := HN.out.1; omega)
        refine ⟨q', o', e', hq', fun j r hr => hc' j r ?_⟩
        rw [List.getElem?_take] at hr
        split at hr
        · exact hr
        · cases hr
      have hti : (l.take i).length = i := by rw [List.length_take]; have := HN.out.1; omega
      have CK0 := bothK_calls x xs M (l.take i) (some ⟨q, o, none⟩) cr w1 m1 (hgx.below b1) hgt (by omega)
      rw [hti] at CK0
      unfold bothF at CK0
      have CK := Lib.hid CK0
      have B1 := Lib.hid (hbw.trans (b1.mono hbw.size))
      obtain ⟨b, hb⟩ : ∃ b, b = (l.take i).any (hitR x) := ⟨_, rfl⟩
      rw [← hb] at CK
      have HB := Lib.hid (show clashV l i = b by unfold clashV; rw [hx, hb])
      have HNO := Lib.hid hno
      obtain ⟨f0, f1, f2, f3⟩ := cell4_of (HF.out w1 B1.out)
      obtain ⟨A, c, hxs, _⟩ := hgx.out
      subst hxs
      have d0 := hk 0 _ rfl
      have d1 := hk 1 _ rfl
      have d2 := hk 2 _ rfl
      have d3 := hk 3 _ rfl
      have d4 := hk 4 _ rfl
      have d5 := hk 5 _ rfl
      rw [Nat.add_zero] at d0
      have HW1 := Lib.hid (And.intro hw1 hM)
      obtain ⟨k, hkk⟩ : ∃ k, k = x.cond.length := ⟨_, rfl⟩
      rw [← hkk] at d5 HW1
      have FS : ∀ wx : World, (Instr.slice 26 (.slice (some ⟨q, o, none⟩) n cr) none (some (.int .i64 (i : Nat))) none).run Tryd.prog wx = .ok (.slice (some ⟨q, o, none⟩) i cr) wx := fun wx => run_sliced_toN (z := 6) Tryd.underlying26 (fun w => by rfl) _ n cr i (by omega) .i64 wx
      obtain ⟨pf, u, cx, st, ad, cd⟩ := x
      simp only at d0 d1 d2 d3 d4 d5 HW1
      clear hx hc hno hb hq hbw hk hgx hkk hgs hgt hti hw1 hM b1 m1 CK0
      go_upto_region 4 with (fail)
      rw [← HW1.out.1, ← HW1.out.2]
      clear HW1 d0 d1 d2 d3 d4 d5
      go_wp2_with (fail)
      refine CK.out.mono ?_
      rintro e w2 ⟨rfl, b2⟩
      have B2 := Lib.hid (B1.out.trans (b2.mono B1.out.size))
      clear CK b2 f0 f1 f2 f3 FS
      cases b with
      | true =>
        obtain ⟨y, hy⟩ : ∃ y, ats[i]? = some y := ⟨_, List.getElem?_eq_getElem (by have := HN.out; omega)⟩
        obtain ⟨qa, oa, rfl, hya⟩ := reads_at HA.out B2.out hy
        obtain ⟨f0, f1, f2, f3⟩ := cell4_of (HF.out w2 B2.out)
        have E := Lib.hid (show V = y by
          rw [HV.out]
          unfold bothV2
          rw [find_some (by have := HN.out.1; omega) HNO.out HB.out]
          show ats.getD i 0 = y
          rw [List.getD_eq_getElem?_getD, hy]
          rfl)
        clear hy
        go_wp2_with (fail)
        go_ret
        exact ⟨by rw [E.out]; rfl, B2.out⟩
      | false =>
        go_wp2_with (fail)
        go_roundw
        case rel => exact ⟨i + 1, hlt, by go_num, fun j hj => by
          by_cases h : j = i
          · rw [h]; exact HB.out
          · exact HNO.out j (by omega), B2.out⟩
        case measure => simp [intOf]; omega
    · obtain rfl : i = n := by omega
      have g1 : decide (i < i) = false := by simp
      have E := Lib.hid (show V = 0 by
        rw [HV.out]
        unfold bothV2
        rw [find_none (by rw [← HN.out.1]; exact hno)])
      have BW := Lib.hid hbw
      clear hno hbw
      go_wp2_with (fail)
      go_ret
      exact ⟨by rw [E.out]; rfl, BW.out⟩
end Go.Proofs.YtmcnnfpeicnnjaaDoor

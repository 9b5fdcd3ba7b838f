/- affix: (*file).pair. -/
import Derived.Test.YtmcnnfpeicnnjaaDoorAffA
import Derived.Test.YtmcnnfpeicnnjaaDoorRulF
namespace Go.Proofs.YtmcnnfpeicnnjaaDoor
open Go.RowKit Go.Deep Go.Own
set_option linter.unusedVariables false
def caseB : ByteArray := ⟨#[67, 65, 83, 69, 32]⟩
def codesV (ps : List (Int × Int)) (l : List Int) : Option (Int × Int) := match l with
  | [a, b] => if a = b ∨ ascV a = true ∨ ascV b = true ∨ ps.any (hitV [a, b]) = true then none else some (a, b)
  | _ => none
/-- the pair of a line -/
def pairV (ps : List (Int × Int)) (s : ByteArray) : Option (Int × Int) := if preB s caseB = true ∧ okU (cutP s caseB) = true then codesV ps (codes (cutP s caseB)) else none
theorem codesV_len {ps : List (Int × Int)} {l : List Int} (h : l.length ≠ 2) : codesV ps l = none := by
  match l, h with
  | [], _ => rfl
  | [_], _ => rfl
  | [_, _], h => exact absurd rfl h
  | _ :: _ :: _ :: _, _ => rfl
def PrPost (w : World) (ps : List (Int × Int)) (s : ByteArray) (e : Ending) (w' : World) : Prop :=
  (∃ (g k : Int) (ok : Bool), e = .returned (.tuple #[.agg #[.int .i64 g, .int .i64 k], .bool ok]) ∧ (ok = true → pairV ps s = some (g, k)) ∧ (ok = false → pairV ps s = none)) ∧ Below w.heap.size w w'
structure PrD (w wf : World) (M : Nat) (g k : Int) : Prop where
  cell : wf.heap[M]? = some (.cells #[.int .i64 g, .int .i64 k] 92 (0, 0))
  bel : Below w.heap.size w wf
theorem pr_ret {w wf : World} {M : Nat} {ps : List (Int × Int)} {s : ByteArray} {g k : Int} {ok : Bool} {act : Act} (h : PrD w wf M g k) (hd : act.defers = []) (ht : act.tmps[4]? = some (.pointer (some ⟨M, 0, none⟩)) ∧ act.tmps[5]? = some (.bool ok)) (h1 : ok = true → pairV ps s = some (g, k)) (h2 : ok = false → pairV ps s = none) : bodyPost Tryd.prog Tryd.f50 (PrPost w ps s) .ret act wf := by
  obtain ⟨r0, r1⟩ := pcell2 h.cell
  obtain ⟨t2, t3⟩ := ht
  refine bodyPost_ret (v := .tuple #[.agg #[.int .i64 g, .int .i64 k], .bool ok]) (by simp [results, Tryd.results50, go_sem, t2, t3, r0, r1]; done) hd ?_
  exact ⟨⟨g, k, ok, rfl, h1, h2⟩, h.bel⟩
theorem pr_put {w wx wf : World} {M : Nat} {x0 x1 : Value} (g k : Int) (h : wx.heap[M]? = some (.cells #[x0, x1] 92 (0, 0))) (hw : wf = (wx.setCell ⟨M, 0, none⟩ (.int .i64 g)).setCell ⟨M, 1, none⟩ (.int .i64 k)) (hb : Below w.heap.size w wx) (hM : w.heap.size ≤ M) : PrD w wf M g k := by
  subst hw
  refine ⟨?_, (hb.setCell (p := ⟨M, 0, none⟩) hM _).setCell (p := ⟨M, 1, none⟩) hM _⟩
  rw [setCell_same (setCell_same h _)]
  rfl
theorem PrD.drew {w wf : World} {M : Nat} {g k : Int} (h : PrD w wf M g k) : PrD w wf.drew M g k := ⟨h.cell, h.bel.drew⟩
set_option maxRecDepth 100000 in
set_option maxHeartbeats 16000000 in
theorem pair_calls (F : Nat) (c0 c2 c3 : Value) (B : Option Addr) (cp : Nat) (ps : List (Int × Int)) (s : ByteArray) (w : World) (hF : w.heap[F]? = some (.cells #[c0, .slice B ps.length cp, c2, c3] 67 (0, 0))) (hps : ReadsP w B ps) (hpl : ps.length ≤ 1000000) (hs : s.size ≤ 1000000) (hT : TabsL w) :
    Calls Tryd.prog 50 #[.pointer (some ⟨F, 0, none⟩), .string s] w (PrPost w ps s) := by
  obtain ⟨w1, hw1⟩ : ∃ w1, w1 = w.alloc (.cells #[Value.int .i64 0, .int .i64 0] 92) := ⟨_, rfl⟩
  obtain ⟨M, hM⟩ : ∃ M, M = w.heap.size := ⟨_, rfl⟩
  have b1 : Below w.heap.size w w1 := by rw [hw1]; exact (Below.refl _ _).alloc (Nat.le_refl _) _
  have m1 : w1.heap[M]? = some (.cells #[.int .i64 0, .int .i64 0] 92 (0, 0)) := by rw [hw1, hM]; exact blk_alloc_new _ _
  have CP := Lib.hid (fun wx => Tryd.strings_CutPrefix s caseB wx)
  unfold caseB at CP
  have hz := cutP_size s caseB
  have CU := Lib.hid (fun wx (hb : Below w.heap.size w wx) => ucodes_calls (cutP s caseB) wx (by omega) (hT.below hb).1)
  unfold CodesPost at CU
  obtain ⟨R, hR⟩ : ∃ R, R = pairV ps s := ⟨_, rfl⟩
  have HR := Lib.hid hR
  unfold pairV at HR
  have HRR := Lib.hid hR
  obtain ⟨is, his⟩ : ∃ b, b = preB s caseB := ⟨_, rfl⟩
  obtain ⟨t, ht⟩ : ∃ t, t = cutP s caseB := ⟨_, rfl⟩
  rw [← his, ← ht] at HR
  rw [← ht] at CU hz
  have CP2 : Hid (∀ wx, Calls Tryd.prog 69 #[.string s, .string ⟨#[67, 65, 83, 69, 32]⟩] wx fun e w' => e = .returned (.tuple #[.string t, .bool is]) ∧ w' = wx) := Lib.hid (fun wx => by
    rw [ht, his]
    exact CP.out wx)
  have hcl := codesOf_len t
  obtain ⟨cs, hcs⟩ : ∃ cs, cs = codesOf t := ⟨_, rfl⟩
  obtain ⟨ok, hok⟩ : ∃ ok, ok = okU t := ⟨_, rfl⟩
  rw [← hok] at HR
  rw [← hcs, ← hok] at CU
  have HCS := Lib.hid (show ok = true → cs = codes t from fun h => by rw [hcs]; exact codesOf_ok (by rw [← hok]; exact h))
  rw [← hcs] at hcl
  have HW1 := Lib.hid (And.intro hw1 hM)
  have B1 := Lib.hid b1
  have HM1 := Lib.hid m1
  have HM0 := Lib.hid (show w.heap.size ≤ M by rw [hM]; exact Nat.le_refl _)
  have HF := Lib.hid hF
  have HP := Lib.hid hps
  have CK := Lib.hid (fun L A c l wx (hb : Below w.heap.size w wx) (hL : wx.heap[L]? = some (.cells #[.slice A l.length c] 41 (0, 0))) (hr : Reads wx A l) (hl : l.length ≤ 1000000) => pairK_calls l A c L ps B cp wx hL hr hl (hps.below hb) hpl)
  clear hw1 hM b1 m1 hF hps hR his ht hcs hok hT CP
  go_enter Tryd.func50, Tryd.ntmps50
  go_upto_region 1 with (fail)
  rw [← HW1.out.1, ← HW1.out.2]
  clear HW1
  go_wp2_with (fail)
  refine (CP2.out _).mono ?_
  rintro e w0 ⟨rfl, hw0⟩
  subst hw0
  clear CP2
  go_wp2_with (fail)
  refine (CU.out _ B1.out).mono ?_
  rintro e w2 ⟨⟨v, rfl, ho⟩, b2⟩
  obtain ⟨A2, c2x, rfl, hcc, hrd⟩ := ho.reads
  obtain ⟨w3, hw3⟩ : ∃ w3, w3 = w2.alloc (.cells #[.slice A2 cs.length c2x] 41) := ⟨_, rfl⟩
  obtain ⟨L, hL⟩ : ∃ L, L = w2.heap.size := ⟨_, rfl⟩
  have b3 : Below w2.heap.size w2 w3 := by rw [hw3]; exact (Below.refl _ _).alloc (Nat.le_refl _) _
  have l3 : w3.heap[L]? = some (.cells #[.slice A2 cs.length c2x] 41 (0, 0)) := by rw [hw3, hL]; exact blk_alloc_new _ _
  have B23 := Lib.hid (b2.trans (b3.mono b2.size))
  have B3 := Lib.hid (B1.out.trans (B23.out.mono B1.out.size))
  have HM3 := Lib.hid ((B23.out.block _ (Array.getElem?_eq_some_iff.1 HM1.out).1).trans HM1.out)
  have HL := Lib.hid (fun wx (hb : Below w3.heap.size w3 wx) => (hb.block _ (Array.getElem?_eq_some_iff.1 l3).1).trans l3)
  have RD := Lib.hid (hrd.later b3)
  have HW3 := Lib.hid (And.intro hw3 hL)
  clear CU b2 hcc hrd ho hw3 hL b3 l3 B23 HM1
  go_upto_region 3 with (fail)
  rw [← HW3.out.1, ← HW3.out.2]
  clear HW3
  have l0 := pcell1 (HL.out w3 (Below.refl _ _))
  have CQ : Hid (∀ (x : Int) (z : Nat), Calls Tryd.prog 70 #[.int .i64 x] (w3.drewN z) fun e w' => e = .returned (.bool (ascV x)) ∧ w' = w3.drewN z) := Lib.hid (fun x z => (ascii_calls x (w3.drewN z)).mono fun e w' h => ⟨h.1, h.2.symm⟩)
  cases is with
  | false =>
    have E := Lib.hid (show pairV ps s = none by rw [← HRR.out, HR.out]; exact if_neg (fun h => by cases h.1))
    refine Own.region_all (fun w' => ∃ n, w' = World.drewN w3 n) (by kernel_rfl) (by kernel_rfl) ⟨1, by first | rfl | simp | trace_state⟩ ?_
    repeat (go_big_quiet_step (with_reducible exact Calls.quiet_of_same (CQ.out _ _)))
    refine wpQuiet_nil ?_
    rintro _ ⟨nq, rfl⟩
    have HMn := Lib.hid (((belowN w3 nq).block _ (Array.getElem?_eq_some_iff.1 HM3.out).1).trans HM3.out)
    have Bn := Lib.hid (B3.out.trans ((belowN w3 nq).mono B3.out.size))
    obtain ⟨m0, mm1⟩ := pcell2 HMn.out
    have fz : ∀ j, (w3.drewN nq).frozen? ⟨M, j, none⟩ = false := fun j => by have := HM3.out; simp [World.frozen?, this]
    clear CQ
    go_wp2_with (fail)
    generalize hwf : ((w3.drewN nq).setCell ⟨M, 0, none⟩ (.int .i64 0)).setCell ⟨M, 1, none⟩ (.int .i64 0) = wf
    have HWF := pr_put 0 0 HMn.out hwf.symm Bn.out HM0.out
    clear hwf
    exact pr_ret HWF rfl ⟨rfl, rfl⟩ (fun h => by cases h) (fun _ => E.out)
  | true =>
    cases ok with
    | false =>
      have E := Lib.hid (show pairV ps s = none by rw [← HRR.out, HR.out]; exact if_neg (fun h => by cases h.2))
      refine Own.region_all (fun w' => ∃ n, w' = World.drewN w3 n) (by kernel_rfl) (by kernel_rfl) ⟨1, by first | rfl | simp | trace_state⟩ ?_
      repeat (go_big_quiet_step (with_reducible exact Calls.quiet_of_same (CQ.out _ _)))
      refine wpQuiet_nil ?_
      rintro _ ⟨nq, rfl⟩
      have HMn := Lib.hid (((belowN w3 nq).block _ (Array.getElem?_eq_some_iff.1 HM3.out).1).trans HM3.out)
      have Bn := Lib.hid (B3.out.trans ((belowN w3 nq).mono B3.out.size))
      obtain ⟨m0, mm1⟩ := pcell2 HMn.out
      have fz : ∀ j, (w3.drewN nq).frozen? ⟨M, j, none⟩ = false := fun j => by have := HM3.out; simp [World.frozen?, this]
      clear CQ
      go_wp2_with (fail)
      generalize hwf : ((w3.drewN nq).setCell ⟨M, 0, none⟩ (.int .i64 0)).setCell ⟨M, 1, none⟩ (.int .i64 0) = wf
      have HWF := pr_put 0 0 HMn.out hwf.symm Bn.out HM0.out
      clear hwf
      exact pr_ret HWF rfl ⟨rfl, rfl⟩ (fun h => by cases h) (fun _ => E.out)
    | true =>
      by_cases hlen : cs.length = 2
      · obtain ⟨a, b, hab2⟩ : ∃ a b, cs = [a, b] := by
          match cs, hlen with
          | [a, b], _ => exact ⟨a, b, rfl⟩
        subst hab2
        have HC2 := Lib.hid (HCS.out rfl)
        obtain ⟨qb, qo, hA2, hcx⟩ := RD.out (by simp)
        subst hA2
        have y0 := hcx w3 (since_of_below (Below.refl _ _)) 0 (by simp)
        have y1 := hcx w3 (since_of_below (Below.refl _ _)) 1 (by simp)
        rw [Nat.add_zero] at y0
        have z0 : ([a, b] : List Int).getD 0 0 = a := rfl
        have z1 : ([a, b] : List Int).getD 1 0 = b := rfl
        rw [z0] at y0
        rw [z1] at y1
        have e2 : ([a, b] : List Int).length = 2 := rfl
        rw [e2] at l0 ⊢
        clear hcx z0 z1 hlen e2
        have EN := Lib.hid (show (a = b ∨ ascV a = true ∨ ascV b = true ∨ ps.any (hitV [a, b]) = true) → pairV ps s = none from fun h => by rw [← HRR.out, HR.out, if_pos ⟨rfl, rfl⟩, ← HC2.out]; exact if_pos h)
        by_cases hab : a = b
        · have g2 : (a == b) = true := by simpa using hab
          have E := Lib.hid (EN.out (.inl hab))
          refine Own.region_all (fun w' => ∃ n, w' = World.drewN w3 n) (by kernel_rfl) (by kernel_rfl) ⟨1, by first | rfl | simp | trace_state⟩ ?_
          repeat (go_big_quiet_step (with_reducible exact Calls.quiet_of_same (CQ.out _ _)))
          refine wpQuiet_nil ?_
          rintro _ ⟨nq, rfl⟩
          have HMn := Lib.hid (((belowN w3 nq).block _ (Array.getElem?_eq_some_iff.1 HM3.out).1).trans HM3.out)
          have Bn := Lib.hid (B3.out.trans ((belowN w3 nq).mono B3.out.size))
          obtain ⟨m0, mm1⟩ := pcell2 HMn.out
          have fz : ∀ j, (w3.drewN nq).frozen? ⟨M, j, none⟩ = false := fun j => by have := HM3.out; simp [World.frozen?, this]
          clear CQ
          go_wp2_with (fail)
          generalize hwf : ((w3.drewN nq).setCell ⟨M, 0, none⟩ (.int .i64 0)).setCell ⟨M, 1, none⟩ (.int .i64 0) = wf
          have HWF := pr_put 0 0 HMn.out hwf.symm Bn.out HM0.out
          clear hwf
          exact pr_ret HWF rfl ⟨rfl, rfl⟩ (fun h => by cases h) (fun _ => E.out)
        have g2 : (a == b) = false := by simpa using hab
        obtain ⟨aa, haa⟩ : ∃ x, x = ascV a := ⟨_, rfl⟩
        obtain ⟨ab, hbb⟩ : ∃ x, x = ascV b := ⟨_, rfl⟩
        have CQ : Hid (∀ (x : Int) (z : Nat), Calls Tryd.prog 70 #[.int .i64 x] (w3.drewN z) fun e w' => e = .returned (.bool (if x = a then aa else if x = b then ab else ascV x)) ∧ w' = w3.drewN z) := Lib.hid (fun x z => (ascii_calls x (w3.drewN z)).mono fun e w' h => ⟨by
          rw [h.1]
          by_cases h1 : x = a
          · rw [if_pos h1, h1, haa]
          · rw [if_neg h1]
            by_cases h2 : x = b
            · rw [if_pos h2, h2, hbb]
            · rw [if_neg h2], h.2.symm⟩)
        have CA : Hid (∀ z, Calls Tryd.prog 70 #[.int .i64 a] (w3.drewN z) fun e w' => e = .returned (.bool aa) ∧ w' = w3.drewN z) := Lib.hid (fun z => by have := CQ.out a z; rw [if_pos rfl] at this; exact this)
        have CB : Hid (∀ z, Calls Tryd.prog 70 #[.int .i64 b] (w3.drewN z) fun e w' => e = .returned (.bool ab) ∧ w' = w3.drewN z) := Lib.hid (fun z => by have := CQ.out b z; rw [if_neg (fun e => hab e.symm), if_pos rfl] at this; exact this)
        clear CQ
        cases aa with
        | true =>
          have E := Lib.hid (EN.out (.inr (.inl haa.symm)))
          clear haa hbb hab
          refine Own.region_all (fun w' => ∃ n, w' = World.drewN w3 n) (by kernel_rfl) (by kernel_rfl) ⟨1, by first | rfl | simp | trace_state⟩ ?_
          repeat (go_big_quiet_step (with_reducible exact Calls.quiet_of_same (CA.out _)))
          refine wpQuiet_nil ?_
          rintro _ ⟨nq, rfl⟩
          have HMn := Lib.hid (((belowN w3 nq).block _ (Array.getElem?_eq_some_iff.1 HM3.out).1).trans HM3.out)
          have Bn := Lib.hid (B3.out.trans ((belowN w3 nq).mono B3.out.size))
          obtain ⟨m0, mm1⟩ := pcell2 HMn.out
          have fz : ∀ j, (w3.drewN nq).frozen? ⟨M, j, none⟩ = false := fun j => by have := HM3.out; simp [World.frozen?, this]
          clear CA CB
          go_wp2_with (fail)
          generalize hwf : ((w3.drewN nq).setCell ⟨M, 0, none⟩ (.int .i64 0)).setCell ⟨M, 1, none⟩ (.int .i64 0) = wf
          have HWF := pr_put 0 0 HMn.out hwf.symm Bn.out HM0.out
          clear hwf
          exact pr_ret HWF rfl ⟨rfl, rfl⟩ (fun h => by cases h) (fun _ => E.out)
        | false =>
          cases ab with
          | true =>
            have E := Lib.hid (EN.out (.inr (.inr (.inl hbb.symm))))
            clear haa hbb hab
            refine Own.region_all (fun w' => ∃ n, w' = World.drewN w3 n) (by kernel_rfl) (by kernel_rfl) ⟨1, by first | rfl | simp | trace_state⟩ ?_
            repeat (go_big_quiet_step (first | with_reducible exact Calls.quiet_of_same (CA.out _) | with_reducible exact Calls.quiet_of_same (CB.out _)))
            refine wpQuiet_nil ?_
            rintro _ ⟨nq, rfl⟩
            have HMn := Lib.hid (((belowN w3 nq).block _ (Array.getElem?_eq_some_iff.1 HM3.out).1).trans HM3.out)
            have Bn := Lib.hid (B3.out.trans ((belowN w3 nq).mono B3.out.size))
            obtain ⟨m0, mm1⟩ := pcell2 HMn.out
            have fz : ∀ j, (w3.drewN nq).frozen? ⟨M, j, none⟩ = false := fun j => by have := HM3.out; simp [World.frozen?, this]
            clear CA CB
            go_wp2_with (fail)
            generalize hwf : ((w3.drewN nq).setCell ⟨M, 0, none⟩ (.int .i64 0)).setCell ⟨M, 1, none⟩ (.int .i64 0) = wf
            have HWF := pr_put 0 0 HMn.out hwf.symm Bn.out HM0.out
            clear hwf
            exact pr_ret HWF rfl ⟨rfl, rfl⟩ (fun h => by cases h) (fun _ => E.out)
          | false =>
            have EY := Lib.hid (show ps.any (hitV [a, b]) = false → pairV ps s = some (a, b) from fun h => by
              rw [← HRR.out, HR.out, if_pos ⟨rfl, rfl⟩, ← HC2.out]
              exact if_neg (fun e => by rcases e with e | e | e | e; exact hab e; rw [← haa] at e; cases e; rw [← hbb] at e; cases e; rw [h] at e; cases e))
            clear haa hbb hab
            refine Own.region_all (fun w' => ∃ n, w' = World.drewN w3 n) (by kernel_rfl) (by kernel_rfl) ⟨1, by first | rfl | simp | trace_state⟩ ?_
            repeat (go_big_quiet_step (first | with_reducible exact Calls.quiet_of_same (CA.out _) | with_reducible exact Calls.quiet_of_same (CB.out _)))
            refine wpQuiet_nil ?_
            rintro _ ⟨nq, rfl⟩
            have Bq := Lib.hid (belowN w3 nq)
            have Bn := Lib.hid (B3.out.trans ((belowN w3 nq).mono B3.out.size))
            have HFn := Lib.hid ((Bn.out.block _ (Array.getElem?_eq_some_iff.1 HF.out).1).trans HF.out)
            have CKn := Lib.hid (CK.out L (some ⟨qb, qo, none⟩) c2x [a, b] _ Bn.out (HL.out _ Bq.out) (RD.out.later Bq.out) (by simp))
            unfold pairF at CKn
            obtain ⟨kn, hkn⟩ : ∃ kn, kn = ps.any (hitV [a, b]) := ⟨_, rfl⟩
            rw [← hkn] at CKn
            have HKN := Lib.hid hkn
            have f1 : (w3.drewN nq).cell? ⟨F, 1, none⟩ = some (.slice B ps.length cp) := by have := (B3.out.block _ (Array.getElem?_eq_some_iff.1 HF.out).1).trans HF.out; simp [World.cell?, this]
            clear CA CB l0 y0 y1 hkn CK
            go_wp2_with (fail)
            refine CKn.out.mono ?_
            rintro e w5 ⟨rfl, b5⟩
            have B5q := Lib.hid (Bq.out.trans (b5.mono Bq.out.size))
            have B5 := Lib.hid (B3.out.trans (B5q.out.mono B3.out.size))
            have HM5 := Lib.hid ((B5q.out.block _ (Array.getElem?_eq_some_iff.1 HM3.out).1).trans HM3.out)
            have l0 := pcell1 (HL.out w5 B5q.out)
            obtain ⟨qx, ox, eqx, hcx⟩ := (RD.out.later B5q.out) (by simp)
            injection eqx with eqx
            injection eqx with e1 e2 _
            subst e1 e2
            have y0 := hcx w5 (since_of_below (Below.refl _ _)) 0 (by simp)
            have y1 := hcx w5 (since_of_below (Below.refl _ _)) 1 (by simp)
            rw [Nat.add_zero] at y0
            have z0 : ([a, b] : List Int).getD 0 0 = a := rfl
            have z1 : ([a, b] : List Int).getD 1 0 = b := rfl
            rw [z0] at y0
            rw [z1] at y1
            clear CKn b5 hcx z0 z1 f1
            go_upto_region 6 with (fail)
            refine Own.region_mix (CR [0, 2, 3, 5] [(0, ⟨L, 0, none⟩, .slice (some ⟨qb, qo, none⟩) 2 c2x), (2, ⟨qb, qo, none⟩, .int .i64 a), (3, ⟨L, 0, none⟩, .slice (some ⟨qb, qo, none⟩) 2 c2x), (5, ⟨qb, qo + 1, none⟩, .int .i64 b)]) [0, 2, 3, 5] [0, 1, 3, 0, 8, 24, 63, 0, 128, 127, 1023] (Own.Ord.run [(0, true), (1, true), (2, true), (3, true), (4, true), (5, true), (7, true), (8, true), (6, false), (9, false), (10, true)] .done) (by kernel_rfl) (by kernel_rfl) (fun dst v c a w h => by cases dst <;> exact h) (fun x hx w => CR.off x hx w) ?_
            simp only [Own.Ord.run]
            refine Own.st_load _ rfl rfl (.slice (some ⟨qb, qo, none⟩) 2 c2x) (fun w' hw' => ?_) ?_ ?_
            · have hg0 := hw'.get (a := ⟨L, 0, none⟩) (v := .slice (some ⟨qb, qo, none⟩) 2 c2x) (by decide) (by simp)
              go_simp
            · intro _ q hq e; simp only [List.mem_cons, List.mem_nil_iff, or_false] at hq; rcases hq with rfl | rfl | rfl | rfl <;> first | assumption | (simp at e; done) | (go_simp; done) | (simp; done)
            simp only [Act.put, List.setIfInBounds_toArray, List.set_cons_succ, List.set_cons_zero]
            repeat (refine Own.st_blind _ rfl rfl (CR.off _ (by decide) _) ?_; go_big_quiet_step (fail); refine wpQuiet_nil ?_)
            refine Own.st_load _ rfl rfl (.int .i64 a) (fun w' hw' => ?_) ?_ ?_
            · have hg0 := hw'.get (a := ⟨qb, qo, none⟩) (v := .int .i64 a) (by decide) (by simp)
              go_simp
            · intro _ q hq e; simp only [List.mem_cons, List.mem_nil_iff, or_false] at hq; rcases hq with rfl | rfl | rfl | rfl <;> first | assumption | (simp at e; done) | (go_simp; done) | (simp; done)
            simp only [Act.put, List.setIfInBounds_toArray, List.set_cons_succ, List.set_cons_zero]
            refine Own.st_load _ rfl rfl (.slice (some ⟨qb, qo, none⟩) 2 c2x) (fun w' hw' => ?_) ?_ ?_
            · have hg0 := hw'.get (a := ⟨L, 0, none⟩) (v := .slice (some ⟨qb, qo, none⟩) 2 c2x) (by decide) (by simp)
              go_simp
            · intro _ q hq e; simp only [List.mem_cons, List.mem_nil_iff, or_false] at hq; rcases hq with rfl | rfl | rfl | rfl <;> first | assumption | (simp at e; done) | (go_simp; done) | (simp; done)
            simp only [Act.put, List.setIfInBounds_toArray, List.set_cons_succ, List.set_cons_zero]
            repeat (refine Own.st_blind _ rfl rfl (CR.off _ (by decide) _) ?_; go_big_quiet_step (fail); refine wpQuiet_nil ?_)
            refine Own.st_load _ rfl rfl (.int .i64 b) (fun w' hw' => ?_) ?_ ?_
            · have hg0 := hw'.get (a := ⟨qb, qo + 1, none⟩) (v := .int .i64 b) (by decide) (by simp)
              go_simp
            · intro _ q hq e; simp only [List.mem_cons, List.mem_nil_iff, or_false] at hq; rcases hq with rfl | rfl | rfl | rfl <;> first | assumption | (simp at e; done) | (go_simp; done) | (simp; done)
            simp only [Act.put, List.setIfInBounds_toArray, List.set_cons_succ, List.set_cons_zero]
            repeat (refine Own.st_blind _ rfl rfl (CR.off _ (by decide) _) ?_; go_big_quiet_step (fail); refine wpQuiet_nil ?_)
            refine Own.st_do _ rfl rfl (fun K hK => ?_)
            go_simp
            obtain ⟨u5, hu5⟩ : ∃ u, u = w5.drew := ⟨_, rfl⟩
            have hm6 : u5.heap[M]? = some (.cells #[.int .i64 0, .int .i64 0] 92 (0, 0)) := by rw [hu5]; exact HM5.out
            have b6 : Below w.heap.size w u5 := by rw [hu5]; exact B5.out.drew
            rw [← hu5]
            clear hu5
            refine hK _ _ (fun q hq hd => by rw [(by decide : ∀ x ∈ [0, 2, 3, 5], Own.dep [0, 1, 3, 0, 8, 24, 63, 0, 128, 127, 1023] 6 x = true) q hq] at hd; cases hd) ?_
            clear hK K
            refine Own.st_do _ rfl rfl (fun K hK => ?_)
            obtain ⟨m0, mm1⟩ := pcell2 hm6
            have fz : ∀ j, u5.frozen? ⟨M, j, none⟩ = false := fun j => by simp [World.frozen?, hm6]
            go_simp
            generalize hwf : (u5.setCell ⟨M, 0, none⟩ (.int .i64 a)).setCell ⟨M, 1, none⟩ (.int .i64 b) = wf
            have HWF := Lib.hid (pr_put a b hm6 hwf.symm b6 HM0.out)
            clear hwf
            refine hK _ _ (fun q hq hd => by rw [(by decide : ∀ x ∈ [0, 2, 3, 5], Own.dep [0, 1, 3, 0, 8, 24, 63, 0, 128, 127, 1023] 9 x = true) q hq] at hd; cases hd) ?_
            clear hK K
            repeat (refine Own.st_blind _ rfl rfl (CR.off _ (by decide) _) ?_; go_big_quiet_step (fail); refine wpQuiet_nil ?_)
            refine Own.mix_done ?_
            go_wp2_with (fail)
            cases kn with
            | true => first | exact pr_ret (ok := false) HWF.out rfl ⟨rfl, rfl⟩ (fun h => by cases h) (fun _ => EN.out (.inr (.inr (.inr HKN.out.symm)))) | exact pr_ret (ok := false) HWF.out.drew rfl ⟨rfl, rfl⟩ (fun h => by cases h) (fun _ => EN.out (.inr (.inr (.inr HKN.out.symm))))
            | false => first | exact pr_ret (ok := true) HWF.out rfl ⟨rfl, rfl⟩ (fun _ => EY.out HKN.out.symm) (fun h => by cases h) | exact pr_ret (ok := true) HWF.out.drew rfl ⟨rfl, rfl⟩ (fun _ => EY.out HKN.out.symm) (fun h => by cases h)
      · have g1 : ((cs.length : Int) == 2) = false := by simp; omega
        have g1' : ((cs.length : Int) != 2) = true := by simp; omega
        have E := Lib.hid (show pairV ps s = none by rw [← HRR.out, HR.out, if_pos ⟨rfl, rfl⟩, ← HCS.out rfl]; exact codesV_len hlen)
        clear hlen
        refine Own.region_all (fun w' => ∃ n, w' = World.drewN w3 n) (by kernel_rfl) (by kernel_rfl) ⟨1, by first | rfl | simp | trace_state⟩ ?_
        repeat (go_big_quiet_step (with_reducible exact Calls.quiet_of_same (CQ.out _ _)))
        refine wpQuiet_nil ?_
        rintro _ ⟨nq, rfl⟩
        have HMn := Lib.hid (((belowN w3 nq).block _ (Array.getElem?_eq_some_iff.1 HM3.out).1).trans HM3.out)
        have Bn := Lib.hid (B3.out.trans ((belowN w3 nq).mono B3.out.size))
        obtain ⟨m0, mm1⟩ := pcell2 HMn.out
        have fz : ∀ j, (w3.drewN nq).frozen? ⟨M, j, none⟩ = false := fun j => by have := HM3.out; simp [World.frozen?, this]
        clear CQ
        go_wp2_with (fail)
        generalize hwf : ((w3.drewN nq).setCell ⟨M, 0, none⟩ (.int .i64 0)).setCell ⟨M, 1, none⟩ (.int .i64 0) = wf
        have HWF := pr_put 0 0 HMn.out hwf.symm Bn.out HM0.out
        clear hwf
        exact pr_ret HWF rfl ⟨rfl, rfl⟩ (fun h => by cases h) (fun _ => E.out)
end Go.Proofs.YtmcnnfpeicnnjaaDoor

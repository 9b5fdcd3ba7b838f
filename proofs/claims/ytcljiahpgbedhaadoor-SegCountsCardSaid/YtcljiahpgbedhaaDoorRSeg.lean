/- The reference's tokens. -/
import Derived.Test.YtcljiahpgbedhaaDoorSegB
namespace Go.Proofs.YtcljiahpgbedhaaDoor
open Go.RowKit Go.Deep Go.Own
set_option linter.unusedVariables false
def clsL (rs : List Rng) (us : List (Nat × Nat × Int)) : List Int := us.map fun u => clsOf rs u.2.2
def prevC (rs : List Rng) (was : Int) (us : List (Nat × Nat × Int)) : Nat → Int
  | 0 => was
  | k + 1 => match us[k]? with | some u => clsOf rs u.2.2 | none => 0
theorem kinds_at (rs : List Rng) : ∀ (us : List (Nat × Nat × Int)) (was : Int) (j a n : Nat) (c : Int), us[j]? = some (a, n, c) →
    (kindsFrom rs was us)[j]? = some ⟨a, n, c, clsOf rs c, solidB (prevC rs was us j) (clsOf rs c) (nextC rs (us.drop (j + 1)))⟩
  | [], was, j, a, n, c, h => by simp at h
  | u :: t, was, 0, a, n, c, h => by
    obtain rfl : u = (a, n, c) := by simpa using h
    rfl
  | u :: t, was, j + 1, a, n, c, h => by
    have ih := kinds_at rs t (clsOf rs u.2.2) j a n c (by simpa using h)
    unfold kindsFrom
    rw [List.getElem?_cons_succ, ih]
    have e : prevC rs (clsOf rs u.2.2) t j = prevC rs was (u :: t) (j + 1) := by
      cases j with
      | zero => rfl
      | succ k => simp [prevC]
    rw [e]; rfl
set_option maxRecDepth 100000 in
set_option maxHeartbeats 8000000 in
theorem rseg_calls (rs : List Rng) (s : ByteArray) (A : Option Addr) (cp : Nat) (w : World) (hA : ReadsR w A rs) (hl : rs.length ≤ 9223372036854775807) (hs : s.size ≤ 1099511627776) :
    Calls Tryd.prog 28 #[.slice A rs.length cp, .string s] w fun e w' => ∃ v, e = .returned v ∧ RowT w' w.heap.size v (toksOf rs s) ∧ Below w.heap.size w w' := by
  obtain ⟨iI, hiI, hzI, hsI, hbI⟩ := info_parts infoI
  obtain ⟨iT, hiT, hzT, hsT, hbT⟩ := info_parts infoT
  have CA := Lib.hid (rall_calls s w hs)
  have hul : (units s).length ≤ s.size := unitsFrom_len s s.size 0
  have hto : toksOf rs s = (toksSt (kindsFrom rs 0 (units s))).2 := rfl
  obtain ⟨us, hus⟩ : ∃ us, us = units s := ⟨_, rfl⟩
  have hfit : ∀ u ∈ us, u.1 + u.2.1 ≤ 1099511627776 := fun u hu => by
    rw [hus] at hu
    have := unitsFrom_fit s s.size 0 u hu
    omega
  rw [← hus] at CA hul hto
  have HFIT := Lib.hid hfit
  clear hfit
  obtain ⟨T, hT⟩ : ∃ T, toksOf rs s = T := ⟨_, rfl⟩
  rw [hT] at hto ⊢
  have HTO := Lib.hid hto
  have HA := Lib.hid hA
  clear hus hT hto hA
  go_enter Tryd.func28, Tryd.ntmps28
  go_wp2_with (fail)
  refine CA.out.mono ?_
  rintro e w1 ⟨v, rfl, r1, b1⟩
  obtain ⟨A1, c1, rfl⟩ := own_is r1
  have R1 := Lib.hid r1
  have B1 := Lib.hid b1
  clear r1 b1 CA
  go_wp2_with (fail)
  go_loopw [7, 8] (fun kv iv wr => ∃ i : Nat, iv = .int .i64 (i : Nat) ∧ i ≤ us.length ∧ OwnI wr w.heap.size 3 kv (clsL rs (us.take i)) ∧ RowU wr w.heap.size (.slice A1 us.length c1) us ∧ Below w.heap.size w wr) (fun _ iv _ => us.length - (intOf iv).toNat)
  case atStart => exact ⟨0, rfl, Nat.zero_le _, OwnI.nil _ _ _, R1.out, B1.out⟩
  case round =>
    obtain ⟨i, rfl, hi, hK, hU, hbw⟩ := hrel
    clear R1 B1
    obtain ⟨A2, c2, rfl⟩ := own_is hK
    have htl : (clsL rs (us.take i)).length = i := by unfold clsL; rw [List.length_map, List.length_take]; omega
    obtain ⟨acc, hacc⟩ : ∃ acc, acc = clsL rs (us.take i) := ⟨_, rfl⟩
    rw [← hacc] at hK htl
    rw [← hacc]
    have HTL := Lib.hid htl
    clear htl
    by_cases hlt : i < us.length
    · have g1 : decide (i < us.length) = true := by simpa using hlt
      obtain ⟨⟨a, n, c⟩, hu⟩ : ∃ u, us[i]? = some u := ⟨_, List.getElem?_eq_getElem hlt⟩
      have htk : clsL rs (us.take (i + 1)) = acc ++ [clsOf rs c] := by
        obtain ⟨_, hx⟩ := List.getElem?_eq_some_iff.1 hu
        rw [List.take_succ_eq_append_getElem hlt, hx, hacc]; simp [clsL]
      obtain ⟨q, rfl, hq, d0, d1, d2⟩ := (hU.reads).2.at hu
      have CO := Lib.hid (rof_calls rs c A cp wr (HA.out.below hbw) hl)
      obtain ⟨cl, hcl⟩ : ∃ cl, clsOf rs c = cl := ⟨_, rfl⟩
      rw [hcl] at CO htk
      have HTK := Lib.hid htk
      have HK := Lib.hid hK
      have HU := Lib.hid hU
      have HB := Lib.hid hbw
      clear hK hU hbw hacc htk hu hcl
      go_wp2_with (fail)
      refine CO.out.mono ?_
      rintro e w3 ⟨rfl, b3⟩
      obtain ⟨o, ho⟩ : ∃ o, o = Obj.cells #[Value.int .i64 cl] 3 := ⟨_, rfl⟩
      have b4 : Below wr.heap.size wr (w3.alloc o) := b3.alloc b3.size _
      have K4 := Lib.hid (HK.out.later b4)
      have U4 := Lib.hid (HU.out.below b4)
      have hS4 : Hid (Src Tryd.prog 1 27 (.slice (some ⟨w3.heap.size, 0, none⟩) 1 1) 1 [.int .i64 cl] (w3.alloc o)) := Lib.hid (src_one Tryd.underlying27 rfl (by rw [ho]; exact cell_new1 _ _ _))
      have HB4 := Lib.hid (HB.out.trans (b4.mono HB.out.size))
      clear b3 b4 HK HU CO
      subst ho
      go_wp2_with (at_builtin; refine own_append (o := ⟨some 30, _, _, _, _, _⟩) rfl (.tmp 21) (.tmp 29) 27 27 rfl w.heap.size 3 iI _ 1 8 Tryd.underlying27 hiI hzI hsI hbI rfl (by decide) (.slice A2 acc.length c2) acc.length _ rfl K4.out (.slice (some ⟨w3.heap.size, 0, none⟩) 1 1) rfl 1 _ hS4.out (by have := HTL.out; unfold maxLen; omega) (by have := HTL.out; omega) HB4.out.size ?_; intro v5 w5 O5 G5 V5)
      go_roundw
      case rel =>
        have h5 := ownI_push O5
        refine ⟨i + 1, by go_num, hlt, by rw [HTK.out]; exact h5, own_keep U4.out fun k hk => G5.block k (own_block_lt U4.out hk).2 (fun e => ?_), HB4.out.grown G5 HB4.out.size (fun q hq => (own_block_lt K4.out hq).1)⟩
        obtain ⟨c1, h1⟩ := own_row_type U4.out hk
        obtain ⟨c2, h2⟩ := own_row_type K4.out e.symm
        exact absurd rfl (ne_of_type h1 h2 (by decide))
      case measure => simp [intOf]; omega
    · have g1 : decide (i < us.length) = false := by simpa using hlt
      have hil : us.take i = us := List.take_of_length_le (by omega)
      have hkl : acc.length = us.length := by have := HTL.out; omega
      rw [hil] at hacc
      rw [hkl] at hK ⊢
      subst hacc
      have HK := Lib.hid hK
      have HU := Lib.hid hU
      have HB := Lib.hid hbw
      have HKL := Lib.hid hkl
      clear hK hU hbw hil hkl HTL
      go_wp2_with (fail)
      go_loopw [6, 9, 10] (fun mv ov iv wz => ∃ j : Nat, iv = .int .i64 (j : Nat) ∧ ov = .bool (toksSt ((kindsFrom rs 0 us).take j)).1 ∧ j ≤ us.length ∧ RowT wz w.heap.size mv (toksSt ((kindsFrom rs 0 us).take j)).2 ∧ OwnI wz w.heap.size 3 (.slice A2 us.length c2) (clsL rs us) ∧ RowU wz w.heap.size (.slice A1 us.length c1) us ∧ Below w.heap.size w wz) (fun _ _ iv _ => us.length - (intOf iv).toNat)
      case atStart => exact ⟨0, rfl, rfl, Nat.zero_le _, RowT.nil _ _, HK.out, HU.out, HB.out⟩
      case round =>
        obtain ⟨j, rfl, rfl, hj, hT, hK, hU, hbw⟩ := hrel
        clear HK HU HB
        by_cases hjl : j < us.length
        · have g2 : decide (j < us.length) = true := by simpa using hjl
          obtain ⟨⟨a, n, c⟩, hu⟩ : ∃ u, us[j]? = some u := ⟨_, List.getElem?_eq_getElem hjl⟩
          have hk := kinds_at rs us 0 j a n c hu
          have hks : toksSt ((kindsFrom rs 0 us).take (j + 1)) = tokStep (toksSt ((kindsFrom rs 0 us).take j)) ⟨a, n, c, clsOf rs c, solidB (prevC rs 0 us j) (clsOf rs c) (nextC rs (us.drop (j + 1)))⟩ := by
            have hlk := (List.getElem?_eq_some_iff.1 hk).1
            rw [List.take_succ_eq_append_getElem hlk, (List.getElem?_eq_some_iff.1 hk).2, toksSt_snoc]
          have hop := toks_open ((kindsFrom rs 0 us).take j)
          have htl : (toksSt ((kindsFrom rs 0 us).take j)).2.length ≤ j := by
            have := toks_len ((kindsFrom rs 0 us).take j) (false, [])
            have h2 : ((kindsFrom rs 0 us).take j).length ≤ j := by rw [List.length_take]; omega
            unfold toksSt
            simp only [List.length_nil, Nat.zero_add] at this
            omega
          obtain ⟨st, hst⟩ : ∃ st, st = toksSt ((kindsFrom rs 0 us).take j) := ⟨_, rfl⟩
          rw [← hst] at hks hop hT htl
          rw [← hst]
          obtain ⟨op, ts⟩ := st
          simp only at hop hT htl ⊢
          obtain ⟨A3, c3, rfl⟩ := own_is hT
          obtain ⟨qk, ok, rfl, hkc⟩ := (own_reads hK).2 (by unfold clsL; rw [List.length_map]; omega)
          have hkc' : ∀ i, i < us.length → wr.cell? ⟨qk, ok + i, none⟩ = some (.int .i64 ((clsL rs us).getD i 0)) := fun i hi => hkc wr (World.Since.refl _ _) i (by unfold clsL; rw [List.length_map]; exact hi)
          have kj : wr.cell? ⟨qk, ok + j, none⟩ = some (.int .i64 (clsOf rs c)) := by
            rw [hkc' j hjl]
            simp [clsL, List.getD_eq_getElem?_getD, hu]
          obtain ⟨cl, hcl⟩ : ∃ cl, clsOf rs c = cl := ⟨_, rfl⟩
          obtain ⟨sol, hsol⟩ : ∃ sol, solidB (prevC rs 0 us j) (clsOf rs c) (nextC rs (us.drop (j + 1))) = sol := ⟨_, rfl⟩
          obtain ⟨pv, hpv⟩ : ∃ pv, prevC rs 0 us j = pv := ⟨_, rfl⟩
          obtain ⟨nx, hnx⟩ : ∃ nx, nextC rs (us.drop (j + 1)) = nx := ⟨_, rfl⟩
          rw [hsol] at hks
          rw [hpv, hnx, hcl] at hsol
          rw [hcl] at hks kj
          have HKS := Lib.hid hks
          have HOP := Lib.hid hop
          have HT := Lib.hid hT
          have HK := Lib.hid hK
          have HU := Lib.hid hU
          have HB := Lib.hid hbw
          have HKC := Lib.hid hkc'
          have HPV := Lib.hid hpv
          have HNX := Lib.hid hnx
          have HSOL := Lib.hid hsol
          have HU0 := Lib.hid hu
          clear hks hop hT hK hU hbw hkc hkc' hpv hnx hsol hst hk hcl hu
          go_upto_region 12 with (fail)
          go_cut [11] (fun v wx => v = .bool sol ∧ wx = wr)
          case first =>
            have s0 : strongB 0 = false := rfl
            cases s1 : strongB cl with
            | true =>
              have e := HSOL.out
              unfold solidB at e
              rw [s1, Bool.true_or] at e
              subst e
              go_wp2_with (go_at_call 38; refine (firm_calls _ _).mono ?_; rintro e w' ⟨rfl, rfl⟩)
              go_meet
              exact ⟨rfl, rfl⟩
            | false =>
              by_cases h3 : cl = 3
              · have k3 : (cl == 3) = true := by simpa using h3
                rcases j with _ | k
                · have hp0 : pv = 0 := by rw [← HPV.out]; rfl
                  rw [Nat.add_zero] at kj
                  have e := HSOL.out
                  unfold solidB at e
                  rw [s1, hp0, s0, Bool.false_and, Bool.and_false, Bool.or_false] at e
                  subst e
                  go_wp2_with (go_at_call 38; refine (firm_calls _ _).mono ?_; rintro e w' ⟨rfl, rfl⟩)
                  go_meet
                  exact ⟨rfl, rfl⟩
                · by_cases h4 : k + 1 + 1 < us.length
                  · have g4 : decide (k + 1 + 1 < us.length) = true := by simpa using h4
                    have g5 : decide ((k : Int) + 1 + 1 < (us.length : Int)) = true := by simp; omega
                    have kp : wr.cell? ⟨qk, ok + k, none⟩ = some (.int .i64 pv) := by
                      rw [HKC.out k (by omega), ← HPV.out]
                      obtain ⟨u, hu⟩ : ∃ u, us[k]? = some u := ⟨_, List.getElem?_eq_getElem (by omega)⟩
                      simp [clsL, List.getD_eq_getElem?_getD, prevC, hu]
                    have kn : wr.cell? ⟨qk, ok + (k + 1 + 1), none⟩ = some (.int .i64 nx) := by
                      rw [HKC.out (k + 1 + 1) h4, ← HNX.out]
                      obtain ⟨u, hu⟩ : ∃ u, us[k + 1 + 1]? = some u := ⟨_, List.getElem?_eq_getElem h4⟩
                      rw [List.drop_eq_getElem_cons h4]
                      simp [clsL, List.getD_eq_getElem?_getD, nextC, (List.getElem?_eq_some_iff.1 hu).2, hu]
                    have kn2 : wr.cell? ⟨qk, ok + (k + 2), none⟩ = some (.int .i64 nx) := kn
                    cases s2 : strongB pv with
                    | false =>
                      have e := HSOL.out
                      unfold solidB at e
                      rw [s1, s2, Bool.false_and, Bool.and_false, Bool.or_false] at e
                      subst e
                      go_wp2_with (go_at_call 38; refine (firm_calls _ _).mono ?_; rintro e w' ⟨rfl, rfl⟩)
                      go_meet
                      exact ⟨rfl, rfl⟩
                    | true =>
                      cases s3 : strongB nx with
                      | false =>
                        have e := HSOL.out
                        unfold solidB at e
                        rw [s1, s2, s3, Bool.true_and, Bool.and_false, Bool.or_false] at e
                        subst e
                        go_wp2_with (go_at_call 38; refine (firm_calls _ _).mono ?_; rintro e w' ⟨rfl, rfl⟩)
                        go_meet
                        exact ⟨rfl, rfl⟩
                      | true =>
                        have e := HSOL.out
                        unfold solidB at e
                        rw [s1, s2, s3, k3] at e; simp only [Bool.true_and, Bool.false_or] at e
                        subst e
                        go_wp2_with (go_at_call 38; refine (firm_calls _ _).mono ?_; rintro e w' ⟨rfl, rfl⟩)
                        go_meet
                        exact ⟨rfl, rfl⟩
                  · have g4 : decide (k + 1 + 1 < us.length) = false := by simpa using h4
                    have g5 : decide ((k : Int) + 1 + 1 < (us.length : Int)) = false := by simp; omega
                    have hn0 : nx = 0 := by rw [← HNX.out, List.drop_eq_nil_of_le (by omega)]; rfl
                    have e := HSOL.out
                    unfold solidB at e
                    rw [s1, hn0, s0, Bool.and_false, Bool.and_false, Bool.or_false] at e
                    subst e
                    go_wp2_with (go_at_call 38; refine (firm_calls _ _).mono ?_; rintro e w' ⟨rfl, rfl⟩)
                    go_meet
                    exact ⟨rfl, rfl⟩
              · have k3 : (cl == 3) = false := by simpa using h3
                have e := HSOL.out
                unfold solidB at e
                rw [s1, k3, Bool.false_and, Bool.or_false] at e
                subst e
                go_wp2_with (go_at_call 38; refine (firm_calls _ _).mono ?_; rintro e w' ⟨rfl, rfl⟩)
                go_meet
                exact ⟨rfl, rfl⟩
          case rest =>
            obtain ⟨rfl, rfl⟩ := hcut
            cases sol with
            | false =>
              have e : tokStep (op, ts) ⟨a, n, c, cl, false⟩ = (false, ts) := rfl
              have HKS2 := Lib.hid (HKS.out.trans e)
              go_wp2_with (fail)
              go_roundw
              case rel => exact ⟨j + 1, by go_num, by rw [HKS2.out], hjl, by rw [HKS2.out]; exact HT.out, HK.out, HU.out, HB.out⟩
              case measure => simp [intOf]; omega
            | true =>
              obtain ⟨q, rfl, hq, d0, d1, d2⟩ := (HU.out.reads).2.at HU0.out
              obtain ⟨ts2, hts2⟩ : ∃ ts2, ts2 = (if op = true then ts else ts ++ [⟨a, a, true⟩]) := ⟨_, rfl⟩
              have hlen2 : ts2.length ≤ j + 1 := by
                rw [hts2]
                split
                · omega
                · simp; omega
              have hne2 : ts2 ≠ [] := by
                rw [hts2]
                split
                · rename_i h; exact HOP.out h
                · simp
              have HTS2 := Lib.hid hts2
              have HKS2 : Hid (toksSt ((kindsFrom rs 0 us).take (j + 1)) = (true, upLast (upTok ⟨a, n, c, cl, true⟩) ts2)) := Lib.hid (by rw [HKS.out, hts2]; rfl)
              have HLEN := Lib.hid hlen2
              clear hts2 hlen2
              go_upto_if 79 with (fail)
              go_cut [6, 9] (fun mv ov wx => ov = .bool true ∧ RowT wx w.heap.size mv ts2 ∧ OwnI wx w.heap.size 3 (.slice (some ⟨qk, ok, none⟩) us.length c2) (clsL rs us) ∧ RowU wx w.heap.size (.slice (some ⟨q, 0, none⟩) us.length c1) us ∧ Below w.heap.size w wx)
              case first =>
                cases op with
                | true =>
                  have e := HTS2.out
                  rw [if_pos rfl] at e
                  subst e
                  go_wp2_with (fail)
                  go_meet
                  exact ⟨rfl, HT.out, HK.out, HU.out, HB.out⟩
                | false =>
                  have e := HTS2.out
                  rw [if_neg (by decide)] at e
                  subst e
                  go_upto_region 16 with (fail)
                  refine Own.region_mix (CR [5, 10] [(5, ⟨q, j * 3, none⟩, .int .i64 (a : Nat)), (10, ⟨q, j * 3, none⟩, .int .i64 (a : Nat))]) [5, 10] [0, 0, 0, 6, 14, 30, 0, 0, 192, 448, 960, 2046, 4094, 8191, 16383] (Own.Ord.run [(0, true), (1, true), (2, true), (3, true), (4, true), (5, true), (6, true), (7, true), (8, true), (9, true), (10, true), (11, false), (12, false), (13, false), (14, true)] .done) (by kernel_rfl) (by kernel_rfl) (fun dst v c a w h => by cases dst <;> exact h) (fun x hx w => CR.off x hx w) ?_
                  simp only [Own.Ord.run]
                  repeat (refine Own.st_blind _ rfl rfl (CR.off _ (by decide) _) ?_; go_big_quiet_step (fail); refine wpQuiet_nil ?_)
                  refine Own.st_load _ rfl rfl (.int .i64 (a : Nat)) (fun w' hw' => ?_) ?_ ?_
                  · have hg0 := hw'.get (a := ⟨q, j * 3, none⟩) (v := .int .i64 (a : Nat)) (by decide) (by simp)
                    go_simp
                  · intro _ q hq e; simp only [List.mem_cons, List.mem_nil_iff, or_false] at hq; rcases hq with rfl | rfl <;> first | assumption | (simp at e; done) | (go_simp; done) | (simp; done)
                  simp only [Act.put, List.setIfInBounds_toArray, List.set_cons_succ, List.set_cons_zero]
                  repeat (refine Own.st_blind _ rfl rfl (CR.off _ (by decide) _) ?_; go_big_quiet_step (fail); refine wpQuiet_nil ?_)
                  refine Own.st_load _ rfl rfl (.int .i64 (a : Nat)) (fun w' hw' => ?_) ?_ ?_
                  · have hg0 := hw'.get (a := ⟨q, j * 3, none⟩) (v := .int .i64 (a : Nat)) (by decide) (by simp)
                    go_simp
                  · intro _ q hq e; simp only [List.mem_cons, List.mem_nil_iff, or_false] at hq; rcases hq with rfl | rfl <;> first | assumption | (simp at e; done) | (go_simp; done) | (simp; done)
                  simp only [Act.put, List.setIfInBounds_toArray, List.set_cons_succ, List.set_cons_zero]
                  refine Own.st_do _ rfl rfl (fun K hK => ?_)
                  go_simp
                  refine hK _ _ (fun q hq hd => by rw [(by decide : ∀ x ∈ [5, 10], Own.dep [0, 0, 0, 6, 14, 30, 0, 0, 192, 448, 960, 2046, 4094, 8191, 16383] 11 x = true) q hq] at hd; cases hd) ?_
                  clear hK K
                  refine Own.st_do _ rfl rfl (fun K hK => ?_)
                  go_simp
                  obtain ⟨o, ho⟩ : ∃ o, o = Obj.cells #[Value.int .i64 (a : Nat), .int .i64 (a : Nat), .bool true] 48 := ⟨_, rfl⟩
                  obtain ⟨w4, hw4⟩ : ∃ w4, w4 = World.drew (wc.alloc o) := ⟨_, rfl⟩
                  have b4 : Below wc.heap.size wc w4 := by rw [hw4]; exact ((Below.refl _ _).alloc (Nat.le_refl _) _).drew
                  have T4 := Lib.hid (HT.out.below b4)
                  have K4 := Lib.hid (HK.out.later b4)
                  have U4 := Lib.hid (HU.out.below b4)
                  have HB4 := Lib.hid (HB.out.trans (b4.mono HB.out.size))
                  have n4 : w4.heap[wc.heap.size]? = some o := by rw [hw4]; exact blk_new wc o
                  have N4 := Lib.hid n4
                  subst ho
                  rw [← hw4]
                  clear b4 d0 d1 d2 n4 hw4
                  refine hK _ _ (fun q hq hd => by rw [(by decide : ∀ x ∈ [5, 10], Own.dep [0, 0, 0, 6, 14, 30, 0, 0, 192, 448, 960, 2046, 4094, 8191, 16383] 12 x = true) q hq] at hd; cases hd) ?_
                  clear hK K
                  refine Own.st_do _ rfl rfl (fun K hK => ?_)
                  refine own_append_wp (.tmp 80) (.tmp 92) 42 42 rfl w.heap.size 48 iT _ 3 24 Tryd.underlying42 hiT hzT hsT hbT rfl (by decide) (.slice A3 ts.length c3) ts.length _ rfl T4.out (.slice (some ⟨wc.heap.size, 0, none⟩) 1 1) rfl 1 _ (src_tok N4.out) (by unfold maxLen; omega) (by omega) HB4.out.size ?_
                  intro v5 w5 O5 G5 V5
                  obtain ⟨A5, c5, rfl⟩ := own_is O5
                  simp only [Act.put, List.setIfInBounds_toArray, List.set_cons_succ, List.set_cons_zero]
                  refine hK _ _ (fun q hq hd => by rw [(by decide : ∀ x ∈ [5, 10], Own.dep [0, 0, 0, 6, 14, 30, 0, 0, 192, 448, 960, 2046, 4094, 8191, 16383] 13 x = true) q hq] at hd; cases hd) ?_
                  clear hK K
                  repeat (refine Own.st_blind _ rfl rfl (CR.off _ (by decide) _) ?_; go_big_quiet_step (fail); refine wpQuiet_nil ?_)
                  refine Own.mix_done ?_
                  go_wp2_with (fail)
                  go_meet
                  have ne : ∀ k, (∃ c1 t1, w4.heap[k]? = some (.cells c1 t1 (0, 0)) ∧ t1 ≠ 48) → some k ≠ (Value.slice A3 ts.length c3).ownBlock := fun k hk e => by
                    obtain ⟨c1, t1, h1, h2⟩ := hk
                    obtain ⟨c2, h3⟩ := own_row_type T4.out e.symm
                    exact absurd rfl (ne_of_type h1 h3 h2)
                  refine ⟨rfl, RowT.push O5, own_keep K4.out fun k hk => ?_, own_keep U4.out fun k hk => ?_, HB4.out.grown G5 HB4.out.size (fun q hq => (own_block_lt T4.out hq).1)⟩
                  · obtain ⟨c1, h1⟩ := own_row_type K4.out hk
                    exact G5.block k (own_block_lt K4.out hk).2 (ne k ⟨c1, _, h1, by decide⟩)
                  · obtain ⟨c1, h1⟩ := own_row_type U4.out hk
                    exact G5.block k (own_block_lt U4.out hk).2 (ne k ⟨c1, _, h1, by decide⟩)
              case rest =>
                obtain ⟨rfl, hT2, hK2, hU2, hB2⟩ := hcut
                obtain ⟨pre, ⟨f, t, wd⟩, ht⟩ : ∃ pre t, ts2 = pre ++ [t] := ⟨_, _, (List.dropLast_concat_getLast hne2).symm⟩
                subst ht
                have hks3 := HKS2.out
                rw [upLast_snoc] at hks3
                obtain ⟨qt, ct, rfl, hqt, hql, t0, t1, t2, tf⟩ := hT2.last
                obtain ⟨q', hqq, hq', d0, d1, d2⟩ := (hU2.reads).2.at HU0.out
                obtain rfl : q = q' := by simpa using hqq
                obtain ⟨qk', ok', hqk, hkc2⟩ := (own_reads hK2).2 (by unfold clsL; rw [List.length_map]; omega)
                obtain ⟨rfl, rfl⟩ : qk = qk' ∧ ok = ok' := by simpa using hqk
                have kj2 : ∀ w', wc.Since wc.heap.size w' → w'.cell? ⟨qk, ok + j, none⟩ = some (.int .i64 cl) := fun w' hs => by
                  rw [hkc2 w' hs j (by unfold clsL; rw [List.length_map]; exact hjl)]
                  have := (kj.symm.trans (HKC.out j hjl))
                  simpa using this.symm
                have HT2 := Lib.hid hT2
                have HK2 := Lib.hid hK2
                have HU2 := Lib.hid hU2
                have HB2 := Lib.hid hB2
                have HKS3 := Lib.hid hks3
                have KJ2 := Lib.hid kj2
                have hpl : pre.length ≤ j := by have := HLEN.out; simp at this; omega
                have hjs : j < 1099511627776 := by omega
                have han : a + n ≤ 1099511627776 := HFIT.out (a, n, c) (List.mem_of_getElem? HU0.out)
                clear hT2 hK2 hU2 hB2 hks3 hqk hkc2 kj2 hqq hq'
                go_upto_region 19 with (fail)
                refine Own.region_tail 14 (fun w' => ∃ n, w' = World.drewN wc n) (by kernel_rfl) (by kernel_rfl) ⟨1, rfl⟩ ?_
                simp only [List.take_succ_cons, List.take_zero, List.drop_succ_cons, List.drop_zero]
                repeat (go_big_quiet_step (fail))
                refine wpQuiet_nil ?_
                rintro _ ⟨nq, rfl⟩
                go_upto_region 20 with (fail)
                obtain ⟨w5, hw5⟩ : ∃ w5, w5 = (wc.drewN nq).setCell ⟨qt, pre.length * 3 + 1, none⟩ (.int .i64 ((a : Int) + (n : Int))) := ⟨_, rfl⟩
                have e5 : ((a : Int) + (n : Int)) = ((a + n : Nat) : Int) := by omega
                have hT5 : RowT w5 w.heap.size (.slice (some ⟨qt, 0, none⟩) (pre.length + 1) ct) (pre ++ [⟨f, a + n, wd⟩]) := by
                  rw [hw5, e5]
                  exact (HT2.out.below (below_drewN wc nq)).setTo (a + n)
                have ne5 : ∀ k : Nat, (∃ (c1 : Array Value) (t1 : TypeId), wc.heap[k]? = some (Obj.cells c1 t1 (0, 0)) ∧ t1 ≠ 48) → w5.heap[k]? = wc.heap[k]? := fun k hk => by
                  obtain ⟨c1, t1, h1, h2⟩ := hk
                  obtain ⟨c2, h3⟩ := own_row_type HT2.out (k := qt) rfl
                  rw [hw5, setCell_other _ (ne_of_type h1 h3 h2)]
                  rfl
                have hK5 := own_keep (w' := w5) HK2.out fun k hk => by
                  obtain ⟨c1, h1⟩ := own_row_type HK2.out hk
                  exact ne5 k ⟨c1, _, h1, by decide⟩
                have hU5 := own_keep (w' := w5) HU2.out fun k hk => by
                  obtain ⟨c1, h1⟩ := own_row_type HU2.out hk
                  exact ne5 k ⟨c1, _, h1, by decide⟩
                have hB5 : Below w.heap.size w w5 := by
                  rw [hw5]
                  exact (HB2.out.trans ((below_drewN wc nq).mono HB2.out.size)).setCell (p := ⟨qt, pre.length * 3 + 1, none⟩) hqt _
                obtain ⟨q5, c5, hq5, _, _, t0, t1, t2, tf⟩ := hT5.last
                obtain ⟨rfl, rfl⟩ : qt = q5 ∧ ct = c5 := by simpa using hq5
                have k5 : w5.cell? ⟨qk, ok + j, none⟩ = some (.int .i64 cl) := by
                  obtain ⟨c1, h1⟩ := own_row_type HK2.out (k := qk) rfl
                  rw [World.cell?_of_block (w := wc) (ne5 qk ⟨c1, _, h1, by decide⟩)]
                  exact KJ2.out wc (World.Since.refl _ _)
                simp only at t0 t1 t2
                have HKS3 := Lib.hid (show toksSt ((kindsFrom rs 0 us).take (j + 1)) = (true, pre ++ [⟨f, a + n, wd && !(cl == 2)⟩]) from HKS3.out)
                have T5 := Lib.hid hT5
                have K5 := Lib.hid hK5
                have U5 := Lib.hid hU5
                have B5 := Lib.hid hB5
                rw [← hw5]
                clear hT5 hK5 hU5 hB5 ne5 e5 hq5 hw5 HT2 HK2 HU2 HB2 KJ2 kj
                cases wd with
                | false =>
                  go_wp2_with (fail)
                  go_roundw
                  case rel =>
                    refine ⟨j + 1, by go_num, by rw [HKS3.out], hjl, ?_, own_keep K5.out fun k hk => setCell_other _ ?_, own_keep U5.out fun k hk => setCell_other _ ?_, B5.out.setCell (p := ⟨qt, pre.length * 3 + 2, none⟩) hqt _⟩
                    · rw [HKS3.out]
                      exact T5.out.setWord false
                    · obtain ⟨c1, h1⟩ := own_row_type K5.out hk
                      obtain ⟨c2, h2⟩ := own_row_type T5.out (k := qt) rfl
                      exact ne_of_type h1 h2 (by decide)
                    · obtain ⟨c1, h1⟩ := own_row_type U5.out hk
                      obtain ⟨c2, h2⟩ := own_row_type T5.out (k := qt) rfl
                      exact ne_of_type h1 h2 (by decide)
                  case measure => simp [intOf]; omega
                | true =>
                  by_cases h2 : cl = 2
                  · subst h2
                    go_wp2_with (fail)
                    go_roundw
                    case rel =>
                      refine ⟨j + 1, by go_num, by rw [HKS3.out], hjl, ?_, own_keep K5.out fun k hk => setCell_other _ ?_, own_keep U5.out fun k hk => setCell_other _ ?_, B5.out.setCell (p := ⟨qt, pre.length * 3 + 2, none⟩) hqt _⟩
                      · rw [HKS3.out]
                        exact T5.out.setWord false
                      · obtain ⟨c1, h1⟩ := own_row_type K5.out hk
                        obtain ⟨c2, h2⟩ := own_row_type T5.out (k := qt) rfl
                        exact ne_of_type h1 h2 (by decide)
                      · obtain ⟨c1, h1⟩ := own_row_type U5.out hk
                        obtain ⟨c2, h2⟩ := own_row_type T5.out (k := qt) rfl
                        exact ne_of_type h1 h2 (by decide)
                    case measure => simp [intOf]; omega
                  · have k2 : (cl == 2) = false := by simpa using h2
                    have k3 : (cl != 2) = true := by simpa using h2
                    have k4 : decide (cl = 2) = false := by simpa using h2
                    rw [k2] at HKS3
                    go_wp2_with (fail)
                    go_roundw
                    case rel =>
                      refine ⟨j + 1, by go_num, by rw [HKS3.out], hjl, ?_, own_keep K5.out fun k hk => setCell_other _ ?_, own_keep U5.out fun k hk => setCell_other _ ?_, B5.out.setCell (p := ⟨qt, pre.length * 3 + 2, none⟩) hqt _⟩
                      · rw [HKS3.out]
                        exact T5.out.setWord true
                      · obtain ⟨c1, h1⟩ := own_row_type K5.out hk
                        obtain ⟨c2, h2⟩ := own_row_type T5.out (k := qt) rfl
                        exact ne_of_type h1 h2 (by decide)
                      · obtain ⟨c1, h1⟩ := own_row_type U5.out hk
                        obtain ⟨c2, h2⟩ := own_row_type T5.out (k := qt) rfl
                        exact ne_of_type h1 h2 (by decide)
                    case measure => simp [intOf]; omega
        · have g2 : decide (j < us.length) = false := by simpa using hjl
          have hjk : (kindsFrom rs 0 us).take j = kindsFrom rs 0 us := List.take_of_length_le (by rw [kindsFrom_len]; omega)
          rw [hjk] at hT ⊢
          have HT := Lib.hid hT
          have HB := Lib.hid hbw
          rw [← HTO.out] at HT
          clear hT hK hU hbw
          go_wp2_with (fail)
          go_ret
          exact ⟨_, rfl, HT.out, HB.out⟩
end Go.Proofs.YtcljiahpgbedhaaDoor

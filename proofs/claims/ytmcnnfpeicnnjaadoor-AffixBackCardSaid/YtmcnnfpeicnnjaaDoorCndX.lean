/- cond.text, cond.same. -/
import Derived.Test.YtmcnnfpeicnnjaaDoorCAny
import Derived.Test.YtmcnnfpeicnnjaaDoorUBytes
namespace Go.Proofs.YtmcnnfpeicnnjaaDoor
open Go.RowKit Go.Deep Go.Own
set_option linter.unusedVariables false
theorem bytesC_len (l : List Int) : (bytesC l).length ≤ 4 * l.length := by
  unfold bytesC
  induction l with
  | nil => exact Nat.zero_le _
  | cons c t ih =>
    rw [List.flatMap_cons, List.length_append, List.length_cons]
    have h : (enc c).data.toList.length ≤ 4 := by
      by_cases hv : Utf8.valid c = true
      · rw [enc_valid hv]
        unfold Utf8.encode
        simp only [hv, if_true]
        repeat' split
        all_goals (show List.length _ ≤ 4; simp)
      · rw [enc_not hv]
        exact Nat.zero_le _
    omega
theorem bytesC_take (l : List Int) (k : Nat) (c : Int) (h : l[k]? = some c) : bytesC (l.take (k + 1)) = bytesC (l.take k) ++ (enc c).data.toList := by
  obtain ⟨h1, h2⟩ := List.getElem?_eq_some_iff.1 h
  rw [List.take_succ_eq_append_getElem h1, h2, bytesC_app]
  unfold bytesC
  rw [List.flatMap_singleton]
theorem textI_len (x : ItP) : (textI x).length ≤ 4 * x.set.length + 3 := by
  have := bytesC_len x.set
  unfold textI
  repeat' split
  all_goals first
    | (simp only [List.length_append, List.length_cons, List.length_nil]; omega)
    | omega
theorem mk_toArray (l : List UInt8) : (⟨l.toArray⟩ : ByteArray) = mkB l := rfl
set_option maxRecDepth 100000 in
set_option maxHeartbeats 16000000 in
theorem tx_calls (x : ItP) (B : Option Addr) (c : Nat) (w : World) (hv : ValI x) (hr : Reads w B x.set) (hl : x.set.length ≤ 1000000) : Calls Tryd.prog 36 #[.agg #[.bool x.any, .bool x.neg, .slice B x.set.length c]] w fun e w' => e = .returned (.string (mkB (textI x))) ∧ Below w.heap.size w w' := by
  obtain ⟨T, hT⟩ : ∃ T, T = mkB (textI x) := ⟨_, rfl⟩
  rw [← hT]
  have HTX := Lib.hid hT
  clear hT
  obtain ⟨w1, hw1⟩ : ∃ w1, w1 = w.alloc (.cells #[Value.bool x.any, .bool x.neg, .slice B x.set.length c] 43) := ⟨_, rfl⟩
  obtain ⟨M, hM⟩ : ∃ M, M = w.heap.size := ⟨_, rfl⟩
  have b1 : Below w.heap.size w w1 := by rw [hw1]; exact (Below.refl _ _).alloc (Nat.le_refl _) _
  have m1 : w1.heap[M]? = some (.cells #[.bool x.any, .bool x.neg, .slice B x.set.length c] 43 (0, 0)) := by rw [hw1, hM]; exact blk_alloc_new _ _
  have HW1 := Lib.hid (And.intro hw1 hM)
  have B1 := Lib.hid b1
  have M1 := Lib.hid m1
  have HV := Lib.hid hv
  have R1 := Lib.hid (hr.later b1)
  obtain ⟨z0, z1, z2⟩ := cell3_of M1.out
  clear hw1 hM b1 m1 hv hr
  obtain ⟨any, neg, set⟩ := x
  simp only at z0 z1 z2 hl HW1 M1 R1 HTX ⊢
  cases any with
  | true =>
    have E := Lib.hid (show T = ⟨#[46]⟩ by rw [HTX.out]; rfl)
    go_enter Tryd.func36, Tryd.ntmps36
    go_upto_region 1 with (fail)
    rw [← HW1.out.1, ← HW1.out.2]
    go_wp2_with (fail)
    go_ret
    exact ⟨by rw [E.out]; rfl, B1.out⟩
  | false =>
    obtain ⟨w2, hw2⟩ : ∃ w2, w2 = w1.alloc (.cells #[.pointer none, .slice none 0 0] 76) := ⟨_, rfl⟩
    obtain ⟨b, hb⟩ : ∃ b, b = w1.heap.size := ⟨_, rfl⟩
    have b2 : Below w1.heap.size w1 w2 := by rw [hw2]; exact (Below.refl _ _).alloc (Nat.le_refl _) _
    have D2 := Lib.hid (show Bd w1.heap.size b [] w2 by rw [hw2, hb]; exact Bd.new w1)
    have B2 := Lib.hid (show Below w1.heap.size w1 w2 from b2)
    have M2 := Lib.hid ((b2.block _ (Array.getElem?_eq_some_iff.1 M1.out).1).trans M1.out)
    have HMB := Lib.hid (show M ≠ b from fun e => by have := (Array.getElem?_eq_some_iff.1 M1.out).1; omega)
    have HW2 := Lib.hid (And.intro hw2 hb)
    clear hw2 hb b2
    obtain ⟨y0, y1, y2⟩ := cell3_of M2.out
    obtain ⟨n, hn⟩ : ∃ n, n = set.length := ⟨_, rfl⟩
    have HN := Lib.hid hn
    rw [← hn] at z2 y2 M1 M2 HW1 hl ⊢
    clear hn
    go_enter Tryd.func36, Tryd.ntmps36
    go_upto_region 1 with (fail)
    rw [← HW1.out.1, ← HW1.out.2]
    clear HW1
    go_upto_region 4 with (fail)
    rw [← HW2.out.1, ← HW2.out.2]
    clear HW2 z0 z1 z2
    go_wp2_with (fail)
    go_loopw [12] (fun iv wr => ∃ i : Nat, i ≤ n ∧ iv = .int .i64 (i : Nat) ∧ Bd w1.heap.size b (bytesC (set.take i)) wr ∧ Below w1.heap.size w1 wr ∧ wr.heap[M]? = some (.cells #[.bool false, .bool neg, .slice B n c] 43 (0, 0))) (fun iv _ => n - (intOf iv).toNat)
    case atStart => exact ⟨0, Nat.zero_le _, rfl, D2.out, B2.out, M2.out⟩
    case round =>
      clear y0 y1 y2 D2 M2
      obtain ⟨i, hi, rfl, hd, hbw, hm⟩ := hrel
      have HM := Lib.hid hm
      have HB := Lib.hid hbw
      have HD := Lib.hid hd
      clear hm hbw hd
      by_cases hlt : i < n
      · have g1 : decide (i < n) = true := by simpa using hlt
        obtain ⟨k, hk⟩ : ∃ k, set[i]? = some k := ⟨_, List.getElem?_eq_getElem (by have := HN.out; omega)⟩
        obtain ⟨qb, ob, rfl, hcell⟩ := reads_at R1.out HB.out hk
        have hbt := bytesC_take set i k hk
        have hbl := bytesC_len (set.take i)
        have htl : (set.take i).length ≤ i := by rw [List.length_take]; omega
        have hez : (enc k).size ≤ 4 := by
          have := bytesC_len [k]
          unfold bytesC at this
          rw [List.flatMap_singleton] at this
          have e : (enc k).data.toList.length = (enc k).size := by simp
          simp only [List.length_cons, List.length_nil] at this
          omega
        have CU := Lib.hid (fun w : World => ubytes_calls k w)
        obtain ⟨E, hE⟩ : ∃ E, E = enc k := ⟨_, rfl⟩
        rw [← hE] at CU hbt hez
        have CW := Lib.hid (bd_write E HD.out (by omega) HB.out.size)
        have HBT := Lib.hid hbt
        clear hk hbt hbl htl hez hE HD
        go_wp2_with (fail)
        refine (CU.out _).mono ?_
        rintro e w5 ⟨rfl, rfl⟩
        clear CU
        go_wp2_with (fail)
        refine CW.out.mono ?_
        rintro e w6 ⟨rfl, d6, b6, k6⟩
        have D6 := Lib.hid d6
        have B6 := Lib.hid (HB.out.trans b6)
        have M6 := Lib.hid ((k6 M _ _ _ HM.out (by decide) HMB.out).trans HM.out)
        clear CW d6 b6 k6
        go_wp2_with (fail)
        go_roundw
        case rel => exact ⟨i + 1, hlt, by go_num, by rw [HBT.out]; exact D6.out, B6.out, M6.out⟩
        case measure => simp [intOf]; omega
      · obtain rfl : i = n := by omega
        have g1 : decide (i < i) = false := by simp
        have hd := HD.out
        rw [List.take_of_length_le (by have := HN.out; omega)] at hd
        have CS := Lib.hid (bd_string hd HB.out.size)
        have hbl := bytesC_len set
        rw [← HN.out] at hbl
        rw [mk_toArray] at CS
        obtain ⟨S, hS⟩ : ∃ S, S = mkB (bytesC set) := ⟨_, rfl⟩
        have hSz : S.size ≤ 4 * i := by rw [hS, mk_size]; exact hbl
        rw [← hS] at CS
        have HS := Lib.hid hS
        clear hd hbl hS HD
        go_wp2_with (fail)
        refine CS.out.mono ?_
        rintro e w7 ⟨rfl, b7⟩
        have B7 := Lib.hid (B1.out.trans ((HB.out.trans b7).mono B1.out.size))
        have M8 : w7.heap[M]? = some (.cells #[.bool false, .bool neg, .slice B i c] 43 (0, 0)) := by
          have h1 := (HB.out.trans b7).block _ (Array.getElem?_eq_some_iff.1 M1.out).1
          exact h1.trans M1.out
        obtain ⟨y0, y1, y2⟩ := cell3_of M8
        clear CS b7 M8
        cases neg with
        | true =>
          have E := Lib.hid (show T = (⟨#[91, 94]⟩ ++ S) ++ ⟨#[93]⟩ by
            rw [HTX.out, HS.out]
            unfold textI
            simp only [if_true]
            rw [if_neg (by decide), mk_both, mk_both]
            rfl)
          have hz2 : ((⟨#[91, 94]⟩ : ByteArray) ++ S).size ≤ 5000000 := by rw [ByteArray.size_append]; show 2 + S.size ≤ _; omega
          go_wp2_with (fail)
          go_ret
          exact ⟨by rw [E.out]; rfl, B7.out⟩
        | false =>
          by_cases h1 : i = 1
          · subst h1
            obtain ⟨k, hk⟩ : ∃ k, set = [k] := List.length_eq_one_iff.1 HN.out.symm
            subst hk
            have hkv : ValidC k := HV.out.2 k List.mem_cons_self
            have CC := Lib.hid (fun w : World => cany_calls k w hkv)
            have hSe : S = enc k := by rw [HS.out]; unfold bytesC; rw [List.flatMap_singleton, mk_data]
            unfold dots at CC
            rw [← hSe] at CC
            have hpl : plainS [k] = !dotB k := by
              unfold plainS dotB
              have e1 : ∀ n : Int, ([k] : List Int).contains n = (k == n) := fun n => by
                rw [Bool.eq_iff_iff, List.contains_iff_mem, List.mem_singleton, beq_iff_eq]
                exact ⟨fun h => h.symm, fun h => h.symm⟩
              rw [e1, e1, e1]
              rfl
            obtain ⟨d, hdb⟩ : ∃ d, d = dotB k := ⟨_, rfl⟩
            rw [← hdb] at CC hpl
            have HPL := Lib.hid hpl
            clear hpl hdb hSe
            go_wp2_with (fail)
            refine (CC.out _).mono ?_
            rintro e w8 ⟨rfl, b8⟩
            have B8 := Lib.hid (B7.out.trans (b8.mono B7.out.size))
            clear CC b8
            cases d with
            | true =>
              have E := Lib.hid (show T = (⟨#[91]⟩ ++ S) ++ ⟨#[93]⟩ by
                rw [HTX.out, HS.out]
                unfold textI
                simp only
                rw [if_neg (by decide), if_neg (by decide), HPL.out, if_neg (by decide), mk_both, mk_both]
                rfl)
              have hz2 : ((⟨#[91]⟩ : ByteArray) ++ S).size ≤ 5000000 := by rw [ByteArray.size_append]; show 1 + S.size ≤ _; omega
              go_wp2_with (fail)
              go_ret
              exact ⟨by rw [E.out]; rfl, B8.out⟩
            | false =>
              have E := Lib.hid (show T = S by
                rw [HTX.out, HS.out]
                unfold textI
                simp only
                rw [if_neg (by decide), if_neg (by decide), HPL.out]
                rfl)
              go_wp2_with (fail)
              go_ret
              exact ⟨by rw [E.out]; rfl, B8.out⟩
          · have g2 : ((i : Int) == 1) = false := by simp; omega
            have g2' : (i == 1) = false := by simpa using h1
            have hpl : plainS set = false := by
              unfold plainS
              rw [decide_eq_false (by have := HN.out; omega), Bool.false_and]
            have E := Lib.hid (show T = (⟨#[91]⟩ ++ S) ++ ⟨#[93]⟩ by
              rw [HTX.out, HS.out]
              unfold textI
              simp only
              rw [if_neg (by decide), if_neg (by decide), hpl, if_neg (by decide), mk_both, mk_both]
              rfl)
            have hz2 : ((⟨#[91]⟩ : ByteArray) ++ S).size ≤ 5000000 := by rw [ByteArray.size_append]; show 1 + S.size ≤ _; omega
            clear h1 hpl
            go_wp2_with (fail)
            go_ret
            exact ⟨by rw [E.out]; rfl, B7.out⟩
end Go.Proofs.YtmcnnfpeicnnjaaDoor

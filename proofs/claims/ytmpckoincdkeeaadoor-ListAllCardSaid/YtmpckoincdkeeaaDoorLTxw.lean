/- The document's Text of a list, walked. -/
import Derived.Test.YtmpckoincdkeeaaDoorLTxt
import Derived.Test.YtmpckoincdkeeaaDoorLPar
import Derived.Test.YtmpckoincdkeeaaDoorLSam
namespace Go.Proofs.YtmpckoincdkeeaaDoor
open Go.RowKit Go.Deep Go.Own
set_option linter.unusedVariables false
theorem parseD_got (s : ByteArray) (w : World) (hs : s.size ≤ 1000000000) : Calls Tryd.prog 23 #[.string s] w (PPost w s) :=
  (parseD_calls s w hs).mono fun e w' ⟨⟨v, xs, e1, h1, h2, h3⟩, hb⟩ => ⟨⟨v, e1, h3 ▸ got_of h1 h2⟩, hb⟩
theorem back_one (w : World) (c : Nat) (hc : c < 256) :
    (convert 46 9 (.slice (some ⟨w.heap.size, 0, none⟩) 1 1)).run Tryd.prog (w.alloc (.cells #[Value.int .u8 (c : Nat)] 5)) = .ok (.string ⟨#[c.toUInt8]⟩) (w.alloc (.cells #[Value.int .u8 (c : Nat)] 5)) :=
  run_convert_bytes_back (P := Tryd.prog) (w.alloc (.cells #[Value.int .u8 (c : Nat)] 5)) 46 9 5 ⟨w.heap.size, 0, none⟩ 1 [c.toUInt8] (by kernel_rfl) (by kernel_rfl) (by kernel_rfl) (fun j hj => by
    rw [List.length_singleton] at hj
    obtain rfl : j = 0 := by omega
    have h : (w.alloc (.cells #[Value.int .u8 (c : Nat)] 5)).heap[w.heap.size]? = some (.cells #[Value.int .u8 (c : Nat)] 5 (0, 0)) := blk_alloc_new _ _
    have e1 : (⟨w.heap.size, 0, none⟩ : Addr).add 0 = ⟨w.heap.size, 0, none⟩ := by unfold Addr.add; split <;> simp_all
    rw [e1, Lib.cell_of_heap h]
    have e2 : (c.toUInt8).toNat = c := by rw [toNat8]; omega
    simp only [List.getElem_singleton, e2]
    rfl)
set_option maxRecDepth 100000 in
set_option maxHeartbeats 32000000 in
theorem textD_c (es : List Ent) (va : Value) (w : World) (ha : Got w va es) (he : smallE es) (hz : (textL es).length ≤ 1000000000) :
    Calls Tryd.prog 25 #[va] w fun e w' => e = .returned (.string (textV es)) ∧ Below w.heap.size w w' := by
  obtain ⟨A, ca, rfl, _, ra⟩ := ha.out
  have RA := Lib.hid ha
  have RR := Lib.hid ra
  have HE := Lib.hid he
  have HZ := Lib.hid hz
  have he1 := he.1
  obtain ⟨n, hn⟩ : ∃ n, n = es.length := ⟨_, rfl⟩
  have HN := Lib.hid hn
  rw [← hn] at he1
  rw [← hn]
  clear ha he hn ra hz
  go_enter Tryd.func25, Tryd.ntmps25
  go_wp2_with (fail)
  go_loopw [3, 4] (fun sv iv wr => ∃ i : Nat, i ≤ n ∧ iv = .int .i64 (i : Nat) ∧ sv = .string (mkB (textL (es.take i))) ∧ Below w.heap.size w wr) (fun _ iv _ => n - (intOf iv).toNat)
  case atStart => exact ⟨0, Nat.zero_le _, rfl, rfl, Below.refl _ _⟩
  case round =>
    obtain ⟨i, hi, rfl, rfl, hbw⟩ := hrel
    by_cases hlt : i < n
    · have g1 : decide (i < n) = true := by simpa using hlt
      obtain ⟨x, hx⟩ : ∃ x, es[i]? = some x := ⟨_, List.getElem?_eq_getElem (by have := HN.out; omega)⟩
      obtain ⟨qa, oa, Fa, fa, rfl, hqa, a1', a2', _, a4⟩ := RR.out i x hx
      have a1 := (hbw.cell (p := ⟨qa, oa + i * 2, none⟩) hqa).trans a1'
      have A2 := Lib.hid (show ∀ wx, Below w.heap.size w wx → wx.cell? ⟨qa, oa + i * 2 + 1, none⟩ = some (.slice Fa x.2.length fa) from fun wx hb => (hb.cell (p := ⟨qa, oa + i * 2 + 1, none⟩) hqa).trans a2')
      have hts := textL_succ es i x hx
      have hte := textL_le es (i + 1)
      have hfz := HE.out.2 x (List.mem_of_getElem? hx)
      have HX := Lib.hid hx
      obtain ⟨wd, f⟩ := x
      simp only at a1 A2 a4 hfz
      obtain ⟨L, hL⟩ : ∃ L, L = textL (es.take i) := ⟨_, rfl⟩
      rw [hts, ← hL, List.length_append] at hte
      have hel : (entL (wd, f)).length = wd.size + (flT f).length + 1 := by
        unfold entL
        rw [List.length_append, List.length_append]
        simp
      rw [hel] at hte
      have hte2 : L.length + wd.size + (flT f).length + 1 ≤ 1000000000 := by have := HZ.out; omega
      rw [← hL]
      obtain ⟨P, hP⟩ : ∃ P, P = L ++ wd.data.toList := ⟨_, rfl⟩
      have HTS := Lib.hid (show textL (es.take (i + 1)) = P ++ flT f ++ [10] by rw [hts, hP, hL]; unfold entL; simp only [List.append_assoc])
      have hPl : P.length = L.length + wd.size := by rw [hP, List.length_append]; simp
      obtain ⟨S, hS⟩ : ∃ S, S = mkB L := ⟨_, rfl⟩
      have hSz : S.size = L.length := by rw [hS, mk_size]
      have HSP := Lib.hid (show S ++ wd = mkB P by rw [hS, hP, mkB_app, mk_data])
      have A4 := Lib.hid a4
      have HB := Lib.hid hbw
      rw [← hS]
      have hsum : S.size + wd.size ≤ 1000000000 := by omega
      have hpz : P.length + (flT f).length + 1 ≤ 1000000000 := by omega
      clear hx hts hte hel hL hP hPl hS hSz a4 hbw a1' a2' hqa hte2
      go_wp2_with (fail)
      go_loopw [3, 5] (fun sv kv wz => ∃ k : Nat, k ≤ f.length ∧ kv = .int .i64 (k : Nat) ∧ sv = .string (mkB (P ++ flT (f.take k))) ∧ Below w.heap.size w wz) (fun _ kv _ => f.length - (intOf kv).toNat)
      case atStart => exact ⟨0, Nat.zero_le _, rfl, by
        have e : P ++ flT (f.take 0) = P := by simp [flT]
        rw [e, HSP.out], HB.out⟩
      case round =>
        obtain ⟨k, hk, rfl, rfl, hbk⟩ := hrel
        have x2 := A2.out _ hbk
        by_cases hkl : k < f.length
        · have g2 : decide (k < f.length) = true := by simpa using hkl
          obtain ⟨c, hc⟩ : ∃ c, f[k]? = some c := ⟨_, List.getElem?_eq_getElem hkl⟩
          obtain ⟨fb, fo, rfl, hcell⟩ := reads_at A4.out hbk hc
          have hfs := flT_succ f k c hc
          have hfl := flT_le f (k + 1)
          rw [hfs, List.length_append, List.length_append] at hfl
          obtain ⟨Q, hQ⟩ : ∃ Q, Q = mkB (P ++ flT (f.take k)) := ⟨_, rfl⟩
          have hQz : Q.size = P.length + (flT (f.take k)).length := by rw [hQ, mk_size, List.length_append]
          have hq2 : Q.size + 2 ≤ 1000000002 := by omega
          have HQ := Lib.hid hQ
          have HC := Lib.hid hc
          have HFS := Lib.hid hfs
          have BK := Lib.hid hbk
          rw [← hQ]
          clear hQ hQz hfs hfl hc hbk
          by_cases hneg : c < 0
          · have g3 : decide (c < 0) = true := by simpa using hneg
            have E := Lib.hid (text_bad HX.out HC.out (.inl hneg))
            clear hneg
            by_cases h0 : k = 0
            · subst h0
              rw [Nat.add_zero] at hcell
              go_wp2_with (fail)
              go_ret
              exact ⟨by rw [E.out]; rfl, BK.out⟩
            · have g4 : ((k : Int) == 0) = false := by simp; omega
              have g5 : (k == 0) = false := by simp; omega
              go_wp2_with (fail)
              go_ret
              exact ⟨by rw [E.out]; rfl, BK.out⟩
          have g3 : decide (c < 0) = false := by simpa using hneg
          by_cases hbig : 127 < c
          · have g3' : decide (127 < c) = true := by simpa using hbig
            have E := Lib.hid (text_bad HX.out HC.out (.inr hbig))
            clear hneg hbig
            by_cases h0 : k = 0
            · subst h0
              rw [Nat.add_zero] at hcell
              go_wp2_with (fail)
              go_ret
              exact ⟨by rw [E.out]; rfl, BK.out⟩
            · have g4 : ((k : Int) == 0) = false := by simp; omega
              have g5 : (k == 0) = false := by simp; omega
              go_wp2_with (fail)
              go_ret
              exact ⟨by rw [E.out]; rfl, BK.out⟩
          obtain ⟨d, rfl⟩ : ∃ d : Nat, c = (d : Int) := ⟨c.toNat, by omega⟩
          have hd : d ≤ 127 := by omega
          have g3 : decide ((d : Int) < 0) = false := by simp
          have g3' : decide ((127 : Int) < (d : Int)) = false := by simp; omega
          have m0 : (d : Int) % 256 = (d : Nat) := by omega
          have HEN := Lib.hid (enc_low d hd)
          have CB := Lib.hid (back_one wr d (by omega))
          obtain ⟨w1, hw1⟩ : ∃ w1, w1 = wr.alloc (.cells #[Value.int .u8 (d : Nat)] 5) := ⟨_, rfl⟩
          obtain ⟨M, hM⟩ : ∃ M, M = wr.heap.size := ⟨_, rfl⟩
          have B1 := Lib.hid (show Below w.heap.size w w1 by rw [hw1]; exact BK.out.alloc BK.out.size _)
          rw [← hw1, ← hM] at CB
          have HW := Lib.hid (And.intro hw1 hM)
          obtain ⟨D, hD⟩ : ∃ D : ByteArray, D = ⟨#[d.toUInt8]⟩ := ⟨_, rfl⟩
          have hDz : D.size = 1 := by rw [hD]; rfl
          rw [← hD] at CB HEN
          clear hw1 hM hneg hbig hD
          by_cases h0 : k = 0
          · subst h0
            rw [Nat.add_zero] at hcell
            have E1 := Lib.hid (show mkB (P ++ flT (f.take (0 + 1))) = (Q ++ ⟨#[47]⟩) ++ D by
              rw [HFS.out, HEN.out, if_pos rfl, HQ.out, ← List.append_assoc, ← List.append_assoc, mkB_app, mkB_app, mk_data]
              rfl)
            go_upto_region 13 with (fail)
            have hqq : (Q ++ (⟨#[47]⟩ : ByteArray)).size ≤ 1000000002 := by rw [ByteArray.size_append]; show Q.size + 1 ≤ _; omega
            go_wp2_with (fail)
            rw [← HW.out.1, ← HW.out.2, CB.out]
            go_wp2_with (fail)
            go_roundw
            case rel => exact ⟨1, hkl, by first | rfl | go_num, by rw [E1.out], B1.out⟩
            case measure => simp [intOf]; omega
          · have g4 : ((k : Int) == 0) = false := by simp; omega
            have g5 : (k == 0) = false := by simp; omega
            have E1 := Lib.hid (show mkB (P ++ flT (f.take (k + 1))) = Q ++ D by
              rw [HFS.out, HEN.out, if_neg h0, HQ.out, List.nil_append, ← List.append_assoc, mkB_app, mk_data])
            go_wp2_with (fail)
            rw [← HW.out.1, ← HW.out.2, CB.out]
            go_wp2_with (fail)
            go_roundw
            case rel => exact ⟨k + 1, hkl, by go_num, by rw [E1.out], B1.out⟩
            case measure => simp [intOf]; omega
        · obtain rfl : k = f.length := by omega
          have g2 : decide (f.length < f.length) = false := by simp
          rw [List.take_length]
          obtain ⟨Q, hQ⟩ : ∃ Q, Q = mkB (P ++ flT f) := ⟨_, rfl⟩
          have hQz : Q.size ≤ 1000000000 := by rw [hQ, mk_size, List.length_append]; omega
          have E1 := Lib.hid (show mkB (textL (es.take (i + 1))) = Q ++ ⟨#[10]⟩ by
            rw [HTS.out, hQ, mkB_app]
            rfl)
          have BK := Lib.hid hbk
          rw [← hQ]
          clear hQ hbk
          go_wp2_with (fail)
          go_roundw
          case rel => exact ⟨i + 1, hlt, by go_num, by rw [E1.out], BK.out⟩
          case measure => simp [intOf]; omega
    · obtain rfl : i = n := by omega
      have g1 : decide (i < i) = false := by simp
      rw [List.take_of_length_le (by have := HN.out; omega)]
      obtain ⟨T, hTx⟩ : ∃ T, T = mkB (textL es) := ⟨_, rfl⟩
      rw [← hTx]
      have hTz : T.size ≤ 1000000000 := by rw [hTx, mk_size]; exact HZ.out
      have HTX := Lib.hid hTx
      have B4 := Lib.hid hbw
      have CP := Lib.hid (parseD_got T wr hTz)
      unfold PPost at CP
      have HPS := Lib.hid (parse_small T)
      obtain ⟨fs, hfs⟩ : ∃ fs, fs = (parseV T).1 := ⟨_, rfl⟩
      obtain ⟨er, her⟩ : ∃ er, er = (parseV T).2.2 := ⟨_, rfl⟩
      obtain ⟨ln, hln⟩ : ∃ ln, ln = (parseV T).2.1 := ⟨_, rfl⟩
      rw [← hfs, ← her, ← hln] at CP
      rw [← hfs] at HPS
      have hpv : textV es = if er = 0 ∧ es = fs then T else ⟨#[]⟩ := by unfold textV; rw [← HTX.out, ← her, ← hfs]
      have HPV := Lib.hid hpv
      clear hfs her hln hpv hTx hbw
      go_wp2_with (fail)
      refine CP.out.mono ?_
      rintro e w5 ⟨⟨v5, rfl, g5⟩, b5⟩
      have B5 := Lib.hid (B4.out.trans (b5.mono B4.out.size))
      have CE := Lib.hid (lsameD_calls es fs _ v5 w5 (RA.out.below B5.out) g5 HE.out.1 HPS.out.1 HE.out.2 HPS.out.2)
      rw [← HN.out] at CE
      obtain ⟨A5, c5, hv5, _, _⟩ := g5.out
      subst hv5
      clear CP b5 g5
      by_cases her : er = 0
      · subst her
        go_wp2_with (fail)
        refine CE.out.mono ?_
        rintro e w6 ⟨rfl, n6, rfl⟩
        have B6 := Lib.hid (B5.out.trans ((belowN w5 n6).mono B5.out.size))
        clear CE
        by_cases hef : es = fs
        · rw [decide_eq_true hef]
          have E := Lib.hid (show textV es = T by rw [HPV.out, if_pos ⟨by first | rfl | trivial, hef⟩])
          clear hef
          go_wp2_with (fail)
          go_ret
          exact ⟨by rw [E.out]; rfl, B6.out⟩
        · rw [decide_eq_false hef]
          have E := Lib.hid (show textV es = ⟨#[]⟩ by rw [HPV.out, if_neg (fun h => hef h.2)])
          clear hef
          go_wp2_with (fail)
          go_ret
          exact ⟨by rw [E.out]; rfl, B6.out⟩
      · have g3 : ((er : Int) == 0) = false := by simp; omega
        have E := Lib.hid (show textV es = ⟨#[]⟩ by rw [HPV.out, if_neg (fun h => her h.1)])
        clear CE
        go_wp2_with (fail)
        go_ret
        exact ⟨by rw [E.out]; rfl, B5.out⟩
end Go.Proofs.YtmpckoincdkeeaaDoor

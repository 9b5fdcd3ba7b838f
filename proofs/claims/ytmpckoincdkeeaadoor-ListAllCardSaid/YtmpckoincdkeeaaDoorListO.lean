/- list.Text. -/
import Derived.Test.YtmpckoincdkeeaaDoorListN
namespace Go.Proofs.YtmpckoincdkeeaaDoor
open Go.RowKit Go.Deep Go.Own
set_option linter.unusedVariables false
def flT (f : List Int) : List UInt8 := (if f = [] then [] else [47]) ++ f.flatMap fun c => (enc c).data.toList
def entL (e : Ent) : List UInt8 := e.1.data.toList ++ flT e.2 ++ [10]
def textL (es : List Ent) : List UInt8 := es.flatMap entL
def textV (es : List Ent) : ByteArray := if (parseV (mkB (textL es))).2.2 = 0 ∧ es = (parseV (mkB (textL es))).1 then mkB (textL es) else ⟨#[]⟩
theorem flT_succ (f : List Int) (k : Nat) (c : Int) (h : f[k]? = some c) : flT (f.take (k + 1)) = flT (f.take k) ++ ((if k = 0 then [47] else []) ++ (enc c).data.toList) := by
  obtain ⟨hl, hx⟩ := List.getElem?_eq_some_iff.1 h
  unfold flT
  rw [List.take_succ_eq_append_getElem hl, hx, List.flatMap_append, List.flatMap_singleton]
  by_cases h0 : k = 0
  · subst h0; simp
  · have : f.take k ≠ [] := fun e => by
      have := congrArg List.length e
      rw [List.length_take, List.length_nil] at this; omega
    rw [if_neg (by simp), if_neg this, if_neg h0, List.nil_append, List.append_assoc]
theorem textL_succ (es : List Ent) (i : Nat) (e : Ent) (h : es[i]? = some e) : textL (es.take (i + 1)) = textL (es.take i) ++ entL e := by
  obtain ⟨hl, hx⟩ := List.getElem?_eq_some_iff.1 h
  unfold textL
  rw [List.take_succ_eq_append_getElem hl, hx, List.flatMap_append, List.flatMap_singleton]
theorem textL_le (es : List Ent) (i : Nat) : (textL (es.take i)).length ≤ (textL es).length := by
  have : textL es = textL (es.take i) ++ textL (es.drop i) := by unfold textL; rw [← List.flatMap_append, List.take_append_drop]
  rw [this, List.length_append]; omega
theorem flT_le (f : List Int) (k : Nat) : (flT (f.take k)).length ≤ (flT f).length := by
  unfold flT
  have : f.flatMap (fun c => (enc c).data.toList) = (f.take k).flatMap (fun c => (enc c).data.toList) ++ (f.drop k).flatMap (fun c => (enc c).data.toList) := by rw [← List.flatMap_append, List.take_append_drop]
  rw [List.length_append, List.length_append, this, List.length_append]
  by_cases h : f = []
  · subst h; simp
  · rw [if_neg h]
    split <;> simp only [List.length_nil, List.length_cons] <;> omega
theorem bd_mk {l : List UInt8} : (⟨l.toArray⟩ : ByteArray) = mkB l := rfl
set_option maxRecDepth 100000 in
set_option maxHeartbeats 16000000 in
theorem text_c (es : List Ent) (va : Value) (w : World) (ha : Got w va es) (he : smallE es) (hz : (textL es).length ≤ 1000000000) (hT : TabsL w) (hp : smallE (parseV (mkB (textL es))).1) :
    Calls Tryd.prog 24 #[va] w fun e w' => e = .returned (.string (textV es)) ∧ Below w.heap.size w w' := by
  obtain ⟨A, ca, rfl, _, ra⟩ := ha.out
  have RA := Lib.hid ha
  have RR := Lib.hid ra
  have HE := Lib.hid he
  have HT := Lib.hid hT
  have HP := Lib.hid hp
  have he1 := he.1
  obtain ⟨b, hb⟩ : ∃ b, b = w.heap.size := ⟨_, rfl⟩
  obtain ⟨w1, hw1⟩ : ∃ w1, w1 = w.alloc (.cells #[.pointer none, .slice none 0 0] 87) := ⟨_, rfl⟩
  have D1 := Lib.hid (show Bd w.heap.size b [] w1 by rw [hw1, hb]; exact Bd.new w)
  have B1 := Lib.hid (show Below w.heap.size w w1 by rw [hw1]; exact (Below.refl _ _).alloc (Nat.le_refl _) _)
  have HW1 := Lib.hid hw1
  have HB := Lib.hid hb
  obtain ⟨n, hn⟩ : ∃ n, n = es.length := ⟨_, rfl⟩
  have HN := Lib.hid hn
  rw [← hn] at he1
  rw [← hn]
  clear ha he hT hp hb hw1 hn ra
  go_enter Tryd.func24, Tryd.ntmps24
  go_upto_region 2 with (fail)
  rw [← HW1.out, ← HB.out]
  go_wp2_with (fail)
  go_loopw [15] (fun iv wr => ∃ i : Nat, i ≤ n ∧ iv = .int .i64 (i : Nat) ∧ Bd w.heap.size b (textL (es.take i)) wr ∧ Below w.heap.size w wr) (fun iv _ => n - (intOf iv).toNat)
  case atStart => exact ⟨0, Nat.zero_le _, rfl, D1.out, B1.out⟩
  case round =>
    obtain ⟨i, hi, rfl, hd, hbw⟩ := hrel
    by_cases hlt : i < n
    · have g1 : decide (i < n) = true := by simpa using hlt
      obtain ⟨x, hx⟩ : ∃ x, es[i]? = some x := ⟨_, List.getElem?_eq_getElem (by have := HN.out; omega)⟩
      obtain ⟨qa, oa, Fa, fa, rfl, hqa, a1', a2', _, a4⟩ := RR.out i x hx
      have a1 := (hbw.cell (p := ⟨qa, oa + i * 2, none⟩) hqa).trans a1'
      have a2 := (hbw.cell (p := ⟨qa, oa + i * 2 + 1, none⟩) hqa).trans a2'
      clear a1' a2'
      have hts := textL_succ es i x hx
      have hte := textL_le es (i + 1)
      have hfz := HE.out.2 x (List.mem_of_getElem? hx)
      obtain ⟨wd, f⟩ := x
      simp only at a1 a2 a4 hfz
      obtain ⟨L, hL⟩ : ∃ L, L = textL (es.take i) := ⟨_, rfl⟩
      rw [hts, ← hL, List.length_append] at hte
      have hel : (entL (wd, f)).length = wd.size + (flT f).length + 1 := by
        unfold entL
        rw [List.length_append, List.length_append]
        simp
      rw [hel] at hte
      have hte2 : L.length + wd.size + (flT f).length + 1 ≤ 1000000000 := by omega
      rw [← hL] at hd
      have HTS := Lib.hid (show textL (es.take (i + 1)) = L ++ (wd.data.toList ++ flT f ++ [10]) by rw [hts, hL]; rfl)
      obtain ⟨w2, hw2⟩ : ∃ w2, w2 = wr.alloc (.cells #[Value.string wd, .slice Fa f.length fa] 78) := ⟨_, rfl⟩
      obtain ⟨m, hm⟩ : ∃ m, m = wr.heap.size := ⟨_, rfl⟩
      have bw2 : Below wr.heap.size wr w2 := by rw [hw2]; exact (Below.refl _ _).alloc (Nat.le_refl _) _
      have k2 : w2.heap[m]? = some (.cells #[.string wd, .slice Fa f.length fa] 78 (0, 0)) := by rw [hw2, hm]; exact blk_alloc_new _ _
      obtain ⟨z1, z2⟩ := cell2_of k2
      have hmb : m ≠ b := fun e => by have := hd.lt; omega
      have D2 := Lib.hid (hd.later bw2)
      have B2 := Lib.hid (hbw.trans (bw2.mono hbw.size))
      have A4 := Lib.hid a4
      have HW2 := Lib.hid (And.intro hw2 hm)
      have K2 := Lib.hid k2
      have HMB := Lib.hid hmb
      have CW := Lib.hid (bd_write wd D2.out (by omega) B2.out.size)
      clear hx hts hte hel hL hd hbw hw2 hm bw2 k2 hmb a4 hqa
      go_upto_region 5 with (fail)
      rw [← HW2.out.1, ← HW2.out.2]
      clear a1 a2
      go_wp2_with (fail)
      refine CW.out.mono ?_
      rintro e w3 ⟨rfl, d3, b3, kk⟩
      have k3 : w3.heap[m]? = some (.cells #[.string wd, .slice Fa f.length fa] 78 (0, 0)) := (kk m _ _ _ K2.out (by decide) HMB.out).trans K2.out
      have D3 := Lib.hid d3
      have B3 := Lib.hid (B2.out.trans b3)
      obtain ⟨z3, z4⟩ := cell2_of k3
      have hpre : L.length + wd.size + (flT f).length + 1 ≤ 1000000000 := hte2
      obtain ⟨P, hP⟩ : ∃ P, P = L ++ wd.data.toList := ⟨_, rfl⟩
      have hPl : P.length = L.length + wd.size := by rw [hP, List.length_append]; simp
      rw [← hP] at D3
      have HTS2 := Lib.hid (show textL (es.take (i + 1)) = P ++ flT f ++ [10] by rw [HTS.out, hP]; simp only [List.append_assoc])
      clear CW d3 b3 kk z1 z2 hP k3
      go_wp2_with (fail)
      go_loopw [25] (fun kv wz => ∃ k : Nat, k ≤ f.length ∧ kv = .int .i64 (k : Nat) ∧ Bd w.heap.size b (P ++ flT (f.take k)) wz ∧ Below w.heap.size w wz) (fun kv _ => f.length - (intOf kv).toNat)
      case atStart => exact ⟨0, Nat.zero_le _, rfl, by have e : P ++ flT (f.take 0) = P := by simp [flT]
                                                       rw [e]; exact D3.out, B3.out⟩
      case round =>
        obtain ⟨k, hk, rfl, hdk, hbk⟩ := hrel
        by_cases hkl : k < f.length
        · have g2 : decide (k < f.length) = true := by simpa using hkl
          obtain ⟨c, hc⟩ : ∃ c, f[k]? = some c := ⟨_, List.getElem?_eq_getElem hkl⟩
          obtain ⟨fb, fo, rfl, hcell⟩ := reads_at A4.out hbk hc
          have hfs := flT_succ f k c hc
          have hfl := flT_le f (k + 1)
          rw [hfs, List.length_append, List.length_append] at hfl
          obtain ⟨E, hE⟩ : ∃ E, E = enc c := ⟨_, rfl⟩
          have hEz : (enc c).data.toList.length = E.size := by rw [hE]; simp
          rw [hEz] at hfl
          have CU := Lib.hid (fun w : World => ubytes_calls c w)
          rw [← hE] at CU
          have HFS := Lib.hid (show flT (f.take (k + 1)) = flT (f.take k) ++ ((if k = 0 then [47] else []) ++ E.data.toList) by rw [hfs, hE])
          obtain ⟨Q, hQ⟩ : ∃ Q, Q = flT (f.take k) := ⟨_, rfl⟩
          rw [← hQ] at hdk hfl HFS
          have DK := Lib.hid hdk
          have BK := Lib.hid hbk
          clear hc hfs hEz hE hQ hdk hbk
          by_cases h0 : k = 0
          · subst h0
            rw [Nat.add_zero] at hcell
            have E1 := Lib.hid (show flT (f.take 1) = Q ++ ([47] ++ E.data.toList) from HFS.out)
            clear HFS
            have hQl : (if (0 : Nat) = 0 then [(47 : UInt8)] else []).length = 1 := rfl
            rw [hQl] at hfl
            have CB := Lib.hid (bd_byte 47 DK.out (by rw [List.length_append]; omega) BK.out.size)
            clear hQl
            go_wp2_with (fail)
            refine CB.out.mono ?_
            rintro e w4 ⟨rfl, d4, b4, _⟩
            have CW := Lib.hid (bd_write E d4 (by rw [List.length_append, List.length_append]; show P.length + Q.length + 1 + _ ≤ _; omega) (BK.out.trans b4).size)
            have B4 := Lib.hid (BK.out.trans b4)
            clear CB d4 b4
            go_wp2_with (fail)
            refine (CU.out _).mono ?_
            rintro e w5 ⟨rfl, rfl⟩
            clear CU
            go_wp2_with (fail)
            refine CW.out.mono ?_
            rintro e w6 ⟨rfl, d6, b6, _⟩
            have D6 := Lib.hid d6
            have B6 := Lib.hid (B4.out.trans b6)
            clear CW d6 b6
            go_wp2_with (fail)
            go_roundw
            case rel => exact ⟨1, hkl, by first | rfl | go_num, by rw [E1.out]; have := D6.out; simpa only [List.append_assoc] using this, B6.out⟩
            case measure => simp [intOf]; omega
          · have g3 : ((k : Int) == 0) = false := by simp; omega
            rw [if_neg h0] at hfl
            have CW := Lib.hid (bd_write E DK.out (by rw [List.length_append]; show P.length + Q.length + _ ≤ _; rw [List.length_nil] at hfl; omega) BK.out.size)
            have B4 := BK
            clear DK
            go_wp2_with (fail)
            refine (CU.out _).mono ?_
            rintro e w5 ⟨rfl, rfl⟩
            clear CU
            go_wp2_with (fail)
            refine CW.out.mono ?_
            rintro e w6 ⟨rfl, d6, b6, _⟩
            have D6 := Lib.hid d6
            have B6 := Lib.hid (B4.out.trans b6)
            clear CW d6 b6
            go_wp2_with (fail)
            go_roundw
            case rel => exact ⟨k + 1, hkl, by go_num, by rw [HFS.out, if_neg h0]; have := D6.out; simpa only [List.append_assoc, List.nil_append] using this, B6.out⟩
            case measure => simp [intOf]; omega
        · obtain rfl : k = f.length := by omega
          have g2 : decide (f.length < f.length) = false := by simp
          rw [List.take_length] at hdk
          have CB := Lib.hid (bd_byte 10 hdk (by rw [List.length_append]; omega) hbk.size)
          have BK := Lib.hid hbk
          clear hdk hbk
          go_wp2_with (fail)
          refine CB.out.mono ?_
          rintro e w4 ⟨rfl, d4, b4, _⟩
          have D4 := Lib.hid d4
          have B4 := Lib.hid (BK.out.trans b4)
          clear CB d4 b4
          go_wp2_with (fail)
          go_roundw
          case rel => exact ⟨i + 1, hlt, by go_num, by rw [HTS2.out]; exact D4.out, B4.out⟩
          case measure => simp [intOf]; omega
    · obtain rfl : i = n := by omega
      have g1 : decide (i < i) = false := by simp
      rw [List.take_of_length_le (by have := HN.out; omega)] at hd
      have CS := Lib.hid (bd_string hd hbw.size)
      have BK := Lib.hid hbw
      obtain ⟨T, hTx⟩ : ∃ T, T = mkB (textL es) := ⟨_, rfl⟩
      rw [bd_mk, ← hTx] at CS
      have hTz : T.size ≤ 1000000000 := by rw [hTx, mk_size]; exact hz
      have HTX := Lib.hid hTx
      clear hd hbw hTx
      go_wp2_with (fail)
      refine CS.out.mono ?_
      rintro e w4 ⟨rfl, b4⟩
      have B4 := Lib.hid (BK.out.trans b4)
      have CP := Lib.hid (parse_got T w4 (by omega) (HT.out.below B4.out))
      unfold PPost at CP
      obtain ⟨fs, hfs⟩ : ∃ fs, fs = (parseV T).1 := ⟨_, rfl⟩
      obtain ⟨er, her⟩ : ∃ er, er = (parseV T).2.2 := ⟨_, rfl⟩
      obtain ⟨ln, hln⟩ : ∃ ln, ln = (parseV T).2.1 := ⟨_, rfl⟩
      rw [← hfs, ← her, ← hln] at CP
      have hpv : textV es = if er = 0 ∧ es = fs then T else ⟨#[]⟩ := by unfold textV; rw [← HTX.out, ← her, ← hfs]
      have HPV := Lib.hid hpv
      have HPS := Lib.hid (show smallE fs by have := HP.out; rw [← HTX.out, ← hfs] at this; exact this)
      clear CS b4 hfs her hln hpv
      go_wp2_with (fail)
      refine CP.out.mono ?_
      rintro e w5 ⟨⟨v5, rfl, g5⟩, b5⟩
      have B5 := Lib.hid (B4.out.trans (b5.mono B4.out.size))
      have CE := Lib.hid (efunc_calls es fs _ v5 w5 (RA.out.below B5.out) g5 HE.out HPS.out)
      rw [← HN.out] at CE
      obtain ⟨A5, c5, hv5, _, _⟩ := g5.out
      subst hv5
      clear CP b5 g5
      by_cases her : er = 0
      · subst her
        go_wp2_with (fail)
        refine CE.out.mono ?_
        rintro e w6 ⟨rfl, b6⟩
        have B6 := Lib.hid (B5.out.trans (b6.mono B5.out.size))
        clear CE b6
        by_cases hef : es = fs
        · rw [decide_eq_true hef]
          have E := Lib.hid (show textV es = T by rw [HPV.out, if_pos ⟨by first | rfl | trivial, hef⟩])
          clear hef
          go_wp2_with (fail)
          go_ret
          exact ⟨by rw [E.out]; rfl, B6.out⟩
        · rw [decide_eq_false hef]
          have E := Lib.hid (show textV es = ⟨#[]⟩ by rw [HPV.out, if_neg (fun h => hef h.2)])
          clear hef
          go_wp2_with (fail)
          go_ret
          exact ⟨by rw [E.out]; rfl, B6.out⟩
      · have g3 : ((er : Int) == 0) = false := by simp; omega
        have E := Lib.hid (show textV es = ⟨#[]⟩ by rw [HPV.out, if_neg (fun h => her h.1)])
        clear CE
        go_wp2_with (fail)
        go_ret
        exact ⟨by rw [E.out]; rfl, B5.out⟩
end Go.Proofs.YtmpckoincdkeeaaDoor

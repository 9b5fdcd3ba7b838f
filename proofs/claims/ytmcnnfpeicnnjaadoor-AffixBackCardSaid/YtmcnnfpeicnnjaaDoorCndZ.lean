/- cond.Text. -/
import Derived.Test.YtmcnnfpeicnnjaaDoorCndY
namespace Go.Proofs.YtmcnnfpeicnnjaaDoor
open Go.RowKit Go.Deep Go.Own
set_option linter.unusedVariables false
theorem textIs_succ (l : List ItP) (i : Nat) (x : ItP) (h : l[i]? = some x) : textIs (l.take (i + 1)) = textIs (l.take i) ++ textI x := by
  obtain ⟨hl, hx⟩ := List.getElem?_eq_some_iff.1 h
  unfold textIs
  rw [List.take_succ_eq_append_getElem hl, hx, List.flatMap_append, List.flatMap_singleton]
theorem textIs_le (l : List ItP) (i : Nat) : (textIs (l.take i)).length ≤ (textIs l).length := by
  have : textIs l = textIs (l.take i) ++ textIs (l.drop i) := by unfold textIs; rw [← List.flatMap_append, List.take_append_drop]
  rw [this, List.length_append]; omega
theorem small_read {s : ByteArray} {l : List ItP} (h : condV s = some l) (hs : s.size ≤ 1000000) : smallI l := by
  obtain ⟨_, _, h3, h4⟩ := cond_read h
  exact ⟨by omega, fun x hx => by have := h4 x hx; omega⟩
theorem text_small (n : Nat) : ∀ (l : List ItP), (∀ x ∈ l, x.set.length ≤ n) → (textIs l).length ≤ l.length * (4 * n + 3)
  | [], _ => by simp [textIs]
  | x :: t, h => by
    have ih := text_small n t (fun y hy => h y (List.mem_cons_of_mem _ hy))
    have h1 := h x List.mem_cons_self
    have h2 := textI_len x
    have h3 : textIs (x :: t) = textI x ++ textIs t := rfl
    rw [h3, List.length_append, List.length_cons, Nat.succ_mul]
    omega
set_option maxRecDepth 100000 in
set_option maxHeartbeats 16000000 in
theorem ctext_calls (l : List ItP) (va : Value) (w : World) (ha : GotI w va l) (hv : ∀ x ∈ l, ValI x) (hl : smallI l) (hz : (textIs l).length ≤ 900000) (hT : TabsL w) :
    Calls Tryd.prog 16 #[va] w fun e w' => e = .returned (.string (condT l)) ∧ Below w.heap.size w w' := by
  obtain ⟨A, ca, rfl, _, ra⟩ := ha.out
  have RA := Lib.hid ha
  have RR := Lib.hid ra
  have HV := Lib.hid hv
  have HL := Lib.hid hl
  have HT := Lib.hid hT
  have HZ := Lib.hid hz
  have he1 := hl.1
  obtain ⟨b, hb⟩ : ∃ b, b = w.heap.size := ⟨_, rfl⟩
  obtain ⟨w1, hw1⟩ : ∃ w1, w1 = w.alloc (.cells #[.pointer none, .slice none 0 0] 76) := ⟨_, rfl⟩
  have D1 := Lib.hid (show Bd w.heap.size b [] w1 by rw [hw1, hb]; exact Bd.new w)
  have B1 := Lib.hid (show Below w.heap.size w w1 by rw [hw1]; exact (Below.refl _ _).alloc (Nat.le_refl _) _)
  have HW1 := Lib.hid hw1
  have HB := Lib.hid hb
  obtain ⟨n, hn⟩ : ∃ n, n = l.length := ⟨_, rfl⟩
  have HN := Lib.hid hn
  rw [← hn] at he1
  rw [← hn]
  obtain ⟨R, hR⟩ : ∃ R, R = condT l := ⟨_, rfl⟩
  rw [← hR]
  have HR := Lib.hid hR
  clear ha hv hl hT hz hb hw1 hn ra hR
  go_enter Tryd.func16, Tryd.ntmps16
  go_upto_region 2 with (fail)
  rw [← HW1.out, ← HB.out]
  go_wp2_with (fail)
  go_loopw [11] (fun iv wr => ∃ i : Nat, i ≤ n ∧ iv = .int .i64 (i : Nat) ∧ Bd w.heap.size b (textIs (l.take i)) wr ∧ Below w.heap.size w wr) (fun iv _ => n - (intOf iv).toNat)
  case atStart => exact ⟨0, Nat.zero_le _, rfl, D1.out, B1.out⟩
  case round =>
    obtain ⟨i, hi, rfl, hd, hbw⟩ := hrel
    by_cases hlt : i < n
    · have g1 : decide (i < n) = true := by simpa using hlt
      obtain ⟨x, hx⟩ : ∃ x, l[i]? = some x := ⟨_, List.getElem?_eq_getElem (by have := HN.out; omega)⟩
      obtain ⟨qa, oa, Fa, fa, rfl, hqa, a0', a1', a2', _, a4⟩ := RR.out i x hx
      have a0 := (hbw.cell (p := ⟨qa, oa + i * 3, none⟩) hqa).trans a0'
      have a1 := (hbw.cell (p := ⟨qa, oa + i * 3 + 1, none⟩) hqa).trans a1'
      have a2 := (hbw.cell (p := ⟨qa, oa + i * 3 + 2, none⟩) hqa).trans a2'
      clear a0' a1' a2'
      have hts := textIs_succ l i x hx
      have hte := textIs_le l (i + 1)
      rw [hts, List.length_append] at hte
      have hxv := HV.out x (List.mem_of_getElem? hx)
      have hfz := HL.out.2 x (List.mem_of_getElem? hx)
      obtain ⟨w2, hw2⟩ : ∃ w2, w2 = wr.alloc (.cells #[Value.bool x.any, .bool x.neg, .slice Fa x.set.length fa] 43) := ⟨_, rfl⟩
      obtain ⟨m, hm⟩ : ∃ m, m = wr.heap.size := ⟨_, rfl⟩
      have bw2 : Below wr.heap.size wr w2 := by rw [hw2]; exact (Below.refl _ _).alloc (Nat.le_refl _) _
      have k2 : w2.heap[m]? = some (.cells #[.bool x.any, .bool x.neg, .slice Fa x.set.length fa] 43 (0, 0)) := by rw [hw2, hm]; exact blk_alloc_new _ _
      obtain ⟨z0, z1, z2⟩ := cell3_of k2
      have D2 := Lib.hid (hd.later bw2)
      have B2 := Lib.hid (hbw.trans (bw2.mono hbw.size))
      have CX := Lib.hid (tx_calls x Fa fa w2 hxv (a4.later (hbw.trans (bw2.mono hbw.size))) hfz)
      obtain ⟨E, hE⟩ : ∃ E, E = mkB (textI x) := ⟨_, rfl⟩
      rw [← hE] at CX
      have hEz : E.size = (textI x).length := by rw [hE, mk_size]
      obtain ⟨L, hL⟩ : ∃ L, L = textIs (l.take i) := ⟨_, rfl⟩
      rw [← hL] at hte D2
      have hlen : L.length + E.size ≤ 1000000 := by have := HZ.out; omega
      have HTS := Lib.hid (show textIs (l.take (i + 1)) = L ++ E.data.toList by rw [hts, hL, hE, mk_list])
      have HW2 := Lib.hid (And.intro hw2 hm)
      clear hx hts hte hd hbw hw2 hm bw2 k2 a4 hqa hxv hfz hE hEz hL
      go_upto_region 5 with (fail)
      rw [← HW2.out.1, ← HW2.out.2]
      clear a0 a1 a2
      go_wp2_with (fail)
      refine CX.out.mono ?_
      rintro e w3 ⟨rfl, b3⟩
      have D3 := Lib.hid (D2.out.later b3)
      have B3 := Lib.hid (B2.out.trans (b3.mono B2.out.size))
      have CW := Lib.hid (bd_write E D3.out (by omega) B3.out.size)
      clear CX b3 z0 z1 z2
      go_wp2_with (fail)
      refine CW.out.mono ?_
      rintro e w4 ⟨rfl, d4, b4, _⟩
      have D4 := Lib.hid d4
      have B4 := Lib.hid (B3.out.trans b4)
      clear CW d4 b4
      go_wp2_with (fail)
      go_roundw
      case rel => exact ⟨i + 1, hlt, by go_num, by rw [HTS.out]; exact D4.out, B4.out⟩
      case measure => simp [intOf]; omega
    · obtain rfl : i = n := by omega
      have g1 : decide (i < i) = false := by simp
      rw [List.take_of_length_le (by have := HN.out; omega)] at hd
      have CS := Lib.hid (bd_string hd hbw.size)
      have BK := Lib.hid hbw
      obtain ⟨T, hTx⟩ : ∃ T, T = mkB (textIs l) := ⟨_, rfl⟩
      rw [mk_toArray, ← hTx] at CS
      have hTz : T.size ≤ 900000 := by rw [hTx, mk_size]; exact HZ.out
      have hpv : R = if condV T = some l then T else ⟨#[]⟩ := by rw [HR.out, hTx]; rfl
      have HPV := Lib.hid hpv
      clear hd hbw hTx hpv
      go_wp2_with (fail)
      refine CS.out.mono ?_
      rintro e w4 ⟨rfl, b4⟩
      have B4 := Lib.hid (BK.out.trans b4)
      have CP := Lib.hid (cparse_got T w4 (by omega) (HT.out.below B4.out))
      unfold GPost at CP
      clear CS b4
      go_wp2_with (fail)
      refine CP.out.mono ?_
      rintro e w5 ⟨⟨v5, fs, ok, rfl, g5, h1, h2⟩, b5⟩
      have B5 := Lib.hid (B4.out.trans (b5.mono B4.out.size))
      have H12 := Lib.hid (And.intro h1 h2)
      have G5 := Lib.hid g5
      obtain ⟨A5, c5, hv5, _, _⟩ := g5.out
      subst hv5
      clear CP b5 g5 h1 h2
      cases ok with
      | false =>
        have E := Lib.hid (show R = ⟨#[]⟩ by rw [HPV.out, (H12.out.2 rfl).1, if_neg (by simp)])
        go_wp2_with (fail)
        go_ret
        exact ⟨by rw [E.out]; rfl, B5.out⟩
      | true =>
        have hfs := H12.out.1 rfl
        have CE := Lib.hid (ifunc_calls l fs _ _ w5 (RA.out.below B5.out) G5.out HL.out (small_read hfs (by omega)))
        rw [← HN.out] at CE
        have HFS := Lib.hid hfs
        clear hfs
        go_wp2_with (fail)
        refine CE.out.mono ?_
        rintro e w6 ⟨rfl, b6⟩
        have B6 := Lib.hid (B5.out.trans (b6.mono B5.out.size))
        clear CE b6
        by_cases hef : l = fs
        · rw [decide_eq_true hef]
          have E := Lib.hid (show R = T by rw [HPV.out, HFS.out, if_pos (by rw [hef])])
          clear hef
          go_wp2_with (fail)
          go_ret
          exact ⟨by rw [E.out]; rfl, B6.out⟩
        · rw [decide_eq_false hef]
          have E := Lib.hid (show R = ⟨#[]⟩ by rw [HPV.out, HFS.out, if_neg (fun e => hef (Option.some.inj e).symm)])
          clear hef
          go_wp2_with (fail)
          go_ret
          exact ⟨by rw [E.out]; rfl, B6.out⟩
end Go.Proofs.YtmcnnfpeicnnjaaDoor

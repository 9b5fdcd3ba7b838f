/- ListAll. -/
import Derived.Test.YtmpckoincdkeeaaDoorLTxw
import Derived.Test.YtmpckoincdkeeaaDoorLOpn
namespace Go.Proofs.YtmpckoincdkeeaaDoor
open Go.RowKit Go.Deep Go.Own
set_option linter.unusedVariables false
def okE (e : Ent) : Bool := decide (e.1.size ≤ 100) && decide (e.2.length ≤ 60)
def fewV (es : List Ent) : Bool := decide (es.length ≤ 40) && es.all okE
theorem few_bad {es : List Ent} {i : Nat} {e : Ent} (h : es[i]? = some e) (hb : 100 < e.1.size ∨ 60 < e.2.length) : fewV es = false := by
  unfold fewV
  have : es.all okE = false := by
    rw [Bool.eq_false_iff]
    intro ha
    have := List.all_eq_true.1 ha e (List.mem_of_getElem? h)
    unfold okE at this
    simp at this
    omega
  rw [this, Bool.and_false]
theorem few_ok {es : List Ent} (h : fewV es = true) : es.length ≤ 40 ∧ ∀ e ∈ es, e.1.size ≤ 100 ∧ e.2.length ≤ 60 := by
  unfold fewV at h
  rw [Bool.and_eq_true, decide_eq_true_eq] at h
  refine ⟨h.1, fun e he => ?_⟩
  have := List.all_eq_true.1 h.2 e he
  unfold okE at this
  rw [Bool.and_eq_true, decide_eq_true_eq, decide_eq_true_eq] at this
  exact this
set_option maxRecDepth 100000 in
set_option maxHeartbeats 8000000 in
theorem few_calls (es : List Ent) (va : Value) (w : World) (ha : Got w va es) (hl : es.length ≤ 9223372036854775807) (hl2 : ∀ e ∈ es, e.1.size ≤ 9223372036854775807 ∧ e.2.length ≤ 9223372036854775807) :
    Calls Tryd.prog 22 #[va] w fun e w' => e = .returned (.bool (fewV es)) ∧ w = w' := by
  obtain ⟨A, ca, rfl, _, ra⟩ := ha.out
  have RA := Lib.hid ra
  have HL2 := Lib.hid hl2
  clear ra ha hl2
  obtain ⟨n, hn⟩ : ∃ n, n = es.length := ⟨_, rfl⟩
  have HN := Lib.hid hn
  rw [← hn] at hl ⊢
  clear hn
  go_enter Tryd.func22, Tryd.ntmps22
  go_wp2_with (fail)
  go_loopw [3] (fun iv wr => ∃ i : Nat, i ≤ n ∧ i ≤ 40 ∧ iv = .int .i64 (i : Nat) ∧ w = wr ∧ ∀ j e, j < i → es[j]? = some e → okE e = true) (fun iv _ => 40 - (intOf iv).toNat)
  case atStart => exact ⟨0, Nat.zero_le _, Nat.zero_le _, rfl, rfl, fun j e hj => absurd hj (Nat.not_lt_zero _)⟩
  case round =>
    obtain ⟨i, hi, hi4, rfl, rfl, hal⟩ := hrel
    have HA := Lib.hid hal
    clear hal
    by_cases hlt : i < n
    · have g1 : decide (i < n) = true := by simpa using hlt
      by_cases h40 : i < 40
      · have g2 : decide (i < 40) = true := by simpa using h40
        have g2' : decide ((i : Int) < 40) = true := by simp; omega
        obtain ⟨x, hx⟩ : ∃ x, es[i]? = some x := ⟨_, List.getElem?_eq_getElem (by have := HN.out; omega)⟩
        obtain ⟨qa, oa, Fa, fa, rfl, _, a1, a2, _, _⟩ := RA.out i x hx
        obtain ⟨z1, z2⟩ := HL2.out x (List.mem_of_getElem? hx)
        have HX := Lib.hid hx
        obtain ⟨wd, f⟩ := x
        simp only at a1 a2 z1 z2
        clear hx
        by_cases hb1 : 100 < wd.size
        · have g3 : decide (100 < (wd.size : Int)) = true := by simp; omega
          have E := Lib.hid (few_bad HX.out (.inl hb1))
          clear hb1
          go_wp2_with (fail)
          go_ret
          exact ⟨by rw [E.out]; rfl, by first | rfl | trivial⟩
        · have g3 : decide (100 < (wd.size : Int)) = false := by simp; omega
          by_cases hb2 : 60 < f.length
          · have g4 : decide (60 < (f.length : Int)) = true := by simp; omega
            have E := Lib.hid (few_bad HX.out (.inr hb2))
            clear hb1 hb2
            go_wp2_with (fail)
            go_ret
            exact ⟨by rw [E.out]; rfl, by first | rfl | trivial⟩
          · have g4 : decide (60 < (f.length : Int)) = false := by simp; omega
            have E := Lib.hid (show okE (wd, f) = true by unfold okE; simp; omega)
            clear hb1 hb2
            go_wp2_with (fail)
            go_roundw
            case rel => exact ⟨i + 1, by omega, by omega, by go_num, by first | rfl | trivial, fun j e hj he => by
              by_cases hji : j = i
              · subst hji
                rw [HX.out] at he
                obtain rfl := Option.some.inj he
                exact E.out
              · exact HA.out j e (by omega) he⟩
            case measure => simp [intOf]; omega
      · have g2 : decide (i < 40) = false := by simpa using h40
        have g2' : decide ((i : Int) < 40) = false := by simp; omega
        have E := Lib.hid (show fewV es = decide ((n : Int) ≤ 40) by
          by_cases hn4 : n ≤ 40
          · exfalso; omega
          · rw [decide_eq_false (by omega)]
            unfold fewV
            rw [decide_eq_false (by have := HN.out; omega), Bool.false_and])
        go_wp2_with (fail)
        go_ret
        exact ⟨by rw [E.out]; rfl, by first | rfl | trivial⟩
    · obtain rfl : i = n := by omega
      have g1 : decide (i < i) = false := by simp
      have g3 : decide ((i : Int) ≤ 40) = true := by simp; omega
      have E := Lib.hid (show fewV es = true by
        unfold fewV
        rw [Bool.and_eq_true]
        refine ⟨decide_eq_true (by have := HN.out; omega), List.all_eq_true.2 fun e he => ?_⟩
        obtain ⟨j, hj, hje⟩ := List.mem_iff_getElem.1 he
        exact HA.out j e (by have := HN.out; omega) (by rw [List.getElem?_eq_getElem hj, hje]))
      go_wp2_with (fail)
      go_ret
      exact ⟨by rw [E.out]; first | rfl | (simp; omega), by first | rfl | trivial⟩
set_option maxRecDepth 100000 in
set_option maxHeartbeats 16000000 in
theorem listAll_walk (s : ByteArray) (es : List Ent) (A : Option Addr) (cap : Nat) (w : World) (hs : s.size ≤ 140737488351232) (hG : Got w (.slice A es.length cap) es) (hl : es.length ≤ 9223372036854775807) (hl2 : ∀ e ∈ es, e.1.size ≤ 9223372036854775807 ∧ e.2.length ≤ 9223372036854775807) (hT : TabsL w) :
    Calls Tryd.prog 10 #[.string s, .slice A es.length cap] w fun e w' => e = .returned (.bool true) ∧ Below w.heap.size w w' := by
  have HT := Lib.hid hT
  have HG := Lib.hid hG
  have CF := Lib.hid (few_calls es _ w hG hl hl2)
  have CA := Lib.hid (fun w1 (hb : Below w.heap.size w w1) => lawake_calls w1 (HT.out.below hb))
  obtain ⟨n, hn⟩ : ∃ n, n = es.length := ⟨_, rfl⟩
  rw [← hn] at CF HG hl ⊢
  clear hG hl2 hT hn
  by_cases hbig : 2000 < s.size
  · have g1 : decide (2000 < (s.size : Int)) = true := by simp; omega
    clear hbig
    go_enter Tryd.func10, Tryd.ntmps10
    go_wp2_with (fail)
    refine (CA.out _ (Below.refl _ _)).mono ?_
    rintro e w1 ⟨rfl, b1⟩
    have B1 := Lib.hid b1
    clear b1 CA
    go_wp2_with (fail)
    go_ret
    exact ⟨rfl, B1.out⟩
  have g1 : decide (2000 < (s.size : Int)) = false := by simp; omega
  obtain ⟨fv, hfv⟩ : ∃ fv, fv = fewV es := ⟨_, rfl⟩
  rw [← hfv] at CF
  have HF := Lib.hid hfv
  have hs2 : s.size ≤ 2000 := by omega
  clear hfv hbig hs
  cases fv with
  | false =>
    go_enter Tryd.func10, Tryd.ntmps10
    go_wp2_with (fail)
    refine CF.out.mono ?_
    rintro e w0 ⟨rfl, hw0⟩
    subst hw0
    clear CF
    go_wp2_with (fail)
    refine (CA.out _ (Below.refl _ _)).mono ?_
    rintro e w1 ⟨rfl, b1⟩
    have B1 := Lib.hid b1
    clear b1 CA
    go_wp2_with (fail)
    go_ret
    exact ⟨rfl, B1.out⟩
  | true =>
    obtain ⟨f1, f2⟩ := few_ok HF.out.symm
    have HSM := Lib.hid (show smallE es from ⟨by omega, fun e he => by have := (f2 e he).2; omega⟩)
    have HTL := Lib.hid (show (textL es).length ≤ 1000000000 by
      have h1 := textL_bound 100 60 es f2
      have h2 : es.length * (100 + 4 * 60 + 2) ≤ 40 * (100 + 4 * 60 + 2) := Nat.mul_le_mul_right _ f1
      omega)
    have HPS := Lib.hid (parse_small s)
    have HPT := Lib.hid (parse_text s)
    have C1 := Lib.hid (parse_got s w (by omega) HT.out)
    have C2 := Lib.hid (fun w1 => parseD_got s w1 (by omega))
    unfold PPost at C1 C2
    obtain ⟨xs, hxs⟩ : ∃ xs, xs = (parseV s).1 := ⟨_, rfl⟩
    obtain ⟨er, her⟩ : ∃ er, er = (parseV s).2.2 := ⟨_, rfl⟩
    obtain ⟨ln, hln⟩ : ∃ ln, ln = (parseV s).2.1 := ⟨_, rfl⟩
    rw [← hxs, ← her, ← hln] at C1 C2
    rw [← hxs] at HPS HPT
    clear f1 f2 hxs her hln HF
    go_enter Tryd.func10, Tryd.ntmps10
    go_wp2_with (fail)
    refine CF.out.mono ?_
    rintro e w0 ⟨rfl, hw0⟩
    subst hw0
    clear CF
    go_wp2_with (fail)
    refine C1.out.mono ?_
    rintro e w1 ⟨⟨v1, rfl, g1x⟩, b1⟩
    have B1 := Lib.hid b1
    have G1 := Lib.hid g1x
    clear C1 b1 g1x
    go_wp2_with (fail)
    refine (C2.out _).mono ?_
    rintro e w2 ⟨⟨v2, rfl, g2x⟩, b2⟩
    have B2 := Lib.hid (B1.out.trans (b2.mono B1.out.size))
    have G2 := Lib.hid g2x
    have CS := Lib.hid (lsame_calls xs v1 v2 w2 (G1.out.below b2) g2x HPS.out.1 HPS.out.2)
    obtain ⟨A1, c1, hv1, _, _⟩ := G1.out.out
    obtain ⟨A2, c2, hv2, _, _⟩ := G2.out.out
    subst hv1 hv2
    clear C2 b2 g2x G1
    go_wp2_with (fail)
    refine CS.out.mono ?_
    rintro e w3 ⟨rfl, n3, rfl⟩
    have b23 := belowN w2 n3
    have B3 := Lib.hid (B2.out.trans (b23.mono B2.out.size))
    have G3 := Lib.hid (G2.out.below b23)
    clear CS b23 G2
    obtain ⟨w3, hw3⟩ : ∃ w3, w3 = w2.drewN n3 := ⟨_, rfl⟩
    rw [← hw3] at B3 G3 ⊢
    clear hw3 B2
    have CT1 := Lib.hid (text_c es _ w3 (HG.out.below B3.out) HSM.out HTL.out (HT.out.below B3.out) (parse_small _))
    obtain ⟨T1, hT1⟩ : ∃ T, T = textV es := ⟨_, rfl⟩
    rw [← hT1] at CT1
    have HT1 := Lib.hid hT1
    clear hT1
    go_wp2_with (fail)
    refine CT1.out.mono ?_
    rintro e w4 ⟨rfl, b4⟩
    have B4 := Lib.hid (B3.out.trans (b4.mono B3.out.size))
    have G4 := Lib.hid (G3.out.below b4)
    have CT2 := Lib.hid (textD_c es _ w4 (HG.out.below B4.out) HSM.out HTL.out)
    rw [← HT1.out] at CT2
    clear CT1 b4 G3 B3
    go_wp2_with (fail)
    refine CT2.out.mono ?_
    rintro e w5 ⟨rfl, b5⟩
    have B5 := Lib.hid (B4.out.trans (b5.mono B4.out.size))
    have G5 := Lib.hid (G4.out.below b5)
    have CT3 := Lib.hid (text_c xs _ w5 G5.out HPS.out HPT.out (HT.out.below B5.out) (parse_small _))
    obtain ⟨T2, hT2⟩ : ∃ T, T = textV xs := ⟨_, rfl⟩
    rw [← hT2] at CT3
    have HT2 := Lib.hid hT2
    clear hT2 CT2 b5 G4 B4
    go_wp2_with (fail)
    refine CT3.out.mono ?_
    rintro e w6 ⟨rfl, b6⟩
    have B6 := Lib.hid (B5.out.trans (b6.mono B5.out.size))
    have CT4 := Lib.hid (textD_c xs _ w6 (G5.out.below b6) HPS.out HPT.out)
    rw [← HT2.out] at CT4
    clear CT3 b6 G5 B5
    go_wp2_with (fail)
    refine CT4.out.mono ?_
    rintro e w7 ⟨rfl, b7⟩
    have B7 := Lib.hid (B6.out.trans (b7.mono B6.out.size))
    clear CT4 b7 B6
    go_wp2_with (fail)
    refine (CA.out _ B7.out).mono ?_
    rintro e w8 ⟨rfl, b8⟩
    have B8 := Lib.hid (B7.out.trans (b8.mono B7.out.size))
    clear CA b8
    go_wp2_with (fail)
    go_ret
    exact ⟨rfl, B8.out⟩
end Go.Proofs.YtmpckoincdkeeaaDoor

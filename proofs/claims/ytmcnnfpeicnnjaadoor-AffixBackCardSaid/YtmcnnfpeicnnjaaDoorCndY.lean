/- cond.same, slices.EqualFunc over items, cond.Text. -/
import Derived.Test.YtmcnnfpeicnnjaaDoorCndX
import Derived.Deep.DeepCutAuto
namespace Go.Proofs.YtmcnnfpeicnnjaaDoor
open Go.RowKit Go.Deep Go.Own
set_option linter.unusedVariables false
/-- what a caller reads of items -/
structure GotI (w : World) (v : Value) (l : List ItP) : Prop where
  out : ∃ A c, v = .slice A l.length c ∧ l.length ≤ c ∧ ∀ j x, l[j]? = some x → ∃ q o B cf, A = some ⟨q, o, none⟩ ∧ q < w.heap.size ∧ w.cell? ⟨q, o + j * 3, none⟩ = some (.bool x.any) ∧ w.cell? ⟨q, o + j * 3 + 1, none⟩ = some (.bool x.neg) ∧ w.cell? ⟨q, o + j * 3 + 2, none⟩ = some (.slice B x.set.length cf) ∧ x.set.length ≤ cf ∧ Reads w B x.set
theorem cells3 (l : List ItV) (j : Nat) (x : ItV) (h : l[j]? = some x) : (l.flatMap itCells)[j * 3]? = some (.bool x.p.any) ∧ (l.flatMap itCells)[j * 3 + 1]? = some (.bool x.p.neg) ∧ (l.flatMap itCells)[j * 3 + 2]? = some x.v := by
  induction l generalizing j with
  | nil => simp at h
  | cons y l ih =>
    cases j with
    | zero =>
      obtain rfl : y = x := by simpa using h
      simp [itCells, ItV.v]
    | succ j =>
      have := ih j (by simpa using h)
      have e1 : ∀ k, ((y :: l).flatMap itCells)[k + 3]? = (l.flatMap itCells)[k]? := fun k => by simp [itCells]
      rw [show (j + 1) * 3 = j * 3 + 3 by omega, show j * 3 + 3 + 1 = (j * 3 + 1) + 3 by omega, show j * 3 + 3 + 2 = (j * 3 + 2) + 3 by omega, e1, e1, e1]
      exact this
theorem goti_of {w : World} {base : Nat} {v : Value} {xs : List ItV} (hR : RowIt w base v xs) (hF : FlIt w base xs) : GotI w v (xs.map ItV.p) := by
  obtain ⟨A, c, rfl, h1, h2⟩ := row_is hR
  refine ⟨A, c, by rw [List.length_map], by rw [List.length_map]; exact h1, fun j e he => ?_⟩
  rw [List.getElem?_map] at he
  obtain ⟨x, hx, rfl⟩ := Option.map_eq_some_iff.1 he
  have hl : 0 < xs.length := by have := (List.getElem?_eq_some_iff.1 hx).1; omega
  obtain ⟨q, cap, e, _, hq, _, _, hc, _⟩ := row_at hR hl
  injection e with e1 e2 e3
  obtain ⟨k0, k1, k2⟩ := cells3 xs j x hx
  obtain ⟨B, cf, e4, hcf, hr⟩ := (hF x (List.mem_of_getElem? hx)).reads
  refine ⟨q, 0, B, cf, e1, hq, ?_, ?_, ?_, hcf, hr⟩
  · rw [Nat.zero_add]; exact hc _ _ k0
  · rw [Nat.zero_add]; exact hc _ _ k1
  · rw [Nat.zero_add]
    show w.cell? _ = some (.slice B x.p.set.length cf)
    rw [← e4]; exact hc _ _ k2
theorem GotI.below {w w' : World} {v : Value} {es : List ItP} (h : GotI w v es) (hb : Below w.heap.size w w') : GotI w' v es := by
  obtain ⟨A, c, e, h1, h2⟩ := h.out
  refine ⟨A, c, e, h1, fun j x hx => ?_⟩
  obtain ⟨q, o, B, cf, e1, hq, c0, c1, c2, h3, h4⟩ := h2 j x hx
  exact ⟨q, o, B, cf, e1, Nat.lt_of_lt_of_le hq hb.size, (hb.cell (p := ⟨q, o + j * 3, none⟩) hq).trans c0, (hb.cell (p := ⟨q, o + j * 3 + 1, none⟩) hq).trans c1, (hb.cell (p := ⟨q, o + j * 3 + 2, none⟩) hq).trans c2, h3, h4.later hb⟩
theorem GotI.nil (w : World) : GotI w (.slice none 0 0) [] := ⟨⟨none, 0, rfl, Nat.le_refl _, fun j x hj => by simp at hj⟩⟩
def GPost (w : World) (s : ByteArray) (e : Ending) (w' : World) : Prop :=
  (∃ (v : Value) (l : List ItP) (ok : Bool), e = .returned (.tuple #[v, .bool ok]) ∧ GotI w' v l ∧ (ok = true → condV s = some l) ∧ (ok = false → condV s = none ∧ l = [])) ∧ Below w.heap.size w w'
theorem cparse_got (s : ByteArray) (w : World) (hs : s.size ≤ 1000000000) (hT : TabsL w) : Calls Tryd.prog 15 #[.string s] w (GPost w s) :=
  (cparse_calls s w hs hT).mono fun e w' ⟨⟨v, xs, ok, e1, h1, h2, h3, h4⟩, hb⟩ => ⟨⟨v, xs.map ItV.p, ok, e1, goti_of h1 h2, h3, fun h => ⟨(h4 h).1, by rw [(h4 h).2]; rfl⟩⟩, hb⟩
theorem equal_calls (A B : Option Addr) (c d : Nat) (xs ys : List Int) (w : World) (hA : Reads w A xs) (hB : Reads w B ys) (hx : xs.length ≤ 1000000) (hy : ys.length ≤ 1000000) :
    Calls Tryd.prog 60 #[.slice A xs.length c, .slice B ys.length d] w fun e w' => e = .returned (.bool (decide (xs = ys))) ∧ ∃ q, w' = w.drewN q := by
  by_cases hl : xs.length = ys.length
  · by_cases h0 : 0 < xs.length
    · obtain ⟨b1, o1, rfl, h1⟩ := hA h0
      obtain ⟨b2, o2, rfl, h2⟩ := hB (by omega)
      have := Tryd.slices_Equal_int b1 o1 xs.length c b2 o2 ys.length d xs ys w (Nat.le_refl _) (Nat.le_refl _) (by omega) (by omega) (fun j hj => h1 w (since_of_below (Below.refl _ _)) j hj) (fun j hj => h2 w (since_of_below (Below.refl _ _)) j hj)
      rw [List.take_length, List.take_length] at this
      have e : (xs == ys) = decide (xs = ys) := by
        by_cases h : xs = ys
        · rw [h]; simp
        · rw [decide_eq_false h, beq_eq_false_iff_ne.2 h]
      rw [e] at this
      exact this
    · have hx0 : xs = [] := List.length_eq_zero_iff.1 (by omega)
      have hy0 : ys = [] := List.length_eq_zero_iff.1 (by omega)
      subst hx0 hy0
      exact (Tryd.slices_Equal_int_empty A B c 0 d w (by omega)).mono fun e w' ⟨h1, h2⟩ => ⟨h1, 0, h2⟩
  · have hne : xs ≠ ys := fun h => hl (by rw [h])
    rw [decide_eq_false hne]
    exact (Tryd.slices_Equal_int_lens A B xs.length c ys.length d w hl).mono fun e w' ⟨h1, h2⟩ => ⟨h1, 0, h2⟩
set_option maxRecDepth 100000 in
set_option maxHeartbeats 4000000 in
theorem isame_calls (x y : ItP) (A B : Option Addr) (c d : Nat) (w : World) (hA : Reads w A x.set) (hB : Reads w B y.set) (hx : x.set.length ≤ 1000000) (hy : y.set.length ≤ 1000000) :
    Calls Tryd.prog 39 #[.agg #[.bool x.any, .bool x.neg, .slice A x.set.length c], .agg #[.bool y.any, .bool y.neg, .slice B y.set.length d]] w fun e w' => e = .returned (.bool (decide (x = y))) ∧ Below w.heap.size w w' := by
  obtain ⟨w2, hw2⟩ : ∃ w2, w2 = (w.alloc (.cells #[Value.bool x.any, .bool x.neg, .slice A x.set.length c] 43)).alloc (.cells #[Value.bool y.any, .bool y.neg, .slice B y.set.length d] 43) := ⟨_, rfl⟩
  have b2 : Below w.heap.size w w2 := by rw [hw2]; exact ((Below.refl _ _).alloc (Nat.le_refl _) _).alloc (by simp) _
  have C1 := Lib.hid (equal_calls A B c d x.set y.set w2 (hA.later b2) (hB.later b2) hx hy)
  have B2 := Lib.hid b2
  have HW := Lib.hid hw2
  clear hA hB b2 hw2
  obtain ⟨xa, xn, xs⟩ := x
  obtain ⟨ya, yn, ys⟩ := y
  simp only at *
  by_cases hq : xa = ya ∧ xn = yn
  · obtain ⟨rfl, rfl⟩ := hq
    have hd : decide ((⟨xa, xn, xs⟩ : ItP) = ⟨xa, xn, ys⟩) = decide (xs = ys) := by
      by_cases h : xs = ys
      · rw [decide_eq_true h, decide_eq_true (by rw [h])]
      · rw [decide_eq_false h, decide_eq_false (fun e => h (by injection e))]
    rw [hd]
    obtain ⟨r, hr⟩ : ∃ r, r = decide (xs = ys) := ⟨_, rfl⟩
    rw [← hr] at C1 ⊢
    clear hd hr
    cases xa <;> cases xn <;>
    · go_enter Tryd.func39, Tryd.ntmps39
      go_wp2_with (fail)
      rw [← HW.out]
      refine C1.out.mono ?_
      rintro e w3 ⟨rfl, n, rfl⟩
      go_wp2_with (fail)
      go_ret
      exact ⟨rfl, B2.out.trans ((belowN w2 n).mono B2.out.size)⟩
  · have hd : decide ((⟨xa, xn, xs⟩ : ItP) = ⟨ya, yn, ys⟩) = false := decide_eq_false fun e => hq (by injection e with e1 e2 _; exact ⟨e1, e2⟩)
    rw [hd]
    clear hd C1
    cases xa <;> cases ya <;> cases xn <;> cases yn <;> first
      | exact absurd ⟨rfl, rfl⟩ hq
      | (clear hq
         go_enter Tryd.func39, Tryd.ntmps39
         go_wp2_with (fail)
         go_ret
         exact ⟨rfl, by rw [← HW.out]; exact B2.out⟩)
def smallI (l : List ItP) : Prop := l.length ≤ 1000000 ∧ ∀ x ∈ l, x.set.length ≤ 1000000
set_option maxRecDepth 100000 in
set_option maxHeartbeats 8000000 in
theorem ifunc_calls (es fs : List ItP) (va vb : Value) (w : World) (ha : GotI w va es) (hb : GotI w vb fs) (he : smallI es) (hf : smallI fs) :
    Calls Tryd.prog 38 #[va, vb, .func (.func 39) #[] #[]] w fun e w' => e = .returned (.bool (decide (es = fs))) ∧ Below w.heap.size w w' := by
  obtain ⟨A, ca, rfl, _, ra⟩ := ha.out
  obtain ⟨B, cb, rfl, _, rb⟩ := hb.out
  have RA := Lib.hid ha
  have RB := Lib.hid hb
  have HE := Lib.hid he
  have HF := Lib.hid hf
  have he1 := he.1
  have hf1 := hf.1
  clear ra rb ha hb he hf
  by_cases hl : es.length = fs.length
  · have g0 : ((es.length : Int) == (fs.length : Int)) = true := by simp; omega
    have HL := Lib.hid hl
    obtain ⟨n, hn⟩ : ∃ n, n = es.length := ⟨_, rfl⟩
    have hn2 : n = fs.length := by omega
    have HN := Lib.hid (And.intro hn hn2)
    rw [← hn, ← hn2]
    rw [← hn] at he1
    clear hl hn hn2 hf1 g0
    go_enter Tryd.func38, Tryd.ntmps38
    go_wp2_with (fail)
    go_loopw [17] (fun iv wr => ∃ i : Nat, i ≤ n ∧ iv = .int .i64 (i : Nat) ∧ es.take i = fs.take i ∧ Below w.heap.size w wr) (fun iv _ => n - (intOf iv).toNat)
    case atStart => exact ⟨0, Nat.zero_le _, rfl, rfl, Below.refl _ _⟩
    case round =>
      obtain ⟨i, hi, rfl, htk, hbw⟩ := hrel
      obtain ⟨n1, n2⟩ := HN.out
      by_cases hlt : i < n
      · have g1 : decide (i < n) = true := by simpa using hlt
        obtain ⟨x, hx⟩ : ∃ x, es[i]? = some x := ⟨_, List.getElem?_eq_getElem (by omega)⟩
        obtain ⟨y, hy⟩ : ∃ y, fs[i]? = some y := ⟨_, List.getElem?_eq_getElem (by omega)⟩
        obtain ⟨A', ca', e1, _, ra⟩ := (RA.out.below hbw).out
        obtain ⟨B', cb', e2, _, rb⟩ := (RB.out.below hbw).out
        injection e1 with e1 _ e3
        injection e2 with e2 _ e4
        subst e1 e2 e3 e4
        obtain ⟨qa, oa, Fa, fa, rfl, hqa, a0, a1, a2, _, a4⟩ := ra i x hx
        obtain ⟨qb, ob, Fb, fb, rfl, hqb, b0, b1, b2, _, b4⟩ := rb i y hy
        obtain ⟨w2, hw2⟩ : ∃ w2, w2 = (wr.alloc (.cells #[Value.bool x.any, .bool x.neg, .slice Fa x.set.length fa] 43)).alloc (.cells #[Value.bool y.any, .bool y.neg, .slice Fb y.set.length fb] 43) := ⟨_, rfl⟩
        have bw2 : Below wr.heap.size wr w2 := by rw [hw2]; exact ((Below.refl _ _).alloc (Nat.le_refl _) _).alloc (by simp) _
        have CE := Lib.hid (isame_calls x y Fa Fb fa fb w2 (a4.later bw2) (b4.later bw2) (HE.out.2 x (List.mem_of_getElem? hx)) (HF.out.2 y (List.mem_of_getElem? hy)))
        have B2 := Lib.hid (hbw.trans (bw2.mono hbw.size))
        have HW2 := Lib.hid hw2
        have HX := Lib.hid (And.intro hx hy)
        have HTK := Lib.hid htk
        obtain ⟨r, hr⟩ : ∃ r, r = decide (x = y) := ⟨_, rfl⟩
        rw [← hr] at CE
        have HR := Lib.hid hr
        obtain ⟨w1, hw1⟩ : ∃ w1, w1 = wr.alloc (.cells #[Value.bool x.any, .bool x.neg, .slice Fa x.set.length fa] 43) := ⟨_, rfl⟩
        have bw1 : Below wr.heap.size wr w1 := by rw [hw1]; exact (Below.refl _ _).alloc (Nat.le_refl _) _
        have d0 : w1.cell? ⟨qb, ob + i * 3, none⟩ = some (.bool y.any) := (bw1.cell (p := ⟨qb, ob + i * 3, none⟩) hqb).trans b0
        have d1 : w1.cell? ⟨qb, ob + i * 3 + 1, none⟩ = some (.bool y.neg) := (bw1.cell (p := ⟨qb, ob + i * 3 + 1, none⟩) hqb).trans b1
        have d2 : w1.cell? ⟨qb, ob + i * 3 + 2, none⟩ = some (.slice Fb y.set.length fb) := (bw1.cell (p := ⟨qb, ob + i * 3 + 2, none⟩) hqb).trans b2
        obtain ⟨m1, hm1⟩ : ∃ m, m = wr.heap.size := ⟨_, rfl⟩
        have k1 : w1.heap[m1]? = some (.cells #[.bool x.any, .bool x.neg, .slice Fa x.set.length fa] 43 (0, 0)) := by rw [hw1, hm1]; exact blk_alloc_new _ _
        have k2 : w2.heap[m1]? = some (.cells #[.bool x.any, .bool x.neg, .slice Fa x.set.length fa] 43 (0, 0)) := by
          rw [hw2, ← hw1]; exact (blk_alloc_lt _ _ _ (Array.getElem?_eq_some_iff.1 k1).1).trans k1
        obtain ⟨m2, hm2⟩ : ∃ m, m = w1.heap.size := ⟨_, rfl⟩
        have k3 : w2.heap[m2]? = some (.cells #[.bool y.any, .bool y.neg, .slice Fb y.set.length fb] 43 (0, 0)) := by rw [hw2, ← hw1, hm2]; exact blk_alloc_new _ _
        obtain ⟨z0, z1, z2⟩ := cell3_of k2
        obtain ⟨z3, z4, z5⟩ := cell3_of k3
        have HM1 := Lib.hid (And.intro hw1 hm1)
        have HM2 := Lib.hid (And.intro (show w2 = w1.alloc (.cells #[Value.bool y.any, .bool y.neg, .slice Fb y.set.length fb] 43) by rw [hw2, hw1]) hm2)
        obtain ⟨xa, xn, xs⟩ := x
        obtain ⟨ya, yn, ys⟩ := y
        simp only at *
        clear hx hy a4 b4 htk hw2 hr hqa hqb bw2 hbw hw1 hm1 hm2 k1 k2 k3 bw1 n1 n2 ra rb b0 b1 b2
        go_upto_region 6 with (fail)
        rw [← HM1.out.1, ← HM1.out.2]
        clear a0 a1 a2
        go_upto_region 7 with (fail)
        rw [← HM2.out.1, ← HM2.out.2]
        go_wp2_with (fail)
        refine CE.out.mono ?_
        rintro e w3 ⟨rfl, b3⟩
        have B3 := Lib.hid (B2.out.trans (b3.mono B2.out.size))
        clear b3 CE d0 d1 d2 z0 z1 z2 z3 z4 z5
        obtain ⟨n1, n2⟩ := HN.out
        cases r with
        | true =>
          have hxy := of_decide_eq_true HR.out.symm
          have E := Lib.hid (show es.take (i + 1) = fs.take (i + 1) by
            obtain ⟨h1, h2⟩ := HX.out
            obtain ⟨l1, e1⟩ := List.getElem?_eq_some_iff.1 h1
            obtain ⟨l2, e2⟩ := List.getElem?_eq_some_iff.1 h2
            rw [List.take_succ_eq_append_getElem l1, List.take_succ_eq_append_getElem l2, e1, e2, HTK.out, hxy])
          clear hxy n1 n2
          go_wp2_with (fail)
          go_roundw
          case rel => exact ⟨i + 1, hlt, by go_num, E.out, B3.out⟩
          case measure => simp [intOf]; omega
        | false =>
          have hxy := of_decide_eq_false HR.out.symm
          have E := Lib.hid (show decide (es = fs) = false from decide_eq_false fun e => by
            obtain ⟨h1, h2⟩ := HX.out
            rw [e, h2] at h1
            exact hxy (Option.some.inj h1).symm)
          clear hxy n1 n2
          go_wp2_with (fail)
          go_ret
          exact ⟨by rw [E.out]; rfl, B3.out⟩
      · obtain rfl : i = n := by omega
        have g1 : decide (i < i) = false := by simp
        have E := Lib.hid (show decide (es = fs) = true from decide_eq_true (by rw [List.take_of_length_le (by omega), List.take_of_length_le (by omega)] at htk; exact htk))
        have HB := Lib.hid hbw
        clear htk hbw n1 n2
        go_wp2_with (fail)
        go_ret
        exact ⟨by rw [E.out]; rfl, HB.out⟩
  · have hne : decide (es = fs) = false := decide_eq_false fun e => hl (by rw [e])
    rw [hne]
    have g0 : ((es.length : Int) == (fs.length : Int)) = false := by simp; omega
    have g1 : (es.length == fs.length) = false := by simp; omega
    have g2 : ¬ es.length = fs.length := hl
    clear hne
    go_enter Tryd.func38, Tryd.ntmps38
    go_wp2_with (fail)
    go_ret
    exact ⟨rfl, Below.refl _ _⟩
end Go.Proofs.YtmcnnfpeicnnjaaDoor

/- list.Text. -/
import Derived.Test.YtmpckoincdkeeaaDoorListM
namespace Go.Proofs.YtmpckoincdkeeaaDoor
open Go.RowKit Go.Deep Go.Own
set_option linter.unusedVariables false
def smallE (es : List Ent) : Prop := es.length ≤ 1000000 ∧ ∀ e ∈ es, e.2.length ≤ 1000000
set_option maxRecDepth 100000 in
set_option maxHeartbeats 8000000 in
theorem efunc_calls (es fs : List Ent) (va vb : Value) (w : World) (ha : Got w va es) (hb : Got w vb fs) (he : smallE es) (hf : smallE fs) :
    Calls Tryd.prog 43 #[va, vb, .func (.func 41) #[] #[]] w fun e w' => e = .returned (.bool (decide (es = fs))) ∧ Below w.heap.size w w' := by
  obtain ⟨A, ca, rfl, _, ra⟩ := ha.out
  obtain ⟨B, cb, rfl, _, rb⟩ := hb.out
  have RA := Lib.hid ha
  have RB := Lib.hid hb
  have HE := Lib.hid he
  have HF := Lib.hid hf
  have he1 := he.1
  have hf1 := hf.1
  clear ra rb ha hb he hf
  by_cases hl : es.length = fs.length
  · have g0 : ((es.length : Int) == (fs.length : Int)) = true := by simp; omega
    have HL := Lib.hid hl
    obtain ⟨n, hn⟩ : ∃ n, n = es.length := ⟨_, rfl⟩
    have hn2 : n = fs.length := by omega
    have HN := Lib.hid (And.intro hn hn2)
    rw [← hn, ← hn2]
    rw [← hn] at he1
    clear hl hn hn2 hf1 g0
    go_enter Tryd.func43, Tryd.ntmps43
    go_wp2_with (fail)
    go_loopw [17] (fun iv wr => ∃ i : Nat, i ≤ n ∧ iv = .int .i64 (i : Nat) ∧ es.take i = fs.take i ∧ Below w.heap.size w wr) (fun iv _ => n - (intOf iv).toNat)
    case atStart => exact ⟨0, Nat.zero_le _, rfl, rfl, Below.refl _ _⟩
    case round =>
      obtain ⟨i, hi, rfl, htk, hbw⟩ := hrel
      obtain ⟨n1, n2⟩ := HN.out
      by_cases hlt : i < n
      · have g1 : decide (i < n) = true := by simpa using hlt
        obtain ⟨x, hx⟩ : ∃ x, es[i]? = some x := ⟨_, List.getElem?_eq_getElem (by omega)⟩
        obtain ⟨y, hy⟩ : ∃ y, fs[i]? = some y := ⟨_, List.getElem?_eq_getElem (by omega)⟩
        obtain ⟨A', ca', e1, _, ra⟩ := (RA.out.below hbw).out
        obtain ⟨B', cb', e2, _, rb⟩ := (RB.out.below hbw).out
        injection e1 with e1 _ e3
        injection e2 with e2 _ e4
        subst e1 e2 e3 e4
        obtain ⟨qa, oa, Fa, fa, rfl, hqa, a1, a2, _, a4⟩ := ra i x hx
        obtain ⟨qb, ob, Fb, fb, rfl, hqb, b1, b2, _, b4⟩ := rb i y hy
        obtain ⟨w2, hw2⟩ : ∃ w2, w2 = (wr.alloc (.cells #[Value.string x.1, .slice Fa x.2.length fa] 78)).alloc (.cells #[Value.string y.1, .slice Fb y.2.length fb] 78) := ⟨_, rfl⟩
        have bw2 : Below wr.heap.size wr w2 := by rw [hw2]; exact ((Below.refl _ _).alloc (Nat.le_refl _) _).alloc (by simp) _
        have CE := Lib.hid (esame_calls x y Fa Fb fa fb w2 (a4.later bw2) (b4.later bw2) (HE.out.2 x (List.mem_of_getElem? hx)) (HF.out.2 y (List.mem_of_getElem? hy)))
        have B2 := Lib.hid (hbw.trans (bw2.mono hbw.size))
        have HW2 := Lib.hid hw2
        have HX := Lib.hid (And.intro hx hy)
        have HTK := Lib.hid htk
        obtain ⟨r, hr⟩ : ∃ r, r = decide (x = y) := ⟨_, rfl⟩
        rw [← hr] at CE
        have HR := Lib.hid hr
        have hqa' : qa < (wr.alloc (.cells #[Value.string x.1, .slice Fa x.2.length fa] 78)).heap.size := by simp; omega
        obtain ⟨w1, hw1⟩ : ∃ w1, w1 = wr.alloc (.cells #[Value.string x.1, .slice Fa x.2.length fa] 78) := ⟨_, rfl⟩
        have bw1 : Below wr.heap.size wr w1 := by rw [hw1]; exact (Below.refl _ _).alloc (Nat.le_refl _) _
        have d1 : w1.cell? ⟨qb, ob + i * 2, none⟩ = some (.string y.1) := (bw1.cell (p := ⟨qb, ob + i * 2, none⟩) hqb).trans b1
        have d2 : w1.cell? ⟨qb, ob + i * 2 + 1, none⟩ = some (.slice Fb y.2.length fb) := (bw1.cell (p := ⟨qb, ob + i * 2 + 1, none⟩) hqb).trans b2
        obtain ⟨m1, hm1⟩ : ∃ m, m = wr.heap.size := ⟨_, rfl⟩
        have k1 : w1.heap[m1]? = some (.cells #[.string x.1, .slice Fa x.2.length fa] 78 (0, 0)) := by rw [hw1, hm1]; exact blk_alloc_new _ _
        have k2 : w2.heap[m1]? = some (.cells #[.string x.1, .slice Fa x.2.length fa] 78 (0, 0)) := by
          rw [hw2, ← hw1]; exact (blk_alloc_lt _ _ _ (Array.getElem?_eq_some_iff.1 k1).1).trans k1
        obtain ⟨m2, hm2⟩ : ∃ m, m = w1.heap.size := ⟨_, rfl⟩
        have k3 : w2.heap[m2]? = some (.cells #[.string y.1, .slice Fb y.2.length fb] 78 (0, 0)) := by rw [hw2, ← hw1, hm2]; exact blk_alloc_new _ _
        obtain ⟨z1, z2⟩ := cell2_of k2
        obtain ⟨z3, z4⟩ := cell2_of k3
        have HM1 := Lib.hid (And.intro hw1 hm1)
        have HM2 := Lib.hid (And.intro (show w2 = w1.alloc (.cells #[Value.string y.1, .slice Fb y.2.length fb] 78) by rw [hw2, hw1]) hm2)
        obtain ⟨x1, x2⟩ := x
        obtain ⟨y1, y2⟩ := y
        simp only at *
        clear hx hy a4 b4 htk hw2 hr hqa hqb bw2 hbw hw1 hm1 hm2 k1 k2 k3 bw1 hqa' n1 n2 ra rb b1 b2
        go_upto_region 6 with (fail)
        rw [← HM1.out.1, ← HM1.out.2]
        clear a1 a2
        go_upto_region 7 with (fail)
        rw [← HM2.out.1, ← HM2.out.2]
        go_wp2_with (fail)
        refine CE.out.mono ?_
        rintro e w3 ⟨rfl, b3⟩
        have B3 := Lib.hid (B2.out.trans (b3.mono B2.out.size))
        clear b3 CE d1 d2 z1 z2 z3 z4
        obtain ⟨n1, n2⟩ := HN.out
        cases r with
        | true =>
          have hxy := of_decide_eq_true HR.out.symm
          have E := Lib.hid (show es.take (i + 1) = fs.take (i + 1) by
            obtain ⟨h1, h2⟩ := HX.out
            obtain ⟨l1, e1⟩ := List.getElem?_eq_some_iff.1 h1
            obtain ⟨l2, e2⟩ := List.getElem?_eq_some_iff.1 h2
            rw [List.take_succ_eq_append_getElem l1, List.take_succ_eq_append_getElem l2, e1, e2, HTK.out, hxy])
          clear hxy n1 n2
          go_wp2_with (fail)
          go_roundw
          case rel => exact ⟨i + 1, hlt, by go_num, E.out, B3.out⟩
          case measure => simp [intOf]; omega
        | false =>
          have hxy := of_decide_eq_false HR.out.symm
          have E := Lib.hid (show decide (es = fs) = false from decide_eq_false fun e => by
            obtain ⟨h1, h2⟩ := HX.out
            rw [e, h2] at h1
            exact hxy (Option.some.inj h1).symm)
          clear hxy n1 n2
          go_wp2_with (fail)
          go_ret
          exact ⟨by rw [E.out]; rfl, B3.out⟩
      · obtain rfl : i = n := by omega
        have g1 : decide (i < i) = false := by simp
        have E := Lib.hid (show decide (es = fs) = true from decide_eq_true (by rw [List.take_of_length_le (by omega), List.take_of_length_le (by omega)] at htk; exact htk))
        have HB := Lib.hid hbw
        clear htk hbw n1 n2
        go_wp2_with (fail)
        go_ret
        exact ⟨by rw [E.out]; rfl, HB.out⟩
  · have hne : decide (es = fs) = false := decide_eq_false fun e => hl (by rw [e])
    rw [hne]
    have g0 : ((es.length : Int) == (fs.length : Int)) = false := by simp; omega
    have g1 : (es.length == fs.length) = false := by simp; omega
    have g2 : ¬ es.length = fs.length := hl
    clear hne
    go_enter Tryd.func43, Tryd.ntmps43
    go_wp2_with (fail)
    go_ret
    exact ⟨rfl, Below.refl _ _⟩
end Go.Proofs.YtmpckoincdkeeaaDoor

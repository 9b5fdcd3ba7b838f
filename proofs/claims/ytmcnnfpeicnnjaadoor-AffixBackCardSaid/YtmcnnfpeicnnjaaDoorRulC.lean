/- rule.Parse. -/
import Derived.Test.YtmcnnfpeicnnjaaDoorRulB
namespace Go.Proofs.YtmcnnfpeicnnjaaDoor
open Go.RowKit Go.Deep Go.Own
set_option linter.unusedVariables false
set_option maxRecDepth 100000 in
set_option maxHeartbeats 32000000 in
theorem rparse_calls (s : ByteArray) (w : World) (hs : s.size ≤ 1000000) (hT : TabsL w) : Calls Tryd.prog 21 #[.string s] w (RuPost w s) := by
  obtain ⟨w1, hw1⟩ : ∃ w1, w1 = w.alloc (.cells #[Value.bool false, .int .i64 0, .bool false, .string ⟨#[]⟩, .string ⟨#[]⟩, .slice none 0 0] 47) := ⟨_, rfl⟩
  obtain ⟨M, hM⟩ : ∃ M, M = w.heap.size := ⟨_, rfl⟩
  have b1 : Below w.heap.size w w1 := by rw [hw1]; exact (Below.refl _ _).alloc (Nat.le_refl _) _
  have m1 : w1.heap[M]? = some (.cells #[.bool false, .int .i64 0, .bool false, .string ⟨#[]⟩, .string ⟨#[]⟩, .slice none 0 0] 47 (0, 0)) := by rw [hw1, hM]; exact blk_alloc_new _ _
  have CS := Lib.hid (split_calls 32 s w1 (by omega) (hT.below b1))
  obtain ⟨rows, hrows⟩ : ∃ rows, rows = cutB 32 s := ⟨_, rfl⟩
  rw [← hrows] at CS
  have hz : ∀ x ∈ rows, x.size ≤ s.size := fun x hx => by rw [hrows] at hx; exact cutB_size hx
  have hrl : rows.length ≤ 1000001 := by rw [hrows]; have := cutB_len 32 s; omega
  obtain ⟨w2, hw2⟩ : ∃ w2, w2 = w1.alloc (.cells (rows.map Value.string).toArray 9) := ⟨_, rfl⟩
  obtain ⟨Q, hQ⟩ : ∃ Q, Q = w1.heap.size := ⟨_, rfl⟩
  have b2 : Below w1.heap.size w1 w2 := by rw [hw2]; exact (Below.refl _ _).alloc (Nat.le_refl _) _
  have q2 : BlkS w2 Q rows := by rw [hw2, hQ]; exact blk_alloc_new _ _
  rw [← hw2, ← hQ] at CS
  have HW1 := Lib.hid (And.intro hw1 hM)
  have HM0 := Lib.hid (show w.heap.size ≤ M by rw [hM]; exact Nat.le_refl _)
  have B2 := Lib.hid (b1.trans (b2.mono b1.size))
  have M2 := Lib.hid ((b2.block _ (Array.getElem?_eq_some_iff.1 m1).1).trans m1)
  have HT := Lib.hid (hT.below (b1.trans (b2.mono b1.size)))
  have Q2 := Lib.hid q2
  have HZ := Lib.hid hz
  have HR := Lib.hid (show ruleV s = rowsV rows by rw [hrows]; rfl)
  obtain ⟨n, hn⟩ : ∃ n, n = rows.length := ⟨_, rfl⟩
  rw [← hn] at CS hrl
  have HN := Lib.hid hn
  have fzM : ∀ j, w2.frozen? ⟨M, j, none⟩ = false := fun j => by have := M2.out; simp [World.frozen?, this]
  have hsz := Lib.hid hs
  clear hw1 hM b1 m1 hrows hz hw2 hQ b2 q2 hT hn
  go_enter Tryd.func21, Tryd.ntmps21
  go_upto_region 1 with (fail)
  rw [← HW1.out.1, ← HW1.out.2]
  clear HW1
  go_wp2_with (fail)
  refine CS.out.mono ?_
  rintro e w0 ⟨rfl, hw0⟩
  obtain rfl : w2 = w0 := hw0.symm
  clear CS
  obtain ⟨m0, mm1, m2, m3, m4, m5⟩ := cell6_of M2.out
  by_cases h6 : n = 6
  · obtain ⟨a, b, c, d, e, f, hrw⟩ : ∃ a b c d e f, rows = [a, b, c, d, e, f] := by
      have := HN.out
      rw [h6] at this
      match rows, this with
      | [a, b, c, d, e, f], _ => exact ⟨_, _, _, _, _, _, rfl⟩
    subst h6
    have hr0 := HR.out
    rw [hrw] at hr0
    have hr : ruleV s = fieldsV a b c d e f := hr0
    have HR2 := Lib.hid hr
    have hq := Q2.out
    rw [hrw] at hq
    have k1 := hq.cell (j := 1) (p := b) rfl
    have KB := Lib.hid (fun (wx : World) (hb : Below w2.heap.size w2 wx) => (hq.below hb))
    have zb := HZ.out b (by rw [hrw]; simp)
    have zd := HZ.out d (by rw [hrw]; simp)
    have ze := HZ.out e (by rw [hrw]; simp)
    have zf := HZ.out f (by rw [hrw]; simp)
    clear hr hr0 hq HR Q2 HZ HN hrw
    by_cases hb1 : b.size = 1
    · have hix : ∀ w : World, (Instr.index 9 (.string b) (.int .i64 0)).run Tryd.prog w = .ok (.int .u8 (uB b 0 : Nat)) w := fun w => s_index b 0 (by omega) w
      have CL := Lib.hid (letter_nat (uB b 0) w2)
      obtain ⟨u, hu⟩ : ∃ u, u = uB b 0 := ⟨_, rfl⟩
      have hu256 : u < 256 := by rw [hu]; exact uB_lt b 0
      have HB1 := Lib.hid (And.intro hb1 hu)
      rw [← hu] at hix CL
      have g1 : ((b.size : Int) == 1) = true := by simp; omega
      have g1' : ((b.size : Int) != 1) = false := by simp; omega
      obtain ⟨lt, hlt⟩ : ∃ lt, lt = letU u := ⟨_, rfl⟩
      rw [← hlt] at CL
      have HLT := Lib.hid hlt
      clear hlt hu hb1
      go_wp2_with (fail)
      refine CL.out.mono ?_
      rintro e0 w0 ⟨rfl, hw0⟩
      subst hw0
      clear CL
      cases lt with
      | false =>
        have E := Lib.hid (show ruleV s = none by rw [HR2.out]; exact fields_none1 (fun h => by
          have := h.2.1
          rw [← HB1.out.2, ← HLT.out] at this
          cases this))
        go_wp2_with (fail)
        generalize hwf : ((((((w2).setCell ⟨M, 0, none⟩ (.bool _)).setCell ⟨M, 1, none⟩ (.int .i64 _)).setCell ⟨M, 2, none⟩ (.bool _)).setCell ⟨M, 3, none⟩ (.string _)).setCell ⟨M, 4, none⟩ (.string _)).setCell ⟨M, 5, none⟩ (.slice _ _ _) = wf
        have HWF := ru_zero M2.out hwf.symm B2.out HM0.out
        clear hwf
        exact ru_ret HWF rfl ⟨rfl, rfl⟩ (fun h => by cases h) (fun _ => ⟨E.out, rfl⟩)
      | true =>
        obtain ⟨w3, hw3⟩ : ∃ w3, w3 = w2.alloc (.cells #[Value.bool false, .int .i64 (u : Nat), .bool false, .string ⟨#[]⟩, .string ⟨#[]⟩, .slice none 0 0] 47) := ⟨_, rfl⟩
        obtain ⟨N, hN⟩ : ∃ N, N = w2.heap.size := ⟨_, rfl⟩
        have b3 : Below w2.heap.size w2 w3 := by rw [hw3]; exact (Below.refl _ _).alloc (Nat.le_refl _) _
        have S3 := Lib.hid (show SwS w2 w3 N u false false from ⟨by rw [hw3, hN]; exact blk_alloc_new _ _, b3⟩)
        have HN0 := Lib.hid (show w2.heap.size ≤ N by rw [hN]; exact Nat.le_refl _)
        have HW3 := Lib.hid (And.intro hw3 hN)
        clear hw3 hN b3 m0 mm1 m2 m3 m4 m5 fzM
        go_upto_region 5 with (fail)
        rw [← HW3.out.1, ← HW3.out.2]
        clear HW3 k1 hix g1 g1'
        go_upto_region 6 with (fail)
        have q3 := KB.out w3 S3.out.bel
        have k0 := BlkS.cell q3 (j := 0) (p := a) rfl
        have k2 := BlkS.cell q3 (j := 2) (p := c) rfl
        obtain ⟨n0, n1, n2, n3, n4, n5⟩ := cell6_of S3.out.cell
        have fz : ∀ j, w3.frozen? ⟨N, j, none⟩ = false := fun j => by have := S3.out.cell; simp [World.frozen?, this]
        have hQN : Q ≠ N := fun e => by
          have h1 := (Array.getElem?_eq_some_iff.1 (KB.out w2 (Below.refl _ _))).1
          have h2 := HN0.out
          omega
        have keep : ∀ (wx : World) j v, (wx.setCell ⟨N, j, none⟩ v).cell? ⟨Q, 2, none⟩ = wx.cell? ⟨Q, 2, none⟩ := fun wx j v => World.cell?_of_block (setCell_other _ hQN)
        have c2a : ∀ v, (w3.setCell ⟨N, 0, none⟩ v).cell? ⟨Q, 2, none⟩ = some (.string c) := fun v => (keep _ _ _).trans k2
        have c2b : ∀ v, (w3.setCell ⟨N, 2, none⟩ v).cell? ⟨Q, 2, none⟩ = some (.string c) := fun v => (keep _ _ _).trans k2
        have c2c : ∀ v x, ((w3.setCell ⟨N, 0, none⟩ v).setCell ⟨N, 2, none⟩ x).cell? ⟨Q, 2, none⟩ = some (.string c) := fun v x => (keep _ _ _).trans (c2a v)
        clear keep hQN
        by_cases aP : a = ⟨#[80, 70, 88]⟩
        · subst aP
          by_cases cY : c = ⟨#[89]⟩
          · subst cY
            go_upto_region 13 with (fail)
            have SS := (show SwS w2 ((w3.setCell ⟨N, 0, none⟩ (.bool true)).setCell ⟨N, 2, none⟩ (.bool true)) N u true true from sw_two (sw_one S3.out HN0.out) HN0.out)
            exact rp_tail (pf := true) (cr := true) (ok := true) (a := ⟨#[80, 70, 88]⟩) (b := b) (c := ⟨#[89]⟩) hsz.out ⟨fun _ => ⟨⟨.inl rfl, .inl rfl⟩, (decide_eq_true rfl).symm, (decide_eq_true rfl).symm⟩, fun h => (by cases h)⟩ ⟨SS.cell, SS.bel⟩ HM0.out HN0.out B2.out M2.out HT.out KB.out HB1.out HLT.out HR2.out zd ze zf _ _ _ _ _ _ _ _ _ _ _ _ _ _ _ _ _ _ _ _ _ _ _ _ _ _ _ _ _ _ _ _ _ _ _ _ _ _ _ _ _ _ _ _ _ _ _ _ _ _ _ _ _ _ _ _ _ _ _ _ _ _ _ _ _ _ _ _ _ _ _ _ _ _ _ _ _ _ _ _ _ _ _ _ _ _ _ _ _ _ _ _ _ _ _ _ (by assumption)
          obtain ⟨y0, y1⟩ := bytes_lit [89] cY
          by_cases cN : c = ⟨#[78]⟩
          · subst cN
            go_upto_region 13 with (fail)
            have SS := (show SwS w2 ((w3.setCell ⟨N, 0, none⟩ (.bool true)).setCell ⟨N, 2, none⟩ (.bool false)) N u true false from sw_two (sw_one S3.out HN0.out) HN0.out)
            exact rp_tail (pf := true) (cr := false) (ok := true) (a := ⟨#[80, 70, 88]⟩) (b := b) (c := ⟨#[78]⟩) hsz.out ⟨fun _ => ⟨⟨.inl rfl, .inr rfl⟩, (decide_eq_true rfl).symm, (decide_eq_false (by decide)).symm⟩, fun h => (by cases h)⟩ ⟨SS.cell, SS.bel⟩ HM0.out HN0.out B2.out M2.out HT.out KB.out HB1.out HLT.out HR2.out zd ze zf _ _ _ _ _ _ _ _ _ _ _ _ _ _ _ _ _ _ _ _ _ _ _ _ _ _ _ _ _ _ _ _ _ _ _ _ _ _ _ _ _ _ _ _ _ _ _ _ _ _ _ _ _ _ _ _ _ _ _ _ _ _ _ _ _ _ _ _ _ _ _ _ _ _ _ _ _ _ _ _ _ _ _ _ _ _ _ _ _ _ _ _ _ _ _ _ (by assumption)
          obtain ⟨z0, z1⟩ := bytes_lit [78] cN
          have HNO := Lib.hid (show ¬ okA ⟨#[80, 70, 88]⟩ c from fun h => h.2.elim cY cN)
          clear cY cN
          go_upto_region 13 with (fail)
          have SS := (show SwS w2 ((w3.setCell ⟨N, 0, none⟩ (.bool true)).setCell ⟨N, 2, none⟩ (.bool false)) N u true false from sw_two (sw_one S3.out HN0.out) HN0.out)
          exact rp_tail (pf := true) (cr := false) (ok := false) (a := ⟨#[80, 70, 88]⟩) (b := b) (c := c) hsz.out ⟨fun h => (by cases h), fun _ => HNO.out⟩ ⟨SS.cell, SS.bel⟩ HM0.out HN0.out B2.out M2.out HT.out KB.out HB1.out HLT.out HR2.out zd ze zf _ _ _ _ _ _ _ _ _ _ _ _ _ _ _ _ _ _ _ _ _ _ _ _ _ _ _ _ _ _ _ _ _ _ _ _ _ _ _ _ _ _ _ _ _ _ _ _ _ _ _ _ _ _ _ _ _ _ _ _ _ _ _ _ _ _ _ _ _ _ _ _ _ _ _ _ _ _ _ _ _ _ _ _ _ _ _ _ _ _ _ _ _ _ _ _ (by assumption)
        obtain ⟨x0, x1⟩ := bytes_lit [80, 70, 88] aP
        by_cases aS : a = ⟨#[83, 70, 88]⟩
        · subst aS
          by_cases cY : c = ⟨#[89]⟩
          · subst cY
            go_upto_region 13 with (fail)
            have SS := (show SwS w2 (w3.setCell ⟨N, 2, none⟩ (.bool true)) N u false true from sw_two S3.out HN0.out)
            exact rp_tail (pf := false) (cr := true) (ok := true) (a := ⟨#[83, 70, 88]⟩) (b := b) (c := ⟨#[89]⟩) hsz.out ⟨fun _ => ⟨⟨.inr rfl, .inl rfl⟩, (decide_eq_false (by decide)).symm, (decide_eq_true rfl).symm⟩, fun h => (by cases h)⟩ ⟨SS.cell, SS.bel⟩ HM0.out HN0.out B2.out M2.out HT.out KB.out HB1.out HLT.out HR2.out zd ze zf _ _ _ _ _ _ _ _ _ _ _ _ _ _ _ _ _ _ _ _ _ _ _ _ _ _ _ _ _ _ _ _ _ _ _ _ _ _ _ _ _ _ _ _ _ _ _ _ _ _ _ _ _ _ _ _ _ _ _ _ _ _ _ _ _ _ _ _ _ _ _ _ _ _ _ _ _ _ _ _ _ _ _ _ _ _ _ _ _ _ _ _ _ _ _ _ (by assumption)
          obtain ⟨y0, y1⟩ := bytes_lit [89] cY
          by_cases cN : c = ⟨#[78]⟩
          · subst cN
            go_upto_region 13 with (fail)
            have SS := (show SwS w2 (w3.setCell ⟨N, 2, none⟩ (.bool false)) N u false false from sw_two S3.out HN0.out)
            exact rp_tail (pf := false) (cr := false) (ok := true) (a := ⟨#[83, 70, 88]⟩) (b := b) (c := ⟨#[78]⟩) hsz.out ⟨fun _ => ⟨⟨.inr rfl, .inr rfl⟩, (decide_eq_false (by decide)).symm, (decide_eq_false (by decide)).symm⟩, fun h => (by cases h)⟩ ⟨SS.cell, SS.bel⟩ HM0.out HN0.out B2.out M2.out HT.out KB.out HB1.out HLT.out HR2.out zd ze zf _ _ _ _ _ _ _ _ _ _ _ _ _ _ _ _ _ _ _ _ _ _ _ _ _ _ _ _ _ _ _ _ _ _ _ _ _ _ _ _ _ _ _ _ _ _ _ _ _ _ _ _ _ _ _ _ _ _ _ _ _ _ _ _ _ _ _ _ _ _ _ _ _ _ _ _ _ _ _ _ _ _ _ _ _ _ _ _ _ _ _ _ _ _ _ _ (by assumption)
          obtain ⟨z0, z1⟩ := bytes_lit [78] cN
          have HNO := Lib.hid (show ¬ okA ⟨#[83, 70, 88]⟩ c from fun h => h.2.elim cY cN)
          clear cY cN
          go_upto_region 13 with (fail)
          have SS := (show SwS w2 (w3.setCell ⟨N, 2, none⟩ (.bool false)) N u false false from sw_two S3.out HN0.out)
          exact rp_tail (pf := false) (cr := false) (ok := false) (a := ⟨#[83, 70, 88]⟩) (b := b) (c := c) hsz.out ⟨fun h => (by cases h), fun _ => HNO.out⟩ ⟨SS.cell, SS.bel⟩ HM0.out HN0.out B2.out M2.out HT.out KB.out HB1.out HLT.out HR2.out zd ze zf _ _ _ _ _ _ _ _ _ _ _ _ _ _ _ _ _ _ _ _ _ _ _ _ _ _ _ _ _ _ _ _ _ _ _ _ _ _ _ _ _ _ _ _ _ _ _ _ _ _ _ _ _ _ _ _ _ _ _ _ _ _ _ _ _ _ _ _ _ _ _ _ _ _ _ _ _ _ _ _ _ _ _ _ _ _ _ _ _ _ _ _ _ _ _ _ (by assumption)
        obtain ⟨s0, s1⟩ := bytes_lit [83, 70, 88] aS
        have HNO := Lib.hid (show ¬ okA a c from fun h => h.1.elim aP aS)
        clear aP aS
        go_upto_region 13 with (fail)
        have SS := S3.out
        exact rp_tail (pf := false) (cr := false) (ok := false) (a := a) (b := b) (c := c) hsz.out ⟨fun h => (by cases h), fun _ => HNO.out⟩ ⟨SS.cell, SS.bel⟩ HM0.out HN0.out B2.out M2.out HT.out KB.out HB1.out HLT.out HR2.out zd ze zf _ _ _ _ _ _ _ _ _ _ _ _ _ _ _ _ _ _ _ _ _ _ _ _ _ _ _ _ _ _ _ _ _ _ _ _ _ _ _ _ _ _ _ _ _ _ _ _ _ _ _ _ _ _ _ _ _ _ _ _ _ _ _ _ _ _ _ _ _ _ _ _ _ _ _ _ _ _ _ _ _ _ _ _ _ _ _ _ _ _ _ _ _ _ _ _ (by assumption)
    · have E := Lib.hid (show ruleV s = none by rw [HR2.out]; exact fields_none1 (fun h => hb1 h.1))
      have g1 : ((b.size : Int) == 1) = false := by simp; omega
      have g1' : ((b.size : Int) != 1) = true := by simp; omega
      clear hb1
      go_wp2_with (fail)
      generalize hwf : ((((((w2).setCell ⟨M, 0, none⟩ (.bool _)).setCell ⟨M, 1, none⟩ (.int .i64 _)).setCell ⟨M, 2, none⟩ (.bool _)).setCell ⟨M, 3, none⟩ (.string _)).setCell ⟨M, 4, none⟩ (.string _)).setCell ⟨M, 5, none⟩ (.slice _ _ _) = wf
      have HWF := ru_zero M2.out hwf.symm B2.out HM0.out
      clear hwf
      exact ru_ret HWF rfl ⟨rfl, rfl⟩ (fun h => by cases h) (fun _ => ⟨E.out, rfl⟩)
  · have E := Lib.hid (show ruleV s = none by rw [HR.out]; exact rows_none (by rw [← HN.out]; exact h6))
    have g1 : ((n : Int) == 6) = false := by simp; omega
    have g1' : ((n : Int) != 6) = true := by simp; omega
    clear h6
    go_wp2_with (fail)
    generalize hwf : ((((((w2).setCell ⟨M, 0, none⟩ (.bool _)).setCell ⟨M, 1, none⟩ (.int .i64 _)).setCell ⟨M, 2, none⟩ (.bool _)).setCell ⟨M, 3, none⟩ (.string _)).setCell ⟨M, 4, none⟩ (.string _)).setCell ⟨M, 5, none⟩ (.slice _ _ _) = wf
    have HWF := ru_zero M2.out hwf.symm B2.out HM0.out
    clear hwf
    exact ru_ret HWF rfl ⟨rfl, rfl⟩ (fun h => by cases h) (fun _ => ⟨E.out, rfl⟩)
end Go.Proofs.YtmcnnfpeicnnjaaDoor

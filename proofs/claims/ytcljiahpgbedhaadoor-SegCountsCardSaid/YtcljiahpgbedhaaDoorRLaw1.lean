/- Runes: the example; RunesAll. -/
import Derived.Test.YtcljiahpgbedhaaDoorRCodes
import Derived.Test.YtcljiahpgbedhaaDoorRBytes
namespace Go.Proofs.YtcljiahpgbedhaaDoor
open Go.RowKit Go.Deep Go.Own
set_option linter.unusedVariables false
def Tabs (w : World) : Prop := Lib.Utf8Tabs 0 1 w
theorem Tabs.below {w w' : World} (h : Tabs w) (hb : Below w.heap.size w w') : Tabs w' := Utf8Tabs_below h hb
theorem units_aff : units ⟨#[97, 255]⟩ = [(0, 1, 97), (1, 1, -256)] := by decide +kernel
theorem ok_e9 : okU ⟨#[195, 169]⟩ = true ∧ codes ⟨#[195, 169]⟩ = [233] := by decide +kernel
theorem enc_e9 : enc 233 = ⟨#[195, 169]⟩ := by decide +kernel
theorem own1 {w : World} {base : Nat} {A : Option Addr} {n cap : Nat} {x : Int} (h : OwnI w base 3 (.slice A n cap) [x]) : n = 1 ∧ ∃ q, A = some ⟨q, 0, none⟩ ∧ w.cell? ⟨q, 0, none⟩ = some (.int .i64 x) := by
  obtain ⟨A', c', hv⟩ := own_is h
  obtain ⟨rfl, rfl, rfl⟩ : A = A' ∧ n = 1 ∧ cap = c' := by simpa using hv
  obtain ⟨q, c, hv, _, hq, _, _, hc, _⟩ := row_at h (by simp)
  obtain ⟨rfl, _⟩ : A = some ⟨q, 0, none⟩ ∧ cap = c := by simpa using hv
  exact ⟨rfl, q, rfl, hc 0 _ rfl⟩
set_option maxRecDepth 100000 in
set_option maxHeartbeats 4000000 in
theorem rawake_calls (w : World) (hT : Tabs w) :
    Calls Tryd.prog 12 #[] w fun e w' => e = .returned (.bool true) ∧ Below w.heap.size w w' := by
  have CA := Lib.hid (uall_calls ⟨#[97, 255]⟩ w (by decide) hT)
  have HT := Lib.hid hT
  clear hT
  go_enter Tryd.func12, Tryd.ntmps12
  go_wp2_with (fail)
  refine CA.out.mono ?_
  rintro e w1 ⟨v, rfl, r1, b1⟩
  rw [units_aff] at r1
  obtain ⟨A, cp, rfl⟩ := own_is r1
  have CC := Lib.hid (ucodes_calls ⟨#[195, 169]⟩ w1 (by decide) (HT.out.below b1))
  have R1 := Lib.hid r1
  have B1 := Lib.hid b1
  clear r1 b1 CA
  go_wp2_with (fail)
  refine CC.out.mono ?_
  unfold CodesPost
  rw [codesOf_ok ok_e9.1, ok_e9.1, ok_e9.2]
  rintro e w2 ⟨⟨v2, rfl, o2⟩, b2⟩
  obtain ⟨A2, cp2, rfl⟩ := own_is o2
  obtain ⟨_, q2, rfl, c2⟩ := own1 o2
  obtain ⟨q, rfl, hq, d0, d1, d2⟩ := ((R1.out.below b2).reads).2.at (i := 1) rfl
  have HB := Lib.hid (B1.out.trans (b2.mono B1.out.size))
  have CB := Lib.hid (ubytes_calls 233 w2)
  rw [enc_e9] at CB
  clear R1 B1 o2 b2 CC hq d1
  go_wp2_with (fail)
  refine CB.out.mono ?_
  rintro e w3 ⟨rfl, rfl⟩
  go_wp2_with (fail)
  go_ret
  exact ⟨rfl, HB.out⟩
/-- what At hands back -/
def atU (s : ByteArray) (i : Int) : (Nat × Nat × Int) × Bool := if 0 ≤ i ∧ i < s.size then ((i.toNat, uLen s i.toNat, uCode s i.toNat), true) else ((0, 0, 0), false)
theorem uat_calls (s : ByteArray) (i : Int) (w : World) (hs : s.size ≤ 1099511627776) (hT : Tabs w) :
    Calls Tryd.prog 13 #[.string s, .int .i64 i] w fun e w' => e = .returned (.tuple #[unitV (atU s i).1.1 (atU s i).1.2.1 (atU s i).1.2.2, .bool (atU s i).2]) ∧ Below w.heap.size w w' := by
  by_cases h : 0 ≤ i ∧ i < s.size
  · obtain ⟨k, rfl⟩ : ∃ k : Nat, i = (k : Int) := ⟨i.toNat, by omega⟩
    have := uat_in s k w (by omega) (by omega) hT
    unfold atU
    rw [if_pos h]
    exact this
  · have := uat_out s i w h
    unfold atU
    rw [if_neg h]
    exact this
theorem rat_calls (s : ByteArray) (i : Int) (w : World) (hs : s.size ≤ 1099511627776) :
    Calls Tryd.prog 14 #[.string s, .int .i64 i] w fun e w' => e = .returned (.tuple #[unitV (atU s i).1.1 (atU s i).1.2.1 (atU s i).1.2.2, .bool (atU s i).2]) ∧ Below w.heap.size w w' := by
  by_cases h : 0 ≤ i ∧ i < s.size
  · obtain ⟨k, rfl⟩ : ∃ k : Nat, i = (k : Int) := ⟨i.toNat, by omega⟩
    have := rat_in s k w (by omega) (by omega)
    unfold atU
    rw [if_pos h]
    exact this
  · have := rat_out s i w h
    unfold atU
    rw [if_neg h]
    exact this
theorem own_reads {w : World} {base n cap : Nat} {A : Option Addr} {l : List Int} (h : OwnI w base 3 (.slice A n cap) l) : n = l.length ∧ Reads w A l := by
  obtain ⟨A', c', hv⟩ := own_is h
  obtain ⟨rfl, rfl, rfl⟩ : A = A' ∧ n = l.length ∧ cap = c' := by simpa using hv
  refine ⟨rfl, fun h0 => ?_⟩
  obtain ⟨q, c, hv, _, hq, _, _, hc, _⟩ := row_at h h0
  obtain ⟨rfl, _⟩ : A = some ⟨q, 0, none⟩ ∧ cap = c := by simpa using hv
  refine ⟨q, 0, rfl, fun w' hs i hi => ?_⟩
  rw [hs.cell (a := ⟨q, 0 + i, none⟩) hq, Nat.zero_add]
  refine hc i _ ?_
  rw [List.getElem?_map, List.getElem?_eq_getElem hi]
  simp [List.getD_eq_getElem?_getD, hi]
theorem bytes_self (s : ByteArray) : (s.toList == s.toList) = true := by simp
set_option maxRecDepth 100000 in
set_option maxHeartbeats 8000000 in
theorem runesAll_walk (s : ByteArray) (i code : Int) (w : World) (hs : s.size ≤ 140737488351232) (hi : (Lit.int .i64 i).wf = true) (hc : (Lit.int .i64 code).wf = true) (hT : Tabs w) :
    Calls Tryd.prog 3 #[.string s, .int .i64 i, .int .i64 code] w fun e w' => e = .returned (.bool true) ∧ Below w.heap.size w w' := by
  by_cases h1 : 2000 < s.size
  · have g1 : decide (2000 < s.size) = true := by simpa using h1
    have CA := Lib.hid (rawake_calls w hT)
    clear hT
    go_enter Tryd.func3, Tryd.ntmps3
    go_wp2_with (fail)
    refine CA.out.mono ?_
    rintro e w1 ⟨rfl, b1⟩
    go_wp2_with (fail)
    go_ret
    exact ⟨rfl, b1⟩
  · have g1 : decide (2000 < s.size) = false := by simpa using h1
    have C1 := Lib.hid (uat_calls s i w (by omega) hT)
    obtain ⟨⟨⟨a, n, c⟩, ok⟩, hat⟩ : ∃ x, atU s i = x := ⟨_, rfl⟩
    have hul : (units s).length ≤ s.size := unitsFrom_len s s.size 0
    have hcl : (codesOf s).length ≤ s.size := by unfold codesOf; split <;> simp [codes] ; exact hul
    rw [hat] at C1
    have HT := Lib.hid hT
    have HAT := Lib.hid hat
    clear hT hat
    go_enter Tryd.func3, Tryd.ntmps3
    go_wp2_with (fail)
    refine C1.out.mono ?_
    unfold unitV
    rintro e w1 ⟨rfl, b1⟩
    obtain ⟨M, hM⟩ : ∃ M, M = w1.heap.size := ⟨_, rfl⟩
    obtain ⟨w2, hw2⟩ : ∃ w2, w2 = w1.alloc (.cells #[Value.int .i64 (a : Nat), .int .i64 (n : Nat), .int .i64 c] 24) := ⟨_, rfl⟩
    have n2 : w2.heap[M]? = some (.cells #[.int .i64 (a : Nat), .int .i64 (n : Nat), .int .i64 c] 24 (0, 0)) := by rw [hw2, hM]; exact blk_new w1 _
    have hb2 : Below w.heap.size w w2 := by rw [hw2]; exact b1.alloc b1.size _
    have C2 := Lib.hid (rat_calls s i w2 (by omega))
    rw [HAT.out] at C2
    have B2 := Lib.hid hb2
    have N2 := Lib.hid n2
    have HM := Lib.hid hM
    have HW2 := Lib.hid hw2
    clear b1 n2 hb2 hM hw2 C1
    go_wp2_with (fail)
    rw [← HW2.out, ← HM.out]
    refine C2.out.mono ?_
    unfold unitV
    rintro e w3 ⟨rfl, b3⟩
    obtain ⟨M3, hM3⟩ : ∃ M, M = w3.heap.size := ⟨_, rfl⟩
    obtain ⟨w4, hw4⟩ : ∃ w2, w2 = w3.alloc (.cells #[Value.int .i64 (a : Nat), .int .i64 (n : Nat), .int .i64 c] 24) := ⟨_, rfl⟩
    have n4 : w4.heap[M3]? = some (.cells #[.int .i64 (a : Nat), .int .i64 (n : Nat), .int .i64 c] 24 (0, 0)) := by rw [hw4, hM3]; exact blk_new w3 _
    have b4 : Below w2.heap.size w2 w4 := by rw [hw4]; exact b3.alloc b3.size _
    have k4 := (b4.block M (Array.getElem?_eq_some_iff.1 N2.out).1).trans N2.out
    have hb4 := B2.out.trans (b4.mono B2.out.size)
    have C3 := Lib.hid (ucodes_calls s w4 (by omega) (HT.out.below hb4))
    have B4 := Lib.hid hb4
    have K4 := Lib.hid (show _ ∧ _ from ⟨k4, n4⟩)
    have HM3 := Lib.hid hM3
    have HW4 := Lib.hid hw4
    clear b3 b4 n4 k4 hb4 hM3 hw4 C2 HW2 HM N2 B2
    go_wp2_with (fail)
    rw [← HW4.out, ← HM3.out]
    refine C3.out.mono ?_
    unfold CodesPost
    rintro e w5 ⟨⟨v5, rfl, o5⟩, b5⟩
    obtain ⟨A5, c5, rfl⟩ := own_is o5
    have hb5 := B4.out.trans (b5.mono B4.out.size)
    have C4 := Lib.hid (rcodes_calls s w5 (by omega))
    have O5 := Lib.hid o5
    have B5 := Lib.hid hb5
    have K5 := Lib.hid (show _ ∧ _ from ⟨(b5.block M (Array.getElem?_eq_some_iff.1 K4.out.1).1).trans K4.out.1, (b5.block M3 (Array.getElem?_eq_some_iff.1 K4.out.2).1).trans K4.out.2⟩)
    clear o5 b5 hb5 C3 HW4 HM3 K4 B4
    go_wp2_with (fail)
    refine C4.out.mono ?_
    unfold CodesPost
    rintro e w6 ⟨⟨v6, rfl, o6⟩, b6⟩
    obtain ⟨A6, c6, rfl⟩ := own_is o6
    have hb6 := B5.out.trans (b6.mono B5.out.size)
    have C5 := Lib.hid (uall_calls s w6 (by omega) (HT.out.below hb6))
    have O6 := Lib.hid (show _ ∧ _ from ⟨O5.out.later b6, o6⟩)
    have B6 := Lib.hid hb6
    have K6 := Lib.hid (show _ ∧ _ from ⟨(b6.block M (Array.getElem?_eq_some_iff.1 K5.out.1).1).trans K5.out.1, (b6.block M3 (Array.getElem?_eq_some_iff.1 K5.out.2).1).trans K5.out.2⟩)
    clear o6 b6 hb6 C4 K5 B5 O5
    go_wp2_with (fail)
    refine C5.out.mono ?_
    rintro e w7 ⟨v7, rfl, r7, b7⟩
    obtain ⟨A7, c7, rfl⟩ := own_is r7
    have hb7 := B6.out.trans (b7.mono B6.out.size)
    have C6 := Lib.hid (rall_calls s w7 (by omega))
    have O7 := Lib.hid (show _ ∧ _ from ⟨O6.out.1.later b7, O6.out.2.later b7⟩)
    have B7 := Lib.hid hb7
    have R7 := Lib.hid r7
    have K7 := Lib.hid (show _ ∧ _ from ⟨(b7.block M (Array.getElem?_eq_some_iff.1 K6.out.1).1).trans K6.out.1, (b7.block M3 (Array.getElem?_eq_some_iff.1 K6.out.2).1).trans K6.out.2⟩)
    clear r7 b7 hb7 C5 K6 B6 O6
    go_wp2_with (fail)
    refine C6.out.mono ?_
    rintro e w8 ⟨v8, rfl, r8, b8⟩
    obtain ⟨A8, c8, rfl⟩ := own_is r8
    have hb8 := B7.out.trans (b8.mono B7.out.size)
    have C7 := Lib.hid (same_calls (units s) A7 A8 c7 c8 w8 ((R7.out.below b8).reads).2 (r8.reads).2 (by omega))
    have O8 := Lib.hid (show _ ∧ _ from ⟨O7.out.1.later b8, O7.out.2.later b8⟩)
    have B8 := Lib.hid hb8
    have K8 := Lib.hid (show _ ∧ _ from ⟨(b8.block M (Array.getElem?_eq_some_iff.1 K7.out.1).1).trans K7.out.1, (b8.block M3 (Array.getElem?_eq_some_iff.1 K7.out.2).1).trans K7.out.2⟩)
    clear r8 b8 hb8 C6 K7 B7 O7 R7
    go_wp2_with (fail)
    refine C7.out.mono ?_
    rintro e w9 ⟨rfl, k, rfl⟩
    have dM := cell3_of (w := w8.drewN k) K8.out.1
    have dN := cell3_of (w := w8.drewN k) K8.out.2
    obtain ⟨m0, m1, m2⟩ := dM
    clear dN
    have b10 : Below w8.heap.size w8 ((w8.drewN k).alloc (.cells #[Value.int .i64 (a : Nat), .int .i64 (n : Nat), .int .i64 c] 24)) := (below_drewN w8 k).alloc (Nat.le_refl _) _
    obtain ⟨p0, p1, p2⟩ := cell3_of ((b10.block M3 (Array.getElem?_eq_some_iff.1 K8.out.2).1).trans K8.out.2)
    have hb10 := B8.out.trans (b10.mono B8.out.size)
    have l10 := blk_new (w8.drewN k) (.cells #[Value.int .i64 (a : Nat), .int .i64 (n : Nat), .int .i64 c] 24)
    have B10 := Lib.hid b10
    have HB10 := Lib.hid hb10
    have L10 := Lib.hid l10
    clear C7 b10 l10 hb10
    go_wp2_with (fail)
    obtain ⟨o, ho⟩ : ∃ o, o = Obj.cells #[Value.int .i64 (a : Nat), .int .i64 (n : Nat), .int .i64 c] 24 := ⟨_, rfl⟩
    obtain ⟨w11, hw11⟩ : ∃ w11, w11 = ((w8.drewN k).alloc o).alloc o := ⟨_, rfl⟩
    have e1 := blk_new ((w8.drewN k).alloc o) o
    have e0 : ((w8.drewN k).alloc o).heap.size = w8.heap.size + 1 := by simp [World.drewN]
    have b11 : Below ((w8.drewN k).alloc o).heap.size ((w8.drewN k).alloc o) w11 := by rw [hw11]; exact (Below.refl _ _).alloc (Nat.le_refl _) _
    rw [e0, ← hw11] at e1
    rw [← ho, ← hw11]
    have e2 : w11.heap[w8.heap.size]? = some o := by
      have := L10.out
      rw [← ho] at this
      rw [b11.block _ (by rw [e0]; exact Nat.lt_succ_self _)]
      exact this
    have hb11 : Below w.heap.size w w11 := by
      have := HB10.out
      rw [← ho] at this
      exact this.trans (b11.mono (by rw [e0]; exact Nat.le_succ_of_le B8.out.size))
    have hb11' : Below w8.heap.size w8 w11 := by
      have := B10.out
      rw [← ho] at this
      exact this.trans (b11.mono (by rw [e0]; exact Nat.le_succ _))
    have C8 := Lib.hid (same_calls [(a, n, c)] (some ⟨w8.heap.size, 0, none⟩) (some ⟨w8.heap.size + 1, 0, none⟩) 1 1 w11 (ReadsU.one (u := (a, n, c)) (by rw [e2, ho])) (ReadsU.one (u := (a, n, c)) (by rw [e1, ho])) (by simp))
    have O11 := Lib.hid (show _ ∧ _ from ⟨(O8.out.1.later hb11'), (O8.out.2.later hb11')⟩)
    have HB11 := Lib.hid hb11
    clear e0 e1 e2 b11 hb11 hb11' hw11 p0 p1 p2 m0 m1 m2 L10 HB10 B10 O8 K8 B8
    subst ho
    refine C8.out.mono ?_
    rintro e w12 ⟨rfl, k2, rfl⟩
    clear C8
    have CB := Lib.hid (ubytes_calls code (w11.drewN k2))
    have CB2 := Lib.hid (rbytes_calls code (w11.drewN k2))
    have hee := bytes_self (enc code)
    obtain ⟨E, hE⟩ : ∃ E, enc code = E := ⟨_, rfl⟩
    rw [hE] at CB CB2 hee
    clear hE
    go_wp2_with (first | (go_at_call 20; refine CB.out.mono ?_; rintro e w13 ⟨rfl, rfl⟩) | (go_at_call 21; refine CB2.out.mono ?_; rintro e w13 ⟨rfl, b13⟩))
    have b13' : Below w11.heap.size w11 w13 := (below_drewN w11 k2).trans b13
    have hb13 := HB11.out.trans (b13'.mono HB11.out.size)
    obtain ⟨_, r5⟩ := own_reads (O11.out.1.later b13')
    obtain ⟨_, r6⟩ := own_reads (O11.out.2.later b13')
    have CS := Lib.hid (sameInts_calls (codesOf s) A5 A6 c5 c6 w13 r5 r6 (by omega))
    have CW := Lib.hid (fun j => rawake_calls (w13.drewN j) (HT.out.below (hb13.trans ((below_drewN w13 j).mono hb13.size))))
    have HB13 := Lib.hid hb13
    have hok : (okU s == okU s) = true := by simp
    clear b13 b13' hb13 r5 r6 CB CB2 O11 HB11
    go_wp2_with (first | (go_at_call 22; refine CS.out.mono ?_; rintro e w14 ⟨rfl, j, rfl⟩) | (go_at_call 12; refine (CW.out _).mono ?_; rintro e w15 ⟨rfl, b15⟩))
    go_ret
    exact ⟨rfl, HB13.out.trans ((below_drewN _ _).trans b15 |>.mono HB13.out.size)⟩
end Go.Proofs.YtcljiahpgbedhaaDoor

/- list: one entry by its parts. -/
import Derived.Test.YtmpckoincdkeeaaDoorListB
namespace Go.Proofs.YtmpckoincdkeeaaDoor
open Go.RowKit Go.Deep Go.Own
set_option linter.unusedVariables false
def BlkS (w : World) (q : Nat) (ps : List ByteArray) : Prop := w.heap[q]? = some (.cells (ps.map Value.string).toArray 9 (0, 0))
theorem BlkS.below {w w' : World} {q : Nat} {ps : List ByteArray} (h : BlkS w q ps) (hb : Below w.heap.size w w') : BlkS w' q ps := (hb.block _ (Array.getElem?_eq_some_iff.1 h).1).trans h
theorem BlkS.cell {w : World} {q : Nat} {ps : List ByteArray} (h : BlkS w q ps) {j : Nat} {p : ByteArray} (hp : ps[j]? = some p) : w.cell? ⟨q, j, none⟩ = some (.string p) := by
  unfold World.cell?
  rw [show w.heap[q]? = _ from h]
  simp [hp]
def wordOk (s : ByteArray) : Bool := okU s && !hasBad s && !s.toList.isEmpty
def oneV (ps : List ByteArray) : ByteArray × List Int × Bool :=
  match ps with
  | [a] => if wordOk a = true then (a, [], true) else (⟨#[]⟩, [], false)
  | [a, b] => if wordOk a = true then (a, (flagsV b).1, (flagsV b).2) else (⟨#[]⟩, [], false)
  | _ => (⟨#[]⟩, [], false)
theorem oneV_bad {a : ByteArray} {t : List ByteArray} (h : wordOk a = false) : oneV (a :: t) = (⟨#[]⟩, [], false) := by
  unfold oneV
  match t with
  | [] => simp [h]
  | [b] => simp [h]
  | b :: c :: t => rfl
theorem oneV_many {a : ByteArray} {t : List ByteArray} (h : 2 ≤ t.length) : oneV (a :: t) = (⟨#[]⟩, [], false) := by
  match t, h with
  | b :: c :: t, _ => rfl
def OnePost (w : World) (ps : List ByteArray) (e : Ending) (w' : World) : Prop :=
  (∃ v, e = .returned (.tuple #[.agg #[.string (oneV ps).1, v], .bool (oneV ps).2.2]) ∧ OwnI w' w.heap.size 3 v (oneV ps).2.1) ∧ Below w.heap.size w w'
theorem cell2_of {w : World} {b : Nat} {x y : Value} {t : TypeId} {fr : Nat × Nat} (h : w.heap[b]? = some (.cells #[x, y] t fr)) : w.cell? ⟨b, 0, none⟩ = some x ∧ w.cell? ⟨b, 1, none⟩ = some y := by
  simp [World.cell?, h]
set_option maxRecDepth 100000 in
set_option maxHeartbeats 8000000 in
theorem one_calls (a : ByteArray) (t : List ByteArray) (q : Nat) (w : World) (ha : a.size ≤ 1099511627776) (ht : ∀ b ∈ t, b.size ≤ 1099511627776) (hl : t.length ≤ 1099511627776) (hq : BlkS w q (a :: t)) (hT : Lib.Utf8Tabs 0 1 w) :
    Calls Tryd.prog 34 #[.slice (some ⟨q, 0, none⟩) (a :: t).length (a :: t).length] w (OnePost w (a :: t)) := by
  unfold OnePost
  obtain ⟨w1, hw1⟩ : ∃ w1, w1 = w.alloc (.cells #[Value.string ⟨#[]⟩, .slice none 0 0] 78) := ⟨_, rfl⟩
  obtain ⟨M, hM⟩ : ∃ M, M = w.heap.size := ⟨_, rfl⟩
  have b1 : Below w.heap.size w w1 := by rw [hw1]; exact (Below.refl _ _).alloc (Nat.le_refl _) _
  have m1 : w1.heap[M]? = some (.cells #[.string ⟨#[]⟩, .slice none 0 0] 78 (0, 0)) := by rw [hw1, hM]; exact blk_alloc_new _ _
  have q1 := hq.below b1
  have CC := Lib.hid (ucodes_calls a w1 ha (Utf8Tabs_below hT b1))
  have c1 := q1.cell (j := 0) (p := a) rfl
  obtain ⟨L, hL⟩ : ∃ L, L = (a :: t).length := ⟨_, rfl⟩
  have hL' : L = t.length + 1 := by rw [hL]; rfl
  have HL' := Lib.hid hL'
  have hL0 : 0 < L := by omega
  have HW1 := Lib.hid hw1
  have HM := Lib.hid hM
  have M1 := Lib.hid m1
  have Q1 := Lib.hid q1
  have B1 := Lib.hid b1
  rw [← hL]
  have hM0 : w.heap.size ≤ M := by rw [hM]; exact Nat.le_refl _
  have HM0 := Lib.hid hM0
  clear hw1 hM b1 m1 q1 hq hL hT hM0 hL'
  go_enter Tryd.func34, Tryd.ntmps34
  go_upto_region 1 with (fail)
  rw [← HW1.out, ← HM.out]
  go_wp2_with (fail)
  unfold CodesPost at CC
  refine CC.out.mono ?_
  rintro e w2 ⟨⟨v2, rfl, o2⟩, b2⟩
  have M2 := Lib.hid ((b2.block _ (Array.getElem?_eq_some_iff.1 M1.out).1).trans M1.out)
  have Q2 := Lib.hid (Q1.out.below b2)
  have B2 := Lib.hid (B1.out.trans (b2.mono B1.out.size))
  have c2 := Q2.out.cell (j := 0) (p := a) rfl
  have CF := Lib.hid (containsF_calls a w2 ha)
  clear b2 CC M1 Q1 B1 o2 c1
  go_upto_region 2 with (fail)
  go_wp2_with (fail)
  refine CF.out.mono ?_
  rintro e w3 ⟨rfl, b3⟩
  have M3 := Lib.hid ((b3.block _ (Array.getElem?_eq_some_iff.1 M2.out).1).trans M2.out)
  have Q3 := Lib.hid (Q2.out.below b3)
  have B3 := Lib.hid (B2.out.trans (b3.mono B2.out.size))
  have c3 := Q3.out.cell (j := 0) (p := a) rfl
  obtain ⟨m0, m1⟩ := cell2_of M3.out
  have fz : ∀ j, w3.frozen? ⟨M, j, none⟩ = false := fun j => by have := M3.out; simp [World.frozen?, this]
  clear b3 CF M2 Q2 B2 c2
  by_cases hok : (wordOk a = true ∧ L ≤ 2)
  · obtain ⟨hw, hl2⟩ := hok
    have hw' := hw
    unfold wordOk at hw'
    simp only [Bool.and_eq_true, Bool.not_eq_true'] at hw'
    obtain ⟨⟨k1, k2⟩, k3⟩ := hw'
    have g0 : decide (2 < L) = false := by simp; omega
    obtain ⟨w4, hw4⟩ : ∃ w4, w4 = w3.alloc (.cells #[Value.string a, .slice none 0 0] 78) := ⟨_, rfl⟩
    obtain ⟨K, hK⟩ : ∃ K, K = w3.heap.size := ⟨_, rfl⟩
    have b4 : Below w3.heap.size w3 w4 := by rw [hw4]; exact (Below.refl _ _).alloc (Nat.le_refl _) _
    have N4 := Lib.hid (show w4.heap[K]? = some (.cells #[.string a, .slice none 0 0] 78 (0, 0)) by rw [hw4, hK]; exact blk_alloc_new _ _)
    have M4 := Lib.hid ((b4.block _ (Array.getElem?_eq_some_iff.1 M3.out).1).trans M3.out)
    have Q4 := Lib.hid (Q3.out.below b4)
    have B4 := Lib.hid (B3.out.trans (b4.mono B3.out.size))
    have hMK : M ≠ K := fun e => by have := (Array.getElem?_eq_some_iff.1 M3.out).1; omega
    have hK0 : w.heap.size ≤ K := by rw [hK]; exact B3.out.size
    have HW4 := Lib.hid hw4
    have HK := Lib.hid hK
    have HK0 := Lib.hid hK0
    have HMK := Lib.hid hMK
    have HW := Lib.hid hw
    clear hw4 hK b4 hK0 hMK hw M3 Q3 B3
    cases t with
    | nil =>
      obtain rfl : L = 1 := HL'.out
      rw [k1, k2]
      clear m0 m1 fz
      go_upto_region 6 with (fail)
      rw [← HW4.out, ← HK.out]
      obtain ⟨p0, p1⟩ := cell2_of M4.out
      obtain ⟨n0, n1⟩ := cell2_of N4.out
      have fz : ∀ j, w4.frozen? ⟨M, j, none⟩ = false := fun j => by have := M4.out; simp [World.frozen?, this]
      clear c3
      go_wp2_with (fail)
      obtain ⟨wf, hwf⟩ : ∃ wf, wf = (w4.setCell ⟨M, 0, none⟩ (.string a)).setCell ⟨M, 1, none⟩ (.slice none 0 0) := ⟨_, rfl⟩
      rw [← hwf]
      have cf : wf.heap[M]? = some (.cells #[.string a, .slice none 0 0] 78 (0, 0)) := by rw [hwf, setCell_same (setCell_same M4.out _)]; rfl
      obtain ⟨f0, f1⟩ := cell2_of cf
      have BF : Below w.heap.size w wf := by
        rw [hwf]
        exact (B4.out.setCell (p := ⟨M, 0, none⟩) HM0.out _).setCell (p := ⟨M, 1, none⟩) HM0.out _
      clear hwf cf
      refine bodyPost_ret (v := .tuple #[.agg #[.string a, .slice none 0 0], .bool true]) (by simp [results, Tryd.results34, go_sem, f0, f1]; done) rfl ?_
      have e0 : oneV [a] = (a, [], true) := if_pos HW.out
      rw [e0]
      exact ⟨⟨_, rfl, OwnI.nil _ _ _⟩, BF⟩
    | cons b t =>
      have ht0 : t = [] := by
        have hL' := HL'.out
        rw [List.length_cons] at hL'
        cases t with
        | nil => rfl
        | cons x t => rw [List.length_cons] at hL'; omega
      subst ht0
      obtain rfl : L = 2 := HL'.out
      rw [k1, k2]
      clear m0 m1 fz
      go_upto_region 6 with (fail)
      rw [← HW4.out, ← HK.out]
      have c4 := Q4.out.cell (j := 1) (p := b) rfl
      have CG := Lib.hid (flags_calls b w4 (ht b List.mem_cons_self))
      unfold FlagsPost at CG
      clear c3 ht
      go_wp2_with (fail)
      refine CG.out.mono ?_
      rintro e w5 ⟨⟨v5, rfl, o5⟩, b5⟩
      have M5 := Lib.hid ((b5.block _ (Array.getElem?_eq_some_iff.1 M4.out).1).trans M4.out)
      have N5 := Lib.hid ((b5.block _ (Array.getElem?_eq_some_iff.1 N4.out).1).trans N4.out)
      have B5 := Lib.hid (B4.out.trans (b5.mono B4.out.size))
      have S4 := Lib.hid (And.intro (Array.getElem?_eq_some_iff.1 M4.out).1 (Array.getElem?_eq_some_iff.1 N4.out).1)
      obtain ⟨l, hl⟩ : ∃ l, l = (flagsV b).1 := ⟨_, rfl⟩
      obtain ⟨r, hr⟩ : ∃ r, r = (flagsV b).2 := ⟨_, rfl⟩
      have HLR := Lib.hid (And.intro hl hr)
      rw [← hl] at o5
      obtain ⟨A5, c5, hv5⟩ := own_is o5
      subst hv5
      have OB := Lib.hid (fun j (hj : (Value.slice A5 l.length c5).ownBlock = some j) => (own_block_lt o5 hj).1)
      have O5 := Lib.hid o5
      rw [← hr]
      obtain ⟨n0, n1⟩ := cell2_of N5.out
      have fk : ∀ j, w5.frozen? ⟨K, j, none⟩ = false := fun j => by have := N5.out; simp [World.frozen?, this]
      obtain ⟨w6, hw6⟩ : ∃ w6, w6 = w5.setCell ⟨K, 1, none⟩ (.slice A5 l.length c5) := ⟨_, rfl⟩
      have N6 := Lib.hid (show w6.heap[K]? = some (.cells #[.string a, .slice A5 l.length c5] 78 (0, 0)) by rw [hw6, setCell_same N5.out]; rfl)
      have M6 := Lib.hid (show w6.heap[M]? = some (.cells #[.string ⟨#[]⟩, .slice none 0 0] 78 (0, 0)) by rw [hw6]; exact (setCell_other _ HMK.out).trans M5.out)
      have B6 := Lib.hid (show Below w.heap.size w w6 by rw [hw6]; exact B5.out.setCell (p := ⟨K, 1, none⟩) HK0.out _)
      have O6 := Lib.hid (show OwnI w6 w.heap.size 3 (.slice A5 l.length c5) l by
        rw [hw6]
        exact own_keep (own_base O5.out B4.out.size) fun j hj => setCell_other _ (fun e => by have h1 := OB.out j hj; have h2 := S4.out.2; have e' : j = K := e; omega))
      have HW6 := Lib.hid hw6
      clear o5 b5 CG Q4 c4 hl hr hw6 N4 M4 N5 M5 B4 B5
      go_upto_region 8 with (fail)
      rw [← HW6.out]
      clear n0 n1 fk
      obtain ⟨m0, m1⟩ := cell2_of M6.out
      obtain ⟨n0, n1⟩ := cell2_of N6.out
      have fz : ∀ j, w6.frozen? ⟨M, j, none⟩ = false := fun j => by have := M6.out; simp [World.frozen?, this]
      go_wp2_with (fail)
      obtain ⟨wf, hwf⟩ : ∃ wf, wf = (w6.setCell ⟨M, 0, none⟩ (.string a)).setCell ⟨M, 1, none⟩ (.slice A5 l.length c5) := ⟨_, rfl⟩
      rw [← hwf]
      have cf : wf.heap[M]? = some (.cells #[.string a, .slice A5 l.length c5] 78 (0, 0)) := by rw [hwf, setCell_same (setCell_same M6.out _)]; rfl
      obtain ⟨f0, f1⟩ := cell2_of cf
      have BF : Below w.heap.size w wf := by
        rw [hwf]
        exact (B6.out.setCell (p := ⟨M, 0, none⟩) HM0.out _).setCell (p := ⟨M, 1, none⟩) HM0.out _
      have OF : OwnI wf w.heap.size 3 (.slice A5 l.length c5) l := by
        rw [hwf]
        refine own_keep (own_keep O6.out fun j hj => setCell_other _ (fun e => ?_)) fun j hj => setCell_other _ (fun e => ?_)
        all_goals (have h1 := OB.out j hj; have h2 := S4.out.1; have e' : j = M := e; omega)
      clear hwf cf
      refine bodyPost_ret (v := .tuple #[.agg #[.string a, .slice A5 l.length c5], .bool r]) (by simp [results, Tryd.results34, go_sem, f0, f1]; done) rfl ?_
      have e0 : oneV [a, b] = (a, l, r) := by
        obtain ⟨h1, h2⟩ := HLR.out
        rw [h1, h2]
        exact if_pos HW.out
      rw [e0]
      exact ⟨⟨_, rfl, OF⟩, BF⟩
  · have e0 : oneV (a :: t) = (⟨#[]⟩, [], false) := by
      by_cases hw : wordOk a = true
      · exact oneV_many (by have : ¬ L ≤ 2 := fun h => hok ⟨hw, h⟩; have := HL'.out; omega)
      · exact oneV_bad (by simpa using hw)
    have E0 := Lib.hid e0
    obtain ⟨wf, hwf⟩ : ∃ wf, wf = (w3.setCell ⟨M, 0, none⟩ (.string ⟨#[]⟩)).setCell ⟨M, 1, none⟩ (.slice none 0 0) := ⟨_, rfl⟩
    have cf : wf.heap[M]? = some (.cells #[.string ⟨#[]⟩, .slice none 0 0] 78 (0, 0)) := by rw [hwf, setCell_same (setCell_same M3.out _)]; rfl
    obtain ⟨f0, f1⟩ := cell2_of cf
    have BF : Below w.heap.size w wf := by
      rw [hwf]
      exact (B3.out.setCell (p := ⟨M, 0, none⟩) HM0.out _).setCell (p := ⟨M, 1, none⟩) HM0.out _
    have HF := Lib.hid (And.intro (And.intro f0 f1) BF)
    have HWF := Lib.hid hwf
    have hcs : okU a = false ∨ (okU a = true ∧ hasBad a = true) ∨ (okU a = true ∧ hasBad a = false ∧ a.toList.isEmpty = true) ∨ (okU a = true ∧ hasBad a = false ∧ a.toList.isEmpty = false ∧ 2 < L) := by
      cases h1 : okU a with
      | false => exact .inl rfl
      | true =>
        cases h2 : hasBad a with
        | true => exact .inr (.inl ⟨rfl, rfl⟩)
        | false =>
          cases h3 : a.toList.isEmpty with
          | true => exact .inr (.inr (.inl ⟨rfl, rfl, rfl⟩))
          | false =>
            refine .inr (.inr (.inr ⟨rfl, rfl, rfl, ?_⟩))
            have hw : wordOk a = true := by unfold wordOk; rw [h1, h2, h3]; rfl
            exact Nat.lt_of_not_le fun h => hok ⟨hw, h⟩
    clear hwf cf f0 f1 BF hok e0
    rcases hcs with k1 | ⟨k1, k2⟩ | ⟨k1, k2, k3⟩ | ⟨k1, k2, k3, k4⟩
    · rw [k1]
      go_wp2_with (fail)
      rw [← HWF.out]
      obtain ⟨⟨f0, f1⟩, BF⟩ := HF.out
      refine bodyPost_ret (v := .tuple #[.agg #[.string ⟨#[]⟩, .slice none 0 0], .bool false]) (by simp [results, Tryd.results34, go_sem, f0, f1]; done) rfl ?_
      rw [E0.out]
      exact ⟨⟨_, rfl, OwnI.nil _ _ _⟩, BF⟩
    · rw [k1, k2]
      go_wp2_with (fail)
      rw [← HWF.out]
      obtain ⟨⟨f0, f1⟩, BF⟩ := HF.out
      refine bodyPost_ret (v := .tuple #[.agg #[.string ⟨#[]⟩, .slice none 0 0], .bool false]) (by simp [results, Tryd.results34, go_sem, f0, f1]; done) rfl ?_
      rw [E0.out]
      exact ⟨⟨_, rfl, OwnI.nil _ _ _⟩, BF⟩
    · rw [k1, k2]
      go_wp2_with (fail)
      rw [← HWF.out]
      obtain ⟨⟨f0, f1⟩, BF⟩ := HF.out
      refine bodyPost_ret (v := .tuple #[.agg #[.string ⟨#[]⟩, .slice none 0 0], .bool false]) (by simp [results, Tryd.results34, go_sem, f0, f1]; done) rfl ?_
      rw [E0.out]
      exact ⟨⟨_, rfl, OwnI.nil _ _ _⟩, BF⟩
    · rw [k1, k2]
      have g0 : decide (2 < L) = true := by simpa using k4
      have g0' : decide (2 < (L : Int)) = true := by simp; omega
      clear k4
      go_wp2_with (fail)
      rw [← HWF.out]
      obtain ⟨⟨f0, f1⟩, BF⟩ := HF.out
      refine bodyPost_ret (v := .tuple #[.agg #[.string ⟨#[]⟩, .slice none 0 0], .bool false]) (by simp [results, Tryd.results34, go_sem, f0, f1]; done) rfl ?_
      rw [E0.out]
      exact ⟨⟨_, rfl, OwnI.nil _ _ _⟩, BF⟩
end Go.Proofs.YtmpckoincdkeeaaDoor

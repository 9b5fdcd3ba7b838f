/- A text's code points: the reference's. -/
import Derived.Test.YtmpckoincdkeeaaDoorUCodes
import Derived.Test.YtmpckoincdkeeaaDoorRAll
namespace Go.Proofs.YtmpckoincdkeeaaDoor
open Go.RowKit Go.Deep Go.Own
set_option linter.unusedVariables false
theorem ReadsU.at {w : World} {A : Option Addr} {us : List (Nat × Nat × Int)} (h : ReadsU w A us) {i : Nat} {a n : Nat} {c : Int} (hu : us[i]? = some (a, n, c)) : ∃ q, A = some ⟨q, 0, none⟩ ∧ q < w.heap.size ∧ w.cell? ⟨q, i * 3, none⟩ = some (.int .i64 (a : Nat)) ∧ w.cell? ⟨q, i * 3 + 1, none⟩ = some (.int .i64 (n : Nat)) ∧ w.cell? ⟨q, i * 3 + 2, none⟩ = some (.int .i64 c) := by
  have hl := (List.getElem?_eq_some_iff.1 hu).1
  obtain ⟨q, e, hq, hc⟩ := h (by omega)
  exact ⟨q, e, hq, hc i _ hu⟩
theorem all_split {α : Type} (p : α → Bool) : ∀ l : List α, l.all p = false → ∃ i a, l[i]? = some a ∧ p a = false ∧ (l.take i).all p = true
  | [], h => by cases h
  | x :: l, h => by
    by_cases hx : p x = true
    · rw [List.all_cons, hx, Bool.true_and] at h
      obtain ⟨i, a, h1, h2, h3⟩ := all_split p l h
      exact ⟨i + 1, a, by simpa using h1, h2, by simp only [List.take_succ_cons, List.all_cons, hx, Bool.true_and]; exact h3⟩
    · exact ⟨0, x, rfl, by simpa using hx, rfl⟩
set_option maxRecDepth 100000 in
set_option maxHeartbeats 4000000 in
theorem rcodes_calls (s : ByteArray) (w : World) (hs : s.size ≤ 1099511627776) :
    Calls Tryd.prog 44 #[.string s] w (CodesPost w s) := by
  unfold CodesPost codesOf
  obtain ⟨iI, hiI, hzI, hsI, hbI⟩ := info_parts infoI
  have CA := Lib.hid (rall_calls s w hs)
  have hul : (units s).length ≤ s.size := unitsFrom_len s s.size 0
  obtain ⟨us, hus⟩ : ∃ us, us = units s := ⟨_, rfl⟩
  have hcd : codes s = us.map fun u => u.2.2 := by rw [hus]; rfl
  have hok : okU s = us.all fun u => decide (0 ≤ u.2.2) := by rw [hus]; rfl
  rw [← hus] at CA hul
  rw [hcd, hok]
  obtain ⟨B, hB⟩ : ∃ B, (us.all fun u => decide (0 ≤ u.2.2)) = B := ⟨_, rfl⟩
  obtain ⟨out, hout⟩ : ∃ out, (if B = true then us.map fun u => u.2.2 else []) = out := ⟨_, rfl⟩
  rw [hB, hout]
  have HB := Lib.hid hB
  have HO := Lib.hid hout
  clear hus hcd hok hB hout
  go_enter Tryd.func44, Tryd.ntmps44
  go_wp2_with (fail)
  refine CA.out.mono ?_
  rintro e w1 ⟨v, rfl, r1, b1⟩
  obtain ⟨A, cp, rfl⟩ := own_is r1
  have R1 := Lib.hid r1
  have B1 := Lib.hid b1
  clear r1 b1 CA
  go_wp2_with (fail)
  go_loopw [4, 10] (fun lv iv wr => ∃ i : Nat, iv = .int .i64 (i : Nat) ∧ i ≤ us.length ∧ RowU wr w.heap.size (.slice A us.length cp) us ∧ OwnI wr w.heap.size 3 lv ((us.take i).map fun u => u.2.2) ∧ Below w.heap.size w wr ∧ ((us.take i).all fun u => decide (0 ≤ u.2.2)) = true) (fun _ iv _ => us.length - (intOf iv).toNat)
  case atStart => exact ⟨0, rfl, Nat.zero_le _, R1.out, OwnI.nil _ _ _, B1.out, rfl⟩
  case round =>
    obtain ⟨i, rfl, hi, hR, hL, hbw, hall⟩ := hrel
    clear R1 B1
    obtain ⟨A2, cp2, rfl⟩ := own_is hL
    have htl : ((us.take i).map fun u => u.2.2).length = i := by rw [List.length_map, List.length_take]; omega
    obtain ⟨acc, hacc⟩ : ∃ acc, acc = (us.take i).map fun u => u.2.2 := ⟨_, rfl⟩
    rw [← hacc] at hL htl
    rw [← hacc]
    have HTL := Lib.hid htl
    clear htl
    by_cases hlt : i < us.length
    · have g1 : decide (i < us.length) = true := by simpa using hlt
      obtain ⟨⟨a, n, c⟩, hu⟩ : ∃ u, us[i]? = some u := ⟨_, List.getElem?_eq_getElem hlt⟩
      have htk : us.take (i + 1) = us.take i ++ [(a, n, c)] := by
        obtain ⟨_, hx⟩ := List.getElem?_eq_some_iff.1 hu
        rw [List.take_succ_eq_append_getElem hlt, hx]
      obtain ⟨q, rfl, hq, d0, d1, d2⟩ := (hR.reads).2.at hu
      obtain ⟨N, hN⟩ : ∃ N, N = wr.heap.size := ⟨_, rfl⟩
      obtain ⟨w2, hw2⟩ : ∃ w2, w2 = wr.alloc (.cells #[Value.int .i64 (a : Nat), .int .i64 (n : Nat), .int .i64 c] 73) := ⟨_, rfl⟩
      have b2 : Below wr.heap.size wr w2 := by rw [hw2]; exact (Below.refl _ _).alloc (Nat.le_refl _) _
      have hb2 : Below w.heap.size w w2 := hbw.trans (b2.mono hbw.size)
      have n2 : w2.heap[N]? = some (.cells #[.int .i64 (a : Nat), .int .i64 (n : Nat), .int .i64 c] 73 (0, 0)) := by rw [hw2, hN]; exact blk_new wr _
      obtain ⟨e0, e1, e2⟩ := cell3_of n2
      have HR2 := Lib.hid (hR.below b2)
      have HL2 := Lib.hid (hL.later b2)
      have HB2 := Lib.hid hb2
      have HACC := Lib.hid hacc
      have HTK := Lib.hid htk
      have HALL := Lib.hid hall
      have HU := Lib.hid hu
      have HN := Lib.hid hN
      have HW2 := Lib.hid hw2
      clear hR hL hbw hacc htk hall hu b2 hb2 n2 hN hw2
      by_cases hc : c < 0
      · have g2 : decide (c < 0) = true := by simpa using hc
        go_wp2_with (fail)
        rw [← HW2.out, ← HN.out]
        go_wp2_with (fail)
        have hf : (us.all fun u => decide (0 ≤ u.2.2)) = false := by
          rw [List.all_eq_false]
          exact ⟨(a, n, c), List.mem_of_getElem? HU.out, by simp; omega⟩
        have e1 := HB.out
        rw [hf] at e1
        subst e1
        have e2 := HO.out
        rw [if_neg (by decide)] at e2
        subst e2
        refine bodyPost_ret (v := .tuple #[.slice none 0 0, .bool false]) (by simp [results, Tryd.results44, go_sem]) rfl ?_
        exact ⟨⟨_, rfl, OwnI.nil _ _ _⟩, HB2.out⟩
      · have g2 : decide (c < 0) = false := by simpa using hc
        have hz : w2.heap.size = wr.heap.size + 1 := by rw [HW2.out]; simp
        obtain ⟨o, ho⟩ : ∃ o, o = Obj.cells #[Value.int .i64 c] 3 := ⟨_, rfl⟩
        have b4 : Below w2.heap.size w2 (w2.alloc o) := (Below.refl _ _).alloc (Nat.le_refl _) _
        have L4 := Lib.hid (HL2.out.later b4)
        have R4 := Lib.hid (HR2.out.below b4)
        have hS4 : Hid (Src Tryd.prog 1 48 (.slice (some ⟨wr.heap.size + 1, 0, none⟩) 1 1) 1 [.int .i64 c] (w2.alloc o)) := Lib.hid (by rw [← hz]; exact src_one Tryd.underlying48 rfl (by rw [ho]; exact cell_new1 _ _ _))
        have HB4 := Lib.hid (HB2.out.alloc HB2.out.size o)
        clear b4 hz
        subst ho
        have ew := HW2.out
        have en := HN.out
        clear HW2 HN
        subst ew en
        go_wp2_with (at_builtin; refine own_append (o := ⟨some 21, _, _, _, _, _⟩) rfl (.tmp 17) (.tmp 20) 48 48 rfl w.heap.size 3 iI _ 1 8 Tryd.underlying48 hiI hzI hsI hbI rfl (by decide) (.slice A2 acc.length cp2) acc.length _ rfl L4.out (.slice (some ⟨wr.heap.size + 1, 0, none⟩) 1 1) rfl 1 _ hS4.out (by have := HTL.out; unfold maxLen; omega) (by have := HTL.out; omega) HB4.out.size ?_; intro v5 w5 O5 G5 V5)
        go_roundw
        case rel =>
          have h5 := ownI_push O5
          refine ⟨i + 1, by go_num, hlt, own_keep R4.out fun k hk => G5.block k (own_block_lt R4.out hk).2 (fun e => ?_), ?_, HB4.out.grown G5 HB4.out.size (fun q hq => (own_block_lt L4.out hq).1), ?_⟩
          · obtain ⟨c1, h1⟩ := own_row_type R4.out hk
            obtain ⟨c2, h2⟩ := own_row_type L4.out e.symm
            exact absurd rfl (ne_of_type h1 h2 (by decide))
          · rw [HTK.out, List.map_append, ← HACC.out]; exact h5
          · rw [HTK.out, List.all_append, HALL.out]; simp; omega
        case measure => simp [intOf]; omega
    · have g1 : decide (i < us.length) = false := by simpa using hlt
      have hil : us.take i = us := List.take_of_length_le (by omega)
      rw [hil] at hall hacc
      have HL := Lib.hid hL
      have HBW := Lib.hid hbw
      have e1 := HB.out
      rw [hall] at e1
      subst e1
      have e2 := HO.out
      rw [if_pos rfl, ← hacc] at e2
      subst e2
      clear hR hL hbw hall hacc
      go_wp2_with (fail)
      refine bodyPost_ret (v := .tuple #[.slice A2 acc.length cp2, .bool true]) (by simp [results, Tryd.results44, go_sem]) rfl ?_
      exact ⟨⟨_, rfl, HL.out⟩, HBW.out⟩
end Go.Proofs.YtmpckoincdkeeaaDoor

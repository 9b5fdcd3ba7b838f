/- the buffer: Slice. -/
import Derived.Test.YtemcffihfeaniaaBld
namespace Go.Own
open Go Go.RowKit Go.Deep
set_option linter.unusedVariables false
theorem slice_step {so sa : List UInt8} {ps : List Pc} {qs : List (Nat × Pc)} (h : ∀ q ∈ qs, POk so sa ps q) {i off key : Nat} {x : Pc} (hq : qs[i]? = some (key, x)) (m : Nat) (hm : m ≤ x.n - off) :
    ((pText so sa qs).drop (pLen (qs.take i) + off)).take m = ((if x.add then sa else so).drop (x.fr + off)).take m := by
  obtain ⟨hi, hqe⟩ := List.getElem?_eq_some_iff.1 hq
  have hs : qs = qs.take i ++ (key, x) :: qs.drop (i + 1) := by
    rw [← hqe, ← List.drop_eq_getElem_cons hi, List.take_append_drop]
  have h1 := pText_length (qs.take i) (fun q hq' => h q (List.mem_of_mem_take hq'))
  have h2 : pText so sa qs = pText so sa (qs.take i) ++ (x.text so sa ++ pText so sa (qs.drop (i + 1))) := by
    conv => lhs; rw [hs, pText_append]
    rfl
  have h3 := Pc.text_length (h _ (List.mem_of_getElem? hq)).2.2
  simp only at h3
  rw [h2, ← h1, List.drop_length_add_append]
  by_cases h0 : m = 0
  · subst h0; simp
  · rw [List.drop_append_of_le_length (by omega), List.take_append_of_le_length (by rw [List.length_drop, h3]; exact hm)]
    unfold Pc.text
    rw [List.drop_take, List.drop_drop, List.take_take]
    congr 1
    omega
end Go.Own
namespace Go.Proofs.Ytemcffihfeaniaa
open Go.RowKit Go.Deep Go.Own
set_option linter.unusedVariables false
attribute [local go_sem] Own.own_min2 Own.own_min_two
section
variable {w : World} {c : Nat → Nat} {b : Nat} {so sa : List UInt8} {bo ba bt : Nat} {vl : Value} {ps : List Pc} {qs : List (Nat × Pc)} {most : Nat}
set_option maxRecDepth 100000 in
theorem bslice_no (H : BufX w c b so sa bo ba bt vl ps qs most) (a n : Int) (h : ¬ (0 ≤ a ∧ 0 ≤ n ∧ a ≤ (pLen qs : Int) ∧ n ≤ (pLen qs : Int) - a)) (hb : pLen qs ≤ 65536) :
    Calls Try.prog 38 #[.pointer (some ⟨b, 0, none⟩), .int .i64 a, .int .i64 n] w fun e w' => e = .returned (.tuple #[.string ⟨#[]⟩, .int .i64 2]) ∧ w = w' := by
  have CH := Lib.hid (bhas_no H a n h hb)
  clear H h
  go_enter Try.func38, Try.ntmps38
  go_wp2_with (fail)
  refine CH.out.mono ?_
  rintro e w1 ⟨rfl, rfl⟩
  go_wp2_with (fail)
  go_ret2
  exact ⟨rfl, rfl⟩
set_option maxRecDepth 100000 in
set_option maxHeartbeats 8000000 in
theorem bslice_ok (H : BufX w c b so sa bo ba bt vl ps qs most) (a n : Nat) (h : a + n ≤ pLen qs) (hb : pLen qs ≤ 65536) (hso : so.length ≤ 1099511627776) (hsa : sa.length ≤ 1099511627776) :
    Calls Try.prog 38 #[.pointer (some ⟨b, 0, none⟩), .int .i64 (a : Nat), .int .i64 (n : Nat)] w fun e w' => e = .returned (.tuple #[.string ⟨(((pText so sa qs).drop a).take n).toArray⟩, .int .i64 0]) ∧ Below w.heap.size w w' := by
  have hpos : ∀ q ∈ qs, 0 < q.2.n := fun q hq => (H.qok q hq).2.1
  have CH := Lib.hid (bhas_yes H a n h hb)
  obtain ⟨i0, off0, hf, hi0, hio, hlt0, _⟩ := find_split qs a hpos (by omega)
  obtain ⟨T, hT⟩ : ∃ T, T = pText so sa qs := ⟨_, rfl⟩
  have hTl : T.length = pLen qs := by rw [hT]; exact pText_length qs H.qok
  have y3 : ∀ o, (w.alloc o).cell? ⟨b, 3, none⟩ = some (.pointer (some ⟨bt, 0, none⟩)) := fun o => by rw [World.cell?_of_block (w := w) (blk_alloc_lt _ _ _ H.blt)]; exact H.cells.2.2.2.1
  have CF := Lib.hid (fun o => find_at _ bt _ (a : Int) (w.alloc o) (H.later ((Below.refl _ _).alloc (Nat.le_refl _) o)).tree (by omega) (by omega))
  rw [hf] at CF
  have HX := Lib.hid H
  have HPOS := Lib.hid hpos
  have HT := Lib.hid hT
  have HTL := Lib.hid hTl
  rw [← hT]
  have HLT := Lib.hid hlt0
  have HIO := Lib.hid hio
  clear H hpos hf hT hTl hlt0 hio
  go_enter Try.func38, Try.ntmps38
  go_wp2_with (fail)
  refine CH.out.mono ?_
  rintro e w1 ⟨rfl, rfl⟩
  go_wp2_with (fail)
  refine (CF.out _).mono ?_
  rintro e w1 ⟨rfl, nf, hw1⟩
  obtain ⟨N, hN⟩ : ∃ N, N = w.heap.size := ⟨_, rfl⟩
  have b0 : Bd N N [] w1 := by rw [hw1, hN]; exact (Bd.new w).later ⟨rfl, rfl, rfl, Nat.le_refl _, fun _ _ => rfl⟩
  have l1 : Below N w w1 := by rw [hw1, hN]; exact (((Below.refl _ _).alloc (Nat.le_refl _) _).trans ⟨rfl, rfl, rfl, Nat.le_refl _, fun _ _ => rfl⟩)
  have B0 := Lib.hid b0
  have L1 := Lib.hid l1
  rw [← hN]
  have HN := Lib.hid hN
  clear CF hw1 b0 l1 y3 hN
  go_wp2_with (fail)
  go_loopg [9, 10] n (fun g i' o' wr => ∃ k i off : Nat, n - k ≤ g ∧ k ≤ n ∧ i' = .int .i64 (i : Nat) ∧ o' = .int .i64 (off : Nat) ∧ Bd N N ((T.drop a).take k) wr ∧ Below N w wr ∧ (k < n → pLen (qs.take i) + off = a + k ∧ ∃ q, qs[i]? = some q ∧ off < q.2.n))
  case atStart => exact ⟨0, i0, off0, by omega, by omega, rfl, rfl, by rw [List.take_zero]; exact B0.out, L1.out, fun hn => ⟨HIO.out, HLT.out (by omega)⟩⟩
  case round =>
    obtain ⟨k, i, off, r1, r2, rfl, rfl, r3, r4, r5⟩ := hrel
    have hkl : ((T.drop a).take k).length = k := by rw [List.length_take, List.length_drop, HTL.out]; omega
    have CLn := Lib.hid (bd_len r3)
    rw [hkl] at CLn
    have R3 := Lib.hid r3
    have R4 := Lib.hid r4
    have HNle := Lib.hid (show N ≤ wr.heap.size from Nat.le_trans (Nat.le_of_eq HN.out) r4.size)
    by_cases hlt : k < n
    · obtain ⟨hpo, ⟨key, x⟩, hq, hox⟩ := r5 hlt
      have hox : off < x.n := hox
      have hbw : Below w.heap.size w wr := by rw [← HN.out]; exact r4
      have XR := HX.out.later hbw
      have hok := XR.qok _ (List.mem_of_getElem? hq)
      obtain ⟨gl, capl, rfl, hcap, q0, q1, q2⟩ := row_cells XR.row hok.1
      have hkl2 := (List.getElem?_eq_some_iff.1 hok.1).1
      have hil := (List.getElem?_eq_some_iff.1 hq).1
      have hxn : x.n ≤ 65536 := by
        have := pLen_take_le qs (i + 1)
        have h2 : pLen (qs.take (i + 1)) = pLen (qs.take i) + x.n := by rw [List.take_succ_eq_append_getElem hil, pLen_append, (List.getElem?_eq_some_iff.1 hq).2]; simp [pLen]
        omega
      have hxf : x.fr + x.n ≤ 1099511627776 := by have := hok.2.2; split at this <;> (simp only at this; omega)
      have hilm : i ≤ 65536 := by have := len_le_pLen qs HPOS.out; omega
      have g1 : decide (k < n) = true := by simpa using hlt
      have g3 : decide (key < ps.length) = true := by simpa using hkl2
      have CG := Lib.hid (get_at _ bt _ i (key : Int) (x.n : Int) wr XR.tree (by simp [pItems, hq]))
      obtain ⟨sq, hsq⟩ : ∃ sq : Nat, (if x.add then ba else bo) = sq := ⟨_, rfl⟩
      rw [hsq] at q0
      have HSQ := Lib.hid hsq
      obtain ⟨c0, c1, c2, c3, c4, c5⟩ := XR.cells
      have HXR := Lib.hid XR
      have HQ := Lib.hid hq
      have HOK := Lib.hid hok
      have HPO := Lib.hid hpo
      have R1 := Lib.hid r1
      clear hsq XR hq hok hpo r3 r4 r5 r1 hbw
      go_wp2_with (fail)
      refine CLn.out.mono ?_
      rintro e w1 ⟨rfl, rfl⟩
      go_wp2_with (fail)
      refine CG.out.mono ?_
      rintro e w2 ⟨rfl, n2, hw2⟩
      have X2 : BufX w2 c b so sa bo ba bt (.slice (some ⟨gl, 0, none⟩) ps.length capl) ps qs most := by rw [hw2]; exact HXR.out.drewN _
      have hz : ∀ j, w2.cell? ⟨gl, j, none⟩ = wr.cell? ⟨gl, j, none⟩ := fun j => by rw [hw2]; rfl
      rw [← hz] at q0 q1 q2
      have BR := Lib.hid (show Below wr.heap.size wr w2 by rw [hw2]; exact ⟨rfl, rfl, rfl, Nat.le_refl _, fun _ _ => rfl⟩)
      clear hw2 hz c0 c1 c2 c3 c4 c5 CG CLn
      obtain ⟨c0, c1, c2, c3, c4, c5⟩ := X2.cells
      have HX2 := Lib.hid X2
      clear X2 HXR
      go_wp2_with (fail)
      obtain ⟨w3, hw3⟩ : ∃ w3, w3 = w2.alloc (.cells #[Value.pointer (some ⟨sq, 0, none⟩), .int .i64 (x.fr : Nat), .int .i64 (x.n : Nat)] 100) := ⟨_, rfl⟩
      rw [← hw3]
      obtain ⟨M, hM⟩ : ∃ M, M = w2.heap.size := ⟨_, rfl⟩
      rw [← hM]
      have B3 := Lib.hid (show Below w2.heap.size w2 w3 by rw [hw3]; exact (Below.refl _ _).alloc (Nat.le_refl _) _)
      have n3 : w3.heap[M]? = some (.cells #[Value.pointer (some ⟨sq, 0, none⟩), .int .i64 (x.fr : Nat), .int .i64 (x.n : Nat)] 100 (0, 0)) := by rw [hw3, hM]; exact blk_alloc_new w2 _
      have d0 : w3.cell? ⟨M, 0, none⟩ = some (.pointer (some ⟨sq, 0, none⟩)) := by simp [World.cell?, n3]
      have d1 : w3.cell? ⟨M, 1, none⟩ = some (.int .i64 (x.fr : Nat)) := by simp [World.cell?, n3]
      have d2 : w3.cell? ⟨M, 2, none⟩ = some (.int .i64 (x.n : Nat)) := by simp [World.cell?, n3]
      have BdR := Lib.hid ((R3.out.later BR.out).later B3.out)
      have CLn := Lib.hid (fun m => bd_len (BdR.out.later (w' := w3.drewN m) ⟨rfl, rfl, rfl, Nat.le_refl _, fun _ _ => rfl⟩))
      rw [hkl] at CLn
      obtain ⟨m, hm⟩ : ∃ m : Nat, imin ((x.n : Int) - (off : Int)) ((n : Int) - (k : Int)) = (m : Int) := ⟨min (x.n - off) (n - k), by rw [imin_eq]; omega⟩
      have HMM : Hid (m = min (x.n - off) (n - k)) := Lib.hid (by rw [imin_eq] at hm; omega)
      have hmb : m ≤ 65536 := by rw [imin_eq] at hm; omega
      have hmx : off + m ≤ x.n := by rw [imin_eq] at hm; omega
      have hst : Holds w3 (fun j => j < w3.heap.size) sq (if x.add then sa else so) := by
        have X3 := HX2.out.later B3.out
        have lt := X3.lt
        rw [← HSQ.out]
        cases x.add
        · exact X3.old.mono fun j hj => lt j (by omega)
        · exact X3.new.mono fun j hj => lt j (by omega)
      have CS := Lib.hid (slice_ok (fun j => j < w3.heap.size) sq (if x.add then sa else so) (x.fr + off) m (w3.drewN 1) (hst.keep fun _ _ _ => rfl) (fun j hj => hj) (by have h1 := HOK.out.2.2; simp only at h1; omega) (by split <;> assumption))
      rw [show ((x.fr + off : Nat) : Int) = (x.fr : Int) + (off : Int) by omega] at CS
      have HM := Lib.hid hM
      clear hw3 n3 hst hM
      refine Own.region_mix (CR [1, 3, 7] [(1, ⟨M, 0, none⟩, .pointer (some ⟨sq, 0, none⟩)), (3, ⟨M, 1, none⟩, .int .i64 (x.fr : Nat)), (7, ⟨M, 2, none⟩, .int .i64 (x.n : Nat))]) [1, 3, 7] [0, 1, 0, 4, 0, 28, 0, 64, 0, 448, 0, 0, 3072, 8128, 16383, 32767, 65535, 65535, 131071, 524287] (Own.Ord.run [(0, true), (1, true), (2, true), (3, true), (4, true), (5, true), (6, true), (7, true), (8, true), (9, true), (10, true), (11, false), (12, true), (13, true), (14, false), (15, true), (16, true), (17, true), (18, true), (19, true)] .done) (by kernel_rfl) (by kernel_rfl) (fun dst v c a w h => by cases dst <;> exact h) (fun x hx w => CR.off x hx w) ?_
      simp only [Own.Ord.run]
      repeat (refine Own.st_blind _ rfl rfl (CR.off _ (by decide) _) ?_; go_big_quiet_step (fail); refine wpQuiet_nil ?_)
      refine Own.st_load _ rfl rfl (.pointer (some ⟨sq, 0, none⟩)) (fun w' hw' => ?_) ?_ ?_
      · have hg0 := hw'.get (a := ⟨M, 0, none⟩) (v := .pointer (some ⟨sq, 0, none⟩)) (by decide) (by simp)
        go_simp
      · intro _ q hq e; simp only [List.mem_cons, List.mem_nil_iff, or_false] at hq; rcases hq with rfl | rfl | rfl <;> first | assumption | (simp at e; done) | (go_simp; done) | (simp; done)
      simp only [Act.put, List.setIfInBounds_toArray, List.set_cons_succ, List.set_cons_zero]
      repeat (refine Own.st_blind _ rfl rfl (CR.off _ (by decide) _) ?_; go_big_quiet_step (fail); refine wpQuiet_nil ?_)
      refine Own.st_load _ rfl rfl (.int .i64 (x.fr : Nat)) (fun w' hw' => ?_) ?_ ?_
      · have hg0 := hw'.get (a := ⟨M, 1, none⟩) (v := .int .i64 (x.fr : Nat)) (by decide) (by simp)
        go_simp
      · intro _ q hq e; simp only [List.mem_cons, List.mem_nil_iff, or_false] at hq; rcases hq with rfl | rfl | rfl <;> first | assumption | (simp at e; done) | (go_simp; done) | (simp; done)
      simp only [Act.put, List.setIfInBounds_toArray, List.set_cons_succ, List.set_cons_zero]
      repeat (refine Own.st_blind _ rfl rfl (CR.off _ (by decide) _) ?_; go_big_quiet_step (fail); refine wpQuiet_nil ?_)
      refine Own.st_load _ rfl rfl (.int .i64 (x.n : Nat)) (fun w' hw' => ?_) ?_ ?_
      · have hg0 := hw'.get (a := ⟨M, 2, none⟩) (v := .int .i64 (x.n : Nat)) (by decide) (by simp)
        go_simp
      · intro _ q hq e; simp only [List.mem_cons, List.mem_nil_iff, or_false] at hq; rcases hq with rfl | rfl | rfl <;> first | assumption | (simp at e; done) | (go_simp; done) | (simp; done)
      simp only [Act.put, List.setIfInBounds_toArray, List.set_cons_succ, List.set_cons_zero]
      repeat (refine Own.st_blind _ rfl rfl (CR.off _ (by decide) _) ?_; go_big_quiet_step (fail); refine wpQuiet_nil ?_)
      refine Own.st_do _ rfl rfl (fun K hK => ?_)
      go_simp
      refine (CLn.out 1).mono ?_
      rintro e w9 ⟨rfl, rfl⟩
      refine hK _ _ (fun q hq hd _ => ?_) ?_
      · intro _ q hq e; simp only [List.mem_cons, List.mem_nil_iff, or_false] at hq; rcases hq with rfl | rfl | rfl <;> first | assumption | (simp at e; done) | (go_simp; done) | (simp; done)
      clear hK K
      repeat (refine Own.st_blind _ rfl rfl (CR.off _ (by decide) _) ?_; go_big_quiet_step (fail); refine wpQuiet_nil ?_)
      refine Own.st_do _ rfl rfl (fun K hK => ?_)
      go_simp
      refine CS.out.mono ?_
      rintro e w4 ⟨rfl, b4⟩
      refine hK _ _ (fun q hq hd => by rw [(by decide : ∀ x ∈ [1, 3, 7], Own.dep [0, 1, 0, 4, 0, 28, 0, 64, 0, 448, 0, 0, 3072, 8128, 16383, 32767, 65535, 65535, 131071, 524287] 14 x = true) q hq] at hd; cases hd) ?_
      clear hK K
      repeat (refine Own.st_blind _ rfl rfl (CR.off _ (by decide) _) ?_; go_big_quiet_step (fail); refine wpQuiet_nil ?_)
      refine Own.mix_done ?_
      have hcut : cutB (if x.add then sa else so) (x.fr + off) m = ⟨((T.drop (a + k)).take m).toArray⟩ := by
        have := slice_step (off := off) HX.out.qok HQ.out m (by omega)
        rw [HPO.out, ← HT.out] at this
        rw [this]; rfl
      rw [hcut]
      have Bd4 := (BdR.out.later (w' := w3.drewN 1) ⟨rfl, rfl, rfl, Nat.le_refl _, fun _ _ => rfl⟩).later b4
      have L4 := Lib.hid (show Below N w w4 from ((R4.out.trans (BR.out.mono HNle.out)).trans (B3.out.mono (Nat.le_trans HNle.out BR.out.size))).trans ((show Below w3.heap.size w3 w4 from ⟨b4.os, b4.tape, b4.output, b4.size, b4.block⟩).mono (Nat.le_trans HNle.out (Nat.le_trans BR.out.size B3.out.size))))
      have CW := Lib.hid (bd_write ⟨((T.drop (a + k)).take m).toArray⟩ Bd4 (by rw [hkl]; simp [ByteArray.size]; omega) (Nat.le_trans (Nat.le_of_eq HN.out) L4.out.size))
      clear Bd4 b4 hcut d0 d1 d2 c0 c1 c2 c3 c4 c5 q0 q1 q2 CS
      go_wp2_with (fail)
      refine CW.out.mono ?_
      rintro e w5 ⟨rfl, b5, l5⟩
      have BD5 := Lib.hid b5
      have L5 := Lib.hid l5
      clear b5 l5 CW
      go_wp2_with (fail)
      go_roundg (n - (k + m))
      case measure => have := HMM.out; have := R1.out; omega
      case rel =>
        have hmm := HMM.out
        have hpo := HPO.out
        have e1 : (T.drop a).take (k + m) = (T.drop a).take k ++ (T.drop (a + k)).take m := by rw [List.take_add, List.drop_drop]
        refine ⟨k + m, i + 1, 0, Nat.le_refl _, by omega, by go_num, rfl, ?_, L4.out.trans (L5.out), fun hlt2 => ?_⟩
        · rw [e1]; exact BD5.out
        · have hil := (List.getElem?_eq_some_iff.1 HQ.out).1
          have h2 : pLen (qs.take (i + 1)) = pLen (qs.take i) + x.n := by rw [List.take_succ_eq_append_getElem hil, pLen_append, (List.getElem?_eq_some_iff.1 HQ.out).2]; simp [pLen]
          have h3 : i + 1 < qs.length := by
            rcases Nat.lt_or_ge (i + 1) qs.length with h | h
            · exact h
            · have := List.take_of_length_le h
              rw [this] at h2; omega
          exact ⟨by omega, qs[i + 1], List.getElem?_eq_getElem h3, HPOS.out _ (List.getElem_mem h3)⟩
    · obtain rfl : k = n := by omega
      have CSt := Lib.hid (bd_string r3 HNle.out)
      clear r3 r4 r5
      go_wp2_with (fail)
      refine CLn.out.mono ?_
      rintro e w1 ⟨rfl, rfl⟩
      go_wp2_with (fail)
      refine CSt.out.mono ?_
      rintro e w2 ⟨rfl, l2⟩
      have L2 := Lib.hid l2
      clear l2 CSt
      go_wp2_with (fail)
      go_ret2
      refine ⟨rfl, ?_⟩
      rw [← HN.out]
      exact R4.out.trans L2.out
end
end Go.Proofs.Ytemcffihfeaniaa

/- cut: without a node. -/
import Derived.Test.YtemcffihfeaniaaAt
namespace Go.Own
open Go
set_option linter.unusedVariables false
theorem Tr.cut_told : ∀ (t : Tr) (i : Int), Told t → 0 ≤ i → i < t.cnt → Told (cut i t) ∧ (cut i t).cnt = t.cnt - 1
  | nil, i, _, h0, h1 => by simp only [cnt_nil] at h1; omega
  | node b k z h c s l r, i, ⟨t1, t2, t3, t4, t5⟩, h0, h1 => by
    simp only [cnt_node] at h1
    simp only [cut, cnt_node]
    split
    · have g := cut_told l i t1 h0 ‹_›
      refine ⟨rot_told g.1 t2, ?_⟩
      rw [rot_cnt g.1 t2]; omega
    · split
      · have g := cut_told r (i - l.cnt - 1) t2 (by omega) (by omega)
        refine ⟨rot_told t1 g.1, ?_⟩
        rw [rot_cnt t1 g.1]; omega
      · split
        · refine ⟨t2, ?_⟩; simp only [cnt_nil] at *; omega
        · split
          · refine ⟨t1, ?_⟩; simp only [cnt_nil] at *; omega
          · rename_i lb lk lz lh lc ls ll lr n1 n2 _ rb rk rz rh rc rs rl rr
            have g := cut_told _ 0 t2 (Int.le_refl _) t2.cnt_pos
            refine ⟨rot_told t1 g.1, ?_⟩
            rw [rot_cnt t1 g.1]; omega
theorem Tr.cut_sized : ∀ (t : Tr) (i : Int), Told t → Sized t → 0 ≤ i → i < t.cnt → Sized (cut i t)
  | nil, i, _, _, h0, h1 => by simp only [cnt_nil] at h1; omega
  | node b k z h c s l r, i, ⟨t1, t2, t3, t4, t5⟩, ⟨s1, s2, s3, s4⟩, h0, h1 => by
    simp only [cnt_node] at h1
    simp only [cut]
    split
    · exact rot_sized (cut_sized l i t1 s1 h0 ‹_›) s2 s3 s4
    · split
      · exact rot_sized s1 (cut_sized r (i - l.cnt - 1) t2 s2 (by omega) (by omega)) s3 s4
      · split
        · exact s2
        · split
          · exact s1
          · rename_i lb lk lz lh lc ls ll lr n1 n2 _ rb rk rz rh rc rs rl rr
            have g := nodeAt_size _ 0 t2 s2 (Int.le_refl _) t2.cnt_pos
            exact rot_sized s1 (cut_sized _ 0 t2 s2 (Int.le_refl _) t2.cnt_pos) g.1 g.2
theorem Tr.nodeAt_cells {w : World} : ∀ (t : Tr) (i : Int), t.In w → Told t → 0 ≤ i → i < t.cnt → ∃ (x y : Tr) (h c s : Int), w.heap[(nodeAt i t).1]? = some (.cells #[x.ptr, y.ptr, .int .i64 (nodeAt i t).2.1, .int .i64 (nodeAt i t).2.2, .int .i64 h, .int .i64 c, .int .i64 s] 89 (0, 0))
  | nil, i, _, _, h0, h1 => by simp only [cnt_nil] at h1; omega
  | node b k z h c s l r, i, ⟨i1, i2, i3⟩, ⟨t1, t2, t3, t4, t5⟩, h0, h1 => by
    simp only [cnt_node] at h1
    simp only [nodeAt]
    split
    · exact nodeAt_cells l i i2 t1 h0 ‹_›
    · split
      · exact nodeAt_cells r _ i3 t2 (by omega) (by omega)
      · exact ⟨l, r, h, c, s, i1⟩
theorem cut_facts (b : Nat) (k z h c s : Int) (l r : Tr) (i : Int) (ht : (Tr.node b k z h c s l r).Told) (hs : (Tr.node b k z h c s l r).Sized) (hc : c ≤ 100000) (h0 : 0 ≤ i) (h1 : i < c) :
    (i < l.cnt → ((Tr.cut i l).Told ∧ r.Told ∧ (Tr.cut i l).Sized ∧ r.Sized ∧ (Tr.cut i l).cnt + r.cnt ≤ 200000)) ∧ (l.cnt < i → (l.Told ∧ (Tr.cut (i - l.cnt - 1) r).Told ∧ l.Sized ∧ (Tr.cut (i - l.cnt - 1) r).Sized ∧ l.cnt + (Tr.cut (i - l.cnt - 1) r).cnt ≤ 200000)) := by
  have hh := ht.2.2.2.1
  have b1 := ht.1.cnt_nonneg
  have b2 := ht.2.1.cnt_nonneg
  refine ⟨fun hlt => ?_, fun hgt => ?_⟩
  · have a1 := Tr.cut_told l i ht.1 h0 hlt
    exact ⟨a1.1, ht.2.1, Tr.cut_sized l i ht.1 hs.1 h0 hlt, hs.2.1, by omega⟩
  · have a1 := Tr.cut_told r (i - l.cnt - 1) ht.2.1 (by omega) (by omega)
    exact ⟨ht.1, a1.1, hs.1, Tr.cut_sized r _ ht.2.1 hs.2.1 (by omega) (by omega), by omega⟩
end Go.Own
namespace Go.Proofs.Ytemcffihfeaniaa
open Go.RowKit Go.Deep Go.Own
set_option linter.unusedVariables false
set_option maxRecDepth 100000 in
set_option maxHeartbeats 16000000 in
theorem cut_calls : ∀ (t : Tr) (i : Int) (w : World), t.In w → t.blocks.Nodup → t.Told → t.Sized → t.cnt ≤ 100000 → 0 ≤ i → i < t.cnt →
    Calls Try.prog 55 #[t.ptr, .int .i64 i] w fun e w' => e = .returned (Tr.cut i t).ptr ∧ (Tr.cut i t).In w' ∧ Fr (fun x => x ∈ (Tr.cut i t).blocks) w w' := by
  intro t
  induction t with
  | nil => intro i w _ _ _ _ _ h0 h1; simp only [Tr.cnt_nil] at h1; omega
  | node b k z h c s l r ihl ihr =>
    intro i w hi hnd ht hs hc h0 h1
    have tcl := ht.1.cnt_nonneg
    have tcr := ht.2.1.cnt_nonneg
    have tc := ht.2.2.2.1
    simp only [Tr.cnt_node] at hc h1
    obtain ⟨c0, c1, _, _, _, _, _, c7⟩ := hi.cells
    have hz : 0 ≤ z ∧ z ≤ 1099511627776 := hs.2.2
    have hnd1 := hnd
    simp only [Tr.blocks, List.nodup_cons, List.nodup_append, List.mem_append, not_or] at hnd1
    obtain ⟨⟨n4, n5⟩, n6, n7, n8⟩ := hnd1
    obtain ⟨pl, hpl⟩ := Tr.ptr_is l
    obtain ⟨pr, hpr⟩ := Tr.ptr_is r
    have HI := Lib.hid hi
    have HPL := Lib.hid hpl
    have HPR := Lib.hid hpr
    have HM := Lib.hid (show Calls Try.prog 52 #[.pointer pl] w fun e w' => e = .returned (.int .i64 l.cnt) ∧ w = w' from hpl ▸ many_calls l w hi.2.1)
    rw [hpl] at c0
    rw [hpr] at c1
    have CL := Lib.hid (fun hle : i < l.cnt => ihl i w.drew (hi.2.1.keep fun _ _ => rfl) n6 ht.1 hs.1 (by omega) h0 hle)
    have CR' := Lib.hid (fun hgt : l.cnt < i => ihr (i - l.cnt - 1) w.drew (hi.2.2.keep fun _ _ => rfl) n7 ht.2.1 hs.2.1 (by omega) (by omega) (by omega))
    have C0 := Lib.hid (fun hp : 0 < r.cnt => ihr 0 w hi.2.2 n7 ht.2.1 hs.2.1 (by omega) (Int.le_refl _) hp)
    have HT := Lib.hid ht
    have HS := Lib.hid hs
    have FF := Lib.hid (cut_facts b k z h c s l r i ht hs hc h0 h1)
    have HN := Lib.hid (And.intro (And.intro n4 n5) (And.intro n6 (And.intro n7 n8)))
    have HND := Lib.hid hnd
    clear ihl ihr hi hpl hpr ht hs hnd n4 n5 n6 n7 n8
    rw [show (Tr.node b k z h c s l r).ptr = .pointer (some ⟨b, 0, none⟩) from rfl]
    simp only [Tr.cut]
    by_cases hle : i < l.cnt
    · rw [if_pos hle]
      have g1 : decide (i < l.cnt) = true := by simpa using hle
      have CL' := Lib.hid (CL.out hle)
      have TT := Lib.hid (FF.out.1 hle)
      clear CL CR' C0 FF
      rw [HPL.out] at CL'
      have PB := Lib.hid (Tr.cut_blocks l i HT.out.1 (by omega) (by omega))
      have SB : Hid (∀ q ∈ (Tr.cut i l).blocks, q ∈ l.blocks) := Lib.hid fun q hq => PB.out.mem_iff.1 (List.mem_cons_of_mem _ hq)
      have BN : Hid (b ∉ (Tr.cut i l).blocks) := Lib.hid fun e => HN.out.1.1 (SB.out _ e)
      have ON : Hid (∀ q ∈ r.blocks, q ∉ (Tr.cut i l).blocks) := Lib.hid fun q hq e => HN.out.2.2.2 q (SB.out _ e) q hq rfl
      have NE : Hid ((Tr.node b k z h c s (Tr.cut i l) r).blocks.Nodup) := Lib.hid (by
        have hp : ((Tr.nodeAt i l).1 :: (Tr.node b k z h c s (Tr.cut i l) r).blocks).Perm (Tr.node b k z h c s l r).blocks := by
          have := List.perm_iff_count.1 PB.out
          rw [List.perm_iff_count]; intro x
          have := this x
          simp only [Tr.blocks, List.count_cons, List.count_append] at this ⊢; omega
        exact (List.nodup_cons.1 (hp.nodup_iff.2 HND.out)).2)
      go_enter Try.func55, Try.ntmps55
      go_wp2_with (fail)
      refine HM.out.mono ?_
      rintro e w0 ⟨rfl, rfl⟩
      go_wp2_with (fail)
      refine Own.region_mix (CR [5] [(5, ⟨b, 0, none⟩, .pointer pl)]) [5] [0, 0, 2, 6, 14, 30, 0, 126, 1, 257, 1023, 2047] (Own.Ord.run [(0, true), (1, true), (2, true), (3, true), (4, true), (5, true), (6, true), (8, true), (9, true), (7, false), (10, true), (11, false)] .done) (by kernel_rfl) (by kernel_rfl) (fun dst v c a w h => by cases dst <;> exact h) (fun x hx w => CR.off x hx w) ?_
      simp only [Own.Ord.run]
      repeat (refine Own.st_blind _ rfl rfl (CR.off _ (by decide) _) ?_; go_big_quiet_step (fail); refine wpQuiet_nil ?_)
      refine Own.st_load _ rfl rfl (.pointer (some ⟨b, 0, none⟩)) (fun w' _ => by go_simp) (CR.off _ (by decide) _) ?_
      simp only [Act.put, List.setIfInBounds_toArray, List.set_cons_succ, List.set_cons_zero]
      repeat (refine Own.st_blind _ rfl rfl (CR.off _ (by decide) _) ?_; go_big_quiet_step (fail); refine wpQuiet_nil ?_)
      refine Own.st_load _ rfl rfl (.pointer pl) (fun w' hw' => ?_) ?_ ?_
      · have hg := hw'.get (a := ⟨b, 0, none⟩) (v := .pointer pl) (by decide) (by simp)
        go_simp
      · intro _ q hq e; simp only [List.mem_cons, List.mem_nil_iff, or_false] at hq; subst hq <;> first | assumption | (simp at e; done) | (go_simp; done) | (simp; done)
      simp only [Act.put, List.setIfInBounds_toArray, List.set_cons_succ, List.set_cons_zero]
      repeat (refine Own.st_blind _ rfl rfl (CR.off _ (by decide) _) ?_; go_big_quiet_step (fail); refine wpQuiet_nil ?_)
      refine Own.st_load _ rfl rfl (.pointer (some ⟨b, 0, none⟩)) (fun w' _ => by go_simp) (CR.off _ (by decide) _) ?_
      simp only [Act.put, List.setIfInBounds_toArray, List.set_cons_succ, List.set_cons_zero]
      repeat (refine Own.st_blind _ rfl rfl (CR.off _ (by decide) _) ?_; go_big_quiet_step (fail); refine wpQuiet_nil ?_)
      refine Own.st_do _ rfl rfl (fun K hK => ?_)
      go_simp
      refine CL'.out.mono ?_
      rintro e w2 ⟨rfl, i2, f2⟩
      obtain ⟨pq, hpq⟩ := Tr.ptr_is (Tr.cut i l)
      rw [hpq]
      refine hK _ _ (fun q hq hd => by rw [(by decide : ∀ x ∈ [5], Own.dep [0, 0, 2, 6, 14, 30, 0, 126, 1, 257, 1023, 2047] 7 x = true) q hq] at hd; cases hd) ?_
      clear hK K
      repeat (refine Own.st_blind _ rfl rfl (CR.off _ (by decide) _) ?_; go_big_quiet_step (fail); refine wpQuiet_nil ?_)
      have hbl : w2.heap[b]? = some (.cells #[l.ptr, r.ptr, .int .i64 k, .int .i64 z, .int .i64 h, .int .i64 c, .int .i64 s] 89 (0, 0)) := (f2.block b (Array.getElem?_eq_some_iff.1 HI.out.1).1 BN.out).trans HI.out.1
      have hir : r.In w2 := HI.out.2.2.keep fun q hq => f2.block q (HI.out.2.2.lt q hq) (ON.out q hq)
      have e0 : ∃ pp, w2.cell? ⟨b, 0, none⟩ = some (.pointer pp) := by
        refine ⟨pl, ?_⟩
        rw [← HPL.out]; simp [World.cell?, hbl]
      obtain ⟨pp, e0⟩ := e0
      have e1 : w2.frozen? ⟨b, 0, none⟩ = false := by simp [World.frozen?, hbl]
      have HB := Lib.hid hbl
      have I2 := Lib.hid i2
      have HPQ := Lib.hid hpq
      have F2 := Lib.hid f2
      clear i2 f2 hbl hpq
      refine Own.st_do _ rfl rfl (fun K hK => ?_)
      go_simp
      refine hK _ _ (fun q hq hd => by rw [(by decide : ∀ x ∈ [5], Own.dep [0, 0, 2, 6, 14, 30, 0, 126, 1, 257, 1023, 2047] 11 x = true) q hq] at hd; cases hd) ?_
      clear hK K
      refine Own.mix_done ?_
      clear e0 e1
      generalize hw3 : World.setCell w2 ⟨b, 0, none⟩ (.pointer pq) = w3
      have i3 : (Tr.node b k z h c s (Tr.cut i l) r).In w3 := by
        refine ⟨?_, I2.out.keep fun j hj => ?_, hir.keep fun j hj => ?_⟩
        · rw [← hw3, ← HPQ.out, setCell_same HB.out]; rfl
        · rw [← hw3]; exact setCell_other _ (fun e => BN.out (by have e' : j = b := e; rw [← e']; exact hj))
        · rw [← hw3]; exact setCell_other _ (fun e => HN.out.1.2 (by have e' : j = b := e; rw [← e']; exact hj))
      have f3 : Fr (fun x => x ∈ (Tr.rot b k z (Tr.cut i l) r).blocks) w w3 := by
        rw [← hw3]
        have f2 : Fr (fun x => x ∈ (Tr.rot b k z (Tr.cut i l) r).blocks) w w2 := (Fr.refl _ w).step F2.out.os F2.out.tape F2.out.output F2.out.size fun j hj hn => F2.out.block j hj fun e => hn (.inl ((Tr.rot_blocks _ _ _ _ _).mem_iff.2 (by simp only [List.mem_cons, List.mem_append]; simp [e])))
        exact f2.setCell _ _ (.inl ((Tr.rot_blocks _ _ _ _ _).mem_iff.2 (by simp)))
      have CE := Lib.hid (even_calls b k z h c s (Tr.cut i l) r w3 i3 NE.out TT.out.1 TT.out.2.1 TT.out.2.2.1 TT.out.2.2.2.1 TT.out.2.2.2.2 hz)
      have F3 := Lib.hid f3
      clear f3 i3 hir hw3
      go_wp2_with (fail)
      refine CE.out.mono ?_
      rintro e w4 ⟨rfl, i4, f4⟩
      have I4 := Lib.hid i4
      have F4 := Lib.hid f4
      clear i4 f4 CE
      go_wp2_with (fail)
      go_ret
      exact ⟨rfl, I4.out, F3.out.trans (F4.out.mono fun j h => .inl h)⟩
    · rw [if_neg hle]
      by_cases hgt : l.cnt < i
      · rw [if_pos hgt]
        have g1 : decide (i < l.cnt) = false := by simpa using hle
        have g2 : decide (l.cnt < i) = true := by simpa using hgt
        have CL' := Lib.hid (CR'.out hgt)
        have TT := Lib.hid (FF.out.2 hgt)
        clear CL CR' C0 FF
        rw [HPR.out] at CL'
        have PB := Lib.hid (Tr.cut_blocks r (i - l.cnt - 1) HT.out.2.1 (by omega) (by omega))
        have SB : Hid (∀ q ∈ (Tr.cut (i - l.cnt - 1) r).blocks, q ∈ r.blocks) := Lib.hid fun q hq => PB.out.mem_iff.1 (List.mem_cons_of_mem _ hq)
        have BN : Hid (b ∉ (Tr.cut (i - l.cnt - 1) r).blocks) := Lib.hid fun e => HN.out.1.2 (SB.out _ e)
        have ON : Hid (∀ q ∈ l.blocks, q ∉ (Tr.cut (i - l.cnt - 1) r).blocks) := Lib.hid fun q hq e => HN.out.2.2.2 q hq q (SB.out _ e) rfl
        have NE : Hid ((Tr.node b k z h c s l (Tr.cut (i - l.cnt - 1) r)).blocks.Nodup) := Lib.hid (by
          have hp : ((Tr.nodeAt (i - l.cnt - 1) r).1 :: (Tr.node b k z h c s l (Tr.cut (i - l.cnt - 1) r)).blocks).Perm (Tr.node b k z h c s l r).blocks := by
            have := List.perm_iff_count.1 PB.out
            rw [List.perm_iff_count]; intro x
            have := this x
            simp only [Tr.blocks, List.count_cons, List.count_append] at this ⊢; omega
          exact (List.nodup_cons.1 (hp.nodup_iff.2 HND.out)).2)
        go_enter Try.func55, Try.ntmps55
        go_wp2_with (fail)
        refine HM.out.mono ?_
        rintro e w0 ⟨rfl, rfl⟩
        go_wp2_with (fail)
        refine Own.region_mix (CR [5] [(5, ⟨b, 1, none⟩, .pointer pr)]) [5] [0, 0, 2, 6, 14, 30, 0, 0, 192, 448, 1022, 1, 2049, 8191, 16383] (Own.Ord.run [(0, true), (1, true), (2, true), (3, true), (4, true), (5, true), (6, true), (7, true), (8, true), (9, true), (11, true), (12, true), (10, false), (13, true), (14, false)] .done) (by kernel_rfl) (by kernel_rfl) (fun dst v c a w h => by cases dst <;> exact h) (fun x hx w => CR.off x hx w) ?_
        simp only [Own.Ord.run]
        repeat (refine Own.st_blind _ rfl rfl (CR.off _ (by decide) _) ?_; go_big_quiet_step (fail); refine wpQuiet_nil ?_)
        refine Own.st_load _ rfl rfl (.pointer (some ⟨b, 0, none⟩)) (fun w' _ => by go_simp) (CR.off _ (by decide) _) ?_
        simp only [Act.put, List.setIfInBounds_toArray, List.set_cons_succ, List.set_cons_zero]
        repeat (refine Own.st_blind _ rfl rfl (CR.off _ (by decide) _) ?_; go_big_quiet_step (fail); refine wpQuiet_nil ?_)
        refine Own.st_load _ rfl rfl (.pointer pr) (fun w' hw' => ?_) ?_ ?_
        · have hg := hw'.get (a := ⟨b, 1, none⟩) (v := .pointer pr) (by decide) (by simp)
          go_simp
        · intro _ q hq e; simp only [List.mem_cons, List.mem_nil_iff, or_false] at hq; subst hq <;> first | assumption | (simp at e; done) | (go_simp; done) | (simp; done)
        simp only [Act.put, List.setIfInBounds_toArray, List.set_cons_succ, List.set_cons_zero]
        repeat (refine Own.st_blind _ rfl rfl (CR.off _ (by decide) _) ?_; go_big_quiet_step (fail); refine wpQuiet_nil ?_)
        refine Own.st_load _ rfl rfl (.pointer (some ⟨b, 0, none⟩)) (fun w' _ => by go_simp) (CR.off _ (by decide) _) ?_
        simp only [Act.put, List.setIfInBounds_toArray, List.set_cons_succ, List.set_cons_zero]
        repeat (refine Own.st_blind _ rfl rfl (CR.off _ (by decide) _) ?_; go_big_quiet_step (fail); refine wpQuiet_nil ?_)
        refine Own.st_do _ rfl rfl (fun K hK => ?_)
        go_simp
        refine CL'.out.mono ?_
        rintro e w2 ⟨rfl, i2, f2⟩
        obtain ⟨pq, hpq⟩ := Tr.ptr_is (Tr.cut (i - l.cnt - 1) r)
        rw [hpq]
        refine hK _ _ (fun q hq hd => by rw [(by decide : ∀ x ∈ [5], Own.dep [0, 0, 2, 6, 14, 30, 0, 0, 192, 448, 1022, 1, 2049, 8191, 16383] 10 x = true) q hq] at hd; cases hd) ?_
        clear hK K
        repeat (refine Own.st_blind _ rfl rfl (CR.off _ (by decide) _) ?_; go_big_quiet_step (fail); refine wpQuiet_nil ?_)
        have hbl : w2.heap[b]? = some (.cells #[l.ptr, r.ptr, .int .i64 k, .int .i64 z, .int .i64 h, .int .i64 c, .int .i64 s] 89 (0, 0)) := (f2.block b (Array.getElem?_eq_some_iff.1 HI.out.1).1 BN.out).trans HI.out.1
        have hir : l.In w2 := HI.out.2.1.keep fun q hq => f2.block q (HI.out.2.1.lt q hq) (ON.out q hq)
        have e0 : ∃ pp, w2.cell? ⟨b, 1, none⟩ = some (.pointer pp) := by
          refine ⟨pr, ?_⟩
          rw [← HPR.out]; simp [World.cell?, hbl]
        obtain ⟨pp, e0⟩ := e0
        have e1 : w2.frozen? ⟨b, 1, none⟩ = false := by simp [World.frozen?, hbl]
        have HB := Lib.hid hbl
        have I2 := Lib.hid i2
        have HPQ := Lib.hid hpq
        have F2 := Lib.hid f2
        clear i2 f2 hbl hpq
        refine Own.st_do _ rfl rfl (fun K hK => ?_)
        go_simp
        refine hK _ _ (fun q hq hd => by rw [(by decide : ∀ x ∈ [5], Own.dep [0, 0, 2, 6, 14, 30, 0, 0, 192, 448, 1022, 1, 2049, 8191, 16383] 14 x = true) q hq] at hd; cases hd) ?_
        clear hK K
        refine Own.mix_done ?_
        clear e0 e1
        generalize hw3 : World.setCell w2 ⟨b, 1, none⟩ (.pointer pq) = w3
        have i3 : (Tr.node b k z h c s l (Tr.cut (i - l.cnt - 1) r)).In w3 := by
          refine ⟨?_, hir.keep fun j hj => ?_, I2.out.keep fun j hj => ?_⟩
          · rw [← hw3, ← HPQ.out, setCell_same HB.out]; rfl
          · rw [← hw3]; exact setCell_other _ (fun e => HN.out.1.1 (by have e' : j = b := e; rw [← e']; exact hj))
          · rw [← hw3]; exact setCell_other _ (fun e => BN.out (by have e' : j = b := e; rw [← e']; exact hj))
        have f3 : Fr (fun x => x ∈ (Tr.rot b k z l (Tr.cut (i - l.cnt - 1) r)).blocks) w w3 := by
          rw [← hw3]
          have f2 : Fr (fun x => x ∈ (Tr.rot b k z l (Tr.cut (i - l.cnt - 1) r)).blocks) w w2 := (Fr.refl _ w).step F2.out.os F2.out.tape F2.out.output F2.out.size fun j hj hn => F2.out.block j hj fun e => hn (.inl ((Tr.rot_blocks _ _ _ _ _).mem_iff.2 (by simp only [List.mem_cons, List.mem_append]; simp [e])))
          exact f2.setCell _ _ (.inl ((Tr.rot_blocks _ _ _ _ _).mem_iff.2 (by simp)))
        have CE := Lib.hid (even_calls b k z h c s l (Tr.cut (i - l.cnt - 1) r) w3 i3 NE.out TT.out.1 TT.out.2.1 TT.out.2.2.1 TT.out.2.2.2.1 TT.out.2.2.2.2 hz)
        have F3 := Lib.hid f3
        clear f3 i3 hir hw3
        go_wp2_with (fail)
        refine CE.out.mono ?_
        rintro e w4 ⟨rfl, i4, f4⟩
        have I4 := Lib.hid i4
        have F4 := Lib.hid f4
        clear i4 f4 CE
        go_wp2_with (fail)
        go_ret
        exact ⟨rfl, I4.out, F3.out.trans (F4.out.mono fun j h => .inl h)⟩
      · rw [if_neg hgt]
        have g1 : decide (i < l.cnt) = false := by simpa using hle
        have g2 : decide (l.cnt < i) = false := by simpa using hgt
        clear CL CR' FF
        cases l with
        | nil =>
          simp only [Tr.ptr, Value.pointer.injEq] at HPL
          obtain rfl : none = pl := HPL.out
          go_enter Try.func55, Try.ntmps55
          go_wp2_with (fail)
          refine HM.out.mono ?_
          rintro e w0 ⟨rfl, rfl⟩
          go_wp2_with (fail)
          go_ret
          exact ⟨by rw [HPR.out]; rfl, HI.out.2.2, Fr.refl _ _⟩
        | node lb lk lz lh lc ls ll lr =>
          cases r with
          | nil =>
            simp only [Tr.ptr, Value.pointer.injEq] at HPL HPR
            obtain rfl : some ⟨lb, 0, none⟩ = pl := HPL.out
            obtain rfl : none = pr := HPR.out
            go_enter Try.func55, Try.ntmps55
            go_wp2_with (fail)
            refine HM.out.mono ?_
            rintro e w0 ⟨rfl, rfl⟩
            go_wp2_with (fail)
            go_ret
            exact ⟨rfl, HI.out.2.1, Fr.refl _ _⟩
          | node rb rk rz rh rc rs rl rr =>
            have C0' := Lib.hid (C0.out HT.out.2.1.cnt_pos)
            have CA := Lib.hid (at_calls (Tr.node rb rk rz rh rc rs rl rr) 0 w HI.out.2.2 HT.out.2.1 (Int.le_refl _) HT.out.2.1.cnt_pos (by omega))
            have KT := Lib.hid (Tr.cut_told (Tr.node rb rk rz rh rc rs rl rr) 0 HT.out.2.1 (Int.le_refl _) HT.out.2.1.cnt_pos)
            have KS := Lib.hid (Tr.cut_sized (Tr.node rb rk rz rh rc rs rl rr) 0 HT.out.2.1 HS.out.2.1 (Int.le_refl _) HT.out.2.1.cnt_pos)
            have KZ := Lib.hid (Tr.nodeAt_size (Tr.node rb rk rz rh rc rs rl rr) 0 HT.out.2.1 HS.out.2.1 (Int.le_refl _) HT.out.2.1.cnt_pos)
            have KP := Lib.hid (Tr.cut_blocks (Tr.node rb rk rz rh rc rs rl rr) 0 HT.out.2.1 (Int.le_refl _) HT.out.2.1.cnt_pos)
            have KC := Lib.hid (Tr.nodeAt_cells (Tr.node rb rk rz rh rc rs rl rr) 0 HI.out.2.2 HT.out.2.1 (Int.le_refl _) HT.out.2.1.cnt_pos)
            have hpl0 : pl = some ⟨lb, 0, none⟩ := by have := HPL.out; simp only [Tr.ptr, Value.pointer.injEq] at this; exact this.symm
            have hpr0 : pr = some ⟨rb, 0, none⟩ := by have := HPR.out; simp only [Tr.ptr, Value.pointer.injEq] at this; exact this.symm
            subst hpl0 hpr0
            rw [HPR.out] at C0' CA
            clear C0
            generalize hrr : (Tr.node rb rk rz rh rc rs rl rr) = R at *
            generalize hll : (Tr.node lb lk lz lh lc ls ll lr) = L at *
            have HRR := Lib.hid hrr
            have HLL := Lib.hid hll
            clear hrr hll
            generalize hna : Tr.nodeAt 0 R = na at *
            obtain ⟨bn, kn, zn⟩ := na
            have HNA := Lib.hid hna
            clear hna
            go_enter Try.func55, Try.ntmps55
            go_wp2_with (fail)
            refine HM.out.mono ?_
            rintro e w0 ⟨rfl, rfl⟩
            go_wp2_with (fail)
            refine CA.out.mono ?_
            rintro e w0 ⟨rfl, rfl⟩
            go_wp2_with (fail)
            refine C0'.out.mono ?_
            rintro e w2 ⟨rfl, i2, f2⟩
            obtain ⟨pq, hpq⟩ := Tr.ptr_is (Tr.cut 0 R)
            rw [hpq]
            have sb : ∀ q ∈ (Tr.cut 0 R).blocks, q ∈ R.blocks := fun q hq => KP.out.mem_iff.1 (List.mem_cons_of_mem _ hq)
            have hbn : bn ∈ R.blocks := KP.out.mem_iff.1 (by simp)
            have hbn2 : bn ∉ (Tr.cut 0 R).blocks := (List.nodup_cons.1 (KP.out.nodup_iff.2 HN.out.2.2.1)).1
            have hbb : b ∉ (Tr.cut 0 R).blocks := fun e => HN.out.1.2 (sb _ e)
            have hbl : w2.heap[b]? = some (.cells #[L.ptr, R.ptr, .int .i64 k, .int .i64 z, .int .i64 h, .int .i64 c, .int .i64 s] 89 (0, 0)) := (f2.block b (Array.getElem?_eq_some_iff.1 HI.out.1).1 hbb).trans HI.out.1
            obtain ⟨xn, yn, hn, cn, sn, hcn⟩ := KC.out
            have hbc : w2.heap[bn]? = some (.cells #[xn.ptr, yn.ptr, .int .i64 kn, .int .i64 zn, .int .i64 hn, .int .i64 cn, .int .i64 sn] 89 (0, 0)) := (f2.block bn (Array.getElem?_eq_some_iff.1 hcn).1 hbn2).trans hcn
            have hil : L.In w2 := HI.out.2.1.keep fun q hq => f2.block q (HI.out.2.1.lt q hq) (fun e => HN.out.2.2.2 q hq q (sb _ e) rfl)
            have e0 : w2.cell? ⟨b, 0, none⟩ = some (.pointer (some ⟨lb, 0, none⟩)) := by rw [← HPL.out]; simp [World.cell?, hbl]
            have e2 : ∃ v, w2.cell? ⟨bn, 0, none⟩ = some v := ⟨xn.ptr, by simp [World.cell?, hbc]⟩
            have e3 : ∃ v, w2.cell? ⟨bn, 1, none⟩ = some v := ⟨yn.ptr, by simp [World.cell?, hbc]⟩
            have e4 : ∀ j, w2.frozen? ⟨bn, j, none⟩ = false := fun j => by simp [World.frozen?, hbc]
            obtain ⟨v2, e2⟩ := e2
            obtain ⟨v3, e3⟩ := e3
            have HBC := Lib.hid hbc
            have I2 := Lib.hid i2
            have F2 := Lib.hid f2
            have HPQ := Lib.hid hpq
            have SB := Lib.hid sb
            clear i2 f2 hbl hbc hpq sb hcn c0 c1 c7 CA C0'
            go_wp2_with (fail)
            have hrl : ∀ q ∈ L.blocks, q ∉ R.blocks := fun q hq e => HN.out.2.2.2 q hq q e rfl
            generalize hw3 : (w2.setCell ⟨bn, 0, none⟩ (.pointer (some ⟨lb, 0, none⟩))).setCell ⟨bn, 1, none⟩ (.pointer pq) = w3
            have oth : ∀ q, q ≠ bn → w3.heap[q]? = w2.heap[q]? := fun q hq => by rw [← hw3, setCell_other _ hq, setCell_other _ hq]
            have i3 : (Tr.node bn kn zn hn cn sn L (Tr.cut 0 R)).In w3 := by
              refine ⟨?_, hil.keep fun j hj => oth j (fun e => hrl _ hj (e ▸ hbn)), I2.out.keep fun j hj => oth j (fun e => hbn2 (e ▸ hj))⟩
              rw [← hw3, setCell_same (setCell_same HBC.out _), HPL.out, HPQ.out]; rfl
            have f3 : Fr (fun x => x ∈ (Tr.rot bn kn zn L (Tr.cut 0 R)).blocks) w w3 := by
              rw [← hw3]
              have f2 : Fr (fun x => x ∈ (Tr.rot bn kn zn L (Tr.cut 0 R)).blocks) w w2 := (Fr.refl _ w).step F2.out.os F2.out.tape F2.out.output F2.out.size fun j hj hn => F2.out.block j hj fun e => hn (.inl ((Tr.rot_blocks _ _ _ _ _).mem_iff.2 (by simp only [List.mem_cons, List.mem_append]; simp [e])))
              exact (f2.setCell _ _ (.inl ((Tr.rot_blocks _ _ _ _ _).mem_iff.2 (by simp)))).setCell _ _ (.inl ((Tr.rot_blocks _ _ _ _ _).mem_iff.2 (by simp)))
            have hnd3 : (Tr.node bn kn zn hn cn sn L (Tr.cut 0 R)).blocks.Nodup := by
              simp only [Tr.blocks, List.nodup_cons, List.nodup_append, List.mem_append, not_or]
              exact ⟨⟨fun e => hrl _ e hbn, hbn2⟩, HN.out.2.1, (List.nodup_cons.1 (KP.out.nodup_iff.2 HN.out.2.2.1)).2, fun a ha b hb e => hrl a ha (SB.out _ (e ▸ hb))⟩
            have CE := Lib.hid (even_calls bn kn zn hn cn sn L (Tr.cut 0 R) w3 i3 hnd3 HT.out.1 KT.out.1 HS.out.1 KS.out (by have := KT.out.2; omega) KZ.out)
            have F3 := Lib.hid f3
            clear f3 i3 hil hw3 oth e0 e2 e3 e4
            refine CE.out.mono ?_
            rintro e w4 ⟨rfl, i4, f4⟩
            have I4 := Lib.hid i4
            have F4 := Lib.hid f4
            clear i4 f4 CE
            go_wp2_with (fail)
            go_ret
            exact ⟨rfl, I4.out, F3.out.trans (F4.out.mono fun j h => .inl h)⟩
end Go.Proofs.Ytemcffihfeaniaa

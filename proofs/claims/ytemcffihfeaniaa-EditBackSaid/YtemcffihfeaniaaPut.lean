/- put: a node more. -/
import Derived.Test.YtemcffihfeaniaaEvs
set_option linter.unusedVariables false
namespace Go.Own
open Go
theorem Tr.nil_fit : Fit nil := by unfold Fit; simp only [hi_nil, cnt_nil, sum_nil]; decide
theorem Tr.ptr_is (t : Tr) : ∃ p, t.ptr = .pointer p := by cases t <;> exact ⟨_, rfl⟩
theorem Tr.rot_cnt {b : Nat} {k z : Int} {l r : Tr} (hl : Told l) (hr : Told r) : (rot b k z l r).cnt = 1 + l.cnt + r.cnt := by
  have h := (rot_told (b := b) (k := k) (z := z) hl hr).cnt_eq
  rw [rot_items] at h
  have h1 := hl.cnt_eq
  have h2 := hr.cnt_eq
  simp only [List.length_append, List.length_cons] at h
  omega
theorem Tr.put_told (b : Nat) (k z : Int) : ∀ (t : Tr) (i : Int), Told t → Told (put b k z i t) ∧ (put b k z i t).cnt = t.cnt + 1
  | nil, i, _ => ⟨⟨trivial, trivial, rfl, rfl, rfl⟩, rfl⟩
  | node b' k' z' h c s l r, i, ⟨t1, t2, t3, t4, t5⟩ => by
    simp only [put]
    split
    · have g := put_told b k z l i t1
      refine ⟨rot_told g.1 t2, ?_⟩
      rw [rot_cnt g.1 t2, cnt_node]; omega
    · have g := put_told b k z r (i - l.cnt - 1) t2
      refine ⟨rot_told t1 g.1, ?_⟩
      rw [rot_cnt t1 g.1, cnt_node]; omega
theorem Tr.put_sized (b : Nat) (k z : Int) (hz : 0 ≤ z ∧ z ≤ 1099511627776) : ∀ (t : Tr) (i : Int), Sized t → Sized (put b k z i t)
  | nil, i, _ => ⟨trivial, trivial, hz.1, hz.2⟩
  | node b' k' z' h c s l r, i, ⟨s1, s2, s3, s4⟩ => by
    simp only [put]
    split
    · exact rot_sized (put_sized b k z hz l i s1) s2 s3 s4
    · exact rot_sized s1 (put_sized b k z hz r _ s2) s3 s4
end Go.Own
namespace Go.Own
open Go
theorem put_facts (bi : Nat) (ki zi : Int) (hzi : 0 ≤ zi ∧ zi ≤ 1099511627776) (b : Nat) (k z h c s : Int) (l r : Tr) (i : Int) (ht : (Tr.node b k z h c s l r).Told) (hs : (Tr.node b k z h c s l r).Sized) (hc : c ≤ 100000) (h0 : 0 ≤ i) (h1 : i ≤ c) :
    ((Tr.put bi ki zi i l).Told ∧ r.Told ∧ (Tr.put bi ki zi i l).Sized ∧ r.Sized ∧ (Tr.put bi ki zi i l).cnt + r.cnt ≤ 200000) ∧ (l.Told ∧ (Tr.put bi ki zi (i - l.cnt - 1) r).Told ∧ l.Sized ∧ (Tr.put bi ki zi (i - l.cnt - 1) r).Sized ∧ l.cnt + (Tr.put bi ki zi (i - l.cnt - 1) r).cnt ≤ 200000) := by
  have hh := ht.2.2.2.1
  have a1 := Tr.put_told bi ki zi l i ht.1
  have a2 := Tr.put_told bi ki zi r (i - l.cnt - 1) ht.2.1
  have b1 := ht.1.cnt_nonneg
  have b2 := ht.2.1.cnt_nonneg
  exact ⟨⟨a1.1, ht.2.1, Tr.put_sized bi ki zi hzi l i hs.1, hs.2.1, by omega⟩, ht.1, a2.1, hs.1, Tr.put_sized bi ki zi hzi r _ hs.2.1, by omega⟩
end Go.Own
namespace Go.Proofs.Ytemcffihfeaniaa
open Go.RowKit Go.Deep Go.Own
set_option linter.unusedVariables false
set_option maxRecDepth 100000 in
set_option maxHeartbeats 8000000 in
theorem put_calls (bi : Nat) (ki zi hh cc ss : Int) (hzi : 0 ≤ zi ∧ zi ≤ 1099511627776) : ∀ (t : Tr) (i : Int) (w : World), (Tr.node bi ki zi hh cc ss .nil .nil).In w → t.In w → (bi :: t.blocks).Nodup → t.Told → t.Sized → t.cnt ≤ 100000 → 0 ≤ i → i ≤ t.cnt →
    Calls Try.prog 50 #[t.ptr, .int .i64 i, .pointer (some ⟨bi, 0, none⟩)] w fun e w' => e = .returned (Tr.put bi ki zi i t).ptr ∧ (Tr.put bi ki zi i t).In w' ∧ Fr (fun x => x ∈ (Tr.put bi ki zi i t).blocks) w w' := by
  intro t
  induction t with
  | nil =>
    intro i w hitem _ _ _ _ _ _ _
    have CT := Lib.hid (told_mk bi ki zi hh cc ss .nil .nil w hitem ⟨by simp [Tr.blocks], by simp [Tr.blocks]⟩ Tr.nil_fit Tr.nil_fit hzi)
    rw [show Tr.nil.ptr = .pointer none from rfl, show Tr.put bi ki zi i .nil = Tr.mk bi ki zi .nil .nil from rfl]
    clear hitem
    go_enter Try.func50, Try.ntmps50
    go_wp2_with (fail)
    refine CT.out.mono ?_
    rintro e w1 ⟨rfl, i1, f1⟩
    have I1 := Lib.hid i1
    have F1 := Lib.hid f1
    clear i1 f1 CT
    go_wp2_with (fail)
    go_ret
    exact ⟨rfl, I1.out, F1.out.mono fun j hj => by simp [Tr.mk, Tr.blocks, hj]⟩
  | node b k z h c s l r ihl ihr =>
    intro i w hitem hi hnd ht hs hc h0 h1
    have tcl := ht.1.cnt_nonneg
    have tcr := ht.2.1.cnt_nonneg
    have tc := ht.2.2.2.1
    simp only [Tr.cnt_node] at hc h1
    have hmany := Lib.hid (fun n => many_calls l (World.drewN w n) (hi.2.1.drewN n))
    obtain ⟨c0, c1, _, _, _, _, _, c7⟩ := hi.cells
    have hz : 0 ≤ z ∧ z ≤ 1099511627776 := hs.2.2
    have hnd1 := hnd
    simp only [Tr.blocks, List.nodup_cons, List.nodup_append, List.mem_cons, List.mem_append, not_or] at hnd1
    obtain ⟨⟨n1, n2, n3⟩, ⟨n4, n5⟩, n6, n7, n8⟩ := hnd1
    obtain ⟨pl, hpl⟩ : ∃ p, l.ptr = .pointer p := by cases l <;> exact ⟨_, rfl⟩
    obtain ⟨pr, hpr⟩ : ∃ p, r.ptr = .pointer p := by cases r <;> exact ⟨_, rfl⟩
    have HI := Lib.hid hi
    have HIT := Lib.hid hitem
    have HPL := Lib.hid hpl
    have HPR := Lib.hid hpr
    have HM := Lib.hid (show Calls Try.prog 52 #[.pointer pl] w fun e w' => e = .returned (.int .i64 l.cnt) ∧ w = w' from hpl ▸ hmany.out 0)
    rw [hpl] at c0
    rw [hpr] at c1
    have hne : Value.pointer (some ⟨b, 0, none⟩) ≠ Value.pointer none := by simp
    have CL := Lib.hid (fun hle : i ≤ l.cnt => ihl i w.drew (hitem.keep fun _ _ => rfl) (hi.2.1.keep fun _ _ => rfl) (by rw [List.nodup_cons]; exact ⟨n2, n6⟩) ht.1 hs.1 (by omega) h0 hle)
    have CR' := Lib.hid (fun hgt : l.cnt < i => ihr (i - l.cnt - 1) w.drew (hitem.keep fun _ _ => rfl) (hi.2.2.keep fun _ _ => rfl) (by rw [List.nodup_cons]; exact ⟨n3, n7⟩) ht.2.1 hs.2.1 (by omega) (by omega) (by omega))
    have HT := Lib.hid ht
    have HS := Lib.hid hs
    have HN := Lib.hid (And.intro (And.intro n1 (And.intro n2 n3)) (And.intro (And.intro n4 n5) (And.intro n6 (And.intro n7 n8))))
    clear ihl ihr hi hitem hpl hpr hmany ht hs hnd n1 n2 n3 n4 n5 n6 n7 n8
    rw [show (Tr.node b k z h c s l r).ptr = .pointer (some ⟨b, 0, none⟩) from rfl]
    simp only [Tr.put]
    by_cases hle : i ≤ l.cnt
    · rw [if_pos hle]
      have g1 : decide (i ≤ l.cnt) = true := by simpa using hle
      have CL' := Lib.hid (CL.out hle)
      clear CL CR'
      rw [HPL.out] at CL'
      have PB := Lib.hid (Tr.put_blocks bi ki zi l i)
      have BN : Hid (b ∉ (Tr.put bi ki zi i l).blocks) := Lib.hid fun e => by
        rcases List.mem_cons.1 (PB.out.mem_iff.1 e) with e | e
        · exact HN.out.1.1 e.symm
        · exact HN.out.2.1.1 e
      have ON : Hid (∀ q ∈ r.blocks, q ∉ (Tr.put bi ki zi i l).blocks) := Lib.hid fun q hq e => by
        rcases List.mem_cons.1 (PB.out.mem_iff.1 e) with e | e
        · exact HN.out.1.2.2 (e ▸ hq)
        · exact HN.out.2.2.2.2 q e q hq rfl
      have NE : Hid ((Tr.node b k z h c s (Tr.put bi ki zi i l) r).blocks.Nodup) := Lib.hid (by
        have hn : (bi :: (Tr.node b k z h c s l r).blocks).Nodup := by
          simp only [Tr.blocks, List.nodup_cons, List.nodup_append, List.mem_cons, List.mem_append, not_or]
          exact HN.out
        have hp : (bi :: (Tr.node b k z h c s l r).blocks).Perm (Tr.node b k z h c s (Tr.put bi ki zi i l) r).blocks := by
          have := List.perm_iff_count.1 PB.out
          rw [List.perm_iff_count]; intro x
          have := this x
          simp only [Tr.blocks, List.count_cons, List.count_append] at this ⊢; omega
        exact hp.nodup_iff.1 hn)
      have TT := Lib.hid (put_facts bi ki zi hzi b k z h c s l r i HT.out HS.out hc h0 h1).1
      go_enter Try.func50, Try.ntmps50
      go_wp2_with (fail)
      refine HM.out.mono ?_
      rintro e w0 ⟨rfl, rfl⟩
      go_wp2_with (fail)
      refine Own.region_mix (CR [5] [(5, ⟨b, 0, none⟩, .pointer pl)]) [5] [0, 0, 2, 6, 14, 30, 0, 0, 254, 1, 513, 2047, 4095] (Own.Ord.run [(0, true), (1, true), (2, true), (3, true), (4, true), (5, true), (6, true), (7, true), (9, true), (10, true), (8, false), (11, true), (12, false)] .done) (by kernel_rfl) (by kernel_rfl) (fun dst v c a w h => by cases dst <;> exact h) (fun x hx w => CR.off x hx w) ?_
      simp only [Own.Ord.run]
      repeat (refine Own.st_blind _ rfl rfl (CR.off _ (by decide) _) ?_; go_big_quiet_step (fail); refine wpQuiet_nil ?_)
      refine Own.st_load _ rfl rfl (.pointer (some ⟨b, 0, none⟩)) (fun w' _ => by go_simp) (CR.off _ (by decide) _) ?_
      simp only [Act.put, List.setIfInBounds_toArray, List.set_cons_succ, List.set_cons_zero]
      repeat (refine Own.st_blind _ rfl rfl (CR.off _ (by decide) _) ?_; go_big_quiet_step (fail); refine wpQuiet_nil ?_)
      refine Own.st_load _ rfl rfl (.pointer pl) (fun w' hw' => ?_) ?_ ?_
      · have hg := hw'.get (a := ⟨b, 0, none⟩) (v := .pointer pl) (by decide) (by simp)
        go_simp
      · intro _ q hq e; simp only [List.mem_cons, List.mem_nil_iff, or_false] at hq; subst hq <;> first | assumption | (simp at e; done) | (go_simp; done) | (simp; done)
      simp only [Act.put, List.setIfInBounds_toArray, List.set_cons_succ, List.set_cons_zero]
      repeat (refine Own.st_blind _ rfl rfl (CR.off _ (by decide) _) ?_; go_big_quiet_step (fail); refine wpQuiet_nil ?_)
      refine Own.st_load _ rfl rfl (.pointer (some ⟨b, 0, none⟩)) (fun w' _ => by go_simp) (CR.off _ (by decide) _) ?_
      simp only [Act.put, List.setIfInBounds_toArray, List.set_cons_succ, List.set_cons_zero]
      repeat (refine Own.st_blind _ rfl rfl (CR.off _ (by decide) _) ?_; go_big_quiet_step (fail); refine wpQuiet_nil ?_)
      refine Own.st_do _ rfl rfl (fun K hK => ?_)
      go_simp
      refine CL'.out.mono ?_
      rintro e w2 ⟨rfl, i2, f2⟩
      obtain ⟨pq, hpq⟩ := Tr.ptr_is (Tr.put bi ki zi i l)
      rw [hpq]
      refine hK _ _ (fun q hq hd => by rw [(by decide : ∀ x ∈ [5], Own.dep [0, 0, 2, 6, 14, 30, 0, 0, 254, 1, 513, 2047, 4095] 8 x = true) q hq] at hd; cases hd) ?_
      clear hK K
      repeat (refine Own.st_blind _ rfl rfl (CR.off _ (by decide) _) ?_; go_big_quiet_step (fail); refine wpQuiet_nil ?_)
      have hbl : w2.heap[b]? = some (.cells #[l.ptr, r.ptr, .int .i64 k, .int .i64 z, .int .i64 h, .int .i64 c, .int .i64 s] 89 (0, 0)) := (f2.block b (Array.getElem?_eq_some_iff.1 HI.out.1).1 BN.out).trans HI.out.1
      have hir : r.In w2 := HI.out.2.2.keep fun q hq => f2.block q (HI.out.2.2.lt q hq) (ON.out q hq)
      have e0 : ∃ pp, w2.cell? ⟨b, 0, none⟩ = some (.pointer pp) := by
        refine ⟨pl, ?_⟩
        rw [← HPL.out]; simp [World.cell?, hbl]
      obtain ⟨pp, e0⟩ := e0
      have e1 : w2.frozen? ⟨b, 0, none⟩ = false := by simp [World.frozen?, hbl]
      have HB := Lib.hid hbl
      have I2 := Lib.hid i2
      have HPQ := Lib.hid hpq
      have F2 := Lib.hid f2
      clear i2 f2 hbl hpq
      refine Own.st_do _ rfl rfl (fun K hK => ?_)
      go_simp
      refine hK _ _ (fun q hq hd => by rw [(by decide : ∀ x ∈ [5], Own.dep [0, 0, 2, 6, 14, 30, 0, 0, 254, 1, 513, 2047, 4095] 12 x = true) q hq] at hd; cases hd) ?_
      clear hK K
      refine Own.mix_done ?_
      clear e0 e1
      generalize hw3 : World.setCell w2 ⟨b, 0, none⟩ (.pointer pq) = w3
      have i3 : (Tr.node b k z h c s (Tr.put bi ki zi i l) r).In w3 := by
        refine ⟨?_, I2.out.keep fun j hj => ?_, hir.keep fun j hj => ?_⟩
        · rw [← hw3, ← HPQ.out, setCell_same HB.out]; rfl
        · rw [← hw3]; exact setCell_other _ (fun e => BN.out (by have e' : j = b := e; rw [← e']; exact hj))
        · rw [← hw3]; exact setCell_other _ (fun e => HN.out.2.1.2 (by have e' : j = b := e; rw [← e']; exact hj))
      have f3 : Fr (fun x => x ∈ (Tr.rot b k z (Tr.put bi ki zi i l) r).blocks) w w3 := by
        rw [← hw3]
        have f2 : Fr (fun x => x ∈ (Tr.rot b k z (Tr.put bi ki zi i l) r).blocks) w w2 := (Fr.refl _ w).step F2.out.os F2.out.tape F2.out.output F2.out.size fun j hj hn => F2.out.block j hj fun e => hn (.inl ((Tr.rot_blocks _ _ _ _ _).mem_iff.2 (by simp only [List.mem_cons, List.mem_append]; simp [e])))
        exact f2.setCell _ _ (.inl ((Tr.rot_blocks _ _ _ _ _).mem_iff.2 (by simp)))
      have CE := Lib.hid (even_calls b k z h c s (Tr.put bi ki zi i l) r w3 i3 NE.out TT.out.1 TT.out.2.1 TT.out.2.2.1 TT.out.2.2.2.1 TT.out.2.2.2.2 hz)
      have F3 := Lib.hid f3
      clear f3 i3 hir hw3
      go_wp2_with (fail)
      refine CE.out.mono ?_
      rintro e w4 ⟨rfl, i4, f4⟩
      have I4 := Lib.hid i4
      have F4 := Lib.hid f4
      clear i4 f4 CE
      go_wp2_with (fail)
      go_ret
      exact ⟨rfl, I4.out, F3.out.trans (F4.out.mono fun j h => .inl h)⟩
    · rw [if_neg hle]
      have g1 : decide (i ≤ l.cnt) = false := by simpa using hle
      have CL' := Lib.hid (CR'.out (by omega))
      clear CL CR'
      rw [HPR.out] at CL'
      have PB := Lib.hid (Tr.put_blocks bi ki zi r (i - l.cnt - 1))
      have BN : Hid (b ∉ (Tr.put bi ki zi (i - l.cnt - 1) r).blocks) := Lib.hid fun e => by
        rcases List.mem_cons.1 (PB.out.mem_iff.1 e) with e | e
        · exact HN.out.1.1 e.symm
        · exact HN.out.2.1.2 e
      have ON : Hid (∀ q ∈ l.blocks, q ∉ (Tr.put bi ki zi (i - l.cnt - 1) r).blocks) := Lib.hid fun q hq e => by
        rcases List.mem_cons.1 (PB.out.mem_iff.1 e) with e | e
        · exact HN.out.1.2.1 (e ▸ hq)
        · exact HN.out.2.2.2.2 q hq q e rfl
      have NE : Hid ((Tr.node b k z h c s l (Tr.put bi ki zi (i - l.cnt - 1) r)).blocks.Nodup) := Lib.hid (by
        have hn : (bi :: (Tr.node b k z h c s l r).blocks).Nodup := by
          simp only [Tr.blocks, List.nodup_cons, List.nodup_append, List.mem_cons, List.mem_append, not_or]
          exact HN.out
        have hp : (bi :: (Tr.node b k z h c s l r).blocks).Perm (Tr.node b k z h c s l (Tr.put bi ki zi (i - l.cnt - 1) r)).blocks := by
          have := List.perm_iff_count.1 PB.out
          rw [List.perm_iff_count]; intro x
          have := this x
          simp only [Tr.blocks, List.count_cons, List.count_append] at this ⊢; omega
        exact hp.nodup_iff.1 hn)
      have TT := Lib.hid (put_facts bi ki zi hzi b k z h c s l r i HT.out HS.out hc h0 h1).2
      go_enter Try.func50, Try.ntmps50
      go_wp2_with (fail)
      refine HM.out.mono ?_
      rintro e w0 ⟨rfl, rfl⟩
      go_wp2_with (fail)
      refine Own.region_mix (CR [5] [(5, ⟨b, 1, none⟩, .pointer pr)]) [5] [0, 0, 2, 6, 14, 30, 0, 0, 192, 448, 0, 2046, 1, 4097, 16383, 32767] (Own.Ord.run [(0, true), (1, true), (2, true), (3, true), (4, true), (5, true), (6, true), (7, true), (8, true), (9, true), (10, true), (12, true), (13, true), (11, false), (14, true), (15, false)] .done) (by kernel_rfl) (by kernel_rfl) (fun dst v c a w h => by cases dst <;> exact h) (fun x hx w => CR.off x hx w) ?_
      simp only [Own.Ord.run]
      repeat (refine Own.st_blind _ rfl rfl (CR.off _ (by decide) _) ?_; go_big_quiet_step (fail); refine wpQuiet_nil ?_)
      refine Own.st_load _ rfl rfl (.pointer (some ⟨b, 0, none⟩)) (fun w' _ => by go_simp) (CR.off _ (by decide) _) ?_
      simp only [Act.put, List.setIfInBounds_toArray, List.set_cons_succ, List.set_cons_zero]
      repeat (refine Own.st_blind _ rfl rfl (CR.off _ (by decide) _) ?_; go_big_quiet_step (fail); refine wpQuiet_nil ?_)
      refine Own.st_load _ rfl rfl (.pointer pr) (fun w' hw' => ?_) ?_ ?_
      · have hg := hw'.get (a := ⟨b, 1, none⟩) (v := .pointer pr) (by decide) (by simp)
        go_simp
      · intro _ q hq e; simp only [List.mem_cons, List.mem_nil_iff, or_false] at hq; subst hq <;> first | assumption | (simp at e; done) | (go_simp; done) | (simp; done)
      simp only [Act.put, List.setIfInBounds_toArray, List.set_cons_succ, List.set_cons_zero]
      repeat (refine Own.st_blind _ rfl rfl (CR.off _ (by decide) _) ?_; go_big_quiet_step (fail); refine wpQuiet_nil ?_)
      refine Own.st_load _ rfl rfl (.pointer (some ⟨b, 0, none⟩)) (fun w' _ => by go_simp) (CR.off _ (by decide) _) ?_
      simp only [Act.put, List.setIfInBounds_toArray, List.set_cons_succ, List.set_cons_zero]
      repeat (refine Own.st_blind _ rfl rfl (CR.off _ (by decide) _) ?_; go_big_quiet_step (fail); refine wpQuiet_nil ?_)
      refine Own.st_do _ rfl rfl (fun K hK => ?_)
      go_simp
      refine CL'.out.mono ?_
      rintro e w2 ⟨rfl, i2, f2⟩
      obtain ⟨pq, hpq⟩ := Tr.ptr_is (Tr.put bi ki zi (i - l.cnt - 1) r)
      rw [hpq]
      refine hK _ _ (fun q hq hd => by rw [(by decide : ∀ x ∈ [5], Own.dep [0, 0, 2, 6, 14, 30, 0, 0, 192, 448, 0, 2046, 1, 4097, 16383, 32767] 11 x = true) q hq] at hd; cases hd) ?_
      clear hK K
      repeat (refine Own.st_blind _ rfl rfl (CR.off _ (by decide) _) ?_; go_big_quiet_step (fail); refine wpQuiet_nil ?_)
      have hbl : w2.heap[b]? = some (.cells #[l.ptr, r.ptr, .int .i64 k, .int .i64 z, .int .i64 h, .int .i64 c, .int .i64 s] 89 (0, 0)) := (f2.block b (Array.getElem?_eq_some_iff.1 HI.out.1).1 BN.out).trans HI.out.1
      have hir : l.In w2 := HI.out.2.1.keep fun q hq => f2.block q (HI.out.2.1.lt q hq) (ON.out q hq)
      have e0 : ∃ pp, w2.cell? ⟨b, 1, none⟩ = some (.pointer pp) := by
        refine ⟨pr, ?_⟩
        rw [← HPR.out]; simp [World.cell?, hbl]
      obtain ⟨pp, e0⟩ := e0
      have e1 : w2.frozen? ⟨b, 1, none⟩ = false := by simp [World.frozen?, hbl]
      have HB := Lib.hid hbl
      have I2 := Lib.hid i2
      have HPQ := Lib.hid hpq
      have F2 := Lib.hid f2
      clear i2 f2 hbl hpq
      refine Own.st_do _ rfl rfl (fun K hK => ?_)
      go_simp
      refine hK _ _ (fun q hq hd => by rw [(by decide : ∀ x ∈ [5], Own.dep [0, 0, 2, 6, 14, 30, 0, 0, 192, 448, 0, 2046, 1, 4097, 16383, 32767] 15 x = true) q hq] at hd; cases hd) ?_
      clear hK K
      refine Own.mix_done ?_
      clear e0 e1
      generalize hw3 : World.setCell w2 ⟨b, 1, none⟩ (.pointer pq) = w3
      have i3 : (Tr.node b k z h c s l (Tr.put bi ki zi (i - l.cnt - 1) r)).In w3 := by
        refine ⟨?_, hir.keep fun j hj => ?_, I2.out.keep fun j hj => ?_⟩
        · rw [← hw3, ← HPQ.out, setCell_same HB.out]; rfl
        · rw [← hw3]; exact setCell_other _ (fun e => HN.out.2.1.1 (by have e' : j = b := e; rw [← e']; exact hj))
        · rw [← hw3]; exact setCell_other _ (fun e => BN.out (by have e' : j = b := e; rw [← e']; exact hj))
      have f3 : Fr (fun x => x ∈ (Tr.rot b k z l (Tr.put bi ki zi (i - l.cnt - 1) r)).blocks) w w3 := by
        rw [← hw3]
        have f2 : Fr (fun x => x ∈ (Tr.rot b k z l (Tr.put bi ki zi (i - l.cnt - 1) r)).blocks) w w2 := (Fr.refl _ w).step F2.out.os F2.out.tape F2.out.output F2.out.size fun j hj hn => F2.out.block j hj fun e => hn (.inl ((Tr.rot_blocks _ _ _ _ _).mem_iff.2 (by simp only [List.mem_cons, List.mem_append]; simp [e])))
        exact f2.setCell _ _ (.inl ((Tr.rot_blocks _ _ _ _ _).mem_iff.2 (by simp)))
      have CE := Lib.hid (even_calls b k z h c s l (Tr.put bi ki zi (i - l.cnt - 1) r) w3 i3 NE.out TT.out.1 TT.out.2.1 TT.out.2.2.1 TT.out.2.2.2.1 TT.out.2.2.2.2 hz)
      have F3 := Lib.hid f3
      clear f3 i3 hir hw3
      go_wp2_with (fail)
      refine CE.out.mono ?_
      rintro e w4 ⟨rfl, i4, f4⟩
      have I4 := Lib.hid i4
      have F4 := Lib.hid f4
      clear i4 f4 CE
      go_wp2_with (fail)
      go_ret
      exact ⟨rfl, I4.out, F3.out.trans (F4.out.mono fun j h => .inl h)⟩
end Go.Proofs.Ytemcffihfeaniaa

/- lift. -/
import Derived.Test.YtemcffihfeaniaaTold
namespace Go.Own
set_option linter.unusedVariables false
/-- a node that tells what is below it -/
def Tr.mk (b : Nat) (k z : Int) (l r : Tr) : Tr := .node b k z (1 + max l.hi r.hi) (1 + l.cnt + r.cnt) (z + l.sum + r.sum) l r
/-- figures that do not run over -/
def Tr.Fit (t : Tr) : Prop := 0 ≤ t.hi ∧ t.hi ≤ 1099511627776 ∧ 0 ≤ t.cnt ∧ t.cnt ≤ 1099511627776 ∧ 0 ≤ t.sum ∧ t.sum ≤ 1152921504606846976
end Go.Own
namespace Go.Proofs.Ytemcffihfeaniaa
open Go.RowKit Go.Deep Go.Own
set_option linter.unusedVariables false
theorem told_mk (b : Nat) (k z h c s : Int) (l r : Tr) (w : World) (hi : (Tr.node b k z h c s l r).In w) (hb : b ∉ l.blocks ∧ b ∉ r.blocks) (hl : l.Fit) (hr : r.Fit) (hz : 0 ≤ z ∧ z ≤ 1099511627776) :
    Calls Try.prog 71 #[.pointer (some ⟨b, 0, none⟩)] w fun e w' => e = .returned (.pointer (some ⟨b, 0, none⟩)) ∧ (Tr.mk b k z l r).In w' ∧ Fr (fun x => x = b) w w' :=
  told_calls b k z h c s l r w hi hb hl hr hz
set_option maxRecDepth 100000 in
set_option maxHeartbeats 4000000 in
theorem lift0_calls (b : Nat) (k z h c s : Int) (b2 : Nat) (k2 z2 h2 c2 s2 : Int) (x y t : Tr) (w : World) (hi : (Tr.node b k z h c s (Tr.node b2 k2 z2 h2 c2 s2 x y) t).In w) (hnd : (Tr.node b k z h c s (Tr.node b2 k2 z2 h2 c2 s2 x y) t).blocks.Nodup) (hx : x.Fit) (hy : y.Fit) (ht : t.Fit) (hn : (Tr.mk b k z y t).Fit) (hz : 0 ≤ z ∧ z ≤ 1099511627776) (hz2 : 0 ≤ z2 ∧ z2 ≤ 1099511627776) :
    Calls Try.prog 76 #[.pointer (some ⟨b, 0, none⟩), .int .i64 0] w fun e w' => e = .returned (.pointer (some ⟨b2, 0, none⟩)) ∧ (Tr.mk b2 k2 z2 x (Tr.mk b k z y t)).In w' ∧ Fr (fun x => x = b ∨ x = b2) w w' := by
  obtain ⟨c0, c1, _, _, _, _, _, c7⟩ := hi.cells
  obtain ⟨d0, d1, _, _, _, _, _, d7⟩ := hi.2.1.cells
  have HI := Lib.hid hi
  simp only [Tr.ptr] at c0
  go_enter Try.func76, Try.ntmps76
  go_wp2
  have bne : b ≠ b2 := fun e => by simp [Tr.blocks, e] at hnd
  obtain ⟨py, hpy⟩ : ∃ p, y.ptr = .pointer p := by cases y <;> exact ⟨_, rfl⟩
  rw [hpy] at d1
  have HPY := Lib.hid hpy
  clear hpy
  have y1 : w.cell? ⟨b2, 1, none⟩ = some (.pointer py) := d1
  refine Own.region_mix (CR [11] [(11, ⟨b2, 1, none⟩, .pointer py)]) [11] [0, 0, 0, 0, 8, 0, 0, 64, 32, 288, 992, 2016, 0, 1, 8193, 28643, 61411, 4, 131076, 524287, 1048575] (Own.Ord.run [(0, true), (1, true), (2, true), (3, true), (4, true), (5, true), (6, true), (7, true), (8, true), (9, true), (10, true), (11, true), (12, true), (13, true), (14, true), (15, true), (17, true), (18, true), (16, false), (19, true), (20, false)] .done) (by kernel_rfl) (by kernel_rfl) (fun dst v c a w h => by cases dst <;> exact h) (fun x hx w => CR.off x hx w) ?_
  simp only [Own.Ord.run]
  repeat (refine Own.st_blind _ rfl rfl (CR.off _ (by decide) _) ?_; go_big_quiet_step (fail); refine wpQuiet_nil ?_)
  refine Own.st_load _ rfl rfl (.pointer (some ⟨b2, 0, none⟩)) (fun w' _ => by go_simp) (CR.off _ (by decide) _) ?_
  simp only [Act.put, List.setIfInBounds_toArray, List.set_cons_succ, List.set_cons_zero]
  repeat (refine Own.st_blind _ rfl rfl (CR.off _ (by decide) _) ?_; go_big_quiet_step (fail); refine wpQuiet_nil ?_)
  refine Own.st_load _ rfl rfl (.pointer py) (fun w' hw' => ?_) (CR.all (by intro q hq; obtain rfl := List.mem_singleton.1 hq; exact y1) _) ?_
  · have hg := hw'.get (a := ⟨b2, 1, none⟩) (v := .pointer py) (by decide) (by simp)
    go_simp
  simp only [Act.put, List.setIfInBounds_toArray, List.set_cons_succ, List.set_cons_zero]
  repeat (refine Own.st_blind _ rfl rfl (CR.off _ (by decide) _) ?_; go_big_quiet_step (fail); refine wpQuiet_nil ?_)
  refine Own.st_load _ rfl rfl (.pointer (some ⟨b, 0, none⟩)) (fun w' _ => by go_simp) (CR.off _ (by decide) _) ?_
  simp only [Act.put, List.setIfInBounds_toArray, List.set_cons_succ, List.set_cons_zero]
  repeat (refine Own.st_blind _ rfl rfl (CR.off _ (by decide) _) ?_; go_big_quiet_step (fail); refine wpQuiet_nil ?_)
  refine Own.st_load _ rfl rfl (.pointer (some ⟨b2, 0, none⟩)) (fun w' _ => by go_simp) (CR.off _ (by decide) _) ?_
  simp only [Act.put, List.setIfInBounds_toArray, List.set_cons_succ, List.set_cons_zero]
  repeat (refine Own.st_blind _ rfl rfl (CR.off _ (by decide) _) ?_; go_big_quiet_step (fail); refine wpQuiet_nil ?_)
  have fz : ∀ v, (w.setCell ⟨b, 0, none⟩ v).frozen? ⟨b2, 1, none⟩ = false := fun v => by rw [World.frozen?_of_block (w := w) (setCell_other (w := w) _ (Ne.symm bne))]; exact d7 1
  have cz : ∀ v, (w.setCell ⟨b, 0, none⟩ v).cell? ⟨b2, 1, none⟩ = some (.pointer py) := fun v => by rw [World.cell?_of_block (w := w) (setCell_other (w := w) _ (Ne.symm bne))]; exact d1
  refine Own.st_do _ rfl rfl (fun K hK => ?_)
  go_simp
  refine hK _ _ (fun q hq hd => by rw [(by decide : ∀ x ∈ [11], Own.dep [0, 0, 0, 0, 8, 0, 0, 64, 32, 288, 992, 2016, 0, 1, 8193, 28643, 61411, 4, 131076, 524287, 1048575] 16 x = true) q hq] at hd; cases hd) ?_
  clear hK K
  repeat (refine Own.st_blind _ rfl rfl (CR.off _ (by decide) _) ?_; go_big_quiet_step (fail); refine wpQuiet_nil ?_)
  refine Own.st_do _ rfl rfl (fun K hK => ?_)
  go_simp
  refine hK _ _ (fun q hq hd => by rw [(by decide : ∀ x ∈ [11], Own.dep [0, 0, 0, 0, 8, 0, 0, 64, 32, 288, 992, 2016, 0, 1, 8193, 28643, 61411, 4, 131076, 524287, 1048575] 20 x = true) q hq] at hd; cases hd) ?_
  clear hK K
  refine Own.mix_done ?_
  go_wp2_with (fail)
  generalize hw2 : ((w.setCell ⟨b, 0, none⟩ (Value.pointer py)).setCell ⟨b2, 1, none⟩ (Value.pointer (some ⟨b, 0, none⟩))).drew = w2
  have oth : ∀ q, q ≠ b → q ≠ b2 → w2.heap[q]? = w.heap[q]? := fun q h1 h2 => by
    rw [← hw2, show ∀ w : World, w.drew.heap = w.heap from fun _ => rfl, setCell_other _ h2, setCell_other _ h1]
  have eb : w2.heap[b]? = some (.cells #[y.ptr, t.ptr, .int .i64 k, .int .i64 z, .int .i64 h, .int .i64 c, .int .i64 s] 89 (0, 0)) := by
    rw [← hw2, show ∀ w : World, w.drew.heap = w.heap from fun _ => rfl, setCell_other _ bne, setCell_same HI.out.1 _, HPY.out]; rfl
  have eb2 : w2.heap[b2]? = some (.cells #[x.ptr, .pointer (some ⟨b, 0, none⟩), .int .i64 k2, .int .i64 z2, .int .i64 h2, .int .i64 c2, .int .i64 s2] 89 (0, 0)) := by
    rw [← hw2, show ∀ w : World, w.drew.heap = w.heap from fun _ => rfl, setCell_same ((setCell_other _ (Ne.symm bne)).trans HI.out.2.1.1) _]; rfl
  have n1 : b ∉ x.blocks := fun hh => by simp [Tr.blocks, hh] at hnd
  have n2 : b ∉ y.blocks := fun hh => by simp [Tr.blocks, hh] at hnd
  have n3 : b ∉ t.blocks := fun hh => by simp [Tr.blocks, hh] at hnd
  have n4 : b2 ∉ x.blocks := fun hh => by simp [Tr.blocks, hh] at hnd
  have n5 : b2 ∉ y.blocks := fun hh => by simp [Tr.blocks, hh] at hnd
  have n6 : b2 ∉ t.blocks := fun hh => by simp [Tr.blocks, List.nodup_append, hh] at hnd
  have ix : x.In w2 := HI.out.2.1.2.1.keep fun q hq => oth q (fun e => n1 (by rw [← e]; exact hq)) (fun e => n4 (by rw [← e]; exact hq))
  have iy : y.In w2 := HI.out.2.1.2.2.keep fun q hq => oth q (fun e => n2 (by rw [← e]; exact hq)) (fun e => n5 (by rw [← e]; exact hq))
  have it : t.In w2 := HI.out.2.2.keep fun q hq => oth q (fun e => n3 (by rw [← e]; exact hq)) (fun e => n6 (by rw [← e]; exact hq))
  have F2 : Fr (fun q => q = b ∨ q = b2) w w2 := ⟨by rw [← hw2]; rfl, by rw [← hw2]; rfl, by rw [← hw2]; rfl, by rw [← hw2]; simp [World.setCell], fun q _ hq => oth q (fun e => hq (.inl e)) (fun e => hq (.inr e))⟩
  refine (told_mk b k z h c s y t w2 ⟨eb, iy, it⟩ ⟨n2, n3⟩ hy ht hz).mono ?_
  rintro e w3 ⟨rfl, i3, f3⟩
  have o3 : ∀ q, q ≠ b → q < w2.heap.size → w3.heap[q]? = w2.heap[q]? := fun q h1 h2 => f3.block q h2 h1
  have eb3 : w3.heap[b2]? = some (.cells #[x.ptr, (Tr.mk b k z y t).ptr, .int .i64 k2, .int .i64 z2, .int .i64 h2, .int .i64 c2, .int .i64 s2] 89 (0, 0)) := (o3 b2 (Ne.symm bne) (Array.getElem?_eq_some_iff.1 eb2).1).trans eb2
  have ix3 : x.In w3 := ix.keep fun q hq => o3 q (fun e => n1 (by rw [← e]; exact hq)) (ix.lt q hq)
  have n7 : b2 ∉ (Tr.mk b k z y t).blocks := fun hm => by
    simp only [Tr.mk, Tr.blocks, List.mem_cons, List.mem_append] at hm
    rcases hm with e | e | e
    · exact bne e.symm
    · exact n5 e
    · exact n6 e
  have CT := Lib.hid (told_mk b2 k2 z2 h2 c2 s2 x (Tr.mk b k z y t) w3 ⟨eb3, ix3, i3⟩ ⟨n4, n7⟩ hx hn hz2)
  have F3 := Lib.hid (show Fr (fun q => q = b ∨ q = b2) w w3 from ⟨f3.os.trans F2.os, f3.tape.trans F2.tape, f3.output.trans F2.output, Nat.le_trans F2.size f3.size, fun q hq hn' => (f3.block q (Nat.lt_of_lt_of_le hq F2.size) (fun e => hn' (.inl e))).trans (F2.block q hq hn')⟩)
  clear eb eb2 eb3 ix iy it ix3 i3 f3 o3 oth F2 fz cz y1 d1 d0 d7 c0 c1 c7 hi hw2
  go_wp2_with (fail)
  refine CT.out.mono ?_
  rintro e w4 ⟨rfl, i4, f4⟩
  go_wp2_with (fail)
  go_ret
  exact ⟨rfl, i4, ⟨f4.os.trans F3.out.os, f4.tape.trans F3.out.tape, f4.output.trans F3.out.output, Nat.le_trans F3.out.size f4.size, fun q hq hn' => (f4.block q (Nat.lt_of_lt_of_le hq F3.out.size) (fun e => hn' (.inr e))).trans (F3.out.block q hq hn')⟩⟩
set_option maxRecDepth 100000 in
set_option maxHeartbeats 4000000 in
theorem lift1_calls (b : Nat) (k z h c s : Int) (b2 : Nat) (k2 z2 h2 c2 s2 : Int) (x y t : Tr) (w : World) (hi : (Tr.node b k z h c s t (Tr.node b2 k2 z2 h2 c2 s2 x y)).In w) (hnd : (Tr.node b k z h c s t (Tr.node b2 k2 z2 h2 c2 s2 x y)).blocks.Nodup) (hx : x.Fit) (hy : y.Fit) (ht : t.Fit) (hn : (Tr.mk b k z t x).Fit) (hz : 0 ≤ z ∧ z ≤ 1099511627776) (hz2 : 0 ≤ z2 ∧ z2 ≤ 1099511627776) :
    Calls Try.prog 76 #[.pointer (some ⟨b, 0, none⟩), .int .i64 1] w fun e w' => e = .returned (.pointer (some ⟨b2, 0, none⟩)) ∧ (Tr.mk b2 k2 z2 (Tr.mk b k z t x) y).In w' ∧ Fr (fun x => x = b ∨ x = b2) w w' := by
  obtain ⟨c0, c1, _, _, _, _, _, c7⟩ := hi.cells
  obtain ⟨d0, d1, _, _, _, _, _, d7⟩ := hi.2.2.cells
  have HI := Lib.hid hi
  simp only [Tr.ptr] at c1
  go_enter Try.func76, Try.ntmps76
  go_wp2
  have bne : b ≠ b2 := fun e => by simp [Tr.blocks, e] at hnd
  obtain ⟨py, hpy⟩ : ∃ p, x.ptr = .pointer p := by cases x <;> exact ⟨_, rfl⟩
  rw [hpy] at d0
  have HPY := Lib.hid hpy
  clear hpy
  have y1 : w.cell? ⟨b2, 0, none⟩ = some (.pointer py) := d0
  refine Own.region_mix (CR [11] [(11, ⟨b2, 0, none⟩, .pointer py)]) [11] [0, 0, 0, 0, 8, 0, 0, 64, 32, 288, 992, 2016, 0, 1, 8193, 28643, 61411, 4, 131076, 524287, 1048575] (Own.Ord.run [(0, true), (1, true), (2, true), (3, true), (4, true), (5, true), (6, true), (7, true), (8, true), (9, true), (10, true), (11, true), (12, true), (13, true), (14, true), (15, true), (17, true), (18, true), (16, false), (19, true), (20, false)] .done) (by kernel_rfl) (by kernel_rfl) (fun dst v c a w h => by cases dst <;> exact h) (fun x hx w => CR.off x hx w) ?_
  simp only [Own.Ord.run]
  repeat (refine Own.st_blind _ rfl rfl (CR.off _ (by decide) _) ?_; go_big_quiet_step (fail); refine wpQuiet_nil ?_)
  refine Own.st_load _ rfl rfl (.pointer (some ⟨b2, 0, none⟩)) (fun w' _ => by go_simp) (CR.off _ (by decide) _) ?_
  simp only [Act.put, List.setIfInBounds_toArray, List.set_cons_succ, List.set_cons_zero]
  repeat (refine Own.st_blind _ rfl rfl (CR.off _ (by decide) _) ?_; go_big_quiet_step (fail); refine wpQuiet_nil ?_)
  refine Own.st_load _ rfl rfl (.pointer py) (fun w' hw' => ?_) (CR.all (by intro q hq; obtain rfl := List.mem_singleton.1 hq; exact y1) _) ?_
  · have hg := hw'.get (a := ⟨b2, 0, none⟩) (v := .pointer py) (by decide) (by simp)
    go_simp
  simp only [Act.put, List.setIfInBounds_toArray, List.set_cons_succ, List.set_cons_zero]
  repeat (refine Own.st_blind _ rfl rfl (CR.off _ (by decide) _) ?_; go_big_quiet_step (fail); refine wpQuiet_nil ?_)
  refine Own.st_load _ rfl rfl (.pointer (some ⟨b, 0, none⟩)) (fun w' _ => by go_simp) (CR.off _ (by decide) _) ?_
  simp only [Act.put, List.setIfInBounds_toArray, List.set_cons_succ, List.set_cons_zero]
  repeat (refine Own.st_blind _ rfl rfl (CR.off _ (by decide) _) ?_; go_big_quiet_step (fail); refine wpQuiet_nil ?_)
  refine Own.st_load _ rfl rfl (.pointer (some ⟨b2, 0, none⟩)) (fun w' _ => by go_simp) (CR.off _ (by decide) _) ?_
  simp only [Act.put, List.setIfInBounds_toArray, List.set_cons_succ, List.set_cons_zero]
  repeat (refine Own.st_blind _ rfl rfl (CR.off _ (by decide) _) ?_; go_big_quiet_step (fail); refine wpQuiet_nil ?_)
  have fz : ∀ v, (w.setCell ⟨b, 1, none⟩ v).frozen? ⟨b2, 0, none⟩ = false := fun v => by rw [World.frozen?_of_block (w := w) (setCell_other (w := w) _ (Ne.symm bne))]; exact d7 0
  have cz : ∀ v, (w.setCell ⟨b, 1, none⟩ v).cell? ⟨b2, 0, none⟩ = some (.pointer py) := fun v => by rw [World.cell?_of_block (w := w) (setCell_other (w := w) _ (Ne.symm bne))]; exact d0
  refine Own.st_do _ rfl rfl (fun K hK => ?_)
  go_simp
  refine hK _ _ (fun q hq hd => by rw [(by decide : ∀ x ∈ [11], Own.dep [0, 0, 0, 0, 8, 0, 0, 64, 32, 288, 992, 2016, 0, 1, 8193, 28643, 61411, 4, 131076, 524287, 1048575] 16 x = true) q hq] at hd; cases hd) ?_
  clear hK K
  repeat (refine Own.st_blind _ rfl rfl (CR.off _ (by decide) _) ?_; go_big_quiet_step (fail); refine wpQuiet_nil ?_)
  refine Own.st_do _ rfl rfl (fun K hK => ?_)
  go_simp
  refine hK _ _ (fun q hq hd => by rw [(by decide : ∀ x ∈ [11], Own.dep [0, 0, 0, 0, 8, 0, 0, 64, 32, 288, 992, 2016, 0, 1, 8193, 28643, 61411, 4, 131076, 524287, 1048575] 20 x = true) q hq] at hd; cases hd) ?_
  clear hK K
  refine Own.mix_done ?_
  go_wp2_with (fail)
  generalize hw2 : ((w.setCell ⟨b, 1, none⟩ (Value.pointer py)).setCell ⟨b2, 0, none⟩ (Value.pointer (some ⟨b, 0, none⟩))).drew = w2
  have oth : ∀ q, q ≠ b → q ≠ b2 → w2.heap[q]? = w.heap[q]? := fun q h1 h2 => by
    rw [← hw2, show ∀ w : World, w.drew.heap = w.heap from fun _ => rfl, setCell_other _ h2, setCell_other _ h1]
  have eb : w2.heap[b]? = some (.cells #[t.ptr, x.ptr, .int .i64 k, .int .i64 z, .int .i64 h, .int .i64 c, .int .i64 s] 89 (0, 0)) := by
    rw [← hw2, show ∀ w : World, w.drew.heap = w.heap from fun _ => rfl, setCell_other _ bne, setCell_same HI.out.1 _, HPY.out]; rfl
  have eb2 : w2.heap[b2]? = some (.cells #[.pointer (some ⟨b, 0, none⟩), y.ptr, .int .i64 k2, .int .i64 z2, .int .i64 h2, .int .i64 c2, .int .i64 s2] 89 (0, 0)) := by
    rw [← hw2, show ∀ w : World, w.drew.heap = w.heap from fun _ => rfl, setCell_same ((setCell_other _ (Ne.symm bne)).trans HI.out.2.2.1) _]; rfl
  have n1 : b ∉ x.blocks := fun hh => by simp [Tr.blocks, hh] at hnd
  have n2 : b ∉ y.blocks := fun hh => by simp [Tr.blocks, hh] at hnd
  have n3 : b ∉ t.blocks := fun hh => by simp [Tr.blocks, hh] at hnd
  have hnd2 := List.nodup_append.1 (List.nodup_cons.1 (show (b :: (t.blocks ++ (b2 :: (x.blocks ++ y.blocks)))).Nodup from hnd)).2
  have n4 : b2 ∉ x.blocks := fun hh => (List.nodup_cons.1 hnd2.2.1).1 (by simp [hh])
  have n5 : b2 ∉ y.blocks := fun hh => (List.nodup_cons.1 hnd2.2.1).1 (by simp [hh])
  have n6 : b2 ∉ t.blocks := fun hh => hnd2.2.2 b2 hh b2 (by simp) rfl
  have ix : x.In w2 := HI.out.2.2.2.1.keep fun q hq => oth q (fun e => n1 (by rw [← e]; exact hq)) (fun e => n4 (by rw [← e]; exact hq))
  have iy : y.In w2 := HI.out.2.2.2.2.keep fun q hq => oth q (fun e => n2 (by rw [← e]; exact hq)) (fun e => n5 (by rw [← e]; exact hq))
  have it : t.In w2 := HI.out.2.1.keep fun q hq => oth q (fun e => n3 (by rw [← e]; exact hq)) (fun e => n6 (by rw [← e]; exact hq))
  have F2 : Fr (fun q => q = b ∨ q = b2) w w2 := ⟨by rw [← hw2]; rfl, by rw [← hw2]; rfl, by rw [← hw2]; rfl, by rw [← hw2]; simp [World.setCell], fun q _ hq => oth q (fun e => hq (.inl e)) (fun e => hq (.inr e))⟩
  refine (told_mk b k z h c s t x w2 ⟨eb, it, ix⟩ ⟨n3, n1⟩ ht hx hz).mono ?_
  rintro e w3 ⟨rfl, i3, f3⟩
  have o3 : ∀ q, q ≠ b → q < w2.heap.size → w3.heap[q]? = w2.heap[q]? := fun q h1 h2 => f3.block q h2 h1
  have eb3 : w3.heap[b2]? = some (.cells #[(Tr.mk b k z t x).ptr, y.ptr, .int .i64 k2, .int .i64 z2, .int .i64 h2, .int .i64 c2, .int .i64 s2] 89 (0, 0)) := (o3 b2 (Ne.symm bne) (Array.getElem?_eq_some_iff.1 eb2).1).trans eb2
  have iy3 : y.In w3 := iy.keep fun q hq => o3 q (fun e => n2 (by rw [← e]; exact hq)) (iy.lt q hq)
  have n7 : b2 ∉ (Tr.mk b k z t x).blocks := fun hm => by
    simp only [Tr.mk, Tr.blocks, List.mem_cons, List.mem_append] at hm
    rcases hm with e | e | e
    · exact bne e.symm
    · exact n6 e
    · exact n4 e
  have CT := Lib.hid (told_mk b2 k2 z2 h2 c2 s2 (Tr.mk b k z t x) y w3 ⟨eb3, i3, iy3⟩ ⟨n7, n5⟩ hn hy hz2)
  have F3 := Lib.hid (show Fr (fun q => q = b ∨ q = b2) w w3 from ⟨f3.os.trans F2.os, f3.tape.trans F2.tape, f3.output.trans F2.output, Nat.le_trans F2.size f3.size, fun q hq hn' => (f3.block q (Nat.lt_of_lt_of_le hq F2.size) (fun e => hn' (.inl e))).trans (F2.block q hq hn')⟩)
  clear eb eb2 eb3 ix iy it iy3 i3 f3 o3 oth F2 fz cz y1 d1 d0 d7 c0 c1 c7 hi hw2
  go_wp2_with (fail)
  refine CT.out.mono ?_
  rintro e w4 ⟨rfl, i4, f4⟩
  go_wp2_with (fail)
  go_ret
  exact ⟨rfl, i4, ⟨f4.os.trans F3.out.os, f4.tape.trans F3.out.tape, f4.output.trans F3.out.output, Nat.le_trans F3.out.size f4.size, fun q hq hn' => (f4.block q (Nat.lt_of_lt_of_le hq F3.out.size) (fun e => hn' (.inr e))).trans (F3.out.block q hq hn')⟩⟩
end Go.Proofs.Ytemcffihfeaniaa

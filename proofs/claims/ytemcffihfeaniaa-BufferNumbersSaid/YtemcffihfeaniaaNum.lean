/- BufferNumbers. -/
import Derived.Test.YtemcffihfeaniaaText
import Derived.Test.YtemcffihfeaniaaStep
import Derived.Laws.Tables
namespace Go.Own
open Go Go.RowKit Go.Deep
set_option linter.unusedVariables false
theorem wp_built {P : Program} {o : Oper} {a : Act} {w : World} {K : Act → World → Prop} {Q : Exit → Act → World → Prop} (t : TypeId) (parts : Array (Nat × Operand)) (ho : o.op = .build t parts) (cells : Array Value)
    (hf : P.built t (parts.map fun (i, x) => (i, a.eval x)).toList = some cells) (h : K (a.put o.dst (.agg cells)) w) : o.wp P a w K Q :=
  wp_build t parts ho (by rw [hf]; rfl) (by rw [hf]; exact h)
end Go.Own
namespace Go.Proofs.Ytemcffihfeaniaa
open Go.RowKit Go.Deep Go.Own
set_option linter.unusedVariables false
theorem Sp.later {W w w' : World} {b m : Nat} {x : ByteArray} {M k g : Nat} (h : Sp W w b m x M k g) (hb : Below w.heap.size w w') : Sp W w' b m x M k g := by
  refine ⟨h.bk.later hb, ?_, h.below.trans (hb.mono h.below.size)⟩
  have := h.md
  have hm : m < w.heap.size := h.bk.kl m (.inr rfl)
  unfold MdAt at this ⊢
  rw [hb.block m hm]; exact this
/-- the model and the buffer, and the call's own block -/
structure Op6 (W w : World) (b m : Nat) (x : ByteArray) (k g o : Nat) (cs : Array Value) : Prop where
  bk : Bk (fun j => (j < W.heap.size ∨ j = m) ∨ j = o) w b x.data.toList 3000 k g
  md : MdAt w m x 3000
  below : Below W.heap.size W w
  ob : w.heap[o]? = some (.cells cs 61 (0, 0))
  hoW : W.heap.size ≤ o
  hom : o ≠ m
theorem Op6.make1 {W wr w5 : World} {b m : Nat} {x : ByteArray} {k g : Nat} (h : Sp W wr b m x 3000 k g) (hb : Below wr.drew.heap.size wr.drew w5) (cs : Array Value) : Op6 W (w5.alloc (.cells cs 61)) b m x k g w5.heap.size cs := by
  have h5 := h.later (show Below wr.heap.size wr w5 from Below.trans (b := World.drew wr) ⟨rfl, rfl, rfl, Nat.le_refl _, fun _ _ => rfl⟩ hb)
  have h6 := h5.later ((Below.refl _ _).alloc (Nat.le_refl _) (.cells cs 61))
  exact ⟨h5.bk.fresh _, h6.md, h6.below, blk_alloc_new w5 _, h5.below.size, by have := h5.bk.kl m (.inr rfl); omega⟩
theorem Op6.make3 {W wr w5 : World} {b m : Nat} {x : ByteArray} {k g : Nat} (h : Sp W wr b m x 3000 k g) (c0 : Array Value) (hb : Below (wr.alloc (.cells c0 61)).drew.heap.size (wr.alloc (.cells c0 61)).drew w5) (cs : Array Value) : Op6 W (w5.setRow wr.heap.size cs) b m x k g wr.heap.size cs := by
  have hb' : Below (wr.alloc (.cells c0 61)).heap.size (wr.alloc (.cells c0 61)) w5 := Below.trans (b := World.drew (wr.alloc (.cells c0 61))) ⟨rfl, rfl, rfl, Nat.le_refl _, fun _ _ => rfl⟩ hb
  have h4 := h.later ((Below.refl _ _).alloc (Nat.le_refl _) (.cells c0 61))
  have h5 := h4.later hb'
  have hmw : m < wr.heap.size := h.bk.kl m (.inr rfl)
  have ob5 : w5.heap[wr.heap.size]? = some (.cells c0 61 (0, 0)) := (hb'.block wr.heap.size (by simp)).trans (blk_alloc_new wr _)
  have f : Fr (fun j => j = wr.heap.size) w5 (w5.setRow wr.heap.size cs) := ⟨rfl, rfl, rfl, by simp, fun k hk hn => setRow_other w5 _ k cs hn⟩
  refine ⟨((h.bk.fresh _).later hb').other f (fun j hj => .inr hj), ?_, h5.below.trans (below_setRow (Below.refl _ _) h.below.size _), setRow_heap w5 _ c0 cs 61 _ ob5, h.below.size, by omega⟩
  have := h5.md
  unfold MdAt at this ⊢
  rw [setRow_other w5 _ m cs (by omega)]; exact this
theorem Op6.cells {W w : World} {b m : Nat} {x : ByteArray} {k g o : Nat} {v0 v1 v2 v3 : Value} (h : Op6 W w b m x k g o #[v0, v1, v2, v3]) : w.cell? ⟨o, 0, none⟩ = some v0 ∧ w.cell? ⟨o, 1, none⟩ = some v1 ∧ w.cell? ⟨o, 2, none⟩ = some v2 ∧ w.cell? ⟨o, 3, none⟩ = some v3 ∧
    (∀ j, w.frozen? ⟨o, j, none⟩ = false) ∧ w.cell? ⟨m, 0, none⟩ = some (.string x) := by
  have := h.ob
  refine ⟨?_, ?_, ?_, ?_, fun j => ?_, h.md.cells.1⟩ <;> simp [World.cell?, World.frozen?, this]
theorem Op6.set {W w : World} {b m : Nat} {x : ByteArray} {k g o : Nat} {v0 v1 v2 v3 : Value} (h : Op6 W w b m x k g o #[v0, v1, v2, v3]) (n : Nat) (v : Value) : Op6 W ((w.drewN n).setCell ⟨o, 2, none⟩ v) b m x k g o #[v0, v1, v, v3] := by
  refine ⟨(h.bk.drewN n).setCell _ _ (.inr rfl), ?_, (h.below.trans ⟨rfl, rfl, rfl, Nat.le_refl _, fun _ _ => rfl⟩ : Below W.heap.size W (w.drewN n)).setCell h.hoW _, ?_, h.hoW, h.hom⟩
  · have := h.md
    unfold MdAt at this ⊢
    rw [Below.heap_setCell _ _ _ _ (Ne.symm h.hom)]; exact this
  · rw [setCell_same (w := w.drewN n) h.ob]; rfl
theorem Op6.sp {W w : World} {b m : Nat} {x : ByteArray} {k g o : Nat} {cs : Array Value} (h : Op6 W w b m x k g o cs) : Sp W w b m x 3000 k g := ⟨h.bk.mono fun j hj => .inl hj, h.md, h.below⟩
set_option maxRecDepth 100000 in
set_option maxHeartbeats 8000000 in
theorem bufferNumbers_walk (A : Option Addr) (cap : Nat) (l : List Int) (A2 : Option Addr) (cap2 : Nat) (l2 : List Int) (W : World) (hA : Reads W A l) (hl : l.length ≤ 9223372036854775807) (hA2 : Reads W A2 l2) (hl2 : l2.length ≤ 9223372036854775807) :
    Calls Try.prog 12 #[.slice A l.length cap, .slice A2 l2.length cap2] W fun e w' => e = .returned (.bool true) ∧ Below W.heap.size W w' := by
  have HA := Lib.hid hA2
  clear hA2
  by_cases h1 : 120 < l2.length
  · have g1 : decide (120 < l2.length) = true := by simpa using h1
    clear hA
    go_enter Try.func12, Try.ntmps12
    go_wp2_with (fail)
    refine (bu_awake _).mono ?_
    rintro e w1 ⟨rfl, h1⟩
    go_wp2_with (fail)
    go_ret
    exact ⟨rfl, h1⟩
  · have g1 : decide (120 < l2.length) = false := by simpa using h1
    have CT := Lib.hid (text_calls A cap l W hA hl)
    clear hA
    go_enter Try.func12, Try.ntmps12
    go_wp2_with (fail)
    refine CT.out.mono ?_
    rintro e w1 ⟨⟨s, rfl, hs⟩, b1⟩
    have B1 := Lib.hid b1
    clear CT b1
    go_wp2_with (fail)
    obtain ⟨w2, hw2⟩ : ∃ w2, w2 = w1.alloc (.cells #[Value.string s, .int .i64 3000] 59) := ⟨_, rfl⟩
    obtain ⟨m, hm⟩ : ∃ m, m = w1.heap.size := ⟨_, rfl⟩
    rw [← hw2, ← hm]
    have M2 : MdAt w2 m s 3000 := by unfold MdAt; rw [hw2, hm]; exact blk_alloc_new w1 _
    have CN := Lib.hid (bs_new s 3000 3000 (by decide) (by decide) w2 w2 (Below.refl _ _) (by omega))
    have hmW : ¬ m < W.heap.size := by have := B1.out.size; omega
    have hm2 : m < w2.heap.size := by rw [hw2, hm]; simp
    have B2 := Lib.hid (show Below W.heap.size W w2 by rw [hw2]; exact B1.out.trans ((Below.refl _ _).alloc B1.out.size _))
    have HM2 := Lib.hid M2
    clear hw2 hm B1 M2
    refine CN.out.mono ?_
    rintro e w3 ⟨b, k, rfl, hk, t1⟩
    have S3 := Lib.hid (show Sp W w3 b m s 3000 k 0 by
      refine ⟨t1.toBk.mono (fun j hj => ?_), ?_, B2.out.trans (t1.below.mono B2.out.size)⟩
      · rcases hj with hj | rfl
        · exact Nat.lt_of_lt_of_le hj B2.out.size
        · exact hm2
      · have := HM2.out
        unfold MdAt at this ⊢
        rw [t1.below.block m hm2]; exact this)
    clear CN t1 B2 HM2 hm2
    go_wp2_with (fail)
    go_loopw [8] (fun i wr => ∃ j : Nat, j ≤ l2.length ∧ i = .int .i64 (j : Nat) ∧ ∃ x k, Sp W wr b m x 3000 k j) (fun i _ => l2.length - (intOf i).toNat)
    case atStart => exact ⟨0, by omega, rfl, s, k, S3.out⟩
    case round =>
      obtain ⟨j, hj, rfl, x, k2, sp⟩ := hrel
      clear S3 hk
      by_cases hlt : j < l2.length
      · obtain ⟨bl, ol, rfl, _, hc⟩ := reads_cell HA.out sp.below hlt
        obtain ⟨v, hv⟩ : ∃ v, v = l2.getD j 0 := ⟨_, rfl⟩
        rw [← hv] at hc
        obtain ⟨z, hz, _, cz0⟩ := place_n v 1073741824 (by decide) (by decide)
        have CZ : Hid (∀ w : World, Calls Try.prog 17 #[.int .i64 v, .int .i64 1073741824] w fun e w' => e = .returned (.int .i64 (z : Nat)) ∧ w = w') := Lib.hid cz0
        obtain ⟨c0, c1, cf⟩ := sp.md.cells
        have hx : x.size ≤ 3000 := by have := sp.bk.le; simpa using this
        have HM := Lib.hid (show m < wr.heap.size from World.block_lt_of_cell? _ _ c0)
        have SP := Lib.hid sp
        have c0a : ∀ o, (wr.alloc o).cell? ⟨m, 0, none⟩ = some (.string x) := fun o => by rw [← c0]; exact ((Below.refl wr.heap.size wr).alloc (Nat.le_refl _) o).cell HM.out
        clear sp cz0 hv
        go_wp2_with (fail)
        refine (CZ.out _).mono ?_
        rintro e w4 ⟨rfl, rfl⟩
        clear hc
        obtain ⟨kd, hkd⟩ : ∃ kd : Int, (z : Int) % 7 = kd := ⟨_, rfl⟩
        obtain ⟨a, ha, hax⟩ : ∃ a : Nat, (z : Int) / 7 % ((x.size : Int) + 1) = (a : Int) ∧ a ≤ x.size := by
          have h0 := Int.emod_nonneg ((z : Int) / 7) (show (x.size : Int) + 1 ≠ 0 by omega)
          have h1 := Int.emod_lt_of_pos ((z : Int) / 7) (show 0 < (x.size : Int) + 1 by omega)
          exact ⟨((z : Int) / 7 % ((x.size : Int) + 1)).toNat, by omega, by omega⟩
        have n1 : ((x.size : Int) + 1 == 0) = false := by simp; omega
        have n2 : ((x.size : Int) + 1 == -1) = false := by simp; omega
        go_wp2_with (fail)
        refine Own.region_mix (CR [7] [(7, ⟨m, 0, none⟩, .string x)]) [7] [0, 1, 0, 4, 0, 16, 48, 112, 240, 496, 1020, 0, 2048, 6144, 16383, 0, 65535] (Own.Ord.run [(0, true), (1, true), (2, true), (3, true), (4, true), (5, true), (6, true), (7, true), (8, true), (9, true), (10, true), (11, true), (12, true)] (.fork (.go 13 false (Own.Ord.run [] (.fork (.go 14 false (Own.Ord.run [(15, false), (16, false)] .done)) (.go 15 false (Own.Ord.run [(14, false), (16, false)] .done))))) (.go 15 false (Own.Ord.run [(13, false), (14, false), (16, false)] .done)))) (by kernel_rfl) (by kernel_rfl) (fun dst v c a w h => by cases dst <;> exact h) (fun x hx w => CR.off x hx w) ?_
        simp only [Own.Ord.run]
        repeat (refine Own.st_blind _ rfl rfl (CR.off _ (by decide) _) ?_; go_big_quiet_step (fail); refine wpQuiet_nil ?_)
        refine Own.st_load _ rfl rfl (.pointer (some ⟨m, 0, none⟩)) (fun w' _ => by go_simp) (CR.off _ (by decide) _) ?_
        simp only [Act.put, List.setIfInBounds_toArray, List.set_cons_succ, List.set_cons_zero]
        repeat (refine Own.st_blind _ rfl rfl (CR.off _ (by decide) _) ?_; go_big_quiet_step (fail); refine wpQuiet_nil ?_)
        refine Own.st_load _ rfl rfl (.string x) (fun w' hw' => ?_) ?_ ?_
        · have hg0 := hw'.get (a := ⟨m, 0, none⟩) (v := .string x) (by decide) (by simp)
          go_simp
        · intro _ q hq e; simp only [List.mem_cons, List.mem_nil_iff, or_false] at hq; subst hq <;> first | assumption | (simp at e; done) | (go_simp; done) | (simp; done)
        simp only [Act.put, List.setIfInBounds_toArray, List.set_cons_succ, List.set_cons_zero]
        repeat (refine Own.st_blind _ rfl rfl (CR.off _ (by decide) _) ?_; go_big_quiet_step (fail); refine wpQuiet_nil ?_)
        refine Own.mix_fork ?_ ?_
        · refine Own.st_do _ rfl rfl (fun K hK => ?_)
          go_simp
          refine (piece_calls _ _).mono ?_
          rintro e w5 ⟨⟨s2, rfl, z2⟩, b5⟩
          have B5 := Lib.hid b5
          clear b5
          have c5 : w5.cell? ⟨m, 0, none⟩ = some (.string x) := by
            first
              | exact (B5.out.cell (p := ⟨m, 0, none⟩) HM.out).trans c0
              | exact (B5.out.cell (p := ⟨m, 0, none⟩) (show m < _ by simpa using Nat.lt_succ_of_lt HM.out)).trans (c0a _)
          have c5a : ∀ o, (w5.alloc o).cell? ⟨m, 0, none⟩ = some (.string x) := fun o => by rw [← c5]; exact ((Below.refl w5.heap.size w5).alloc (Nat.le_refl _) o).cell (World.block_lt_of_cell? _ _ c5)
          refine hK _ _ (fun q hq hd _ => ?_) ?_
          · intro _ q hq e; simp only [List.mem_cons, List.mem_nil_iff, or_false] at hq; subst hq <;> first | assumption | (simp at e; done) | (go_simp; done) | (simp; done)
          clear hK K
          refine Own.mix_fork ?_ ?_
          · refine Own.st_do _ rfl rfl (fun K hK => ?_)
            refine Own.wp_built 61 #[(0, .tmp 45), (1, .tmp 54), (3, .tmp 57)] ?_ #[.int .i64 kd, .int .i64 (a : Nat), .int .i64 0, .string s2] ?_ ?_
            · rfl
            · kernel_rfl
            simp only [Act.put, List.setIfInBounds_toArray, List.set_cons_succ, List.set_cons_zero]
            refine hK _ _ (fun q hq hd => by rw [(by decide : ∀ x ∈ [7], Own.dep [0, 1, 0, 4, 0, 16, 48, 112, 240, 496, 1020, 0, 2048, 6144, 16383, 0, 65535] 14 x = true) q hq] at hd; cases hd) ?_
            clear hK K
            refine Own.st_do _ rfl rfl (fun K hK => ?_)
            go_simp
            refine hK _ _ (fun q hq hd _ => ?_) ?_
            · intro _ q hq e; simp only [List.mem_cons, List.mem_nil_iff, or_false] at hq; subst hq <;> first | assumption | (simp at e; done) | (go_simp; done) | (simp; done)
            clear hK K
            refine Own.st_do _ rfl rfl (fun K hK => ?_)
            go_simp
            refine hK _ _ (fun q hq hd => by rw [(by decide : ∀ x ∈ [7], Own.dep [0, 1, 0, 4, 0, 16, 48, 112, 240, 496, 1020, 0, 2048, 6144, 16383, 0, 65535] 16 x = true) q hq] at hd; cases hd) ?_
            clear hK K
            refine Own.mix_done ?_
            obtain ⟨w6, hw6⟩ : ∃ w6, w6 = w5.alloc (.cells #[Value.int .i64 kd, .int .i64 (a : Nat), .int .i64 0, .string s2] 61) := ⟨_, rfl⟩
            obtain ⟨o, ho⟩ : ∃ o, o = w5.heap.size := ⟨_, rfl⟩
            have O6 := Lib.hid (show Op6 W w6 b m x k2 j o #[.int .i64 kd, .int .i64 (a : Nat), .int .i64 0, .string s2] by rw [hw6, ho]; exact Op6.make1 SP.out B5.out _)
            rw [← hw6, ← ho]
            clear hw6 ho
            obtain ⟨d0, d1, d2, d3, df, dm⟩ := O6.out.cells
            obtain ⟨bb, hbb⟩ : ∃ bb : Int, ((z : Int) / 7000 % ((x.size : Int) - (a : Int) + 1)).tmod 40 = bb := ⟨_, rfl⟩
            clear SP c0 c1 cf c0a c5 c5a B5
            go_wp2_with (fail)
            refine Own.region_tail 14 (fun w' => ∃ n, w' = World.drewN w6 n) (by kernel_rfl) (by kernel_rfl) ⟨1, rfl⟩ ?_
            simp only [List.take_succ_cons, List.take_zero, List.drop_succ_cons, List.drop_zero]
            repeat (go_big_quiet_step (fail))
            refine wpQuiet_nil ?_
            rintro _ ⟨nq, rfl⟩
            go_wp2_with (fail)
            obtain ⟨w7, hw7⟩ : ∃ w7, w7 = (w6.drewN nq).setCell ⟨o, 2, none⟩ (.int .i64 bb) := ⟨_, rfl⟩
            rw [← hw7]
            have CS := Lib.hid (step_calls kd (a : Nat) bb s2 (show Sp W w7 b m x 3000 k2 j by rw [hw7]; exact (O6.out.set nq _).sp) (by omega) (by omega) hmW)
            clear O6 d0 d1 d2 d3 df dm hw7
            refine CS.out.mono ?_
            rintro e w8 ⟨rfl, x', k', sp'⟩
            have SP := Lib.hid sp'
            clear sp' CS
            go_wp2_with (fail)
            go_roundw
            case rel => exact ⟨j + 1, by omega, by go_num, x', k', SP.out⟩
            case measure => simp [intOf]; omega
          · refine Own.st_do _ rfl rfl (fun K hK => ?_)
            go_simp
            refine hK _ _ (fun q hq hd _ => ?_) ?_
            · intro _ q hq e; simp only [List.mem_cons, List.mem_nil_iff, or_false] at hq; subst hq <;> first | assumption | (simp at e; done) | (go_simp; done) | (simp; done)
            clear hK K
            refine Own.st_do _ rfl rfl (fun K hK => ?_)
            refine Own.wp_built 61 #[(0, .tmp 45), (1, .tmp 54), (3, .tmp 57)] ?_ #[.int .i64 kd, .int .i64 (a : Nat), .int .i64 0, .string s2] ?_ ?_
            · rfl
            · kernel_rfl
            simp only [Act.put, List.setIfInBounds_toArray, List.set_cons_succ, List.set_cons_zero]
            refine hK _ _ (fun q hq hd => by rw [(by decide : ∀ x ∈ [7], Own.dep [0, 1, 0, 4, 0, 16, 48, 112, 240, 496, 1020, 0, 2048, 6144, 16383, 0, 65535] 14 x = true) q hq] at hd; cases hd) ?_
            clear hK K
            refine Own.st_do _ rfl rfl (fun K hK => ?_)
            go_simp
            refine hK _ _ (fun q hq hd => by rw [(by decide : ∀ x ∈ [7], Own.dep [0, 1, 0, 4, 0, 16, 48, 112, 240, 496, 1020, 0, 2048, 6144, 16383, 0, 65535] 16 x = true) q hq] at hd; cases hd) ?_
            clear hK K
            refine Own.mix_done ?_
            obtain ⟨w6, hw6⟩ : ∃ w6, w6 = w5.alloc (.cells #[Value.int .i64 kd, .int .i64 (a : Nat), .int .i64 0, .string s2] 61) := ⟨_, rfl⟩
            obtain ⟨o, ho⟩ : ∃ o, o = w5.heap.size := ⟨_, rfl⟩
            have O6 := Lib.hid (show Op6 W w6 b m x k2 j o #[.int .i64 kd, .int .i64 (a : Nat), .int .i64 0, .string s2] by rw [hw6, ho]; exact Op6.make1 SP.out B5.out _)
            rw [← hw6, ← ho]
            clear hw6 ho
            obtain ⟨d0, d1, d2, d3, df, dm⟩ := O6.out.cells
            obtain ⟨bb, hbb⟩ : ∃ bb : Int, ((z : Int) / 7000 % ((x.size : Int) - (a : Int) + 1)).tmod 40 = bb := ⟨_, rfl⟩
            clear SP c0 c1 cf c0a c5 c5a B5
            go_wp2_with (fail)
            refine Own.region_tail 14 (fun w' => ∃ n, w' = World.drewN w6 n) (by kernel_rfl) (by kernel_rfl) ⟨1, rfl⟩ ?_
            simp only [List.take_succ_cons, List.take_zero, List.drop_succ_cons, List.drop_zero]
            repeat (go_big_quiet_step (fail))
            refine wpQuiet_nil ?_
            rintro _ ⟨nq, rfl⟩
            go_wp2_with (fail)
            obtain ⟨w7, hw7⟩ : ∃ w7, w7 = (w6.drewN nq).setCell ⟨o, 2, none⟩ (.int .i64 bb) := ⟨_, rfl⟩
            rw [← hw7]
            have CS := Lib.hid (step_calls kd (a : Nat) bb s2 (show Sp W w7 b m x 3000 k2 j by rw [hw7]; exact (O6.out.set nq _).sp) (by omega) (by omega) hmW)
            clear O6 d0 d1 d2 d3 df dm hw7
            refine CS.out.mono ?_
            rintro e w8 ⟨rfl, x', k', sp'⟩
            have SP := Lib.hid sp'
            clear sp' CS
            go_wp2_with (fail)
            go_roundw
            case rel => exact ⟨j + 1, by omega, by go_num, x', k', SP.out⟩
            case measure => simp [intOf]; omega
        · refine Own.st_do _ rfl rfl (fun K hK => ?_)
          go_simp
          refine hK _ _ (fun q hq hd _ => ?_) ?_
          · intro _ q hq e; simp only [List.mem_cons, List.mem_nil_iff, or_false] at hq; subst hq <;> first | assumption | (simp at e; done) | (go_simp; done) | (simp; done)
          clear hK K
          refine Own.st_do _ rfl rfl (fun K hK => ?_)
          go_simp
          refine (piece_calls _ _).mono ?_
          rintro e w5 ⟨⟨s2, rfl, z2⟩, b5⟩
          have B5 := Lib.hid b5
          clear b5
          have c5 : w5.cell? ⟨m, 0, none⟩ = some (.string x) := by
            first
              | exact (B5.out.cell (p := ⟨m, 0, none⟩) HM.out).trans c0
              | exact (B5.out.cell (p := ⟨m, 0, none⟩) (show m < _ by simpa using Nat.lt_succ_of_lt HM.out)).trans (c0a _)
          have c5a : ∀ o, (w5.alloc o).cell? ⟨m, 0, none⟩ = some (.string x) := fun o => by rw [← c5]; exact ((Below.refl w5.heap.size w5).alloc (Nat.le_refl _) o).cell (World.block_lt_of_cell? _ _ c5)
          refine hK _ _ (fun q hq hd _ => ?_) ?_
          · intro _ q hq e; simp only [List.mem_cons, List.mem_nil_iff, or_false] at hq; subst hq <;> first | assumption | (simp at e; done) | (go_simp; done) | (simp; done)
          clear hK K
          refine Own.st_do _ rfl rfl (fun K hK => ?_)
          refine Own.wp_built 61 #[(0, .tmp 45), (1, .tmp 54), (3, .tmp 57)] ?_ #[.int .i64 kd, .int .i64 (a : Nat), .int .i64 0, .string s2] ?_ ?_
          · rfl
          · kernel_rfl
          simp only [Act.put, List.setIfInBounds_toArray, List.set_cons_succ, List.set_cons_zero]
          refine hK _ _ (fun q hq hd => by rw [(by decide : ∀ x ∈ [7], Own.dep [0, 1, 0, 4, 0, 16, 48, 112, 240, 496, 1020, 0, 2048, 6144, 16383, 0, 65535] 14 x = true) q hq] at hd; cases hd) ?_
          clear hK K
          refine Own.st_do _ rfl rfl (fun K hK => ?_)
          have hb5 : w5.heap[wr.heap.size]? = some (.cells #[.int .i64 0, .int .i64 0, .int .i64 0, .string ⟨#[]⟩] 61 (0, 0)) := (B5.out.block wr.heap.size (by simp)).trans (blk_alloc_new wr _)
          refine wp_store_row 61 (.tmp 10) (.tmp 58) ?_ wr.heap.size #[.int .i64 kd, .int .i64 (a : Nat), .int .i64 0, .string s2] ?_ ?_ 61 _ hb5 ?_ ?_ ?_ ?_
          · rfl
          · rfl
          · rfl
          · kernel_rfl
          · rfl
          · kernel_rfl
          simp only [Act.put, List.setIfInBounds_toArray, List.set_cons_succ, List.set_cons_zero]
          refine hK _ _ (fun q hq hd => by rw [(by decide : ∀ x ∈ [7], Own.dep [0, 1, 0, 4, 0, 16, 48, 112, 240, 496, 1020, 0, 2048, 6144, 16383, 0, 65535] 16 x = true) q hq] at hd; cases hd) ?_
          clear hK K
          refine Own.mix_done ?_
          obtain ⟨w6, hw6⟩ : ∃ w6, w6 = w5.setRow wr.heap.size #[Value.int .i64 kd, .int .i64 (a : Nat), .int .i64 0, .string s2] := ⟨_, rfl⟩
          obtain ⟨o, ho⟩ : ∃ o, o = wr.heap.size := ⟨_, rfl⟩
          have O6 := Lib.hid (show Op6 W w6 b m x k2 j o #[.int .i64 kd, .int .i64 (a : Nat), .int .i64 0, .string s2] by rw [hw6, ho]; exact Op6.make3 SP.out _ B5.out _)
          rw [← hw6, ← ho]
          clear hw6 ho
          obtain ⟨d0, d1, d2, d3, df, dm⟩ := O6.out.cells
          obtain ⟨bb, hbb⟩ : ∃ bb : Int, ((z : Int) / 7000 % ((x.size : Int) - (a : Int) + 1)).tmod 40 = bb := ⟨_, rfl⟩
          clear SP c0 c1 cf c0a c5 c5a B5
          go_wp2_with (fail)
          refine Own.region_tail 14 (fun w' => ∃ n, w' = World.drewN w6 n) (by kernel_rfl) (by kernel_rfl) ⟨1, rfl⟩ ?_
          simp only [List.take_succ_cons, List.take_zero, List.drop_succ_cons, List.drop_zero]
          repeat (go_big_quiet_step (fail))
          refine wpQuiet_nil ?_
          rintro _ ⟨nq, rfl⟩
          go_wp2_with (fail)
          obtain ⟨w7, hw7⟩ : ∃ w7, w7 = (w6.drewN nq).setCell ⟨o, 2, none⟩ (.int .i64 bb) := ⟨_, rfl⟩
          rw [← hw7]
          have CS := Lib.hid (step_calls kd (a : Nat) bb s2 (show Sp W w7 b m x 3000 k2 j by rw [hw7]; exact (O6.out.set nq _).sp) (by omega) (by omega) hmW)
          clear O6 d0 d1 d2 d3 df dm hw7
          refine CS.out.mono ?_
          rintro e w8 ⟨rfl, x', k', sp'⟩
          have SP := Lib.hid sp'
          clear sp' CS
          go_wp2_with (fail)
          go_roundw
          case rel => exact ⟨j + 1, by omega, by go_num, x', k', SP.out⟩
          case measure => simp [intOf]; omega
      · have BL := Lib.hid sp.below
        clear sp
        go_wp2_with (fail)
        refine (bu_awake _).mono ?_
        rintro e w3 ⟨rfl, h3⟩
        go_wp2_with (fail)
        go_ret
        exact ⟨rfl, BL.out.trans (h3.mono BL.out.size)⟩
end Go.Proofs.Ytemcffihfeaniaa

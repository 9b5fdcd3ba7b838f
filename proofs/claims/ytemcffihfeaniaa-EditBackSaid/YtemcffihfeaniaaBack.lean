/- EditBack. -/
import Derived.Test.YtemcffihfeaniaaEb
import Derived.Test.YtemcffihfeaniaaEdoes
namespace Go.Proofs.Ytemcffihfeaniaa
open Go.RowKit Go.Deep Go.Own
set_option linter.unusedVariables false
theorem info9 : (Try.prog.info? 9).map (fun i => (i.zero, i.size, i.bytes)) = some (some (.string ⟨#[]⟩), 1, 16) := by kernel_rfl
theorem info68 : (Try.prog.info? 68).map (fun i => (i.zero, i.size, i.bytes)) = some (some (.agg #[.int .i64 0, .string ⟨#[]⟩, .string ⟨#[]⟩]), 3, 40) := by kernel_rfl
set_option maxRecDepth 100000 in
set_option maxHeartbeats 8000000 in
theorem editBack_walk (A : Option Addr) (cap : Nat) (l : List Int) (A2 : Option Addr) (cap2 : Nat) (l2 : List Int) (off : Int) (W : World) (hA : Reads W A l) (hl : l.length ≤ 9223372036854775807) (hA2 : Reads W A2 l2) (hl2 : l2.length ≤ 9223372036854775807) (hoff : (Lit.int .i64 off).wf = true) :
    Calls Try.prog 14 #[.slice A l.length cap, .slice A2 l2.length cap2, .int .i64 off] W fun e w' => e = .returned (.bool true) ∧ Below W.heap.size W w' := by
  have HA := Lib.hid hA2
  clear hA2
  have DG : RowKit.Hid (∀ w : World, Calls Try.prog 46 #[.int .i64 off] w (WdPost w 21)) := Lib.hid (fun w => by
    have hw9 : -9223372036854775808 ≤ off ∧ off ≤ 9223372036854775807 := by simp only [Lit.wf, IntKind.min, IntKind.max, IntKind.signed, IntKind.bits, Bool.and_eq_true, decide_eq_true_eq] at hoff; simpa using hoff
    exact digits_calls 19 (by decide) off w hoff (by omega) (by omega))
  obtain ⟨i9, hi9, hz9, hs9, hb9⟩ := info_parts info9
  obtain ⟨i68, hi68, hz68, hs68, hb68⟩ := info_parts info68
  by_cases h1 : 40 < l2.length
  · have g1 : decide (40 < l2.length) = true := by simpa using h1
    clear hA
    go_enter Try.func14, Try.ntmps14
    go_wp2_with (fail)
    refine (ed_awake _).mono ?_
    rintro e w1 ⟨rfl, h1⟩
    go_wp2_with (fail)
    go_ret
    exact ⟨rfl, h1⟩
  · have g1 : decide (40 < l2.length) = false := by simpa using h1
    have CT := Lib.hid (textz_calls A cap l W hA hl)
    clear hA
    go_enter Try.func14, Try.ntmps14
    go_wp2_with (fail)
    refine CT.out.mono ?_
    rintro e w1 ⟨⟨s, rfl, hs, ns⟩, b1⟩
    have CN := Lib.hid (bs_new s 5000 5000 (by decide) (by decide) W w1 b1 (by omega))
    have NS := Lib.hid ns
    clear CT b1 ns
    go_wp2_with (fail)
    refine CN.out.mono ?_
    rintro e w3 ⟨b, k, rfl, hk, t1⟩
    have E3 := Lib.hid (show Eb W w3 b s 0 (.slice none 0 0) (.slice none 0 0) [] [] (fun _ => False) from
      ⟨⟨k, t1.toBk.mono (fun j hj => by rcases hj with (hj | hj | hj) | hj <;> first | exact hj | cases hj)⟩, World.ownsRow_nil _ _ _ _, World.ownsRow_nil _ _ _ _, fun q hq => by (cases hq), t1.below⟩)
    clear CN t1 hk
    go_wp2_with (fail)
    go_loopw [10, 11, 12] (fun tv dv i wr => ∃ (L : List (ByteArray × EdR)) (x : ByteArray) (g : Nat), L.length ≤ l2.length ∧ i = .int .i64 (L.length : Nat) ∧ Ch s L x ∧ g ≤ 3 * L.length ∧ x.size ≤ 840 + 11 * L.length ∧ NZ x ∧ Eb W wr b x g tv dv (chT L) (chD L) (fun _ => False)) (fun _ _ i _ => l2.length - (intOf i).toNat)
    case atStart => exact ⟨[], s, 0, Nat.zero_le _, rfl, rfl, Nat.zero_le _, by simpa using hs, NS.out, E3.out⟩
    case round =>
      obtain ⟨L, x, g, hL, rfl, ch, hg, hx, nx, eb⟩ := hrel
      clear E3
      by_cases hlt : L.length < l2.length
      · obtain ⟨bl, ol, rfl, _, hc⟩ := reads_cell HA.out eb.below hlt
        obtain ⟨v, hv⟩ : ∃ v, v = l2.getD L.length 0 := ⟨_, rfl⟩
        rw [← hv] at hc
        obtain ⟨z, hz, _, cz0⟩ := place_n v 1073741824 (by decide) (by decide)
        have CZ : Hid (∀ w : World, Calls Try.prog 17 #[.int .i64 v, .int .i64 1073741824] w fun e w' => e = .returned (.int .i64 (z : Nat)) ∧ w = w') := Lib.hid cz0
        have CX := Lib.hid (eb_text eb (by omega))
        have CH := Lib.hid ch
        have NX := Lib.hid nx
        obtain ⟨AT, cT, rfl, hcT, _⟩ := row_is eb.tr
        obtain ⟨AD, cD, rfl, hcD, _⟩ := row_is eb.dr
        clear eb cz0 hv ch nx
        go_wp2_with (fail)
        refine (CZ.out _).mono ?_
        rintro e w4 ⟨rfl, rfl⟩
        clear hc
        go_wp2_with (fail)
        refine CX.out.mono ?_
        rintro e w5 ⟨rfl, e5, _⟩
        obtain ⟨a, ha, hax⟩ : ∃ a : Nat, (z : Int) % ((x.size : Int) + 1) = (a : Int) ∧ a ≤ x.size := by
          have h0 := Int.emod_nonneg (z : Int) (show (x.size : Int) + 1 ≠ 0 by omega)
          have h1 := Int.emod_lt_of_pos (z : Int) (show 0 < (x.size : Int) + 1 by omega)
          exact ⟨((z : Int) % ((x.size : Int) + 1)).toNat, by omega, by omega⟩
        have n1 : ((x.size : Int) + 1 == 0) = false := by simp; omega
        have n2 : ((x.size : Int) + 1 == -1) = false := by simp; omega
        have n3 : ((x.size : Int) - (a : Int) + 1 == 0) = false := by simp; omega
        have n4 : ((x.size : Int) - (a : Int) + 1 == -1) = false := by simp; omega
        obtain ⟨n, hn, hnx⟩ : ∃ n : Nat, ((z : Int) / 1000 % ((x.size : Int) - (a : Int) + 1)).tmod 30 = (n : Int) ∧ a + n ≤ x.size := by
          have h0 := Int.emod_nonneg ((z : Int) / 1000) (show (x.size : Int) - (a : Int) + 1 ≠ 0 by omega)
          have h1 := Int.emod_lt_of_pos ((z : Int) / 1000) (show 0 < (x.size : Int) - (a : Int) + 1 by omega)
          rw [Int.tmod_eq_emod_of_nonneg h0]
          exact ⟨((z : Int) / 1000 % ((x.size : Int) - (a : Int) + 1) % 30).toNat, by omega, by omega⟩
        have E5 := Lib.hid e5
        clear CX e5
        go_wp2_with (fail)
        refine (piecez_calls _ _).mono ?_
        rintro e w6 ⟨⟨i, rfl, hi, ni⟩, b6⟩
        obtain ⟨d, hd⟩ : ∃ d, d = x.extract a (a + n) := ⟨_, rfl⟩
        have hds : d.size = n := by rw [hd, ByteArray.size_extract]; omega
        obtain ⟨y, hy⟩ : ∃ y, y = x.extract 0 a ++ i ++ x.extract (a + n) x.size := ⟨_, rfl⟩
        have hys : y.size ≤ x.size + 11 := by rw [hy]; simp only [ByteArray.size_append, ByteArray.size_extract]; omega
        have CD := Lib.hid (eb_do (E5.out.later' b6) a n i y hnx hy (by omega) (by omega) (by omega))
        rw [← hd] at CD
        have ST : Hid (Stp x ⟨a, d, i⟩ y) := Lib.hid ⟨by simp only [hds]; exact hnx, by simp only [hds]; exact hd, by simp only [hds]; exact hy, NX.out, by rw [hy]; exact NZ.append (NZ.append (NZ.extract NX.out _ _) ni) (NZ.extract NX.out _ _), by omega, by omega⟩
        clear E5 b6 hd hy ni
        go_wp2_with (fail)
        refine CD.out.mono ?_
        rintro e w7 ⟨rfl, e7⟩
        obtain ⟨o, ho⟩ : ∃ o, o = w7.heap.size := ⟨_, rfl⟩
        obtain ⟨w8, hw8⟩ : ∃ w8, w8 = w7.alloc (.cells #[Value.int .i64 (a : Nat), .string d, .string i] 68) := ⟨_, rfl⟩
        have hto : ∀ q, (Value.slice AT (chT L).length cT).ownBlock = some q → q < o := fun q hq => by rw [ho]; exact (own_block_lt e7.tr hq).2
        have hdo : ∀ q, (Value.slice AD (chD L).length cD).ownBlock = some q → q < o := fun q hq => by rw [ho]; exact (own_block_lt e7.dr hq).2
        have E8 := Lib.hid (show Eb W w8 b y (g + 3) (.slice AT (chT L).length cT) (.slice AD (chD L).length cD) (chT L) (chD L) (fun _ => False) by rw [hw8]; exact e7.later' ((Below.refl _ _).alloc (Nat.le_refl _) _))
        have ob : w8.heap[o]? = some (.cells #[Value.int .i64 (a : Nat), .string d, .string i] 68 (0, 0)) := by rw [hw8, ho]; exact blk_alloc_new w7 _
        have OB := Lib.hid ob
        have d0 : w8.cell? ⟨o, 0, none⟩ = some (Value.int .i64 (a : Nat)) := by simp [World.cell?, ob]
        have d1 : w8.cell? ⟨o, 1, none⟩ = some (Value.string d) := by simp [World.cell?, ob]
        have d2 : w8.cell? ⟨o, 2, none⟩ = some (Value.string i) := by simp [World.cell?, ob]
        have HTO := Lib.hid hto
        have HDO := Lib.hid hdo
        clear CD e7 ob hto hdo
        go_wp2_with (fail)
        rw [← ho, ← hw8]
        clear ho hw8
        go_wp2_with (fail)
        refine Own.region_mix (CR [5] [(5, ⟨o, 0, none⟩, .int .i64 (a : Nat)), (5, ⟨o, 1, none⟩, .string d), (5, ⟨o, 2, none⟩, .string i)]) [5] [0, 0, 2, 7, 0, 0, 32, 127, 255, 511] (Own.Ord.run [(0, true), (1, true), (4, true), (5, true)] (.fork (.go 2 false (Own.Ord.run [] (.fork (.go 3 false (Own.Ord.run [(6, false), (7, false), (8, true), (9, true)] .done)) (.go 6 false (Own.Ord.run [(3, false), (7, false), (8, true), (9, true)] .done))))) (.go 6 false (Own.Ord.run [(2, false), (3, false), (7, false), (8, true), (9, true)] .done)))) (by kernel_rfl) (by kernel_rfl) (fun dst v c a w h => by cases dst <;> exact h) (fun x hx w => CR.off x hx w) ?_
        simp only [Own.Ord.run]
        repeat (refine Own.st_blind _ rfl rfl (CR.off _ (by decide) _) ?_; go_big_quiet_step (fail); refine wpQuiet_nil ?_)
        refine Own.st_load _ rfl rfl (.agg #[.int .i64 (a : Nat), .string d, .string i]) (fun w' hw' => ?_) ?_ ?_
        · have hg0 := hw'.get (a := ⟨o, 0, none⟩) (v := .int .i64 (a : Nat)) (by decide) (by simp)
          have hg1 := hw'.get (a := ⟨o, 1, none⟩) (v := .string d) (by decide) (by simp)
          have hg2 := hw'.get (a := ⟨o, 2, none⟩) (v := .string i) (by decide) (by simp)
          go_simp
        · intro _ q hq e; simp only [List.mem_cons, List.mem_nil_iff, or_false] at hq; rcases hq with rfl | rfl | rfl <;> first | assumption | (simp at e; done) | (go_simp; done) | (simp; done)
        simp only [Act.put, List.setIfInBounds_toArray, List.set_cons_succ, List.set_cons_zero]
        refine Own.mix_fork ?_ ?_
        · refine Own.st_do _ rfl rfl (fun K hK => ?_)
          go_simp
          obtain ⟨u2, hu2⟩ : ∃ v, v = World.drew (w8.alloc (.cells #[Value.string x] 9)) := ⟨_, rfl⟩
          obtain ⟨M2, hM2⟩ : ∃ v, v = w8.heap.size := ⟨_, rfl⟩
          rw [← hu2, ← hM2]
          have b2 : Below w8.heap.size w8 u2 := by rw [hu2]; exact ((Below.refl _ _).alloc (Nat.le_refl _) _).drew
          have E2 := Lib.hid (E8.out.later' b2)
          have m2 : u2.heap[M2]? = some (.cells #[Value.string x] 9 (0, 0)) := by rw [hu2, hM2]; exact blk_alloc_new w8 _
          have l2 : o < M2 := by rw [hM2]; exact World.block_lt_of_cell? _ _ d0
          have d0u2 := (b2.cell (p := ⟨o, 0, none⟩) (World.block_lt_of_cell? _ _ d0)).trans d0
          have d1u2 := (b2.cell (p := ⟨o, 1, none⟩) (World.block_lt_of_cell? _ _ d1)).trans d1
          have d2u2 := (b2.cell (p := ⟨o, 2, none⟩) (World.block_lt_of_cell? _ _ d2)).trans d2
          have m2u2 := m2
          have HM2 := Lib.hid hM2
          clear hu2 hM2
          refine hK _ _ (fun q hq hd _ => ?_) ?_
          · intro _ q hq e; simp only [List.mem_cons, List.mem_nil_iff, or_false] at hq; rcases hq with rfl | rfl | rfl <;> first | assumption | (simp at e; done) | (go_simp; done) | (simp; done)
          clear hK K
          refine Own.mix_fork ?_ ?_
          · refine Own.st_do _ rfl rfl (fun K hK => ?_)
            have hsrc : Src Try.prog 1 22 (.slice (some ⟨M2, 0, none⟩) 1 1) 1 [.string x] u2 := src_one Try.underlying22 rfl (by simp [World.cell?, m2u2])
            have OR := E2.out.tr
            have BW := E2.out.below.size
            refine own_append_wp (.tmp 91) (.tmp 93) 22 22 rfl W.heap.size 9 i9 _ 1 16 Try.underlying22 hi9 hz9 hs9 hb9 rfl (by decide) (.slice AT (chT L).length cT) (chT L).length _ rfl OR (.slice (some ⟨M2, 0, none⟩) 1 1) rfl 1 _ hsrc (by unfold maxLen; rw [chT_length]; omega) (by rw [chT_length]; omega) BW ?_
            intro v' u3 O3 G3 V3
            have E3 := Lib.hid (E2.out.pushT O3 G3 V3)
            obtain ⟨A3, c3, rfl⟩ := own_is O3
            have k3 := G3.block o (World.block_lt_of_cell? _ _ d0u2) (fun e => Nat.lt_irrefl _ (HTO.out o e.symm))
            have d0u3 : u3.cell? ⟨o, 0, none⟩ = _ := (World.cell?_of_block (w := u2) k3).trans d0u2
            have d1u3 : u3.cell? ⟨o, 1, none⟩ = _ := (World.cell?_of_block (w := u2) k3).trans d1u2
            have d2u3 : u3.cell? ⟨o, 2, none⟩ = _ := (World.cell?_of_block (w := u2) k3).trans d2u2
            have m2u3 := (G3.block M2 (Array.getElem?_eq_some_iff.1 m2u2).1 (fun e => absurd (HTO.out _ e.symm) (by omega))).trans m2u2
            have HO3 := Lib.hid O3
            clear O3 G3 V3 OR hsrc BW k3
            simp only [Act.put, List.setIfInBounds_toArray, List.set_cons_succ, List.set_cons_zero]
            refine hK _ _ (fun q hq hd _ => ?_) ?_
            · intro _ q hq e; simp only [List.mem_cons, List.mem_nil_iff, or_false] at hq; rcases hq with rfl | rfl | rfl <;> first | assumption | (simp at e; done) | (go_simp; done) | (simp; done)
            clear hK K
            refine Own.st_do _ rfl rfl (fun K hK => ?_)
            go_simp
            obtain ⟨u6, hu6⟩ : ∃ v, v = u3.alloc (.cells #[Value.int .i64 (a : Nat), .string d, .string i] 68) := ⟨_, rfl⟩
            obtain ⟨M6, hM6⟩ : ∃ v, v = u3.heap.size := ⟨_, rfl⟩
            rw [← hu6, ← hM6]
            have b6 : Below u3.heap.size u3 u6 := by rw [hu6]; exact ((Below.refl _ _).alloc (Nat.le_refl _) _)
            have E6 := Lib.hid (E3.out.later' b6)
            have m6 : u6.heap[M6]? = some (.cells #[Value.int .i64 (a : Nat), .string d, .string i] 68 (0, 0)) := by rw [hu6, hM6]; exact blk_alloc_new u3 _
            have l6 : o < M6 := by rw [hM6]; exact World.block_lt_of_cell? _ _ d0u3
            have d0u6 := (b6.cell (p := ⟨o, 0, none⟩) (World.block_lt_of_cell? _ _ d0u3)).trans d0u3
            have d1u6 := (b6.cell (p := ⟨o, 1, none⟩) (World.block_lt_of_cell? _ _ d1u3)).trans d1u3
            have d2u6 := (b6.cell (p := ⟨o, 2, none⟩) (World.block_lt_of_cell? _ _ d2u3)).trans d2u3
            have m2u6 := (b6.block M2 (Array.getElem?_eq_some_iff.1 m2u3).1).trans m2u3
            have m6u6 := m6
            have HM6 := Lib.hid hM6
            clear hu6 hM6
            refine hK _ _ (fun q hq hd => by rw [(by decide : ∀ x ∈ [5], Own.dep [0, 0, 2, 7, 0, 0, 32, 127, 255, 511] 6 x = true) q hq] at hd; cases hd) ?_
            clear hK K
            refine Own.st_do _ rfl rfl (fun K hK => ?_)
            have hsrc : Src Try.prog 3 75 (.slice (some ⟨M6, 0, none⟩) 1 1) 1 [.int .i64 (a : Nat), .string d, .string i] u6 := by
              refine Src.ofSlice u6 Try.underlying75 _ 1 1 _ rfl (fun j u hj => ?_) (fun u hu => ?_)
              · match j, hj with
                | 0, hj => simp at hj; subst hj; simp [Addr.add, World.cell?, m6u6]
                | 1, hj => simp at hj; subst hj; simp [Addr.add, World.cell?, m6u6]
                | 2, hj => simp at hj; subst hj; simp [Addr.add, World.cell?, m6u6]
                | j + 3, hj => simp at hj
              · simp only [List.mem_cons, List.mem_nil_iff, or_false] at hu
                rcases hu with rfl | rfl | rfl <;> rfl
            have OR := E6.out.dr
            have BW := E6.out.below.size
            refine own_append_wp (.tmp 95) (.tmp 97) 75 75 rfl W.heap.size 68 i68 _ 3 40 Try.underlying75 hi68 hz68 hs68 hb68 rfl (by decide) (.slice AD (chD L).length cD) (chD L).length _ rfl OR (.slice (some ⟨M6, 0, none⟩) 1 1) rfl 1 _ hsrc (by unfold maxLen; rw [chD_length]; omega) (by rw [chD_length]; omega) BW ?_
            intro v' u7 O7 G7 V7
            have E7 := Lib.hid (E6.out.pushD (e := ⟨a, d, i⟩) O7 G7 V7)
            obtain ⟨A7, c7, rfl⟩ := own_is O7
            have k7 := G7.block o (World.block_lt_of_cell? _ _ d0u6) (fun e => Nat.lt_irrefl _ (HDO.out o e.symm))
            have d0u7 : u7.cell? ⟨o, 0, none⟩ = _ := (World.cell?_of_block (w := u6) k7).trans d0u6
            have d1u7 : u7.cell? ⟨o, 1, none⟩ = _ := (World.cell?_of_block (w := u6) k7).trans d1u6
            have d2u7 : u7.cell? ⟨o, 2, none⟩ = _ := (World.cell?_of_block (w := u6) k7).trans d2u6
            have m2u7 := (G7.block M2 (Array.getElem?_eq_some_iff.1 m2u6).1 (fun e => absurd (HDO.out _ e.symm) (by omega))).trans m2u6
            have m6u7 := (G7.block M6 (Array.getElem?_eq_some_iff.1 m6u6).1 (fun e => absurd (HDO.out _ e.symm) (by omega))).trans m6u6
            have HO7 := Lib.hid O7
            clear O7 G7 V7 OR hsrc BW k7
            simp only [Act.put, List.setIfInBounds_toArray, List.set_cons_succ, List.set_cons_zero]
            refine hK _ _ (fun q hq hd => by rw [(by decide : ∀ x ∈ [5], Own.dep [0, 0, 2, 7, 0, 0, 32, 127, 255, 511] 7 x = true) q hq] at hd; cases hd) ?_
            clear hK K
            repeat (refine Own.st_blind _ rfl rfl (CR.off _ (by decide) _) ?_; go_big_quiet_step (fail); refine wpQuiet_nil ?_)
            refine Own.mix_done ?_
            go_wp2_with (fail)
            go_roundw
            case rel =>
              refine ⟨(x, ⟨a, d, i⟩) :: L, y, g + 3, hlt, by simp only [List.length_cons]; go_num, ⟨ST.out, CH.out⟩, by simp only [List.length_cons]; omega, by simp only [List.length_cons]; omega, ST.out.nx, ?_⟩
              have := E7.out
              rw [chT_cons, chD_cons]
              exact this
            case measure => simp [intOf]; omega
          · refine Own.st_do _ rfl rfl (fun K hK => ?_)
            go_simp
            obtain ⟨u6, hu6⟩ : ∃ v, v = u2.alloc (.cells #[Value.int .i64 (a : Nat), .string d, .string i] 68) := ⟨_, rfl⟩
            obtain ⟨M6, hM6⟩ : ∃ v, v = u2.heap.size := ⟨_, rfl⟩
            rw [← hu6, ← hM6]
            have b6 : Below u2.heap.size u2 u6 := by rw [hu6]; exact ((Below.refl _ _).alloc (Nat.le_refl _) _)
            have E6 := Lib.hid (E2.out.later' b6)
            have m6 : u6.heap[M6]? = some (.cells #[Value.int .i64 (a : Nat), .string d, .string i] 68 (0, 0)) := by rw [hu6, hM6]; exact blk_alloc_new u2 _
            have l6 : o < M6 := by rw [hM6]; exact World.block_lt_of_cell? _ _ d0u2
            have d0u6 := (b6.cell (p := ⟨o, 0, none⟩) (World.block_lt_of_cell? _ _ d0u2)).trans d0u2
            have d1u6 := (b6.cell (p := ⟨o, 1, none⟩) (World.block_lt_of_cell? _ _ d1u2)).trans d1u2
            have d2u6 := (b6.cell (p := ⟨o, 2, none⟩) (World.block_lt_of_cell? _ _ d2u2)).trans d2u2
            have m2u6 := (b6.block M2 (Array.getElem?_eq_some_iff.1 m2u2).1).trans m2u2
            have m6u6 := m6
            have HM6 := Lib.hid hM6
            clear hu6 hM6
            refine hK _ _ (fun q hq hd => by rw [(by decide : ∀ x ∈ [5], Own.dep [0, 0, 2, 7, 0, 0, 32, 127, 255, 511] 6 x = true) q hq] at hd; cases hd) ?_
            clear hK K
            refine Own.st_do _ rfl rfl (fun K hK => ?_)
            have hsrc : Src Try.prog 1 22 (.slice (some ⟨M2, 0, none⟩) 1 1) 1 [.string x] u6 := src_one Try.underlying22 rfl (by simp [World.cell?, m2u6])
            have OR := E6.out.tr
            have BW := E6.out.below.size
            refine own_append_wp (.tmp 91) (.tmp 93) 22 22 rfl W.heap.size 9 i9 _ 1 16 Try.underlying22 hi9 hz9 hs9 hb9 rfl (by decide) (.slice AT (chT L).length cT) (chT L).length _ rfl OR (.slice (some ⟨M2, 0, none⟩) 1 1) rfl 1 _ hsrc (by unfold maxLen; rw [chT_length]; omega) (by rw [chT_length]; omega) BW ?_
            intro v' u3 O3 G3 V3
            have E3 := Lib.hid (E6.out.pushT O3 G3 V3)
            obtain ⟨A3, c3, rfl⟩ := own_is O3
            have k3 := G3.block o (World.block_lt_of_cell? _ _ d0u6) (fun e => Nat.lt_irrefl _ (HTO.out o e.symm))
            have d0u3 : u3.cell? ⟨o, 0, none⟩ = _ := (World.cell?_of_block (w := u6) k3).trans d0u6
            have d1u3 : u3.cell? ⟨o, 1, none⟩ = _ := (World.cell?_of_block (w := u6) k3).trans d1u6
            have d2u3 : u3.cell? ⟨o, 2, none⟩ = _ := (World.cell?_of_block (w := u6) k3).trans d2u6
            have m2u3 := (G3.block M2 (Array.getElem?_eq_some_iff.1 m2u6).1 (fun e => absurd (HTO.out _ e.symm) (by omega))).trans m2u6
            have m6u3 := (G3.block M6 (Array.getElem?_eq_some_iff.1 m6u6).1 (fun e => absurd (HTO.out _ e.symm) (by omega))).trans m6u6
            have HO3 := Lib.hid O3
            clear O3 G3 V3 OR hsrc BW k3
            simp only [Act.put, List.setIfInBounds_toArray, List.set_cons_succ, List.set_cons_zero]
            refine hK _ _ (fun q hq hd _ => ?_) ?_
            · intro _ q hq e; simp only [List.mem_cons, List.mem_nil_iff, or_false] at hq; rcases hq with rfl | rfl | rfl <;> first | assumption | (simp at e; done) | (go_simp; done) | (simp; done)
            clear hK K
            refine Own.st_do _ rfl rfl (fun K hK => ?_)
            have hsrc : Src Try.prog 3 75 (.slice (some ⟨M6, 0, none⟩) 1 1) 1 [.int .i64 (a : Nat), .string d, .string i] u3 := by
              refine Src.ofSlice u3 Try.underlying75 _ 1 1 _ rfl (fun j u hj => ?_) (fun u hu => ?_)
              · match j, hj with
                | 0, hj => simp at hj; subst hj; simp [Addr.add, World.cell?, m6u3]
                | 1, hj => simp at hj; subst hj; simp [Addr.add, World.cell?, m6u3]
                | 2, hj => simp at hj; subst hj; simp [Addr.add, World.cell?, m6u3]
                | j + 3, hj => simp at hj
              · simp only [List.mem_cons, List.mem_nil_iff, or_false] at hu
                rcases hu with rfl | rfl | rfl <;> rfl
            have OR := E3.out.dr
            have BW := E3.out.below.size
            refine own_append_wp (.tmp 95) (.tmp 97) 75 75 rfl W.heap.size 68 i68 _ 3 40 Try.underlying75 hi68 hz68 hs68 hb68 rfl (by decide) (.slice AD (chD L).length cD) (chD L).length _ rfl OR (.slice (some ⟨M6, 0, none⟩) 1 1) rfl 1 _ hsrc (by unfold maxLen; rw [chD_length]; omega) (by rw [chD_length]; omega) BW ?_
            intro v' u7 O7 G7 V7
            have E7 := Lib.hid (E3.out.pushD (e := ⟨a, d, i⟩) O7 G7 V7)
            obtain ⟨A7, c7, rfl⟩ := own_is O7
            have k7 := G7.block o (World.block_lt_of_cell? _ _ d0u3) (fun e => Nat.lt_irrefl _ (HDO.out o e.symm))
            have d0u7 : u7.cell? ⟨o, 0, none⟩ = _ := (World.cell?_of_block (w := u3) k7).trans d0u3
            have d1u7 : u7.cell? ⟨o, 1, none⟩ = _ := (World.cell?_of_block (w := u3) k7).trans d1u3
            have d2u7 : u7.cell? ⟨o, 2, none⟩ = _ := (World.cell?_of_block (w := u3) k7).trans d2u3
            have m2u7 := (G7.block M2 (Array.getElem?_eq_some_iff.1 m2u3).1 (fun e => absurd (HDO.out _ e.symm) (by omega))).trans m2u3
            have m6u7 := (G7.block M6 (Array.getElem?_eq_some_iff.1 m6u3).1 (fun e => absurd (HDO.out _ e.symm) (by omega))).trans m6u3
            have HO7 := Lib.hid O7
            clear O7 G7 V7 OR hsrc BW k7
            simp only [Act.put, List.setIfInBounds_toArray, List.set_cons_succ, List.set_cons_zero]
            refine hK _ _ (fun q hq hd => by rw [(by decide : ∀ x ∈ [5], Own.dep [0, 0, 2, 7, 0, 0, 32, 127, 255, 511] 7 x = true) q hq] at hd; cases hd) ?_
            clear hK K
            repeat (refine Own.st_blind _ rfl rfl (CR.off _ (by decide) _) ?_; go_big_quiet_step (fail); refine wpQuiet_nil ?_)
            refine Own.mix_done ?_
            go_wp2_with (fail)
            go_roundw
            case rel =>
              refine ⟨(x, ⟨a, d, i⟩) :: L, y, g + 3, hlt, by simp only [List.length_cons]; go_num, ⟨ST.out, CH.out⟩, by simp only [List.length_cons]; omega, by simp only [List.length_cons]; omega, ST.out.nx, ?_⟩
              have := E7.out
              rw [chT_cons, chD_cons]
              exact this
            case measure => simp [intOf]; omega
        · refine Own.st_do _ rfl rfl (fun K hK => ?_)
          go_simp
          obtain ⟨u6, hu6⟩ : ∃ v, v = World.drew (w8.alloc (.cells #[Value.int .i64 (a : Nat), .string d, .string i] 68)) := ⟨_, rfl⟩
          obtain ⟨M6, hM6⟩ : ∃ v, v = w8.heap.size := ⟨_, rfl⟩
          rw [← hu6, ← hM6]
          have b6 : Below w8.heap.size w8 u6 := by rw [hu6]; exact ((Below.refl _ _).alloc (Nat.le_refl _) _).drew
          have E6 := Lib.hid (E8.out.later' b6)
          have m6 : u6.heap[M6]? = some (.cells #[Value.int .i64 (a : Nat), .string d, .string i] 68 (0, 0)) := by rw [hu6, hM6]; exact blk_alloc_new w8 _
          have l6 : o < M6 := by rw [hM6]; exact World.block_lt_of_cell? _ _ d0
          have d0u6 := (b6.cell (p := ⟨o, 0, none⟩) (World.block_lt_of_cell? _ _ d0)).trans d0
          have d1u6 := (b6.cell (p := ⟨o, 1, none⟩) (World.block_lt_of_cell? _ _ d1)).trans d1
          have d2u6 := (b6.cell (p := ⟨o, 2, none⟩) (World.block_lt_of_cell? _ _ d2)).trans d2
          have m6u6 := m6
          have HM6 := Lib.hid hM6
          clear hu6 hM6
          refine hK _ _ (fun q hq hd => by rw [(by decide : ∀ x ∈ [5], Own.dep [0, 0, 2, 7, 0, 0, 32, 127, 255, 511] 6 x = true) q hq] at hd; cases hd) ?_
          clear hK K
          refine Own.st_do _ rfl rfl (fun K hK => ?_)
          go_simp
          obtain ⟨u2, hu2⟩ : ∃ v, v = u6.alloc (.cells #[Value.string x] 9) := ⟨_, rfl⟩
          obtain ⟨M2, hM2⟩ : ∃ v, v = u6.heap.size := ⟨_, rfl⟩
          rw [← hu2, ← hM2]
          have b2 : Below u6.heap.size u6 u2 := by rw [hu2]; exact ((Below.refl _ _).alloc (Nat.le_refl _) _)
          have E2 := Lib.hid (E6.out.later' b2)
          have m2 : u2.heap[M2]? = some (.cells #[Value.string x] 9 (0, 0)) := by rw [hu2, hM2]; exact blk_alloc_new u6 _
          have l2 : o < M2 := by rw [hM2]; exact World.block_lt_of_cell? _ _ d0u6
          have d0u2 := (b2.cell (p := ⟨o, 0, none⟩) (World.block_lt_of_cell? _ _ d0u6)).trans d0u6
          have d1u2 := (b2.cell (p := ⟨o, 1, none⟩) (World.block_lt_of_cell? _ _ d1u6)).trans d1u6
          have d2u2 := (b2.cell (p := ⟨o, 2, none⟩) (World.block_lt_of_cell? _ _ d2u6)).trans d2u6
          have m6u2 := (b2.block M6 (Array.getElem?_eq_some_iff.1 m6u6).1).trans m6u6
          have m2u2 := m2
          have HM2 := Lib.hid hM2
          clear hu2 hM2
          refine hK _ _ (fun q hq hd _ => ?_) ?_
          · intro _ q hq e; simp only [List.mem_cons, List.mem_nil_iff, or_false] at hq; rcases hq with rfl | rfl | rfl <;> first | assumption | (simp at e; done) | (go_simp; done) | (simp; done)
          clear hK K
          refine Own.st_do _ rfl rfl (fun K hK => ?_)
          have hsrc : Src Try.prog 1 22 (.slice (some ⟨M2, 0, none⟩) 1 1) 1 [.string x] u2 := src_one Try.underlying22 rfl (by simp [World.cell?, m2u2])
          have OR := E2.out.tr
          have BW := E2.out.below.size
          refine own_append_wp (.tmp 91) (.tmp 93) 22 22 rfl W.heap.size 9 i9 _ 1 16 Try.underlying22 hi9 hz9 hs9 hb9 rfl (by decide) (.slice AT (chT L).length cT) (chT L).length _ rfl OR (.slice (some ⟨M2, 0, none⟩) 1 1) rfl 1 _ hsrc (by unfold maxLen; rw [chT_length]; omega) (by rw [chT_length]; omega) BW ?_
          intro v' u3 O3 G3 V3
          have E3 := Lib.hid (E2.out.pushT O3 G3 V3)
          obtain ⟨A3, c3, rfl⟩ := own_is O3
          have k3 := G3.block o (World.block_lt_of_cell? _ _ d0u2) (fun e => Nat.lt_irrefl _ (HTO.out o e.symm))
          have d0u3 : u3.cell? ⟨o, 0, none⟩ = _ := (World.cell?_of_block (w := u2) k3).trans d0u2
          have d1u3 : u3.cell? ⟨o, 1, none⟩ = _ := (World.cell?_of_block (w := u2) k3).trans d1u2
          have d2u3 : u3.cell? ⟨o, 2, none⟩ = _ := (World.cell?_of_block (w := u2) k3).trans d2u2
          have m6u3 := (G3.block M6 (Array.getElem?_eq_some_iff.1 m6u2).1 (fun e => absurd (HTO.out _ e.symm) (by omega))).trans m6u2
          have m2u3 := (G3.block M2 (Array.getElem?_eq_some_iff.1 m2u2).1 (fun e => absurd (HTO.out _ e.symm) (by omega))).trans m2u2
          have HO3 := Lib.hid O3
          clear O3 G3 V3 OR hsrc BW k3
          simp only [Act.put, List.setIfInBounds_toArray, List.set_cons_succ, List.set_cons_zero]
          refine hK _ _ (fun q hq hd _ => ?_) ?_
          · intro _ q hq e; simp only [List.mem_cons, List.mem_nil_iff, or_false] at hq; rcases hq with rfl | rfl | rfl <;> first | assumption | (simp at e; done) | (go_simp; done) | (simp; done)
          clear hK K
          refine Own.st_do _ rfl rfl (fun K hK => ?_)
          have hsrc : Src Try.prog 3 75 (.slice (some ⟨M6, 0, none⟩) 1 1) 1 [.int .i64 (a : Nat), .string d, .string i] u3 := by
            refine Src.ofSlice u3 Try.underlying75 _ 1 1 _ rfl (fun j u hj => ?_) (fun u hu => ?_)
            · match j, hj with
              | 0, hj => simp at hj; subst hj; simp [Addr.add, World.cell?, m6u3]
              | 1, hj => simp at hj; subst hj; simp [Addr.add, World.cell?, m6u3]
              | 2, hj => simp at hj; subst hj; simp [Addr.add, World.cell?, m6u3]
              | j + 3, hj => simp at hj
            · simp only [List.mem_cons, List.mem_nil_iff, or_false] at hu
              rcases hu with rfl | rfl | rfl <;> rfl
          have OR := E3.out.dr
          have BW := E3.out.below.size
          refine own_append_wp (.tmp 95) (.tmp 97) 75 75 rfl W.heap.size 68 i68 _ 3 40 Try.underlying75 hi68 hz68 hs68 hb68 rfl (by decide) (.slice AD (chD L).length cD) (chD L).length _ rfl OR (.slice (some ⟨M6, 0, none⟩) 1 1) rfl 1 _ hsrc (by unfold maxLen; rw [chD_length]; omega) (by rw [chD_length]; omega) BW ?_
          intro v' u7 O7 G7 V7
          have E7 := Lib.hid (E3.out.pushD (e := ⟨a, d, i⟩) O7 G7 V7)
          obtain ⟨A7, c7, rfl⟩ := own_is O7
          have k7 := G7.block o (World.block_lt_of_cell? _ _ d0u3) (fun e => Nat.lt_irrefl _ (HDO.out o e.symm))
          have d0u7 : u7.cell? ⟨o, 0, none⟩ = _ := (World.cell?_of_block (w := u3) k7).trans d0u3
          have d1u7 : u7.cell? ⟨o, 1, none⟩ = _ := (World.cell?_of_block (w := u3) k7).trans d1u3
          have d2u7 : u7.cell? ⟨o, 2, none⟩ = _ := (World.cell?_of_block (w := u3) k7).trans d2u3
          have m6u7 := (G7.block M6 (Array.getElem?_eq_some_iff.1 m6u3).1 (fun e => absurd (HDO.out _ e.symm) (by omega))).trans m6u3
          have m2u7 := (G7.block M2 (Array.getElem?_eq_some_iff.1 m2u3).1 (fun e => absurd (HDO.out _ e.symm) (by omega))).trans m2u3
          have HO7 := Lib.hid O7
          clear O7 G7 V7 OR hsrc BW k7
          simp only [Act.put, List.setIfInBounds_toArray, List.set_cons_succ, List.set_cons_zero]
          refine hK _ _ (fun q hq hd => by rw [(by decide : ∀ x ∈ [5], Own.dep [0, 0, 2, 7, 0, 0, 32, 127, 255, 511] 7 x = true) q hq] at hd; cases hd) ?_
          clear hK K
          repeat (refine Own.st_blind _ rfl rfl (CR.off _ (by decide) _) ?_; go_big_quiet_step (fail); refine wpQuiet_nil ?_)
          refine Own.mix_done ?_
          go_wp2_with (fail)
          go_roundw
          case rel =>
            refine ⟨(x, ⟨a, d, i⟩) :: L, y, g + 3, hlt, by simp only [List.length_cons]; go_num, ⟨ST.out, CH.out⟩, by simp only [List.length_cons]; omega, by simp only [List.length_cons]; omega, ST.out.nx, ?_⟩
            have := E7.out
            rw [chT_cons, chD_cons]
            exact this
          case measure => simp [intOf]; omega
      · obtain ⟨AT, cT, rfl, hcT, _⟩ := row_is eb.tr
        obtain ⟨AD, cD, rfl, hcD, _⟩ := row_is eb.dr
        have hcl := chD_length L
        have E4 := Lib.hid eb
        have CH := Lib.hid ch
        clear eb ch nx
        go_wp2_with (fail)
        go_loopw [19] (fun i wr => ∃ (P L' : List (ByteArray × EdR)) (x : ByteArray) (g : Nat), RowKit.Hid (L = P ++ L') ∧ i = .int .i64 ((L'.length : Int) - 1) ∧ Ch s L' x ∧ g + 6 * L'.length ≤ 400 ∧ Eb W wr b x g (.slice AT (chT L).length cT) (.slice AD (chD L).length cD) (chT L) (chD L) (fun _ => False)) (fun i _ => (intOf i + 1).toNat)
        case atStart => exact ⟨[], L, x, g, Lib.hid rfl, rfl, CH.out, by omega, E4.out⟩
        case round =>
          obtain ⟨P, L', x2, g2, hP, rfl, ch2, hg2, eb⟩ := hrel
          clear E4 CH hx
          match L', hP, ch2, hg2 with
          | [], hP, ch2, hg2 =>
            obtain rfl : x2 = s := ch2
            have hss : (x2.toList == x2.toList) = true := by simp
            have CX := Lib.hid (eb_text eb (by omega))
            clear eb hP ch2
            simp only [List.length_nil]
            go_wp2_with (fail)
            refine CX.out.mono ?_
            rintro e w5 ⟨rfl, e5, _⟩
            have B5 := Lib.hid e5.below
            clear e5 CX
            go_wp2_with (fail)
            refine (ed_awake _).mono ?_
            rintro e w6 ⟨rfl, b6⟩
            go_wp2_with (fail)
            go_ret
            exact ⟨rfl, B5.out.trans (b6.mono B5.out.size)⟩
          | (t, ⟨a, d, i⟩) :: L2, hP, ch2, hg2 =>
            obtain ⟨st, ch3⟩ := ch2
            have hD : (chD L)[L2.length]? = some ⟨a, d, i⟩ := by rw [hP.out]; exact chD_at P t _ L2
            have hT : (chT L)[L2.length]? = some t := by rw [hP.out]; exact chT_at P t _ L2
            have hDl := (List.getElem?_eq_some_iff.1 hD).1
            have hTl := (List.getElem?_eq_some_iff.1 hT).1
            obtain ⟨qd, cd, hvd, _, hqd, _, _, _⟩ := row_at eb.dr (by omega)
            obtain ⟨qt, ct, hvt, _, hqt, _, _, _⟩ := row_at eb.tr (by omega)
            obtain ⟨rfl, _, rfl⟩ : AD = some ⟨qd, 0, none⟩ ∧ True ∧ cD = cd := by simpa using hvd
            obtain ⟨rfl, _, rfl⟩ : AT = some ⟨qt, 0, none⟩ ∧ True ∧ cT = ct := by simpa using hvt
            obtain ⟨r0, r1, r2⟩ := eb.edit_at hD
            have htt : (t.toList == t.toList) = true := by simp
            have hxx : (x2.toList == x2.toList) = true := by simp
            rw [show ((((t, (⟨a, d, i⟩ : EdR)) :: L2).length : Nat) : Int) - 1 = (L2.length : Nat) by simp only [List.length_cons]; omega]
            rw [List.length_cons] at hg2
            have hsx := st.xs
            have hthere := st.there.1
            simp only at hthere
            have HD := Lib.hid hD
            have HT := Lib.hid hT
            have HP := hP
            have ST := Lib.hid st
            have CH := Lib.hid ch3
            have EB := Lib.hid eb
            clear hD hT hP st ch3 eb hvd hvt
            go_wp2_with (fail)
            obtain ⟨p, hp⟩ : ∃ p, p = wr.heap.size := ⟨_, rfl⟩
            obtain ⟨w1, hw1⟩ : ∃ w1, w1 = wr.alloc (.cells #[Value.int .i64 (a : Nat), .string d, .string i] 68) := ⟨_, rfl⟩
            have B1 := Lib.hid (show Below wr.heap.size wr w1 by rw [hw1]; exact (Below.refl _ _).alloc (Nat.le_refl _) _)
            have p1 : w1.heap[p]? = some (.cells #[Value.int .i64 (a : Nat), .string d, .string i] 68 (0, 0)) := by rw [hw1, hp]; exact blk_alloc_new wr _
            rw [← hw1, ← hp]
            have HPW := Lib.hid hp
            have c2 : w1.cell? ⟨p, 2, none⟩ = some (Value.string i) := by simp [World.cell?, p1]
            have P1 := Lib.hid p1
            clear hw1 hp p1
            refine Own.region_mix (CR [1] [(1, ⟨p, 2, none⟩, .string i)]) [1] [0, 1, 3, 0, 8, 31, 63, 127] (Own.Ord.run [(0, true), (1, true), (2, true), (3, true), (4, false), (5, true), (6, true), (7, false)] .done) (by kernel_rfl) (by kernel_rfl) (fun dst v c a w h => by cases dst <;> exact h) (fun x hx w => CR.off x hx w) ?_
            simp only [Own.Ord.run]
            repeat (refine Own.st_blind _ rfl rfl (CR.off _ (by decide) _) ?_; go_big_quiet_step (fail); refine wpQuiet_nil ?_)
            refine Own.st_load _ rfl rfl (.string i) (fun w' hw' => ?_) ?_ ?_
            · have hg0 := hw'.get (a := ⟨p, 2, none⟩) (v := .string i) (by decide) (by simp)
              go_simp
            · intro _ q hq e; simp only [List.mem_cons, List.mem_nil_iff, or_false] at hq; subst hq <;> first | assumption | (simp at e; done) | (go_simp; done) | (simp; done)
            simp only [Act.put, List.setIfInBounds_toArray, List.set_cons_succ, List.set_cons_zero]
            repeat (refine Own.st_blind _ rfl rfl (CR.off _ (by decide) _) ?_; go_big_quiet_step (fail); refine wpQuiet_nil ?_)
            refine Own.st_do _ rfl rfl (fun K hK => ?_)
            go_simp
            refine (DG.out _).mono ?_
            rintro e w2 ⟨⟨dg, rfl, zg⟩, b2⟩
            have p2 : w2.heap[p]? = _ := (b2.block p (Array.getElem?_eq_some_iff.1 P1.out).1).trans P1.out
            have c2w : w2.cell? ⟨p, 2, none⟩ = some (Value.string i) := by simp [World.cell?, p2]
            have f2w : w2.frozen? ⟨p, 2, none⟩ = false := by simp [World.frozen?, p2]
            have P2 := Lib.hid p2
            have B2 := Lib.hid b2
            clear p2 b2
            refine hK _ _ (fun q hq hd _ => ?_) ?_
            · intro _ q hq e; simp only [List.mem_cons, List.mem_nil_iff, or_false] at hq; subst hq <;> first | assumption | (simp at e; done) | (go_simp; done) | (simp; done)
            clear hK K
            repeat (refine Own.st_blind _ rfl rfl (CR.off _ (by decide) _) ?_; go_big_quiet_step (fail); refine wpQuiet_nil ?_)
            refine Own.st_do _ rfl rfl (fun K hK => ?_)
            go_simp
            refine hK _ _ (fun q hq hd => by rw [(by decide : ∀ x ∈ [1], Own.dep [0, 1, 3, 0, 8, 31, 63, 127] 7 x = true) q hq] at hd; cases hd) ?_
            clear hK K
            refine Own.mix_done ?_
            obtain ⟨bd, hbd⟩ : ∃ bd, bd = i ++ ⟨#[0]⟩ ++ dg := ⟨_, rfl⟩
            rw [← hbd]
            obtain ⟨w3, hw3⟩ : ∃ w3, w3 = w2.setCell ⟨p, 2, none⟩ (.string bd) := ⟨_, rfl⟩
            rw [← hw3]
            have b3 : Below wr.heap.size wr w3 := by
              rw [hw3]
              exact (B1.out.trans ((Below.trans (b := World.drew w1) ⟨rfl, rfl, rfl, Nat.le_refl _, fun _ _ => rfl⟩ B2.out : Below w1.heap.size w1 w2).mono B1.out.size)).setCell (Nat.le_of_eq HPW.out.symm) _
            have p3 : w3.heap[p]? = some (.cells #[Value.int .i64 (a : Nat), .string d, .string bd] 68 (0, 0)) := by rw [hw3, setCell_same P2.out]; rfl
            have e3 := EB.out.later (Y := fun q => q = p) b3 (fun q hq => .inr ⟨by rw [hq]; exact Nat.le_of_eq HPW.out.symm, by rw [hq]; exact (Array.getElem?_eq_some_iff.1 p3).1⟩)
            have CX := Lib.hid (eb_text e3 (by omega))
            have P3 := Lib.hid p3
            have HBD := Lib.hid hbd
            clear b3 p3 e3 hw3 hbd c2 c2w f2w r0 r1 r2 P1 P2 B1 B2 EB
            go_wp2_with (fail)
            refine CX.out.mono ?_
            rintro e w4 ⟨rfl, e4, xk4⟩
            have p4 : w4.heap[p]? = some (.cells #[Value.int .i64 (a : Nat), .string d, .string bd] 68 (0, 0)) := (xk4 p rfl).trans P3.out
            have P4 := Lib.hid p4
            have q0 : w4.cell? ⟨p, 0, none⟩ = some (Value.int .i64 (a : Nat)) := by simp [World.cell?, p4]
            have q1 : w4.cell? ⟨p, 1, none⟩ = some (Value.string d) := by simp [World.cell?, p4]
            have q2 : w4.cell? ⟨p, 2, none⟩ = some (Value.string bd) := by simp [World.cell?, p4]
            obtain ⟨r0, r1, r2⟩ := e4.edit_at HD.out
            have rt := e4.text_at HT.out
            have CB : RowKit.Hid (Calls Try.prog 47 #[.pointer (some ⟨b, 0, none⟩), .agg #[.int .i64 (a : Nat), .string d, .string bd]] w4.drew fun r w' => r = .returned (.int .i64 2) ∧ Eb W w' b x2 (g2 + 3) (.slice (some ⟨qt, 0, none⟩) (chT L).length cT) (.slice (some ⟨qd, 0, none⟩) (chD L).length cD) (chT L) (chD L) (fun q => q = p) ∧ Xk (fun q => q = p) w4.drew w') := Lib.hid (by
              rw [HBD.out]
              exact eb_bad (e4.later' (w' := World.drew w4) ⟨rfl, rfl, rfl, Nat.le_refl _, fun _ _ => rfl⟩) ST.out dg (by omega) (by omega))
            clear CX e4 xk4 p4 P3 HPW
            go_wp2_with (fail)
            refine Own.region_mix (CR [1, 15, 25] [(1, ⟨p, 0, none⟩, .int .i64 (a : Nat)), (1, ⟨p, 1, none⟩, .string d), (1, ⟨p, 2, none⟩, .string bd), (15, ⟨qd, L2.length * 3, none⟩, .int .i64 (a : Nat)), (15, ⟨qd, L2.length * 3 + 1, none⟩, .string d), (15, ⟨qd, L2.length * 3 + 2, none⟩, .string i), (25, ⟨qt, L2.length, none⟩, .string t)]) [1, 15, 25] [0, 0, 3, 7, 15, 31, 63, 31, 255, 511, 1023, 2047, 2047, 2047, 14335, 30719, 65535, 131071, 262143, 524287, 1048575, 2097151, 1048575, 1048575, 13631487, 30408703, 67108863, 134217727] (Own.Ord.run [(0, true), (1, true), (2, false), (3, true), (4, true), (5, true), (7, true), (6, false), (8, true), (9, true), (10, true), (11, true), (12, true), (13, true), (14, true), (15, true), (16, false), (17, true), (18, true), (19, true), (20, true), (22, true), (23, true), (24, true), (25, true), (21, false), (26, true), (27, true)] .done) (by kernel_rfl) (by kernel_rfl) (fun dst v c a w h => by cases dst <;> exact h) (fun x hx w => CR.off x hx w) ?_
            simp only [Own.Ord.run]
            repeat (refine Own.st_blind _ rfl rfl (CR.off _ (by decide) _) ?_; go_big_quiet_step (fail); refine wpQuiet_nil ?_)
            refine Own.st_load _ rfl rfl (.agg #[.int .i64 (a : Nat), .string d, .string bd]) (fun w' hw' => ?_) ?_ ?_
            · have hg0 := hw'.get (a := ⟨p, 0, none⟩) (v := .int .i64 (a : Nat)) (by decide) (by simp)
              have hg1 := hw'.get (a := ⟨p, 1, none⟩) (v := .string d) (by decide) (by simp)
              have hg2 := hw'.get (a := ⟨p, 2, none⟩) (v := .string bd) (by decide) (by simp)
              go_simp
            · intro _ q hq e; simp only [List.mem_cons, List.mem_nil_iff, or_false] at hq; rcases hq with rfl | rfl | rfl | rfl | rfl | rfl | rfl <;> first | assumption | (simp at e; done) | (go_simp; done) | (simp; done)
            simp only [Act.put, List.setIfInBounds_toArray, List.set_cons_succ, List.set_cons_zero]
            refine Own.st_do _ rfl rfl (fun K hK => ?_)
            go_simp
            refine CB.out.mono ?_
            rintro e w5 ⟨rfl, e5, xk5⟩
            have p5 : w5.heap[p]? = some (.cells #[Value.int .i64 (a : Nat), .string d, .string bd] 68 (0, 0)) := (xk5 p rfl).trans P4.out
            have q0w5 : w5.cell? ⟨p, 0, none⟩ = some (Value.int .i64 (a : Nat)) := by simp [World.cell?, p5]
            have q1w5 : w5.cell? ⟨p, 1, none⟩ = some (Value.string d) := by simp [World.cell?, p5]
            have q2w5 : w5.cell? ⟨p, 2, none⟩ = some (Value.string bd) := by simp [World.cell?, p5]
            have P5 := Lib.hid p5
            clear p5 xk5
            obtain ⟨r0w5, r1w5, r2w5⟩ := e5.edit_at HD.out
            have rtw5 := e5.text_at HT.out
            have E5 := Lib.hid e5
            clear e5
            clear CB
            refine hK _ _ (fun q hq hd _ => ?_) ?_
            · intro _ q hq e; simp only [List.mem_cons, List.mem_nil_iff, or_false] at hq; rcases hq with rfl | rfl | rfl | rfl | rfl | rfl | rfl <;> first | assumption | (simp at e; done) | (go_simp; done) | (simp; done)
            clear hK K
            repeat (refine Own.st_blind _ rfl rfl (CR.off _ (by decide) _) ?_; go_big_quiet_step (fail); refine wpQuiet_nil ?_)
            refine Own.st_do _ rfl rfl (fun K hK => ?_)
            go_simp
            refine (eb_text E5.out (by omega)).mono ?_
            rintro e w6 ⟨rfl, e6, xk6⟩
            have p6 : w6.heap[p]? = some (.cells #[Value.int .i64 (a : Nat), .string d, .string bd] 68 (0, 0)) := (xk6 p rfl).trans P5.out
            have q0w6 : w6.cell? ⟨p, 0, none⟩ = some (Value.int .i64 (a : Nat)) := by simp [World.cell?, p6]
            have q1w6 : w6.cell? ⟨p, 1, none⟩ = some (Value.string d) := by simp [World.cell?, p6]
            have q2w6 : w6.cell? ⟨p, 2, none⟩ = some (Value.string bd) := by simp [World.cell?, p6]
            have P6 := Lib.hid p6
            clear p6 xk6
            obtain ⟨r0w6, r1w6, r2w6⟩ := e6.edit_at HD.out
            have rtw6 := e6.text_at HT.out
            have E6 := Lib.hid e6
            clear e6
            refine hK _ _ (fun q hq hd _ => ?_) ?_
            · intro _ q hq e; simp only [List.mem_cons, List.mem_nil_iff, or_false] at hq; rcases hq with rfl | rfl | rfl | rfl | rfl | rfl | rfl <;> first | assumption | (simp at e; done) | (go_simp; done) | (simp; done)
            clear hK K
            repeat (refine Own.st_blind _ rfl rfl (CR.off _ (by decide) _) ?_; go_big_quiet_step (fail); refine wpQuiet_nil ?_)
            refine Own.st_load _ rfl rfl (.agg #[.int .i64 (a : Nat), .string d, .string i]) (fun w' hw' => ?_) ?_ ?_
            · have hg0 := hw'.get (a := ⟨qd, L2.length * 3, none⟩) (v := .int .i64 (a : Nat)) (by decide) (by simp)
              have hg1 := hw'.get (a := ⟨qd, L2.length * 3 + 1, none⟩) (v := .string d) (by decide) (by simp)
              have hg2 := hw'.get (a := ⟨qd, L2.length * 3 + 2, none⟩) (v := .string i) (by decide) (by simp)
              go_simp
            · intro _ q hq e; simp only [List.mem_cons, List.mem_nil_iff, or_false] at hq; rcases hq with rfl | rfl | rfl | rfl | rfl | rfl | rfl <;> first | assumption | (simp at e; done) | (go_simp; done) | (simp; done)
            simp only [Act.put, List.setIfInBounds_toArray, List.set_cons_succ, List.set_cons_zero]
            refine Own.st_do _ rfl rfl (fun K hK => ?_)
            go_simp
            refine (eb_undo E6.out ST.out (by omega)).mono ?_
            rintro e w7 ⟨rfl, e7, xk7⟩
            have p7 : w7.heap[p]? = some (.cells #[Value.int .i64 (a : Nat), .string d, .string bd] 68 (0, 0)) := (xk7 p rfl).trans P6.out
            have q0w7 : w7.cell? ⟨p, 0, none⟩ = some (Value.int .i64 (a : Nat)) := by simp [World.cell?, p7]
            have q1w7 : w7.cell? ⟨p, 1, none⟩ = some (Value.string d) := by simp [World.cell?, p7]
            have q2w7 : w7.cell? ⟨p, 2, none⟩ = some (Value.string bd) := by simp [World.cell?, p7]
            have P7 := Lib.hid p7
            clear p7 xk7
            obtain ⟨r0w7, r1w7, r2w7⟩ := e7.edit_at HD.out
            have rtw7 := e7.text_at HT.out
            have E7 := Lib.hid e7
            clear e7
            refine hK _ _ (fun q hq hd _ => ?_) ?_
            · intro _ q hq e; simp only [List.mem_cons, List.mem_nil_iff, or_false] at hq; rcases hq with rfl | rfl | rfl | rfl | rfl | rfl | rfl <;> first | assumption | (simp at e; done) | (go_simp; done) | (simp; done)
            clear hK K
            repeat (refine Own.st_blind _ rfl rfl (CR.off _ (by decide) _) ?_; go_big_quiet_step (fail); refine wpQuiet_nil ?_)
            refine Own.st_load _ rfl rfl (.string t) (fun w' hw' => ?_) ?_ ?_
            · have hg0 := hw'.get (a := ⟨qt, L2.length, none⟩) (v := .string t) (by decide) (by simp)
              go_simp
            · intro _ q hq e; simp only [List.mem_cons, List.mem_nil_iff, or_false] at hq; rcases hq with rfl | rfl | rfl | rfl | rfl | rfl | rfl <;> first | assumption | (simp at e; done) | (go_simp; done) | (simp; done)
            simp only [Act.put, List.setIfInBounds_toArray, List.set_cons_succ, List.set_cons_zero]
            refine Own.st_do _ rfl rfl (fun K hK => ?_)
            go_simp
            refine (eb_text E7.out (by omega)).mono ?_
            rintro e w8 ⟨rfl, e8, xk8⟩
            have p8 : w8.heap[p]? = some (.cells #[Value.int .i64 (a : Nat), .string d, .string bd] 68 (0, 0)) := (xk8 p rfl).trans P7.out
            have q0w8 : w8.cell? ⟨p, 0, none⟩ = some (Value.int .i64 (a : Nat)) := by simp [World.cell?, p8]
            have q1w8 : w8.cell? ⟨p, 1, none⟩ = some (Value.string d) := by simp [World.cell?, p8]
            have q2w8 : w8.cell? ⟨p, 2, none⟩ = some (Value.string bd) := by simp [World.cell?, p8]
            have P8 := Lib.hid p8
            clear p8 xk8
            obtain ⟨r0w8, r1w8, r2w8⟩ := e8.edit_at HD.out
            have rtw8 := e8.text_at HT.out
            have E8 := Lib.hid e8
            clear e8
            refine hK _ _ (fun q hq hd _ => ?_) ?_
            · intro _ q hq e; simp only [List.mem_cons, List.mem_nil_iff, or_false] at hq; rcases hq with rfl | rfl | rfl | rfl | rfl | rfl | rfl <;> first | assumption | (simp at e; done) | (go_simp; done) | (simp; done)
            clear hK K
            repeat (refine Own.st_blind _ rfl rfl (CR.off _ (by decide) _) ?_; go_big_quiet_step (fail); refine wpQuiet_nil ?_)
            refine Own.mix_done ?_
            go_wp2_with (fail)
            go_roundw
            case rel =>
              have e9 := E8.out.drop (Y := fun _ => False) (fun q hq => hq.elim)
              rw [hcl] at e9
              exact ⟨P ++ [(t, ⟨a, d, i⟩)], L2, Lib.hid (by rw [List.append_assoc]; exact HP.out), rfl, t, CH.out, g2 + 3 + 3, by omega, e9⟩
            case measure => simp [intOf]; omega
end Go.Proofs.Ytemcffihfeaniaa

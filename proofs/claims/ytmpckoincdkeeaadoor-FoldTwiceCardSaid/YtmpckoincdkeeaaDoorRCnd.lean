/- The document's Parse of conditions: it does not panic; what it hands back. -/
import Derived.Test.YtmpckoincdkeeaaDoorRWrd
namespace Go.Proofs.YtmpckoincdkeeaaDoor
open Go.RowKit Go.Deep Go.Own
set_option linter.unusedVariables false
def R9Post (w : World) (e : Ending) (w' : World) : Prop := (∃ (A : Option Addr) (n c : Nat) (b : Bool), e = .returned (.tuple #[.slice A n c, .bool b])) ∧ Below w.heap.size w w'
theorem infoIt : (Tryd.prog.info? 114).map (fun i => (i.zero, i.size, i.bytes)) = some (some (.agg #[.bool false, .bool false, .slice none 0 0]), 3, 32) := by kernel_rfl
theorem src_item {w : World} {M : Nat} {a b : Bool} {A : Option Addr} {n c : Nat} (h : w.heap[M]? = some (.cells #[.bool a, .bool b, .slice A n c] 114 (0, 0))) :
    Src Tryd.prog 3 61 (.slice (some ⟨M, 0, none⟩) 1 1) 1 [.bool a, .bool b, .slice A n c] w := by
  refine Src.ofSlice w Tryd.underlying61 _ 1 1 _ rfl (fun j u hj => ?_) (fun u hu => ?_)
  · match j, hj with
    | 0, hj => simp at hj; subst hj; simp [Addr.add, World.cell?, h]
    | 1, hj => simp at hj; subst hj; simp [Addr.add, World.cell?, h]
    | 2, hj => simp at hj; subst hj; simp [Addr.add, World.cell?, h]
    | j + 3, hj => simp at hj
  · simp only [List.mem_cons, List.mem_nil_iff, or_false] at hu
    rcases hu with rfl | rfl | rfl <;> rfl
/-- an item that is being read, beside those that are read -/
structure ItS (B : Nat) (w0 w : World) (M : Nat) (nt : Bool) (st : Value) (ys : List Int) (lv : Value) (n : Nat) (xs : List Value) : Prop where
  cell : w.heap[M]? = some (.cells #[.bool false, .bool nt, st] 114 (0, 0))
  set : OwnI w B 3 st ys
  row : w.ownsRow B 114 3 lv n xs
  bel : Below B w0 w
  ne : ∀ k, lv.ownBlock = some k → k ≠ M
  hi : B ≤ M
theorem ItS.big {B : Nat} {w0 w : World} {M : Nat} {nt : Bool} {st : Value} {ys : List Int} {lv : Value} {n : Nat} {xs : List Value} (h : ItS B w0 w M nt st ys lv n xs) : B ≤ w.heap.size := Nat.le_trans h.hi (Nat.le_of_lt (Array.getElem?_eq_some_iff.1 h.cell).1)
theorem ItS.below {B : Nat} {w0 w w' : World} {M : Nat} {nt : Bool} {st : Value} {ys : List Int} {lv : Value} {n : Nat} {xs : List Value} (h : ItS B w0 w M nt st ys lv n xs) (hb : Below w.heap.size w w') : ItS B w0 w' M nt st ys lv n xs :=
  ⟨(hb.block _ (Array.getElem?_eq_some_iff.1 h.cell).1).trans h.cell, h.set.later hb, own_below h.row hb, h.bel.trans (hb.mono h.big), h.ne, h.hi⟩
theorem ItS.stM {B : Nat} {w0 w : World} {M : Nat} {nt : Bool} {st : Value} {ys : List Int} {lv : Value} {n : Nat} {xs : List Value} (h : ItS B w0 w M nt st ys lv n xs) : st.ownBlock ≠ some M := fun e => by
  obtain ⟨c, hc⟩ := own_row_type h.set e
  rw [h.cell] at hc
  injection hc with hc
  injection hc with _ h3 _
  exact absurd h3 (by decide)
theorem ItS.stl {B : Nat} {w0 w : World} {M : Nat} {nt : Bool} {st : Value} {ys : List Int} {lv : Value} {n : Nat} {xs : List Value} (h : ItS B w0 w M nt st ys lv n xs) {k : Nat} (hk : lv.ownBlock = some k) : st.ownBlock ≠ some k := fun e => by
  obtain ⟨c, hc⟩ := own_row_type h.set e
  obtain ⟨c2, hc2⟩ := own_row_type h.row hk
  rw [hc2] at hc
  injection hc with hc
  injection hc with _ h3 _
  exact absurd h3 (by decide)
/-- the set grew: the rest is as it was -/
structure ItG (B : Nat) (w0 w : World) (M : Nat) (nt : Bool) (st : Value) (lv : Value) (n : Nat) (xs : List Value) : Prop where
  cell : w.heap[M]? = some (.cells #[.bool false, .bool nt, st] 114 (0, 0))
  row : w.ownsRow B 114 3 lv n xs
  bel : Below B w0 w
  ne : ∀ k, lv.ownBlock = some k → k ≠ M
  hi : B ≤ M
theorem ItS.grow {B : Nat} {w0 w w' : World} {M : Nat} {nt : Bool} {st : Value} {ys : List Int} {lv : Value} {n : Nat} {xs : List Value} (h : ItS B w0 w M nt st ys lv n xs) (hg : w.grownBy w' st.ownBlock) : ItG B w0 w' M nt st lv n xs :=
  ⟨(hg.block _ (Array.getElem?_eq_some_iff.1 h.cell).1 (fun e => h.stM e.symm)).trans h.cell, own_keep h.row fun k hk => hg.block k (own_block_lt h.row hk).2 (fun e => h.stl hk e.symm), h.bel.grown hg h.big (fun k hk => (own_block_lt h.set hk).1), h.ne, h.hi⟩
theorem ItG.put {B : Nat} {w0 w : World} {M : Nat} {nt : Bool} {st st' : Value} {ys : List Int} {lv : Value} {n : Nat} {xs : List Value} (h : ItG B w0 w M nt st lv n xs) (ho : OwnI w B 3 st' ys) : ItS B w0 (w.setCell ⟨M, 2, none⟩ st') M nt st' ys lv n xs := by
  refine ⟨by rw [setCell_same h.cell]; rfl, own_keep ho fun k hk => setCell_other _ (fun e => ?_), own_keep h.row fun k hk => setCell_other _ (fun e => h.ne k hk e), h.bel.setCell (p := ⟨M, 2, none⟩) h.hi _, h.ne, h.hi⟩
  have e' : k = M := e
  subst e'
  obtain ⟨c, hc⟩ := own_row_type ho hk
  rw [h.cell] at hc
  injection hc with hc
  injection hc with _ h3 _
  exact absurd h3 (by decide)
theorem ItS.not {B : Nat} {w0 w : World} {M : Nat} {nt : Bool} {st : Value} {ys : List Int} {lv : Value} {n : Nat} {xs : List Value} (h : ItS B w0 w M nt st ys lv n xs) : ItS B w0 (w.setCell ⟨M, 1, none⟩ (.bool true)) M true st ys lv n xs :=
  ⟨by rw [setCell_same h.cell]; rfl, own_keep h.set fun k hk => setCell_other _ (fun e => h.stM (by rw [hk]; exact congrArg some e)), own_keep h.row fun k hk => setCell_other _ (fun e => h.ne k hk e), h.bel.setCell (p := ⟨M, 1, none⟩) h.hi _, h.ne, h.hi⟩
set_option maxRecDepth 100000 in
set_option maxHeartbeats 32000000 in
theorem r9_calls (s : ByteArray) (w : World) (hs : s.size ≤ 1000000000) : Calls Tryd.prog 49 #[.string s] w (R9Post w) := by
  obtain ⟨iI, hiI, hzI, hsI, hbI⟩ := info_parts infoI
  obtain ⟨iT, hiT, hzT, hsT, hbT⟩ := info_parts infoIt
  have CC := Lib.hid (rcodes_calls s w (by omega))
  unfold CodesPost at CC
  have hcl : (codesOf s).length ≤ 1000000000 := by
    unfold codesOf codes
    have : (units s).length ≤ s.size := unitsFrom_len s s.size 0
    split
    · rw [List.length_map]; omega
    · exact Nat.zero_le _
  obtain ⟨cs, hcs⟩ : ∃ cs, cs = codesOf s := ⟨_, rfl⟩
  rw [← hcs] at CC hcl
  clear hcs
  go_enter Tryd.func49, Tryd.ntmps49
  go_wp2_with (fail)
  refine CC.out.mono ?_
  rintro e w1 ⟨⟨v1, rfl, o1⟩, b1⟩
  obtain ⟨A1, c1, hv1, _, r1⟩ := o1.reads
  subst hv1
  have R1 := Lib.hid r1
  have B1 := Lib.hid b1
  clear CC o1 r1 b1
  cases hok : okU s with
  | false =>
    go_wp2_with (fail)
    refine bodyPost_ret (v := .tuple #[.slice none 0 0, .bool false]) (by simp [results, Tryd.results49, go_sem]) rfl ?_
    exact ⟨⟨_, _, _, _, rfl⟩, B1.out⟩
  | true =>
    obtain ⟨B, hB⟩ : ∃ B, B = w1.heap.size := ⟨_, rfl⟩
    have HB := Lib.hid hB
    clear hB hok
    have HBW := Lib.hid (fun (wx : World) (h : Below B w1 wx) => B1.out.trans ((show Below w1.heap.size w1 wx by rw [← HB.out]; exact h).mono B1.out.size))
    go_wp2_with (fail)
    go_loopw [6, 7] (fun lv iv wr => ∃ (i n : Nat) (xs : List Value), iv = .int .i64 (i : Nat) ∧ i ≤ cs.length ∧ n ≤ i ∧ wr.ownsRow B 114 3 lv n xs ∧ Below B w1 wr) (fun _ iv _ => cs.length - (intOf iv).toNat)
    case atStart => exact ⟨0, 0, [], rfl, Nat.zero_le _, Nat.le_refl _, World.ownsRow_nil _ _ _ _, Below.refl _ _⟩
    case round =>
      obtain ⟨i, n, xs, rfl, hi, hn, hR, hb⟩ := hrel
      have hBs : B ≤ wr.heap.size := by rw [HB.out]; exact (show Below w1.heap.size w1 wr by rw [← HB.out]; exact hb).size
      obtain ⟨Al, cl, hlv⟩ := own_is hR
      subst hlv
      by_cases hlt : i < cs.length
      · have g1 : decide (i < cs.length) = true := by simpa using hlt
        obtain ⟨c, hc⟩ : ∃ c, cs[i]? = some c := ⟨_, List.getElem?_eq_getElem hlt⟩
        obtain ⟨qa, oa, rfl, hcell⟩ := reads_at R1.out (show Below w1.heap.size w1 wr by rw [← HB.out]; exact hb) hc
        have HR := Lib.hid hR
        have HBl := Lib.hid hb
        have HBS := Lib.hid hBs
        clear hc hR hb hBs
        by_cases c46 : c = 46
        · subst c46
          obtain ⟨o, ho⟩ : ∃ o, o = Obj.cells #[Value.bool true, .bool false, .slice none 0 0] 114 := ⟨_, rfl⟩
          have b4 : Below wr.heap.size wr (wr.alloc o) := (Below.refl _ _).alloc (Nat.le_refl _) _
          have R4 := Lib.hid (own_below HR.out b4)
          have N4 := Lib.hid (show (wr.alloc o).heap[wr.heap.size]? = some (.cells #[.bool true, .bool false, .slice none 0 0] 114 (0, 0)) by rw [ho]; exact blk_alloc_new _ _)
          have B4 := Lib.hid (HBl.out.alloc HBS.out o)
          have BS4 := Lib.hid (Nat.le_trans HBS.out b4.size)
          subst ho
          clear b4 HR
          go_wp2_with (at_builtin; refine own_append (o := ⟨some 40, _, _, _, _, _⟩) rfl (.tmp 37) (.tmp 39) 61 61 rfl B 114 iT _ 3 32 Tryd.underlying61 hiT hzT hsT hbT rfl (by decide) (.slice Al n cl) n _ rfl R4.out (.slice (some ⟨wr.heap.size, 0, none⟩) 1 1) rfl 1 _ (src_item N4.out) (by unfold maxLen; omega) (by omega) BS4.out ?_; intro v5 w5 O5 G5 V5)
          go_roundw
          case rel => exact ⟨i + 1, n + 1, _, by go_num, hlt, by omega, O5, B4.out.grown G5 BS4.out (fun q hq => (own_block_lt R4.out hq).1)⟩
          case measure => simp [intOf]; omega
        by_cases c93 : c = 93
        · subst c93
          go_wp2_with (fail)
          refine bodyPost_ret (v := .tuple #[.slice none 0 0, .bool false]) (by simp [results, Tryd.results49, go_sem]) rfl ?_
          exact ⟨⟨_, _, _, _, rfl⟩, HBW.out _ HBl.out⟩
        by_cases c91 : c = 91
        · subst c91
          clear c46 c93
          obtain ⟨w2, hw2⟩ : ∃ w2, w2 = wr.alloc (.cells #[Value.bool false, .bool false, .slice none 0 0] 114) := ⟨_, rfl⟩
          obtain ⟨M, hM⟩ : ∃ M, M = wr.heap.size := ⟨_, rfl⟩
          have b2 : Below wr.heap.size wr w2 := by rw [hw2]; exact (Below.refl _ _).alloc (Nat.le_refl _) _
          have I2 := Lib.hid (show ItS B w1 w2 M false (.slice none 0 0) [] (.slice Al n cl) n xs from
            ⟨by rw [hw2, hM]; exact blk_alloc_new _ _, OwnI.nil _ _ _, own_below HR.out b2, HBl.out.trans (b2.mono HBS.out), fun k hk => by have := (own_block_lt HR.out hk).2; omega, by rw [hM]; exact HBS.out⟩)
          have HW2 := Lib.hid (And.intro hw2 hM)
          clear hw2 hM b2
          go_upto_region 16 with (fail)
          rw [← HW2.out.1, ← HW2.out.2]
          clear hcell
          go_cut [7] (fun v wx => v = .int .i64 ((i + 1 : Nat) : Int) ∧ w2 = wx)
          case first =>
            go_wp2_with (fail)
            go_meet
            exact ⟨by go_num, rfl⟩
          obtain ⟨rfl, rfl⟩ := hcut
          go_step
          go_step
          obtain ⟨i1, hi1⟩ : ∃ i1, i1 = i + 1 := ⟨_, rfl⟩
          rw [← hi1]
          have hi1le : i1 ≤ cs.length := by omega
          have hi1lt : i < i1 := by omega
          clear hi1
          go_cut [7] (fun v wx => ∃ (i2 : Nat) (nt : Bool), v = .int .i64 (i2 : Nat) ∧ i < i2 ∧ i2 ≤ cs.length ∧ ItS B w1 wx M nt (.slice none 0 0) [] (.slice Al n cl) n xs)
          case first =>
            by_cases h1 : i1 < cs.length
            · have g2 : decide (i1 < cs.length) = true := by simpa using h1
              obtain ⟨c2, hc2⟩ : ∃ c, cs[i1]? = some c := ⟨_, List.getElem?_eq_getElem h1⟩
              obtain ⟨qb, ob, e2, hcell2⟩ := reads_at R1.out (show Below w1.heap.size w1 w2 by rw [← HB.out]; exact I2.out.bel) hc2
              injection e2 with e2
              injection e2 with e3 e4 _
              subst e3 e4
              clear hc2
              by_cases h94 : c2 = 94
              · subst h94
                have e1 := (cell3_of I2.out.cell).2.1
                have fz : w2.frozen? ⟨M, 1, none⟩ = false := by have := I2.out.cell; simp [World.frozen?, this]
                go_wp2_with (fail)
                go_meet
                exact ⟨i1 + 1, true, by go_num, by omega, h1, I2.out.not⟩
              · have g3 : (c2 == 94) = false := by simpa using h94
                go_wp2_with (fail)
                go_meet
                exact ⟨i1, false, rfl, by omega, hi1le, I2.out⟩
            · have g2 : decide (i1 < cs.length) = false := by simpa using h1
              go_wp2_with (fail)
              go_meet
              exact ⟨i1, false, rfl, by omega, hi1le, I2.out⟩
          obtain ⟨i2, nt, rfl, hii, hil, hI⟩ := hcut
          have HI2 := Lib.hid hI
          clear hI I2 HW2
          go_wp2_with (fail)
          go_loopw [7] (fun v wz => ∃ (i2 : Nat) (st : Value) (ys : List Int), v = .int .i64 (i2 : Nat) ∧ i < i2 ∧ i2 ≤ cs.length ∧ ys.length ≤ i2 ∧ ItS B w1 wz M nt st ys (.slice Al n cl) n xs) (fun v _ => cs.length - (intOf v).toNat)
          case atStart => exact ⟨i2, _, [], rfl, hii, hil, Nat.zero_le _, HI2.out⟩
          case round =>
            clear HI2 hii hil i2
            obtain ⟨i2, st, ys, rfl, hii, hil, hyl, hI⟩ := hrel
            have HI := Lib.hid hI
            obtain ⟨A3, c3, hst⟩ := own_is hI.set
            subst hst
            clear hI
            by_cases hgo : i2 < cs.length ∧ cs[i2]? ≠ some 93
            · obtain ⟨h1, h93⟩ := hgo
              have g2 : decide (i2 < cs.length) = true := by simpa using h1
              obtain ⟨c2, hc2⟩ : ∃ c, cs[i2]? = some c := ⟨_, List.getElem?_eq_getElem h1⟩
              obtain ⟨qb, ob, e2, hcell2⟩ := reads_at R1.out (show Below w1.heap.size w1 wr by rw [← HB.out]; exact HI.out.bel) hc2
              injection e2 with e2
              injection e2 with e3 e4 _
              subst e3 e4
              have g3 : (c2 == 93) = false := by
                rw [hc2] at h93
                simpa using h93
              obtain ⟨z0, z1, z2⟩ := cell3_of HI.out.cell
              obtain ⟨lv, hlv⟩ : ∃ lv, lv = Value.slice Al n cl := ⟨_, rfl⟩
              rw [← hlv] at HI
              have HLV := Lib.hid hlv
              clear hc2 h93 hlv
              go_upto_region 21 with (fail)
              refine Own.region_mix (CR [1, 5] [(1, ⟨M, 2, none⟩, .slice A3 ys.length c3), (5, ⟨qa, oa + i2, none⟩, .int .i64 c2)]) [1, 5] [0, 1, 0, 0, 12, 28, 60, 127, 255, 511] (Own.Ord.run [(0, true), (1, true), (2, true), (3, true), (4, true), (5, true), (6, false), (7, false), (8, true), (9, false)] .done) (by kernel_rfl) (by kernel_rfl) (fun dst v c a w h => by cases dst <;> exact h) (fun x hx w => CR.off x hx w) ?_
              simp only [Own.Ord.run]
              repeat (refine Own.st_blind _ rfl rfl (CR.off _ (by decide) _) ?_; go_big_quiet_step (fail); refine wpQuiet_nil ?_)
              refine Own.st_load _ rfl rfl (.slice A3 ys.length c3) (fun w' hw' => ?_) ?_ ?_
              · have hg0 := hw'.get (a := ⟨M, 2, none⟩) (v := .slice A3 ys.length c3) (by decide) (by simp)
                go_simp
              · intro _ q hq e; simp only [List.mem_cons, List.mem_nil_iff, or_false] at hq; rcases hq with rfl | rfl <;> first | assumption | (simp at e; done) | (go_simp; done) | (simp; done)
              simp only [Act.put, List.setIfInBounds_toArray, List.set_cons_succ, List.set_cons_zero]
              repeat (refine Own.st_blind _ rfl rfl (CR.off _ (by decide) _) ?_; go_big_quiet_step (fail); refine wpQuiet_nil ?_)
              refine Own.st_load _ rfl rfl (.int .i64 c2) (fun w' hw' => ?_) ?_ ?_
              · have hg0 := hw'.get (a := ⟨qa, oa + i2, none⟩) (v := .int .i64 c2) (by decide) (by simp)
                go_simp
              · intro _ q hq e; simp only [List.mem_cons, List.mem_nil_iff, or_false] at hq; rcases hq with rfl | rfl <;> first | assumption | (simp at e; done) | (go_simp; done) | (simp; done)
              simp only [Act.put, List.setIfInBounds_toArray, List.set_cons_succ, List.set_cons_zero]
              refine Own.st_do _ rfl rfl (fun K hK => ?_)
              go_simp
              obtain ⟨o, ho⟩ : ∃ o, o = Obj.cells #[Value.int .i64 c2] 3 := ⟨_, rfl⟩
              obtain ⟨w4, hw4⟩ : ∃ w4, w4 = World.drew (wr.alloc o) := ⟨_, rfl⟩
              have b4 : Below wr.heap.size wr w4 := by rw [hw4]; exact ((Below.refl _ _).alloc (Nat.le_refl _) _).drew
              have I4 := Lib.hid (HI.out.below b4)
              have n4 : w4.heap[wr.heap.size]? = some (.cells #[Value.int .i64 c2] 3 (0, 0)) := by rw [hw4, ho]; exact blk_new wr _
              have N4 := Lib.hid n4
              have y2 := (cell3_of I4.out.cell).2.2
              have yq : w4.cell? ⟨qa, oa + i2, none⟩ = some (.int .i64 c2) := (b4.cell (p := ⟨qa, oa + i2, none⟩) (World.block_lt_of_cell? _ _ hcell2)).trans hcell2
              subst ho
              rw [← hw4]
              clear b4 n4 hw4
              refine hK _ _ (fun q hq hd _ => ?_) ?_
              · intro _ q hq e; simp only [List.mem_cons, List.mem_nil_iff, or_false] at hq; rcases hq with rfl | rfl <;> first | assumption | (simp at e; done) | (go_simp; done) | (simp; done)
              clear hK K
              refine Own.st_do _ rfl rfl (fun K hK => ?_)
              refine own_append_wp (.tmp 74) (.tmp 79) 48 48 rfl B 3 iI _ 1 8 Tryd.underlying48 hiI hzI hsI hbI rfl (by decide) (.slice A3 ys.length c3) ys.length _ rfl I4.out.set (.slice (some ⟨wr.heap.size, 0, none⟩) 1 1) rfl 1 _ (src_one Tryd.underlying48 rfl (by rw [World.cell?]; simp only [N4.out]; rfl)) (by unfold maxLen; omega) (by omega) I4.out.big ?_
              intro v5 w5 O5 G5 V5
              obtain ⟨A5, c5, rfl⟩ := own_is O5
              have I5 := Lib.hid (I4.out.grow G5)
              have O5' := Lib.hid (ownI_push O5)
              have k5 := I5.out.cell
              have e2 := (cell3_of k5).2.2
              have fz : w5.frozen? ⟨M, 2, none⟩ = false := by simp [World.frozen?, k5]
              clear O5 G5 V5
              simp only [Act.put, List.setIfInBounds_toArray, List.set_cons_succ, List.set_cons_zero]
              refine hK _ _ (fun q hq hd => by rw [(by decide : ∀ x ∈ [1, 5], Own.dep [0, 1, 0, 0, 12, 28, 60, 127, 255, 511] 7 x = true) q hq] at hd; cases hd) ?_
              clear hK K
              repeat (refine Own.st_blind _ rfl rfl (CR.off _ (by decide) _) ?_; go_big_quiet_step (fail); refine wpQuiet_nil ?_)
              refine Own.st_do _ rfl rfl (fun K hK => ?_)
              go_simp
              obtain ⟨w6, hw6⟩ : ∃ w6, w6 = w5.setCell ⟨M, 2, none⟩ (.slice A5 (ys.length + 1) c5) := ⟨_, rfl⟩
              rw [← hw6]
              have I6 := Lib.hid (show ItS B w1 w6 M nt (.slice A5 (ys.length + 1) c5) (ys ++ [c2]) lv n xs by rw [hw6]; exact I5.out.put O5'.out)
              clear hw6
              refine hK _ _ (fun q hq hd => by rw [(by decide : ∀ x ∈ [1, 5], Own.dep [0, 1, 0, 0, 12, 28, 60, 127, 255, 511] 9 x = true) q hq] at hd; cases hd) ?_
              clear hK K
              refine Own.mix_done ?_
              go_wp2_with (fail)
              go_roundw
              case rel => exact ⟨i2 + 1, _, ys ++ [c2], by go_num, by omega, h1, by simp; omega, by rw [← HLV.out]; exact I6.out⟩
              case measure => (simp [intOf]; omega)
            · have hcs : ¬ i2 < cs.length ∨ (i2 < cs.length ∧ cs[i2]? = some 93) := by
                by_cases h : i2 < cs.length
                · refine .inr ⟨h, Classical.byContradiction fun hh => hgo ⟨h, hh⟩⟩
                · exact .inl h
              clear hgo
              rcases hcs with h1 | ⟨h1, h93⟩
              · have g2 : decide (i2 < cs.length) = false := by simpa using h1
                have g3 : decide (cs.length ≤ i2) = true := by simpa using h1
                have hb2 := HI.out.bel
                go_wp2_with (fail)
                refine bodyPost_ret (v := .tuple #[.slice none 0 0, .bool false]) (by simp [results, Tryd.results49, go_sem]) rfl ?_
                exact ⟨⟨_, _, _, _, rfl⟩, HBW.out _ hb2⟩
              · have g2 : decide (i2 < cs.length) = true := by simpa using h1
                have g3 : decide (cs.length ≤ i2) = false := by simp; omega
                obtain ⟨qb, ob, e2, hcell2⟩ := reads_at R1.out (show Below w1.heap.size w1 wr by rw [← HB.out]; exact HI.out.bel) h93
                injection e2 with e2
                injection e2 with e3 e4 _
                subst e3 e4
                obtain ⟨z0, z1, z2⟩ := cell3_of HI.out.cell
                obtain ⟨yl, hyl2⟩ : ∃ yl, yl = ys.length := ⟨_, rfl⟩
                rw [← hyl2] at z2 HI hyl
                by_cases hy0 : yl = 0
                · subst hy0
                  clear hyl2
                  go_wp2_with (fail)
                  refine bodyPost_ret (v := .tuple #[.slice none 0 0, .bool false]) (by simp [results, Tryd.results49, go_sem]) rfl ?_
                  exact ⟨⟨_, _, _, _, rfl⟩, HBW.out _ HI.out.bel⟩
                · have g4 : ((yl : Int) == 0) = false := by simp; omega
                  obtain ⟨o, ho⟩ : ∃ o, o = Obj.cells #[Value.bool false, .bool nt, .slice A3 yl c3] 114 := ⟨_, rfl⟩
                  have b4 : Below wr.heap.size wr (wr.alloc o) := by
                    exact (Below.refl _ _).alloc (Nat.le_refl _) _
                  have HBSz := Lib.hid (show B ≤ wr.heap.size by rw [HB.out]; exact (show Below w1.heap.size w1 wr by rw [← HB.out]; exact HI.out.bel).size)
                  have R4 := Lib.hid (own_below HI.out.row b4)
                  have N4 := Lib.hid (show (wr.alloc o).heap[wr.heap.size]? = some (.cells #[.bool false, .bool nt, .slice A3 yl c3] 114 (0, 0)) by rw [ho]; exact blk_alloc_new _ _)
                  have B4 := Lib.hid (HI.out.bel.alloc HBSz.out o)
                  have BS4 := Lib.hid (Nat.le_trans HBSz.out b4.size)
                  subst ho
                  clear b4 hyl2
                  go_wp2_with (at_builtin; refine own_append (o := ⟨some 97, _, _, _, _, _⟩) rfl (.tmp 94) (.tmp 96) 61 61 rfl B 114 iT _ 3 32 Tryd.underlying61 hiT hzT hsT hbT rfl (by decide) (.slice Al n cl) n _ rfl R4.out (.slice (some ⟨wr.heap.size, 0, none⟩) 1 1) rfl 1 _ (src_item N4.out) (by unfold maxLen; omega) (by omega) BS4.out ?_; intro v5 w5 O5 G5 V5)
                  go_roundw
                  case rel => exact ⟨i2 + 1, n + 1, _, by go_num, h1, by omega, O5, B4.out.grown G5 BS4.out (fun q hq => (own_block_lt R4.out hq).1)⟩
                  case measure => simp [intOf]; omega
        · have g46 : (c == 46) = false := by simpa using c46
          have g93 : (c == 93) = false := by simpa using c93
          have g91 : (c == 91) = false := by simpa using c91
          obtain ⟨w2, hw2⟩ : ∃ w2, w2 = wr.alloc (.cells #[Value.int .i64 c] 3) := ⟨_, rfl⟩
          have b2 : Below wr.heap.size wr w2 := by rw [hw2]; exact (Below.refl _ _).alloc (Nat.le_refl _) _
          obtain ⟨w3, hw3⟩ : ∃ w3, w3 = w2.alloc (.cells #[Value.bool false, .bool false, .slice (some ⟨wr.heap.size, 0, none⟩) 1 1] 114) := ⟨_, rfl⟩
          have b3 : Below w2.heap.size w2 w3 := by rw [hw3]; exact (Below.refl _ _).alloc (Nat.le_refl _) _
          have b4 : Below wr.heap.size wr w3 := b2.trans (b3.mono b2.size)
          have hz2 : w2.heap.size = wr.heap.size + 1 := by rw [hw2]; simp
          have R4 := Lib.hid (own_below HR.out b4)
          have N4 := Lib.hid (show w3.heap[wr.heap.size + 1]? = some (.cells #[.bool false, .bool false, .slice (some ⟨wr.heap.size, 0, none⟩) 1 1] 114 (0, 0)) by rw [hw3, ← hz2]; exact blk_alloc_new _ _)
          have B4 := Lib.hid (HBl.out.trans (b4.mono HBS.out))
          have BS4 := Lib.hid (Nat.le_trans HBS.out b4.size)
          subst hw3 hw2
          clear b2 b3 b4 hz2 HR c46 c93 c91
          go_wp2_with (at_builtin; refine own_append (o := ⟨some 34, _, _, _, _, _⟩) rfl (.tmp 26) (.tmp 33) 61 61 rfl B 114 iT _ 3 32 Tryd.underlying61 hiT hzT hsT hbT rfl (by decide) (.slice Al n cl) n _ rfl R4.out (.slice (some ⟨wr.heap.size + 1, 0, none⟩) 1 1) rfl 1 _ (src_item N4.out) (by unfold maxLen; omega) (by omega) BS4.out ?_; intro v5 w5 O5 G5 V5)
          go_roundw
          case rel => exact ⟨i + 1, n + 1, _, by go_num, hlt, by omega, O5, B4.out.grown G5 BS4.out (fun q hq => (own_block_lt R4.out hq).1)⟩
          case measure => simp [intOf]; omega
      · have g1 : decide (i < cs.length) = false := by simpa using hlt
        have HBl := Lib.hid hb
        clear hR hb
        by_cases h0 : n = 0
        · subst h0
          go_wp2_with (fail)
          refine bodyPost_ret (v := .tuple #[.slice none 0 0, .bool false]) (by simp [results, Tryd.results49, go_sem]) rfl ?_
          exact ⟨⟨_, _, _, _, rfl⟩, HBW.out _ HBl.out⟩
        · have g2 : ((n : Int) == 0) = false := by simp; omega
          by_cases h8 : 8 < n
          · have g3 : decide (8 < (n : Int)) = true := by simp; omega
            go_wp2_with (fail)
            refine bodyPost_ret (v := .tuple #[.slice none 0 0, .bool false]) (by simp [results, Tryd.results49, go_sem]) rfl ?_
            exact ⟨⟨_, _, _, _, rfl⟩, HBW.out _ HBl.out⟩
          · have g3 : decide (8 < (n : Int)) = false := by simp; omega
            go_wp2_with (fail)
            refine bodyPost_ret (v := .tuple #[.slice Al n cl, .bool true]) (by simp [results, Tryd.results49, go_sem]) rfl ?_
            exact ⟨⟨_, _, _, _, rfl⟩, HBW.out _ HBl.out⟩
end Go.Proofs.YtmpckoincdkeeaaDoor

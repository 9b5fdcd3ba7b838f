/- seg.kinds: the iterator's contract. -/
import Derived.RangeFuncNested
import Derived.RangeFuncBound
import Derived.RangeFuncCalls
import Derived.RangeFuncLeaves
import Derived.RangeFuncFrom
import Derived.Shelf.Abstract
import Derived.Shelf.RegionOpen
import Derived.WalkKit
import Derived.OwnWalkIn
import Derived.TacticsInMore
import Derived.LoopNIn
import Derived.LoopIn
import Derived.Sort.CutIn
import Derived.Test.YtcljiahpgbedhaaDoorSegB
import Derived.Test.YtcljiahpgbedhaaDoorRSeg
namespace Go.Proofs.YtcljiahpgbedhaaDoor
open Go.RowKit Go.Deep Go.Own Go.Shelf
set_option linter.unusedVariables false
attribute [local go_sem] Oper.semAt_some
/-- a kind whose end is a place -/
abbrev KdS := { k : Kd // k.at' + k.len ≤ 1099511627776 }
def encK (k : Kd) : Value := .agg #[.int .i64 (k.at' : Nat), .int .i64 (k.len : Nat), .int .i64 k.code, .int .i64 k.cls, .bool k.solid]
/-- what a round of the loop keeps -/
def KpT (n₀ : Nat) (W W' : World) : Prop := Below n₀ W W' ∧ ∀ (k : Nat) (c : Array Value) (t : TypeId) (fr : Nat × Nat), W.heap[k]? = some (.cells c t fr) → t ≠ 48 → t ≠ 42 → t ≠ 4 → W'.heap[k]? = W.heap[k]?
theorem KpT.trans {n₀ : Nat} {A B C : World} (h : KpT n₀ A B) (g : KpT n₀ B C) : KpT n₀ A C :=
  ⟨h.1.trans g.1, fun k c t fr hk h1 h2 h3 => by
    have e := h.2 k c t fr hk h1 h2 h3
    rw [g.2 k c t fr (e.trans hk) h1 h2 h3, e]⟩
theorem kpT_b {n₀ : Nat} {w : World} (hn : n₀ ≤ w.heap.size) (W : World) (l : Nat) (o o' : Obj) (hl : w.heap.size ≤ l) (h : W.heap[l]? = some o) (hc : o.isCells = false) (hw : o.isWalk = false) : KpT n₀ W (W.putObj l o') :=
  ⟨belowK_b hn W l o o' hl h hc hw, fun k c t fr hk _ _ _ => World.putObj_heap_other (by
    rintro rfl
    rw [h] at hk
    obtain rfl := Option.some.inj hk
    cases hc)⟩
set_option maxRecDepth 100000 in
set_option maxHeartbeats 4000000 in
theorem kinds_calls (A : Option Addr) (n cp : Nat) (s : ByteArray) (w : World) :
    Calls Tryd.prog 37 #[.slice A n cp, .string s] w fun e w' => e = .returned (.func (.func 43) #[] #[.pointer (some ⟨w.heap.size + 1, 0, none⟩), .pointer (some ⟨w.heap.size, 0, none⟩)]) ∧ w' = (w.alloc (.cells #[.slice A n cp] 44)).alloc (.cells #[.string s] 9) := by
  go_enter Tryd.func37, Tryd.ntmps37
  go_wp2_with (fail)
  go_ret
  exact ⟨rfl, rfl⟩
theorem set5 {w : World} {g : Nat} {z0 z1 z2 z3 z4 a b c d e : Value} {t : TypeId} {fr : Nat × Nat} (h : w.heap[g]? = some (.cells #[z0, z1, z2, z3, z4] t fr)) :
    (((((w.setCell ⟨g, 0, none⟩ a).setCell ⟨g, 1, none⟩ b).setCell ⟨g, 2, none⟩ c).setCell ⟨g, 3, none⟩ d).setCell ⟨g, 4, none⟩ e).heap[g]? = some (.cells #[a, b, c, d, e] t fr) := by
  rw [setCell_same (setCell_same (setCell_same (setCell_same (setCell_same h _) _) _) _) _]
  rfl
theorem below_set5 {B : Nat} {w w' : World} (h : Below B w w') {g : Nat} (hg : B ≤ g) (a b c d e : Value) : Below B w (((((w'.setCell ⟨g, 0, none⟩ a).setCell ⟨g, 1, none⟩ b).setCell ⟨g, 2, none⟩ c).setCell ⟨g, 3, none⟩ d).setCell ⟨g, 4, none⟩ e) :=
  ((((h.setCell (p := ⟨g, 0, none⟩) hg _).setCell (p := ⟨g, 1, none⟩) hg _).setCell (p := ⟨g, 2, none⟩) hg _).setCell (p := ⟨g, 3, none⟩) hg _).setCell (p := ⟨g, 4, none⟩) hg _
theorem unitsFrom_next (s : ByteArray) : ∀ (f i j a n : Nat) (c : Int), s.size ≤ i + f → (unitsFrom s f i)[j]? = some (a, n, c) → ∃ g, s.size ≤ a + n + g ∧ (unitsFrom s f i).drop (j + 1) = unitsFrom s g (a + n)
  | 0, i, j, a, n, c, hf, h => by simp [unitsFrom] at h
  | f + 1, i, j, a, n, c, hf, h => by
    have hu : unitsFrom s (f + 1) i = if i < s.size then (i, uLen s i, uCode s i) :: unitsFrom s f (i + uLen s i) else [] := rfl
    rw [hu] at h ⊢
    have h1 := u_len1 s i
    by_cases hi : i < s.size
    · rw [if_pos hi] at h ⊢
      cases j with
      | zero =>
        obtain ⟨rfl, rfl, rfl⟩ : i = a ∧ uLen s i = n ∧ uCode s i = c := by simpa using h
        exact ⟨f, by unfold uLen; omega, rfl⟩
      | succ j =>
        obtain ⟨g, h2, h3⟩ := unitsFrom_next s f (i + uLen s i) j a n c (by unfold uLen; omega) (by simpa using h)
        exact ⟨g, h2, by rw [List.drop_succ_cons]; exact h3⟩
    · rw [if_neg hi] at h; simp at h
theorem nextC_at (rs : List Rng) (s : ByteArray) {j a n : Nat} {c : Int} (h : (units s)[j]? = some (a, n, c)) : nextC rs ((units s).drop (j + 1)) = if a + n < s.size then clsOf rs (uCode s (a + n)) else 0 := by
  obtain ⟨g, h1, h2⟩ := unitsFrom_next s s.size 0 j a n c (by omega) h
  unfold units
  rw [h2]
  by_cases hl : a + n < s.size
  · obtain ⟨g, rfl⟩ : ∃ k, g = k + 1 := ⟨g - 1, by omega⟩
    rw [if_pos hl, unitsFrom, if_pos hl]
    rfl
  · rw [if_neg hl, unitsFrom_end s g _ hl]
    rfl
set_option maxRecDepth 100000 in
set_option maxHeartbeats 8000000 in
theorem kinds1_stops (rs : List Rng) (s : ByteArray) (A : Option Addr) (cp : Nat) (w0 : World) (hT : Tabs w0) (hA : ReadsR w0 A rs) (hl : rs.length ≤ 9223372036854775807) (hcp : rs.length ≤ cp) (hs : s.size ≤ 1099511627776)
    (n Bs Bl : Nat) (w : World) (hw : Below w0.heap.size w0 w) (hBs : w.heap[Bs]? = some (.cells #[.string s] 9 (0, 0))) (hBl : w.heap[Bl]? = some (.cells #[.slice A rs.length cp] 44 (0, 0))) :
    SeqStopsK Fence.wide n Tryd.prog 43 #[.pointer (some ⟨Bs, 0, none⟩), .pointer (some ⟨Bl, 0, none⟩)] (fun k : KdS => #[encK k.1]) (KpT w0.heap.size) (fun xs => xs.map (fun k => k.1) = kindsL rs s) (fun _ => True) (units s).length w := by
  intro l J Jx W hW hJ hJx hY h0
  have hul : (units s).length ≤ s.size := unitsFrom_len s s.size 0
  have hB0 := hw.trans (hW.mono hw.size)
  have bs1 := (hW.block Bs (Array.getElem?_eq_some_iff.1 hBs).1).trans hBs
  have bl1 := (hW.block Bl (Array.getElem?_eq_some_iff.1 hBl).1).trans hBl
  have cs := cell_of_blk bs1 0
  have cl0 := cell_of_blk bl1 0
  simp only [List.getElem?_toArray, List.getElem?_cons_zero] at cs cl0
  have CA := Lib.hid (uall_calls s W hs (hT.below hB0))
  have HJ := Lib.hid hJ
  have H0 := Lib.hid h0
  have HY := Lib.hid hY
  have HB0 := Lib.hid hB0
  have BB := Lib.hid (show _ ∧ _ from ⟨bs1, bl1⟩)
  have HA := Lib.hid hA
  have HT := Lib.hid hT
  clear hJ hJx hY h0 hW hw hBs hBl bs1 bl1 hB0 hA hT
  refine callsIn_of_wp Tryd.func43 rfl trivial ?_ rfl
  simp only [Tryd.ntmps43, List.size_toArray, List.length_cons, List.length_nil, Nat.reduceAdd, Nat.reduceSub, Array.replicate_succ, Array.replicate_zero, List.push_toArray, List.append_toArray, List.nil_append, List.cons_append]
  gi_wp2_with (fail)
  refine ⟨trivial, fun h => (by cases h), (callsIn_wide.2 CA.out).mono ?_⟩
  rintro e w1 ⟨v, rfl, r1, b1⟩
  obtain ⟨A1, c1, rfl⟩ := own_is r1
  have R1 := Lib.hid r1
  have B1 := Lib.hid b1
  clear r1 b1 CA
  gi_wp2_with (fail)
  gi_loopw [4, 14] (fun wv iv wr => ∃ j : Nat, iv = .int .i64 (j : Nat) ∧ wv = .int .i64 (prevC rs 0 (units s) j) ∧ j ≤ (units s).length ∧ (∃ p : List KdS, p.map (fun k => k.1) = (kindsL rs s).take j ∧ J p wr) ∧ RowU wr W.heap.size (.slice A1 (units s).length c1) (units s) ∧ Below w0.heap.size w0 wr ∧ wr.heap[Bs]? = some (.cells #[.string s] 9 (0, 0)) ∧ wr.heap[Bl]? = some (.cells #[.slice A rs.length cp] 44 (0, 0))) (fun _ iv _ => (units s).length - (intOf iv).toNat)
  case atStart =>
    have hg : W.grownBy w1 none := ⟨B1.out.os, B1.out.tape, B1.out.output, B1.out.size, fun k hk _ => B1.out.block k hk⟩
    exact ⟨0, rfl, rfl, Nat.zero_le _, ⟨[], rfl, HJ.out _ _ _ none H0.out hg (fun r e => by cases e)⟩, R1.out, HB0.out.trans (B1.out.mono HB0.out.size), (B1.out.block Bs (Array.getElem?_eq_some_iff.1 BB.out.1).1).trans BB.out.1, (B1.out.block Bl (Array.getElem?_eq_some_iff.1 BB.out.2).1).trans BB.out.2⟩
  case round =>
    obtain ⟨j, rfl, rfl, hj, ⟨p, hp, hJj⟩, hR, hB, hs1, hl1⟩ := hrel
    have HP := Lib.hid hp
    clear hp
    clear R1 B1 H0 BB cs cl0
    by_cases hjl : j < (units s).length
    · have g1 : decide (j < (units s).length) = true := by simpa using hjl
      obtain ⟨⟨a, n', c⟩, hu⟩ : ∃ u, (units s)[j]? = some u := ⟨_, List.getElem?_eq_getElem hjl⟩
      obtain ⟨n, hn⟩ : ∃ n, n' = n := ⟨_, rfl⟩
      rw [hn] at hu
      clear hn n'
      have hk := kinds_at rs (units s) 0 j a n c hu
      have hks : (kindsL rs s).take (j + 1) = (kindsL rs s).take j ++ [⟨a, n, c, clsOf rs c, solidB (prevC rs 0 (units s) j) (clsOf rs c) (nextC rs ((units s).drop (j + 1)))⟩] := by
        have hlk := (List.getElem?_eq_some_iff.1 hk).1
        unfold kindsL
        rw [List.take_succ_eq_append_getElem hlk, (List.getElem?_eq_some_iff.1 hk).2]
      obtain ⟨q, rfl, hq, d0, d1, d2⟩ := (hR.reads).2.at hu
      obtain ⟨M, hM⟩ : ∃ M, M = wr.heap.size := ⟨_, rfl⟩
      obtain ⟨w2, hw2⟩ : ∃ w2, w2 = wr.alloc (.cells #[Value.int .i64 (a : Nat), .int .i64 (n : Nat), .int .i64 c] 24) := ⟨_, rfl⟩
      have b2 : Below wr.heap.size wr w2 := by rw [hw2]; exact (Below.refl _ _).alloc (Nat.le_refl _) _
      have n2 : w2.heap[M]? = some (.cells #[.int .i64 (a : Nat), .int .i64 (n : Nat), .int .i64 c] 24 (0, 0)) := by rw [hw2, hM]; exact blk_new wr _
      have hB2 := hB.trans (b2.mono hB.size)
      have bl2 := (b2.block Bl (Array.getElem?_eq_some_iff.1 hl1).1).trans hl1
      have bs2 := (b2.block Bs (Array.getElem?_eq_some_iff.1 hs1).1).trans hs1
      have CO := Lib.hid (fun (w1 : World) (h : Below w2.heap.size w2 w1) => of_calls rs c A cp w1 (HA.out.below (hB2.trans (h.mono hB2.size))) hl hcp)
      obtain ⟨m0, m1, m2⟩ := cell3_of n2
      have y2 := cell_of_blk bl2 0
      simp only [List.getElem?_toArray, List.getElem?_cons_zero] at y2
      have R2 := Lib.hid (hR.below b2)
      have B2 := Lib.hid hB2
      have BB2 := Lib.hid b2
      have N2 := Lib.hid n2
      have BL2 := Lib.hid bl2
      have BS2 := Lib.hid bs2
      have HJJ := Lib.hid hJj
      have HKS := Lib.hid hks
      have HU := Lib.hid hu
      have HM := Lib.hid hM
      have HW2 := Lib.hid hw2
      obtain ⟨cl, hcl⟩ : ∃ cl, clsOf rs c = cl := ⟨_, rfl⟩
      rw [hcl] at CO HKS
      have HCL := Lib.hid hcl
      clear hJj hR hB hs1 hl1 hk hks hu hM hw2 b2 n2 hB2 bl2 bs2 hcl
      gi_wp2_with (fail)
      rw [← HW2.out, ← HM.out]
      refine wpIn_wide.2 ?_
      go_cut [7] (fun kp wx => ∃ MK, kp = .pointer (some ⟨MK, 0, none⟩) ∧ wx.heap[MK]? = some (.cells #[.int .i64 (a : Nat), .int .i64 (n : Nat), .int .i64 c, .int .i64 cl, .bool false] 67 (0, 0)) ∧ w2.heap.size ≤ MK ∧ Below w2.heap.size w2 wx)
      case first =>
        refine Own.region_mix (CR [0, 1, 3] [(0, ⟨M, 0, none⟩, .int .i64 (a : Nat)), (0, ⟨M, 1, none⟩, .int .i64 (n : Nat)), (0, ⟨M, 2, none⟩, .int .i64 c), (1, ⟨Bl, 0, none⟩, .slice A rs.length cp), (3, ⟨M, 2, none⟩, .int .i64 c)]) [0, 1, 3] [0, 0, 0, 4, 14, 31, 0, 127] (Own.Ord.run [(0, true), (1, true), (2, true), (3, true)] (.fork (.go 4 false (Own.Ord.run [] (.fork (.go 5 false (Own.Ord.run [(6, false), (7, false)] .done)) (.go 6 false (Own.Ord.run [(5, false), (7, false)] .done))))) (.go 6 false (Own.Ord.run [(4, false), (5, false), (7, false)] .done)))) (by kernel_rfl) (by kernel_rfl) (fun dst v c a w h => by cases dst <;> exact h) (fun x hx w => CR.off x hx w) ?_
        simp only [Own.Ord.run]
        refine Own.st_load _ rfl rfl (.agg #[.int .i64 (a : Nat), .int .i64 (n : Nat), .int .i64 c]) (fun w' hw' => ?_) ?_ ?_
        · have hg0 := hw'.get (a := ⟨M, 0, none⟩) (v := .int .i64 (a : Nat)) (by decide) (by simp)
          have hg1 := hw'.get (a := ⟨M, 1, none⟩) (v := .int .i64 (n : Nat)) (by decide) (by simp)
          have hg2 := hw'.get (a := ⟨M, 2, none⟩) (v := .int .i64 c) (by decide) (by simp)
          go_simp
        · intro _ q hq e; simp only [List.mem_cons, List.mem_nil_iff, or_false] at hq; rcases hq with rfl | rfl | rfl | rfl | rfl <;> first | assumption | (simp at e; done) | (go_simp; done) | (simp; done)
        simp only [Act.put, List.setIfInBounds_toArray, List.set_cons_succ, List.set_cons_zero]
        refine Own.st_load _ rfl rfl (.slice A rs.length cp) (fun w' hw' => ?_) ?_ ?_
        · have hg0 := hw'.get (a := ⟨Bl, 0, none⟩) (v := .slice A rs.length cp) (by decide) (by simp)
          go_simp
        · intro _ q hq e; simp only [List.mem_cons, List.mem_nil_iff, or_false] at hq; rcases hq with rfl | rfl | rfl | rfl | rfl <;> first | assumption | (simp at e; done) | (go_simp; done) | (simp; done)
        simp only [Act.put, List.setIfInBounds_toArray, List.set_cons_succ, List.set_cons_zero]
        repeat (refine Own.st_blind _ rfl rfl (CR.off _ (by decide) _) ?_; go_big_quiet_step (fail); refine wpQuiet_nil ?_)
        refine Own.st_load _ rfl rfl (.int .i64 c) (fun w' hw' => ?_) ?_ ?_
        · have hg0 := hw'.get (a := ⟨M, 2, none⟩) (v := .int .i64 c) (by decide) (by simp)
          go_simp
        · intro _ q hq e; simp only [List.mem_cons, List.mem_nil_iff, or_false] at hq; rcases hq with rfl | rfl | rfl | rfl | rfl <;> first | assumption | (simp at e; done) | (go_simp; done) | (simp; done)
        simp only [Act.put, List.setIfInBounds_toArray, List.set_cons_succ, List.set_cons_zero]
        refine Own.mix_fork ?_ ?_
        · refine Own.st_do _ rfl rfl (fun K hK => ?_)
          go_simp
          refine (CO.out _ ((Below.refl _ _).drew)).mono ?_
          rintro e u1 ⟨rfl, hbu1⟩
          have bu1 : Below w2.heap.size w2 u1 := by have h0 : Below w2.heap.size w2 (World.drew w2) := (Below.refl _ _).drew; exact h0.trans (hbu1.mono h0.size)
          obtain ⟨x0u1, x1u1, x2u1⟩ := cell3_of ((bu1.block M (Array.getElem?_eq_some_iff.1 N2.out).1).trans N2.out)
          have yu1 := cell_of_blk ((bu1.block Bl (Array.getElem?_eq_some_iff.1 BL2.out).1).trans BL2.out) 0
          simp only [List.getElem?_toArray, List.getElem?_cons_zero] at yu1
          refine hK _ _ (fun q hq hd _ => ?_) ?_
          · intro _ q hq e; simp only [List.mem_cons, List.mem_nil_iff, or_false] at hq; rcases hq with rfl | rfl | rfl | rfl | rfl <;> first | assumption | (simp at e; done) | (go_simp; done) | (simp; done)
          clear hK K
          refine Own.mix_fork ?_ ?_
          · refine Own.st_do _ rfl rfl (fun K hK => ?_)
            go_simp
            refine hK _ _ (fun q hq hd => by rw [(by decide : ∀ x ∈ [0, 1, 3], Own.dep [0, 0, 0, 4, 14, 31, 0, 127] 5 x = true) q hq] at hd; cases hd) ?_
            clear hK K
            refine Own.st_do _ rfl rfl (fun K hK => ?_)
            go_simp
            obtain ⟨u2, hwu2⟩ : ∃ v, v = u1.alloc (.cells #[Value.int .i64 0, .int .i64 0, .int .i64 0, .int .i64 0, .bool false] 67) := ⟨_, rfl⟩
            obtain ⟨MK, hMK⟩ : ∃ v, v = u1.heap.size := ⟨_, rfl⟩
            rw [← hwu2, ← hMK]
            have bu2 : Below w2.heap.size w2 u2 := by rw [hwu2]; exact ((bu1).alloc (bu1).size _)
            obtain ⟨x0u2, x1u2, x2u2⟩ := cell3_of ((bu2.block M (Array.getElem?_eq_some_iff.1 N2.out).1).trans N2.out)
            have yu2 := cell_of_blk ((bu2.block Bl (Array.getElem?_eq_some_iff.1 BL2.out).1).trans BL2.out) 0
            simp only [List.getElem?_toArray, List.getElem?_cons_zero] at yu2
            have nu2 : u2.heap[MK]? = some (.cells #[Value.int .i64 0, .int .i64 0, .int .i64 0, .int .i64 0, .bool false] 67 (0, 0)) := by rw [hwu2, hMK]; exact blk_new u1 _
            have hmu2 : w2.heap.size ≤ MK := by rw [hMK]; exact (bu1).size
            clear hwu2 hMK
            refine hK _ _ (fun q hq hd _ => ?_) ?_
            · intro _ q hq e; simp only [List.mem_cons, List.mem_nil_iff, or_false] at hq; rcases hq with rfl | rfl | rfl | rfl | rfl <;> first | assumption | (simp at e; done) | (go_simp; done) | (simp; done)
            clear hK K
            have fz : ∀ j, u2.frozen? ⟨MK, j, none⟩ = false := fun j => by simp [World.frozen?, nu2]
            obtain ⟨z0, z1, z2, z3, z4⟩ : u2.cell? ⟨MK, 0, none⟩ = some (.int .i64 0) ∧ u2.cell? ⟨MK, 1, none⟩ = some (.int .i64 0) ∧ u2.cell? ⟨MK, 2, none⟩ = some (.int .i64 0) ∧ u2.cell? ⟨MK, 3, none⟩ = some (.int .i64 0) ∧ u2.cell? ⟨MK, 4, none⟩ = some (.bool false) := by simp [World.cell?, nu2]
            refine Own.st_do _ rfl rfl (fun K hK => ?_)
            go_simp
            refine hK _ _ (fun q hq hd => by rw [(by decide : ∀ x ∈ [0, 1, 3], Own.dep [0, 0, 0, 4, 14, 31, 0, 127] 7 x = true) q hq] at hd; cases hd) ?_
            clear hK K
            refine Own.mix_done ?_
            go_wp2_with (fail)
            go_meet
            exact ⟨MK, rfl, set5 nu2, hmu2, below_set5 bu2 hmu2 _ _ _ _ _⟩
          · refine Own.st_do _ rfl rfl (fun K hK => ?_)
            go_simp
            obtain ⟨u2, hwu2⟩ : ∃ v, v = u1.alloc (.cells #[Value.int .i64 0, .int .i64 0, .int .i64 0, .int .i64 0, .bool false] 67) := ⟨_, rfl⟩
            obtain ⟨MK, hMK⟩ : ∃ v, v = u1.heap.size := ⟨_, rfl⟩
            rw [← hwu2, ← hMK]
            have bu2 : Below w2.heap.size w2 u2 := by rw [hwu2]; exact ((bu1).alloc (bu1).size _)
            obtain ⟨x0u2, x1u2, x2u2⟩ := cell3_of ((bu2.block M (Array.getElem?_eq_some_iff.1 N2.out).1).trans N2.out)
            have yu2 := cell_of_blk ((bu2.block Bl (Array.getElem?_eq_some_iff.1 BL2.out).1).trans BL2.out) 0
            simp only [List.getElem?_toArray, List.getElem?_cons_zero] at yu2
            have nu2 : u2.heap[MK]? = some (.cells #[Value.int .i64 0, .int .i64 0, .int .i64 0, .int .i64 0, .bool false] 67 (0, 0)) := by rw [hwu2, hMK]; exact blk_new u1 _
            have hmu2 : w2.heap.size ≤ MK := by rw [hMK]; exact (bu1).size
            clear hwu2 hMK
            refine hK _ _ (fun q hq hd _ => ?_) ?_
            · intro _ q hq e; simp only [List.mem_cons, List.mem_nil_iff, or_false] at hq; rcases hq with rfl | rfl | rfl | rfl | rfl <;> first | assumption | (simp at e; done) | (go_simp; done) | (simp; done)
            clear hK K
            refine Own.st_do _ rfl rfl (fun K hK => ?_)
            go_simp
            refine hK _ _ (fun q hq hd => by rw [(by decide : ∀ x ∈ [0, 1, 3], Own.dep [0, 0, 0, 4, 14, 31, 0, 127] 5 x = true) q hq] at hd; cases hd) ?_
            clear hK K
            have fz : ∀ j, u2.frozen? ⟨MK, j, none⟩ = false := fun j => by simp [World.frozen?, nu2]
            obtain ⟨z0, z1, z2, z3, z4⟩ : u2.cell? ⟨MK, 0, none⟩ = some (.int .i64 0) ∧ u2.cell? ⟨MK, 1, none⟩ = some (.int .i64 0) ∧ u2.cell? ⟨MK, 2, none⟩ = some (.int .i64 0) ∧ u2.cell? ⟨MK, 3, none⟩ = some (.int .i64 0) ∧ u2.cell? ⟨MK, 4, none⟩ = some (.bool false) := by simp [World.cell?, nu2]
            refine Own.st_do _ rfl rfl (fun K hK => ?_)
            go_simp
            refine hK _ _ (fun q hq hd => by rw [(by decide : ∀ x ∈ [0, 1, 3], Own.dep [0, 0, 0, 4, 14, 31, 0, 127] 7 x = true) q hq] at hd; cases hd) ?_
            clear hK K
            refine Own.mix_done ?_
            go_wp2_with (fail)
            go_meet
            exact ⟨MK, rfl, set5 nu2, hmu2, below_set5 bu2 hmu2 _ _ _ _ _⟩
        · refine Own.st_do _ rfl rfl (fun K hK => ?_)
          go_simp
          obtain ⟨u1, hwu1⟩ : ∃ v, v = World.drew (w2.alloc (.cells #[Value.int .i64 0, .int .i64 0, .int .i64 0, .int .i64 0, .bool false] 67)) := ⟨_, rfl⟩
          obtain ⟨MK, hMK⟩ : ∃ v, v = w2.heap.size := ⟨_, rfl⟩
          rw [← hwu1, ← hMK]
          have bu1 : Below w2.heap.size w2 u1 := by rw [hwu1]; exact (((Below.refl w2.heap.size w2)).alloc ((Below.refl w2.heap.size w2)).size _).drew
          obtain ⟨x0u1, x1u1, x2u1⟩ := cell3_of ((bu1.block M (Array.getElem?_eq_some_iff.1 N2.out).1).trans N2.out)
          have yu1 := cell_of_blk ((bu1.block Bl (Array.getElem?_eq_some_iff.1 BL2.out).1).trans BL2.out) 0
          simp only [List.getElem?_toArray, List.getElem?_cons_zero] at yu1
          have nu1 : u1.heap[MK]? = some (.cells #[Value.int .i64 0, .int .i64 0, .int .i64 0, .int .i64 0, .bool false] 67 (0, 0)) := by rw [hwu1, hMK]; exact blk_new w2 _
          have hmu1 : w2.heap.size ≤ MK := by rw [hMK]; exact ((Below.refl w2.heap.size w2)).size
          clear hwu1 hMK
          refine hK _ _ (fun q hq hd _ => ?_) ?_
          · intro _ q hq e; simp only [List.mem_cons, List.mem_nil_iff, or_false] at hq; rcases hq with rfl | rfl | rfl | rfl | rfl <;> first | assumption | (simp at e; done) | (go_simp; done) | (simp; done)
          clear hK K
          refine Own.st_do _ rfl rfl (fun K hK => ?_)
          go_simp
          refine (CO.out _ (bu1)).mono ?_
          rintro e u2 ⟨rfl, hbu2⟩
          have bu2 : Below w2.heap.size w2 u2 := by have h0 : Below w2.heap.size w2 (u1) := bu1; exact h0.trans (hbu2.mono h0.size)
          obtain ⟨x0u2, x1u2, x2u2⟩ := cell3_of ((bu2.block M (Array.getElem?_eq_some_iff.1 N2.out).1).trans N2.out)
          have yu2 := cell_of_blk ((bu2.block Bl (Array.getElem?_eq_some_iff.1 BL2.out).1).trans BL2.out) 0
          simp only [List.getElem?_toArray, List.getElem?_cons_zero] at yu2
          refine hK _ _ (fun q hq hd _ => ?_) ?_
          · intro _ q hq e; simp only [List.mem_cons, List.mem_nil_iff, or_false] at hq; rcases hq with rfl | rfl | rfl | rfl | rfl <;> first | assumption | (simp at e; done) | (go_simp; done) | (simp; done)
          clear hK K
          have nu2 := (hbu2.block MK (Array.getElem?_eq_some_iff.1 nu1).1).trans nu1
          refine Own.st_do _ rfl rfl (fun K hK => ?_)
          go_simp
          refine hK _ _ (fun q hq hd => by rw [(by decide : ∀ x ∈ [0, 1, 3], Own.dep [0, 0, 0, 4, 14, 31, 0, 127] 5 x = true) q hq] at hd; cases hd) ?_
          clear hK K
          have fz : ∀ j, u2.frozen? ⟨MK, j, none⟩ = false := fun j => by simp [World.frozen?, nu2]
          obtain ⟨z0, z1, z2, z3, z4⟩ : u2.cell? ⟨MK, 0, none⟩ = some (.int .i64 0) ∧ u2.cell? ⟨MK, 1, none⟩ = some (.int .i64 0) ∧ u2.cell? ⟨MK, 2, none⟩ = some (.int .i64 0) ∧ u2.cell? ⟨MK, 3, none⟩ = some (.int .i64 0) ∧ u2.cell? ⟨MK, 4, none⟩ = some (.bool false) := by simp [World.cell?, nu2]
          refine Own.st_do _ rfl rfl (fun K hK => ?_)
          go_simp
          refine hK _ _ (fun q hq hd => by rw [(by decide : ∀ x ∈ [0, 1, 3], Own.dep [0, 0, 0, 4, 14, 31, 0, 127] 7 x = true) q hq] at hd; cases hd) ?_
          clear hK K
          refine Own.mix_done ?_
          go_wp2_with (fail)
          go_meet
          exact ⟨MK, rfl, set5 nu2, hmu1, below_set5 bu2 hmu1 _ _ _ _ _⟩
      case rest =>
        obtain ⟨MK, rfl, nk, hmk, bk⟩ := hcut
        have hnext := nextC_at rs s HU.out
        obtain ⟨sol, hsol⟩ : ∃ sol, solidB (prevC rs 0 (units s) j) cl (nextC rs ((units s).drop (j + 1))) = sol := ⟨_, rfl⟩
        obtain ⟨pv, hpv⟩ : ∃ pv, prevC rs 0 (units s) j = pv := ⟨_, rfl⟩
        have hks := HKS.out
        rw [hsol] at hks
        have HKS2 := Lib.hid hks
        rw [hpv] at hsol ⊢
        have hfit := unitsFrom_fit s s.size 0 _ (List.mem_of_getElem? HU.out)
        have NK := Lib.hid nk
        have BX := Lib.hid bk
        have hmf := ((bk.block M (Array.getElem?_eq_some_iff.1 N2.out).1).trans N2.out)
        obtain ⟨x0, x1, x2⟩ := cell3_of hmf
        have bl3 := (bk.block Bl (Array.getElem?_eq_some_iff.1 BL2.out).1).trans BL2.out
        have bs3 := (bk.block Bs (Array.getElem?_eq_some_iff.1 BS2.out).1).trans BS2.out
        have y3 := cell_of_blk bl3 0
        have v3 := cell_of_blk bs3 0
        simp only [List.getElem?_toArray, List.getElem?_cons_zero] at y3 v3
        have BB3 := Lib.hid (show _ ∧ _ from ⟨bs3, bl3⟩)
        have hB3 := B2.out.trans (bk.mono B2.out.size)
        have B3 := Lib.hid hB3
        have HPV := Lib.hid hpv
        clear hks nk bk hmf bl3 bs3 m0 m1 m2 y2 HKS hpv CO
        have han : a + n ≤ 1099511627776 := by have := hfit.2.1; simp only at this; omega
        clear hfit
        by_cases hlt : a + n < s.size
        · rw [if_pos hlt] at hnext
          rw [hnext] at hsol
          have CAt := Lib.hid (uat_in s (a + n) wc hlt (by omega) (HT.out.below hB3))
          have CO := Lib.hid (fun (w1 : World) (h : Below wc.heap.size wc w1) => of_calls rs (uCode s (a + n)) A cp w1 (HA.out.below (hB3.trans (h.mono hB3.size))) hl hcp)
          obtain ⟨nx, hnx⟩ : ∃ nx, clsOf rs (uCode s (a + n)) = nx := ⟨_, rfl⟩
          rw [hnx] at CO hsol
          have HSOL := Lib.hid hsol
          obtain ⟨n2, hn2⟩ : ∃ n2, uLen s (a + n) = n2 := ⟨_, rfl⟩
          obtain ⟨c2, hc2⟩ : ∃ c2, uCode s (a + n) = c2 := ⟨_, rfl⟩
          rw [hn2, hc2] at CAt
          rw [hc2] at CO
          rw [Int.natCast_add] at CAt
          clear hB3 hsol hnext hnx hn2 hc2
          gi_wp2_with (fail)
          refine ⟨trivial, fun h => (by cases h), (callsIn_wide.2 (CAt.out)).mono ?_⟩
          unfold unitV
          rintro e w3 ⟨rfl, b3⟩
          have b4 : Below wc.heap.size wc (w3.alloc (.cells #[Value.int .i64 ((a + n : Nat) : Int), .int .i64 (n2 : Nat), .int .i64 c2] 24)) := b3.alloc b3.size _
          have y4 := cell_of_blk ((b4.block Bl (Array.getElem?_eq_some_iff.1 BB3.out.2).1).trans BB3.out.2) 0
          simp only [List.getElem?_toArray, List.getElem?_cons_zero] at y4
          obtain ⟨p0, p1, p2⟩ := cell3_of (blk_new w3 (.cells #[Value.int .i64 ((a + n : Nat) : Int), .int .i64 (n2 : Nat), .int .i64 c2] 24))
          have CO4 := Lib.hid (CO.out _ b4)
          rw [Int.natCast_add] at b4 y4 p0 p1 p2 CO4
          have B4 := Lib.hid b4
          clear b3 b4 CAt CO
          gi_wp2_with (fail)
          refine ⟨trivial, fun h => (by cases h), (callsIn_wide.2 (CO4.out)).mono ?_⟩
          rintro e w5 ⟨rfl, b5⟩
          have BK5 := Lib.hid (B4.out.trans (b5.mono B4.out.size))
          clear b5 CO4 y4 p0 p1 p2
          have BW5 := Lib.hid (show Below wr.heap.size wr w5 from (BB2.out.trans (BX.out.mono BB2.out.size)).trans (BK5.out.mono (Nat.le_trans BB2.out.size BX.out.size)))
          have nk5 := (BK5.out.block MK (Array.getElem?_eq_some_iff.1 NK.out).1).trans NK.out
          obtain ⟨k0, k1, k2, k3', k4⟩ : w5.cell? ⟨MK, 0, none⟩ = some (.int .i64 (a : Nat)) ∧ w5.cell? ⟨MK, 1, none⟩ = some (.int .i64 (n : Nat)) ∧ w5.cell? ⟨MK, 2, none⟩ = some (.int .i64 c) ∧ w5.cell? ⟨MK, 3, none⟩ = some (.int .i64 cl) ∧ w5.cell? ⟨MK, 4, none⟩ = some (.bool false) := by simp [World.cell?, nk5]
          have fz : ∀ j, w5.frozen? ⟨MK, j, none⟩ = false := fun j => by simp [World.frozen?, nk5]
          gi_upto_region 9 with (fail)
          refine wpIn_wide.2 ?_
          go_cut [8] (fun v wx => v = .int .i64 nx ∧ wx = w5.setCell ⟨MK, 4, none⟩ (.bool sol))
          case first =>
            have s0 : strongB 0 = false := rfl
            cases s1 : strongB cl with
            | true =>
              have e := HSOL.out
              unfold solidB at e
              rw [s1, Bool.true_or] at e
              subst e
              go_wp2_with (go_at_call 45; refine (strong_calls _ _).mono ?_; rintro e w' ⟨rfl, rfl⟩)
              go_meet
              exact ⟨rfl, rfl⟩
            | false =>
              by_cases h3 : cl = 3
              · have k3 : (cl == 3) = true := by simpa using h3
                cases s2 : strongB pv with
                | false =>
                  have e := HSOL.out
                  unfold solidB at e
                  rw [s1, s2, Bool.false_and, Bool.and_false, Bool.or_false] at e
                  subst e
                  go_wp2_with (go_at_call 45; refine (strong_calls _ _).mono ?_; rintro e w' ⟨rfl, rfl⟩)
                  go_meet
                  exact ⟨rfl, rfl⟩
                | true =>
                  cases s3 : strongB nx with
                  | false =>
                    have e := HSOL.out
                    unfold solidB at e
                    rw [s1, s2, s3, Bool.true_and, Bool.and_false, Bool.or_false] at e
                    subst e
                    go_wp2_with (go_at_call 45; refine (strong_calls _ _).mono ?_; rintro e w' ⟨rfl, rfl⟩)
                    go_meet
                    exact ⟨rfl, rfl⟩
                  | true =>
                    have e := HSOL.out
                    unfold solidB at e
                    rw [s1, s2, s3, k3] at e; simp only [Bool.true_and, Bool.false_or] at e
                    subst e
                    go_wp2_with (go_at_call 45; refine (strong_calls _ _).mono ?_; rintro e w' ⟨rfl, rfl⟩)
                    go_meet
                    exact ⟨rfl, rfl⟩
              · have k3 : (cl == 3) = false := by simpa using h3
                have e := HSOL.out
                unfold solidB at e
                rw [s1, k3, Bool.false_and, Bool.or_false] at e
                subst e
                go_wp2_with (go_at_call 45; refine (strong_calls _ _).mono ?_; rintro e w' ⟨rfl, rfl⟩)
                go_meet
                exact ⟨rfl, rfl⟩

          case rest =>
            obtain ⟨rfl, hwc⟩ := hcut
            have hbw : Below wr.heap.size wr wc := by rw [hwc]; exact BW5.out.setCell (p := ⟨MK, 4, none⟩) (Nat.le_trans BB2.out.size hmk) _
            have nkc : wc.heap[MK]? = some (.cells #[.int .i64 (a : Nat), .int .i64 (n : Nat), .int .i64 c, .int .i64 cl, .bool sol] 67 (0, 0)) := by rw [hwc, setCell_same nk5]; rfl
            have oth : ∀ k, k ≠ MK → wc.heap[k]? = w5.heap[k]? := fun k hk => by rw [hwc, setCell_other _ hk]
            obtain ⟨k0, k1, k2, k3', k4⟩ : wc.cell? ⟨MK, 0, none⟩ = some (.int .i64 (a : Nat)) ∧ wc.cell? ⟨MK, 1, none⟩ = some (.int .i64 (n : Nat)) ∧ wc.cell? ⟨MK, 2, none⟩ = some (.int .i64 c) ∧ wc.cell? ⟨MK, 3, none⟩ = some (.int .i64 cl) ∧ wc.cell? ⟨MK, 4, none⟩ = some (.bool sol) := by simp [World.cell?, nkc]
            have hJc := HJ.out _ wr wc none HJJ.out ⟨hbw.os, hbw.tape, hbw.output, hbw.size, fun k hk _ => hbw.block k hk⟩ (fun r e => by cases e)
            have hRc : RowU wc W.heap.size (.slice (some ⟨q, 0, none⟩) (units s).length c1) (units s) := by
              have h5 := (R2.out.below BX.out).below BK5.out
              refine own_keep h5 fun k hk => oth k ?_
              obtain ⟨c1, h1⟩ := own_row_type h5 hk
              exact ne_of_type h1 nk5 (by decide)
            have hsc : wc.heap[Bs]? = some (.cells #[.string s] 9 (0, 0)) := by
              have h5 := (BK5.out.block Bs (Array.getElem?_eq_some_iff.1 BB3.out.1).1).trans BB3.out.1
              rw [oth Bs (ne_of_type h5 nk5 (by decide)), h5]
            have hlc : wc.heap[Bl]? = some (.cells #[.slice A rs.length cp] 44 (0, 0)) := by
              have h5 := (BK5.out.block Bl (Array.getElem?_eq_some_iff.1 BB3.out.2).1).trans BB3.out.2
              rw [oth Bl (ne_of_type h5 nk5 (by decide)), h5]
            have hBc : Below w0.heap.size w0 wc := by
              rw [hwc]
              exact (B3.out.trans (BK5.out.mono B3.out.size)).setCell (p := ⟨MK, 4, none⟩) (Nat.le_trans B2.out.size hmk) _
            obtain ⟨fn, tmps, assign, body, hy, hRd⟩ := HY.out p ⟨⟨a, n, c, cl, sol⟩, han⟩ wc hJc (by
              have hpl := congrArg List.length HP.out
              rw [List.length_map, List.length_take] at hpl
              unfold kindsL at hpl
              rw [kindsFrom_len] at hpl
              omega)
            simp only [encK] at hy
            have RC := Lib.hid hRc
            have SC := Lib.hid (show _ ∧ _ ∧ _ from ⟨hsc, hlc, hBc⟩)
            clear hbw nkc oth hJc hRc hsc hlc hBc hwc nk5 fz
            gi_wp2_with (fail)
            refine ⟨fun h => (by cases h), hRd.mono ?_⟩
            rintro e W3 (⟨rfl, hJ3, hk3⟩ | ⟨rfl, hJx3⟩)
            · have KP := Lib.hid hk3
              have J3 := Lib.hid hJ3
              clear hk3 hJ3 k0 k1 k2 k3' k4
              gi_wp2_with (fail)
              go_roundw
              case rel =>
                refine ⟨j + 1, by go_num, ?_, hjl, ⟨p ++ [⟨⟨a, n, c, cl, sol⟩, han⟩], by rw [List.map_append, HP.out, HKS2.out]; rfl, J3.out⟩, own_keep RC.out fun k hk => ?_, SC.out.2.2.trans KP.out.1, ?_, ?_⟩
                · show Value.int .i64 cl = .int .i64 (match (units s)[j]? with | some u => clsOf rs u.2.2 | none => 0)
                  rw [HU.out]
                  show _ = Value.int .i64 (clsOf rs c)
                  rw [HCL.out]
                · obtain ⟨c1, h1⟩ := own_row_type RC.out hk
                  exact KP.out.2 k c1 _ _ h1 (by decide) (by decide) (by decide)
                · exact (KP.out.2 Bs _ _ _ SC.out.1 (by decide) (by decide) (by decide)).trans SC.out.1
                · exact (KP.out.2 Bl _ _ _ SC.out.2.1 (by decide) (by decide) (by decide)).trans SC.out.2.1
              case measure => simp [intOf]; omega
            · have JX := Lib.hid hJx3
              clear hJx3 k0 k1 k2 k3' k4
              gi_wp2_with (fail)
              refine bodyPost_ret (results_none rfl _ _ _) rfl ?_
              exact ⟨⟨_, rfl⟩, .inr ⟨_, trivial, JX.out⟩⟩
        · rw [if_neg hlt] at hnext
          rw [hnext] at hsol
          obtain ⟨nx, hnx⟩ : ∃ nx, (0 : Int) = nx := ⟨_, rfl⟩
          have CAt := Lib.hid (uat_out s ((a : Int) + (n : Int)) wc (by omega))
          rw [hnx] at hsol
          have HSOL := Lib.hid hsol
          have HNX := Lib.hid hnx
          clear hB3 hsol hnext hnx
          gi_wp2_with (fail)
          refine ⟨trivial, fun h => (by cases h), (callsIn_wide.2 (CAt.out)).mono ?_⟩
          rintro e w3 ⟨rfl, b3⟩
          obtain ⟨w5, hw5⟩ : ∃ w5, w5 = w3.alloc (.cells #[Value.int .i64 0, .int .i64 0, .int .i64 0] 24) := ⟨_, rfl⟩
          have BK5 := Lib.hid (show Below wc.heap.size wc w5 by rw [hw5]; exact b3.alloc b3.size _)
          have HW5 := Lib.hid hw5
          clear b3 CAt hw5
          have BW5 := Lib.hid (show Below wr.heap.size wr w5 from (BB2.out.trans (BX.out.mono BB2.out.size)).trans (BK5.out.mono (Nat.le_trans BB2.out.size BX.out.size)))
          have nk5 := (BK5.out.block MK (Array.getElem?_eq_some_iff.1 NK.out).1).trans NK.out
          obtain ⟨k0, k1, k2, k3', k4⟩ : w5.cell? ⟨MK, 0, none⟩ = some (.int .i64 (a : Nat)) ∧ w5.cell? ⟨MK, 1, none⟩ = some (.int .i64 (n : Nat)) ∧ w5.cell? ⟨MK, 2, none⟩ = some (.int .i64 c) ∧ w5.cell? ⟨MK, 3, none⟩ = some (.int .i64 cl) ∧ w5.cell? ⟨MK, 4, none⟩ = some (.bool false) := by simp [World.cell?, nk5]
          have fz : ∀ j, w5.frozen? ⟨MK, j, none⟩ = false := fun j => by simp [World.frozen?, nk5]
          gi_upto_region 9 with (fail)
          rw [← HW5.out]
          rw [HNX.out]
          refine wpIn_wide.2 ?_
          go_cut [8] (fun v wx => v = .int .i64 nx ∧ wx = w5.setCell ⟨MK, 4, none⟩ (.bool sol))
          case first =>
            have s0 : strongB 0 = false := rfl
            cases s1 : strongB cl with
            | true =>
              have e := HSOL.out
              unfold solidB at e
              rw [s1, Bool.true_or] at e
              subst e
              go_wp2_with (go_at_call 45; refine (strong_calls _ _).mono ?_; rintro e w' ⟨rfl, rfl⟩)
              go_meet
              exact ⟨rfl, rfl⟩
            | false =>
              by_cases h3 : cl = 3
              · have k3 : (cl == 3) = true := by simpa using h3
                cases s2 : strongB pv with
                | false =>
                  have e := HSOL.out
                  unfold solidB at e
                  rw [s1, s2, Bool.false_and, Bool.and_false, Bool.or_false] at e
                  subst e
                  go_wp2_with (go_at_call 45; refine (strong_calls _ _).mono ?_; rintro e w' ⟨rfl, rfl⟩)
                  go_meet
                  exact ⟨rfl, rfl⟩
                | true =>
                  cases s3 : strongB nx with
                  | false =>
                    have e := HSOL.out
                    unfold solidB at e
                    rw [s1, s2, s3, Bool.true_and, Bool.and_false, Bool.or_false] at e
                    subst e
                    go_wp2_with (go_at_call 45; refine (strong_calls _ _).mono ?_; rintro e w' ⟨rfl, rfl⟩)
                    go_meet
                    exact ⟨rfl, rfl⟩
                  | true =>
                    have e := HSOL.out
                    unfold solidB at e
                    rw [s1, s2, s3, k3] at e; simp only [Bool.true_and, Bool.false_or] at e
                    subst e
                    go_wp2_with (go_at_call 45; refine (strong_calls _ _).mono ?_; rintro e w' ⟨rfl, rfl⟩)
                    go_meet
                    exact ⟨rfl, rfl⟩
              · have k3 : (cl == 3) = false := by simpa using h3
                have e := HSOL.out
                unfold solidB at e
                rw [s1, k3, Bool.false_and, Bool.or_false] at e
                subst e
                go_wp2_with (go_at_call 45; refine (strong_calls _ _).mono ?_; rintro e w' ⟨rfl, rfl⟩)
                go_meet
                exact ⟨rfl, rfl⟩

          case rest =>
            obtain ⟨rfl, hwc⟩ := hcut
            have hbw : Below wr.heap.size wr wc := by rw [hwc]; exact BW5.out.setCell (p := ⟨MK, 4, none⟩) (Nat.le_trans BB2.out.size hmk) _
            have nkc : wc.heap[MK]? = some (.cells #[.int .i64 (a : Nat), .int .i64 (n : Nat), .int .i64 c, .int .i64 cl, .bool sol] 67 (0, 0)) := by rw [hwc, setCell_same nk5]; rfl
            have oth : ∀ k, k ≠ MK → wc.heap[k]? = w5.heap[k]? := fun k hk => by rw [hwc, setCell_other _ hk]
            obtain ⟨k0, k1, k2, k3', k4⟩ : wc.cell? ⟨MK, 0, none⟩ = some (.int .i64 (a : Nat)) ∧ wc.cell? ⟨MK, 1, none⟩ = some (.int .i64 (n : Nat)) ∧ wc.cell? ⟨MK, 2, none⟩ = some (.int .i64 c) ∧ wc.cell? ⟨MK, 3, none⟩ = some (.int .i64 cl) ∧ wc.cell? ⟨MK, 4, none⟩ = some (.bool sol) := by simp [World.cell?, nkc]
            have hJc := HJ.out _ wr wc none HJJ.out ⟨hbw.os, hbw.tape, hbw.output, hbw.size, fun k hk _ => hbw.block k hk⟩ (fun r e => by cases e)
            have hRc : RowU wc W.heap.size (.slice (some ⟨q, 0, none⟩) (units s).length c1) (units s) := by
              have h5 := (R2.out.below BX.out).below BK5.out
              refine own_keep h5 fun k hk => oth k ?_
              obtain ⟨c1, h1⟩ := own_row_type h5 hk
              exact ne_of_type h1 nk5 (by decide)
            have hsc : wc.heap[Bs]? = some (.cells #[.string s] 9 (0, 0)) := by
              have h5 := (BK5.out.block Bs (Array.getElem?_eq_some_iff.1 BB3.out.1).1).trans BB3.out.1
              rw [oth Bs (ne_of_type h5 nk5 (by decide)), h5]
            have hlc : wc.heap[Bl]? = some (.cells #[.slice A rs.length cp] 44 (0, 0)) := by
              have h5 := (BK5.out.block Bl (Array.getElem?_eq_some_iff.1 BB3.out.2).1).trans BB3.out.2
              rw [oth Bl (ne_of_type h5 nk5 (by decide)), h5]
            have hBc : Below w0.heap.size w0 wc := by
              rw [hwc]
              exact (B3.out.trans (BK5.out.mono B3.out.size)).setCell (p := ⟨MK, 4, none⟩) (Nat.le_trans B2.out.size hmk) _
            obtain ⟨fn, tmps, assign, body, hy, hRd⟩ := HY.out p ⟨⟨a, n, c, cl, sol⟩, han⟩ wc hJc (by
              have hpl := congrArg List.length HP.out
              rw [List.length_map, List.length_take] at hpl
              unfold kindsL at hpl
              rw [kindsFrom_len] at hpl
              omega)
            simp only [encK] at hy
            have RC := Lib.hid hRc
            have SC := Lib.hid (show _ ∧ _ ∧ _ from ⟨hsc, hlc, hBc⟩)
            clear hbw nkc oth hJc hRc hsc hlc hBc hwc nk5 fz
            gi_wp2_with (fail)
            refine ⟨fun h => (by cases h), hRd.mono ?_⟩
            rintro e W3 (⟨rfl, hJ3, hk3⟩ | ⟨rfl, hJx3⟩)
            · have KP := Lib.hid hk3
              have J3 := Lib.hid hJ3
              clear hk3 hJ3 k0 k1 k2 k3' k4
              gi_wp2_with (fail)
              go_roundw
              case rel =>
                refine ⟨j + 1, by go_num, ?_, hjl, ⟨p ++ [⟨⟨a, n, c, cl, sol⟩, han⟩], by rw [List.map_append, HP.out, HKS2.out]; rfl, J3.out⟩, own_keep RC.out fun k hk => ?_, SC.out.2.2.trans KP.out.1, ?_, ?_⟩
                · show Value.int .i64 cl = .int .i64 (match (units s)[j]? with | some u => clsOf rs u.2.2 | none => 0)
                  rw [HU.out]
                  show _ = Value.int .i64 (clsOf rs c)
                  rw [HCL.out]
                · obtain ⟨c1, h1⟩ := own_row_type RC.out hk
                  exact KP.out.2 k c1 _ _ h1 (by decide) (by decide) (by decide)
                · exact (KP.out.2 Bs _ _ _ SC.out.1 (by decide) (by decide) (by decide)).trans SC.out.1
                · exact (KP.out.2 Bl _ _ _ SC.out.2.1 (by decide) (by decide) (by decide)).trans SC.out.2.1
              case measure => simp [intOf]; omega
            · have JX := Lib.hid hJx3
              clear hJx3 k0 k1 k2 k3' k4
              gi_wp2_with (fail)
              refine bodyPost_ret (results_none rfl _ _ _) rfl ?_
              exact ⟨⟨_, rfl⟩, .inr ⟨_, trivial, JX.out⟩⟩
    · have g1 : decide (j < (units s).length) = false := by simpa using hjl
      have hjk : (kindsL rs s).take j = kindsL rs s := List.take_of_length_le (by unfold kindsL; rw [kindsFrom_len]; omega)
      have hp2 := HP.out
      rw [hjk] at hp2
      have HP2 := Lib.hid hp2
      clear hp2
      have HJJ := Lib.hid hJj
      clear hJj hR hB hs1 hl1
      gi_wp2_with (fail)
      go_end0
      exact ⟨⟨_, rfl⟩, .inl ⟨p, HP2.out, HJJ.out⟩⟩
end Go.Proofs.YtcljiahpgbedhaaDoor

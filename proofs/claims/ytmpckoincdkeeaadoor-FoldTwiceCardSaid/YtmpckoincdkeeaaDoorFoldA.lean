/- fold.both: the two maps. -/
import Derived.Test.YtmpckoincdkeeaaDoorFoldQ
import Derived.Test.YtmpckoincdkeeaaDoorPlace
import Derived.Deep.Cut
namespace Go.Proofs.YtmpckoincdkeeaaDoor
open Go.RowKit Go.Deep Go.Own Go.Maps
set_option linter.unusedVariables false
theorem int_law : Keyed Tryd.prog 3 := int_keyed Tryd.underlying3
theorem zero3 (w : World) : (zeroValue 3).run Tryd.prog w = .ok (.int .i64 0) w := by kernel_rfl
structure BothS (w0 w : World) (N2 N3 bS bG : Nat) (f g : Int → Option Int) (n : Nat) : Prop where
  cS : w.heap[N2]? = some (.cells #[.map (some bS)] 66 (0, 0))
  cG : w.heap[N3]? = some (.cells #[.map (some bG)] 66 (0, 0))
  mS : MapF Tryd.prog w bS f n
  mG : MapF Tryd.prog w bG g n
  ne : bS ≠ bG
  bel : Below w0.heap.size w0 w
  lS : w0.heap.size ≤ bS
  lG : w0.heap.size ≤ bG
theorem BothS.later {w0 w w' : World} {N2 N3 bS bG : Nat} {f g : Int → Option Int} {n : Nat} (h : BothS w0 w N2 N3 bS bG f g n) (hb : Below w.heap.size w w') : BothS w0 w' N2 N3 bS bG f g n :=
  ⟨(hb.block _ (Array.getElem?_eq_some_iff.1 h.cS).1).trans h.cS, (hb.block _ (Array.getElem?_eq_some_iff.1 h.cG).1).trans h.cG, h.mS.keep (hb.block _ h.mS.lt), h.mG.keep (hb.block _ h.mG.lt), h.ne, h.bel.trans (hb.mono h.bel.size), h.lS, h.lG⟩
theorem BothS.setS {w0 w w' : World} {N2 N3 bS bG : Nat} {f g f' : Int → Option Int} {n : Nat} (h : BothS w0 w N2 N3 bS bG f g n) (hg : w.grownBy w' (some bS)) (hm : MapF Tryd.prog w' bS f' (n + 1)) : BothS w0 w' N2 N3 bS bG f' g (n + 1) :=
  ⟨(hg.block _ (Array.getElem?_eq_some_iff.1 h.cS).1 (fun e => h.mS.ne h.cS (Option.some.inj e))).trans h.cS, (hg.block _ (Array.getElem?_eq_some_iff.1 h.cG).1 (fun e => h.mS.ne h.cG (Option.some.inj e))).trans h.cG, hm,
   (h.mG.keep (hg.block _ h.mG.lt (fun e => h.ne (Option.some.inj e).symm))).mono (by omega), h.ne, h.bel.grown hg h.bel.size (fun k e => by cases e; exact h.lS), h.lS, h.lG⟩
theorem BothS.setG {w0 w w' : World} {N2 N3 bS bG : Nat} {f g g' : Int → Option Int} {n : Nat} (h : BothS w0 w N2 N3 bS bG f g n) (hg : w.grownBy w' (some bG)) (hm : MapF Tryd.prog w' bG g' (n + 1)) : BothS w0 w' N2 N3 bS bG f g' (n + 1) :=
  ⟨(hg.block _ (Array.getElem?_eq_some_iff.1 h.cS).1 (fun e => h.mG.ne h.cS (Option.some.inj e))).trans h.cS, (hg.block _ (Array.getElem?_eq_some_iff.1 h.cG).1 (fun e => h.mG.ne h.cG (Option.some.inj e))).trans h.cG,
   (h.mS.keep (hg.block _ h.mS.lt (fun e => h.ne (Option.some.inj e)))).mono (by omega), hm, h.ne, h.bel.grown hg h.bel.size (fun k e => by cases e; exact h.lG), h.lS, h.lG⟩
theorem BothS.more {w0 w : World} {N2 N3 bS bG : Nat} {f g : Int → Option Int} {n m : Nat} (h : BothS w0 w N2 N3 bS bG f g n) (hm : n ≤ m) : BothS w0 w N2 N3 bS bG f g m :=
  ⟨h.cS, h.cG, h.mS.mono hm, h.mG.mono hm, h.ne, h.bel, h.lS, h.lG⟩
theorem BothS.cells {w0 w : World} {N2 N3 bS bG : Nat} {f g : Int → Option Int} {n : Nat} (h : BothS w0 w N2 N3 bS bG f g n) : w.cell? ⟨N2, 0, none⟩ = some (.map (some bS)) ∧ w.cell? ⟨N3, 0, none⟩ = some (.map (some bG)) := by
  have h1 := h.cS
  have h2 := h.cG
  exact ⟨by simp [World.cell?, h1], by simp [World.cell?, h2]⟩
set_option maxRecDepth 100000 in
set_option maxHeartbeats 4000000 in
theorem put_calls (k v : Int) (w0 w : World) (N2 N3 bS bG n : Nat) (f g : Int → Option Int) (hS : BothS w0 w N2 N3 bS bG f g n) (hn : n < 1099511627776) (hk : (Lit.int .i64 k).wf = true) (hv : (Lit.int .i64 v).wf = true) :
    Calls Tryd.prog 50 #[.agg #[.int .i64 k, .int .i64 v], .pointer (some ⟨N2, 0, none⟩), .pointer (some ⟨N3, 0, none⟩)] w fun e w' => e = .returned (.tuple #[]) ∧ BothS w0 w' N2 N3 bS bG (putF f k v) (putF g v k) (n + 2) := by
  obtain ⟨w1, hw1⟩ : ∃ w1, w1 = w.alloc (.cells #[Value.int .i64 k, .int .i64 v] 37) := ⟨_, rfl⟩
  obtain ⟨M, hM⟩ : ∃ M, M = w.heap.size := ⟨_, rfl⟩
  have b1 : Below w.heap.size w w1 := by rw [hw1]; exact (Below.refl _ _).alloc (Nat.le_refl _) _
  have n1 : w1.heap[M]? = some (.cells #[.int .i64 k, .int .i64 v] 37 (0, 0)) := by rw [hw1, hM]; exact blk_new w _
  have S1 := Lib.hid (hS.later b1)
  have m0 : w1.cell? ⟨M, 0, none⟩ = some (.int .i64 k) := by simp [World.cell?, n1]
  have m1 : w1.cell? ⟨M, 1, none⟩ = some (.int .i64 v) := by simp [World.cell?, n1]
  obtain ⟨c2, c3⟩ := S1.out.cells
  obtain ⟨D, hD, hDf⟩ := S1.out.mS
  have HD := Lib.hid hD
  have HDF := Lib.hid hDf
  have HW := Lib.hid hw1
  have HM := Lib.hid hM
  have N1 := Lib.hid n1
  clear hS b1 n1 hD hDf hw1 hM
  go_enter Tryd.func50, Tryd.ntmps50
  go_upto_region 1 with (fail)
  rw [← HW.out, ← HM.out]
  go_upto_region 2 with (at_lookup; refine wpList_lookup_own_ok_int _ rfl _ _ 66 rfl 3 3 .i64 int_law Tryd.underlying66 Tryd.underlying3 (zero3 _) bS n D rfl HD.out _ (.int .i64 k) rfl (keyOf_int_mk Tryd.underlying3 hk) ?_; intro c hat hwc)
  obtain ⟨hc, hh⟩ := HDF.out.look hat
  rw [hh]
  clear hat hwc hh hc
  cases hfk : f k with
  | some x =>
    have HPF := Lib.hid (show putF f k v = f by unfold putF; rw [hfk]; rfl)
    simp only [Option.isSome_some]
    clear hfk
    obtain ⟨E, hE, hEf⟩ := S1.out.mG
    have HE := Lib.hid hE
    have HEF := Lib.hid hEf
    clear hE hEf
    go_upto_region 5 with (at_lookup; refine wpList_lookup_own_ok_int _ rfl _ _ 66 rfl 3 3 .i64 int_law Tryd.underlying66 Tryd.underlying3 (zero3 _) bG _ E rfl HE.out _ (.int .i64 v) rfl (keyOf_int_mk Tryd.underlying3 hv) ?_; intro c2 hat2 hwc2)
    obtain ⟨hc2, hh2⟩ := HEF.out.look hat2
    rw [hh2]
    clear hat2 hwc2 hh2 hc2
    cases hgv : g v with
    | some y =>
      have HPG := Lib.hid (show putF g v k = g by unfold putF; rw [hgv]; rfl)
      simp only [Option.isSome_some]
      clear hgv
      go_wp2_with (fail)
      go_end0
      exact ⟨rfl, by rw [HPF.out, HPG.out]; exact S1.out.more (by omega)⟩
    | none =>
      have HPG := Lib.hid (show putF g v k = upd g v k by unfold putF; rw [hgv]; rfl)
      simp only [Option.isSome_none]
      clear hgv
      go_wp2_with (at_mapUpdate; refine wpList_mapUpdate_own _ rfl _ _ _ 66 rfl 3 3 int_law Tryd.underlying66 _ bG _ E rfl HE.out (by unfold maxLen; omega) _ _ (.int .i64 v) rfl rfl (keyOf_int_mk Tryd.underlying3 hv) _ [] (plainElem_int Tryd.underlying3 hk) ?_; intro w9 own9 grow9)
      go_end0
      exact ⟨rfl, by rw [HPF.out, HPG.out]; exact (S1.out.setG grow9 (MapF.put (own_isMap HE.out) HEF.out own9)).more (by omega)⟩
  | none =>
    have HPF := Lib.hid (show putF f k v = upd f k v by unfold putF; rw [hfk]; rfl)
    simp only [Option.isSome_none]
    clear hfk
    go_upto_region 4 with (at_mapUpdate; refine wpList_mapUpdate_own _ rfl _ _ _ 66 rfl 3 3 int_law Tryd.underlying66 _ bS n D rfl HD.out (by unfold maxLen; omega) _ _ (.int .i64 k) rfl rfl (keyOf_int_mk Tryd.underlying3 hk) _ [] (plainElem_int Tryd.underlying3 hv) ?_; intro w2 own2 grow2)
    have n2 : w2.heap[M]? = some (.cells #[.int .i64 k, .int .i64 v] 37 (0, 0)) := (grow2.block _ (Array.getElem?_eq_some_iff.1 N1.out).1 (fun e => S1.out.mS.ne N1.out (Option.some.inj e))).trans N1.out
    have S2 := Lib.hid (S1.out.setS grow2 (MapF.put (own_isMap HD.out) HDF.out own2))
    clear m0 m1 c2 c3 own2 grow2
    have m0 : w2.cell? ⟨M, 0, none⟩ = some (.int .i64 k) := by simp [World.cell?, n2]
    have m1 : w2.cell? ⟨M, 1, none⟩ = some (.int .i64 v) := by simp [World.cell?, n2]
    obtain ⟨c2, c3⟩ := S2.out.cells
    clear n2
    obtain ⟨E, hE, hEf⟩ := S2.out.mG
    have HE := Lib.hid hE
    have HEF := Lib.hid hEf
    clear hE hEf
    go_upto_region 5 with (at_lookup; refine wpList_lookup_own_ok_int _ rfl _ _ 66 rfl 3 3 .i64 int_law Tryd.underlying66 Tryd.underlying3 (zero3 _) bG _ E rfl HE.out _ (.int .i64 v) rfl (keyOf_int_mk Tryd.underlying3 hv) ?_; intro c2 hat2 hwc2)
    obtain ⟨hc2, hh2⟩ := HEF.out.look hat2
    rw [hh2]
    clear hat2 hwc2 hh2 hc2
    cases hgv : g v with
    | some y =>
      have HPG := Lib.hid (show putF g v k = g by unfold putF; rw [hgv]; rfl)
      simp only [Option.isSome_some]
      clear hgv
      go_wp2_with (fail)
      go_end0
      exact ⟨rfl, by rw [HPF.out, HPG.out]; exact S2.out.more (by omega)⟩
    | none =>
      have HPG := Lib.hid (show putF g v k = upd g v k by unfold putF; rw [hgv]; rfl)
      simp only [Option.isSome_none]
      clear hgv
      go_wp2_with (at_mapUpdate; refine wpList_mapUpdate_own _ rfl _ _ _ 66 rfl 3 3 int_law Tryd.underlying66 _ bG _ E rfl HE.out (by unfold maxLen; omega) _ _ (.int .i64 v) rfl rfl (keyOf_int_mk Tryd.underlying3 hv) _ [] (plainElem_int Tryd.underlying3 hk) ?_; intro w9 own9 grow9)
      go_end0
      exact ⟨rfl, by rw [HPF.out, HPG.out]; exact (S2.out.setG grow9 (MapF.put (own_isMap HE.out) HEF.out own9)).more (by omega)⟩
end Go.Proofs.YtmpckoincdkeeaaDoor

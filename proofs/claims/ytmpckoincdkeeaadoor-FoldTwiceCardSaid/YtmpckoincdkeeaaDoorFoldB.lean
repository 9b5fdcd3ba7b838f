/- fold.both. -/
import Derived.Test.YtmpckoincdkeeaaDoorFoldA
namespace Go.Proofs.YtmpckoincdkeeaaDoor
open Go.RowKit Go.Deep Go.Own Go.Maps
set_option linter.unusedVariables false
/-- a slice of pairs that is read -/
def ReadsP (w : World) (A : Option Addr) (ps : List (Int × Int)) : Prop :=
  0 < ps.length → ∃ q o, A = some ⟨q, o, none⟩ ∧ q < w.heap.size ∧ ∀ j p, ps[j]? = some p → w.cell? ⟨q, o + j * 2, none⟩ = some (.int .i64 p.1) ∧ w.cell? ⟨q, o + j * 2 + 1, none⟩ = some (.int .i64 p.2)
theorem ReadsP.below {w w' : World} {A : Option Addr} {ps : List (Int × Int)} (h : ReadsP w A ps) (hb : Below w.heap.size w w') : ReadsP w' A ps := fun h0 => by
  obtain ⟨q, o, e, hq, hc⟩ := h h0
  exact ⟨q, o, e, Nat.lt_of_lt_of_le hq hb.size, fun j p hp => ⟨(hb.cell (p := ⟨q, o + j * 2, none⟩) hq).trans (hc j p hp).1, (hb.cell (p := ⟨q, o + j * 2 + 1, none⟩) hq).trans (hc j p hp).2⟩⟩
theorem BothS.again2 {w0 w : World} {N bS bG : Nat} {f g : Int → Option Int} {n : Nat} (h : BothS w0 w N (N + 1) bS bG f g n) (hN : w0.heap.size ≤ N) : BothS w0 ((w.setCell ⟨N, 0, none⟩ (.map (some bS))).setCell ⟨N + 1, 0, none⟩ (.map (some bG))) N (N + 1) bS bG f g n := by
  have h1 : (w.setCell ⟨N, 0, none⟩ (.map (some bS))).heap[N + 1]? = some (.cells #[.map (some bG)] 66 (0, 0)) := (setCell_other _ (by show N + 1 ≠ N; omega)).trans h.cG
  have h2 : (w.setCell ⟨N, 0, none⟩ (.map (some bS))).heap[N]? = some (.cells #[.map (some bS)] 66 (0, 0)) := by rw [setCell_same h.cS]; rfl
  refine ⟨(setCell_other _ (by show N ≠ N + 1; omega)).trans h2, by rw [setCell_same h1]; rfl, ?_, ?_, h.ne, (h.bel.setCell (p := ⟨N, 0, none⟩) hN _).setCell (p := ⟨N + 1, 0, none⟩) (Nat.le_trans hN (Nat.le_succ N)) _, h.lS, h.lG⟩
  · exact h.mS.keep ((setCell_other _ (h.mS.ne h.cG).symm).trans (setCell_other _ (h.mS.ne h.cS).symm))
  · exact h.mG.keep ((setCell_other _ (h.mG.ne h.cG).symm).trans (setCell_other _ (h.mG.ne h.cS).symm))
def lettersL : List (Int × Int) := (List.range 26).map fun (i : Nat) => (65 + (i : Int), 97 + (i : Int))
def swapL (l : List (Int × Int)) : List (Int × Int) := l.map fun p => (p.2, p.1)
def smallF (ps : List (Int × Int)) : Int → Option Int := firstF (ps ++ lettersL)
def greatF (ps : List (Int × Int)) : Int → Option Int := firstF (swapL (ps ++ lettersL))
theorem swapL_snoc (l : List (Int × Int)) (k v : Int) : swapL (l ++ [(k, v)]) = swapL l ++ [(v, k)] := by unfold swapL; rw [List.map_append]; rfl
theorem letters_take (j : Nat) (h : j < 26) : lettersL.take (j + 1) = lettersL.take j ++ [(65 + (j : Int), 97 + (j : Int))] := by
  have hl : j < lettersL.length := by simpa [lettersL] using h
  rw [List.take_succ_eq_append_getElem hl]
  simp [lettersL]
set_option maxRecDepth 100000 in
set_option maxHeartbeats 8000000 in
theorem both_calls (ps : List (Int × Int)) (A : Option Addr) (cp : Nat) (w : World) (hA : ReadsP w A ps) (hl : ps.length ≤ 1000000) (hw : ∀ p ∈ ps, (Lit.int .i64 p.1).wf = true ∧ (Lit.int .i64 p.2).wf = true) :
    Calls Tryd.prog 29 #[.slice A ps.length cp] w fun e w' => (∃ bS bG n, e = .returned (.tuple #[.map (some bS), .map (some bG)]) ∧ MapF Tryd.prog w' bS (smallF ps) n ∧ MapF Tryd.prog w' bG (greatF ps) n) ∧ Below w.heap.size w w' := by
  have hmm := @run_makeMap Tryd.prog
  obtain ⟨N, hN⟩ : ∃ N, N = w.heap.size := ⟨_, rfl⟩
  have HNN := Lib.hid hN
  have HA := Lib.hid hA
  have HW := Lib.hid hw
  clear hA hw
  go_enter Tryd.func29, Tryd.ntmps29
  go_upto_region 3 with (fail)
  obtain ⟨w1, hw1⟩ : ∃ w1, w1 = (((w.alloc (.cells #[.map (some (w.heap.size + 1 + 1))] 66)).alloc (.cells #[.map (some (w.heap.size + 1 + 1 + 1))] 66)).alloc (.map #[] 0)).alloc (.map #[] 0) := ⟨_, rfl⟩
  rw [← hw1, ← hN]
  have S0 : BothS w w1 N (N + 1) (N + 1 + 1) (N + 1 + 1 + 1) (firstF (ps.take 0)) (firstF (swapL (ps.take 0))) (2 * 0) := by
    have e0 : ∀ l : List (Int × Int), l = [] → firstF l = fun _ => none := fun l h => by rw [h]; rfl
    rw [e0 _ (List.take_zero), e0 _ (by rw [List.take_zero]; rfl), hw1, hN]
    obtain ⟨a, ha⟩ : ∃ a, a = w.alloc (.cells #[.map (some (w.heap.size + 1 + 1))] 66) := ⟨_, rfl⟩
    obtain ⟨b, hb⟩ : ∃ b, b = a.alloc (.cells #[.map (some (w.heap.size + 1 + 1 + 1))] 66) := ⟨_, rfl⟩
    rw [← ha, ← hb]
    have za : a.heap.size = w.heap.size + 1 := by rw [ha]; simp
    have zb : b.heap.size = w.heap.size + 1 + 1 := by rw [hb, World.size_alloc, za]
    have ba : Below w.heap.size w a := by rw [ha]; exact (Below.refl _ _).alloc (Nat.le_refl _) _
    have bb : Below a.heap.size a b := by rw [hb]; exact (Below.refl _ _).alloc (Nat.le_refl _) _
    have bc : Below b.heap.size b (b.alloc (.map #[] 0)) := (Below.refl _ _).alloc (Nat.le_refl _) _
    have bd : Below (b.alloc (.map #[] 0)).heap.size (b.alloc (.map #[] 0)) ((b.alloc (.map #[] 0)).alloc (.map #[] 0)) := (Below.refl _ _).alloc (Nat.le_refl _) _
    have zc : (b.alloc (.map #[] 0)).heap.size = w.heap.size + 1 + 1 + 1 := by rw [World.size_alloc, zb]
    have bbd : Below b.heap.size b ((b.alloc (.map #[] 0)).alloc (.map #[] 0)) := bc.trans (bd.mono bc.size)
    have na : a.heap[w.heap.size]? = some (.cells #[.map (some (w.heap.size + 1 + 1))] 66 (0, 0)) := by rw [ha]; exact blk_new w _
    have nb : b.heap[w.heap.size + 1]? = some (.cells #[.map (some (w.heap.size + 1 + 1 + 1))] 66 (0, 0)) := by rw [hb, ← za]; exact blk_new a _
    have na2 : b.heap[w.heap.size]? = some (.cells #[.map (some (w.heap.size + 1 + 1))] 66 (0, 0)) := (bb.block _ (by omega)).trans na
    have mS := (MapF.made Tryd.prog b).keep (w' := (b.alloc (.map #[] 0)).alloc (.map #[] 0)) (bd.block _ (by simp))
    have mG := MapF.made Tryd.prog (b.alloc (.map #[] 0))
    rw [zb] at mS
    rw [zc] at mG
    exact ⟨(bbd.block _ (by omega)).trans na2, (bbd.block _ (by omega)).trans nb, mS, mG, by omega, ba.trans ((bb.trans (bbd.mono bb.size)).mono ba.size), by omega, by omega⟩
  have HS0 := Lib.hid S0
  clear S0 hw1 hN hmm
  go_wp2_with (fail)
  go_loopw [13] (fun iv wr => ∃ j : Nat, iv = .int .i64 (j : Nat) ∧ j ≤ ps.length ∧ BothS w wr N (N + 1) (N + 1 + 1) (N + 1 + 1 + 1) (firstF (ps.take j)) (firstF (swapL (ps.take j))) (2 * j)) (fun iv _ => ps.length - (intOf iv).toNat)
  case atStart => exact ⟨0, rfl, Nat.zero_le _, HS0.out⟩
  case round =>
    obtain ⟨j, rfl, hj, hS⟩ := hrel
    clear HS0
    by_cases hjl : j < ps.length
    · have g1 : decide (j < ps.length) = true := by simpa using hjl
      obtain ⟨⟨k, v⟩, hp⟩ : ∃ p, ps[j]? = some p := ⟨_, List.getElem?_eq_getElem hjl⟩
      have hkv := HW.out (k, v) (List.mem_of_getElem? hp)
      have htk : ps.take (j + 1) = ps.take j ++ [(k, v)] := by
        obtain ⟨_, hx⟩ := List.getElem?_eq_some_iff.1 hp
        rw [List.take_succ_eq_append_getElem hjl, hx]
      obtain ⟨q, o, rfl, hq, hc⟩ := (HA.out.below hS.bel) (by omega)
      obtain ⟨d0, d1⟩ := hc j _ hp
      simp only at d0 d1 hkv
      obtain ⟨ob, hob⟩ : ∃ ob, ob = Obj.cells #[Value.int .i64 k, .int .i64 v] 37 := ⟨_, rfl⟩
      have CP := Lib.hid (put_calls k v w (wr.alloc ob) N (N + 1) (N + 1 + 1) (N + 1 + 1 + 1) (2 * j) _ _ (hS.later ((Below.refl _ _).alloc (Nat.le_refl _) _)) (by omega) hkv.1 hkv.2)
      have HTK := Lib.hid htk
      clear hS hc hp htk hkv
      subst hob
      go_wp2_with (fail)
      refine CP.out.mono ?_
      rintro e w2 ⟨rfl, hS2⟩
      have HS2 := Lib.hid hS2
      clear hS2 CP
      go_wp2_with (fail)
      go_roundw
      case rel =>
        refine ⟨j + 1, by go_num, hjl, ?_⟩
        rw [HTK.out, swapL_snoc, firstF_snoc, firstF_snoc]
        exact HS2.out
      case measure => simp [intOf]; omega
    · have g1 : decide (j < ps.length) = false := by simpa using hjl
      have hjt : ps.take j = ps := List.take_of_length_le (by omega)
      rw [hjt] at hS
      have HS := Lib.hid (show BothS w wr N (N + 1) (N + 1 + 1) (N + 1 + 1 + 1) (firstF (ps ++ lettersL.take 0)) (firstF (swapL (ps ++ lettersL.take 0))) (2 * j + 2 * 0) by rw [List.take_zero, List.append_nil]; exact hS)
      clear hS hjt
      go_wp2_with (fail)
      go_loopw [21] (fun iv wr => ∃ i : Nat, iv = .int .i64 (i : Nat) ∧ i ≤ 26 ∧ BothS w wr N (N + 1) (N + 1 + 1) (N + 1 + 1 + 1) (firstF (ps ++ lettersL.take i)) (firstF (swapL (ps ++ lettersL.take i))) (2 * j + 2 * i)) (fun iv _ => 26 - (intOf iv).toNat)
      case atStart => exact ⟨0, rfl, Nat.zero_le _, HS.out⟩
      case round =>
        obtain ⟨i, rfl, hi, hS⟩ := hrel
        clear HS
        by_cases hil : i < 26
        · have g2 : decide (i < 26) = true := by simpa using hil
          have g3 : decide ((i : Int) < 26) = true := by simp; omega
          have CP := Lib.hid (put_calls (65 + (i : Int)) (97 + (i : Int)) w wr N (N + 1) (N + 1 + 1) (N + 1 + 1 + 1) (2 * j + 2 * i) _ _ hS (by omega) (WalkArith.wf_i64 (by omega)) (WalkArith.wf_i64 (by omega)))
          clear hS
          go_wp2_with (fail)
          refine CP.out.mono ?_
          rintro e w2 ⟨rfl, hS2⟩
          have HS2 := Lib.hid hS2
          clear hS2 CP
          go_wp2_with (fail)
          go_roundw
          case rel =>
            refine ⟨i + 1, by go_num, hil, ?_⟩
            rw [letters_take i hil, ← List.append_assoc, swapL_snoc, firstF_snoc, firstF_snoc]
            exact HS2.out
          case measure => simp [intOf]; omega
        · have g2 : decide (i < 26) = false := by simpa using hil
          have g3 : decide ((i : Int) < 26) = false := by simp; omega
          have hit : lettersL.take i = lettersL := List.take_of_length_le (by simp [lettersL]; omega)
          rw [hit] at hS
          obtain ⟨c2, c3⟩ := hS.cells
          have z0 : ∀ j, wr.frozen? ⟨N, j, none⟩ = false := fun j => by have h := hS.cS; simp [World.frozen?, h]
          have z1 : ∀ j, wr.frozen? ⟨N + 1, j, none⟩ = false := fun j => by have h := hS.cG; simp [World.frozen?, h]
          have c3' : (wr.setCell ⟨N, 0, none⟩ (.map (some (N + 1 + 1)))).cell? ⟨N + 1, 0, none⟩ = some (.map (some (N + 1 + 1 + 1))) := by rw [World.cell?_of_block (w := wr) (setCell_other _ (by show N + 1 ≠ N; omega))]; exact c3
          have HS := Lib.hid (hS.again2 (Nat.le_of_eq HNN.out.symm))
          obtain ⟨e2, e3⟩ := HS.out.cells
          clear hS hit
          go_wp2_with (fail)
          refine Own.region_mix (CR [0, 1] [(0, ⟨N, 0, none⟩, .map (some (N + 1 + 1))), (1, ⟨N + 1, 0, none⟩, .map (some (N + 1 + 1 + 1)))]) [0, 1] [0, 0, 1, 7] (Own.Ord.run [(0, true), (1, true), (2, false), (3, false)] .done) (by kernel_rfl) (by kernel_rfl) (fun dst v c a w h => by cases dst <;> exact h) (fun x hx w => CR.off x hx w) ?_
          simp only [Own.Ord.run]
          refine Own.st_load _ rfl rfl (.map (some (N + 1 + 1))) (fun w' hw' => ?_) ?_ ?_
          · have hg0 := hw'.get (a := ⟨N, 0, none⟩) (v := .map (some (N + 1 + 1))) (by decide) (by simp)
            go_simp
          · intro _ q hq e; simp only [List.mem_cons, List.mem_nil_iff, or_false] at hq; rcases hq with rfl | rfl <;> first | assumption | (simp at e; done) | (go_simp; done) | (simp; done)
          simp only [Act.put, List.setIfInBounds_toArray, List.set_cons_succ, List.set_cons_zero]
          refine Own.st_load _ rfl rfl (.map (some (N + 1 + 1 + 1))) (fun w' hw' => ?_) ?_ ?_
          · have hg0 := hw'.get (a := ⟨N + 1, 0, none⟩) (v := .map (some (N + 1 + 1 + 1))) (by decide) (by simp)
            go_simp
          · intro _ q hq e; simp only [List.mem_cons, List.mem_nil_iff, or_false] at hq; rcases hq with rfl | rfl <;> first | assumption | (simp at e; done) | (go_simp; done) | (simp; done)
          simp only [Act.put, List.setIfInBounds_toArray, List.set_cons_succ, List.set_cons_zero]
          refine Own.st_do _ rfl rfl (fun K hK => ?_)
          go_simp
          refine hK _ _ (fun q hq hd _ => ?_) ?_
          · intro _ q hq e; simp only [List.mem_cons, List.mem_nil_iff, or_false] at hq; rcases hq with rfl | rfl <;> first | assumption | (simp at e; done) | (go_simp; done) | (simp; done)
          clear hK K
          refine Own.st_do _ rfl rfl (fun K hK => ?_)
          go_simp
          refine hK _ _ (fun q hq hd => by rw [(by decide : ∀ x ∈ [0, 1], Own.dep [0, 0, 1, 7] 3 x = true) q hq] at hd; cases hd) ?_
          clear hK K
          refine Own.mix_done ?_

          go_wp2_with (fail)
          obtain ⟨wf, hwf⟩ : ∃ wf, wf = World.drew ((wr.setCell ⟨N, 0, none⟩ (.map (some (N + 1 + 1)))).setCell ⟨N + 1, 0, none⟩ (.map (some (N + 1 + 1 + 1)))) := ⟨_, rfl⟩
          rw [← hwf]
          have HF : BothS w wf N (N + 1) (N + 1 + 1) (N + 1 + 1 + 1) (smallF ps) (greatF ps) (2 * j + 2 * i) := by
            rw [hwf]
            exact HS.out.later ⟨rfl, rfl, rfl, Nat.le_refl _, fun _ _ => rfl⟩
          clear hwf e2 e3 c2 c3 c3' z0 z1
          obtain ⟨e2, e3⟩ := HF.cells
          refine bodyPost_ret (v := .tuple #[.map (some (N + 1 + 1)), .map (some (N + 1 + 1 + 1))]) (by simp [results, Tryd.results29, go_sem, e2, e3, Result.andThen]) rfl ?_
          exact ⟨⟨_, _, _, rfl, HF.mS, HF.mG⟩, HF.bel⟩
end Go.Proofs.YtmpckoincdkeeaaDoor

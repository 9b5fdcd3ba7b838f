import Derived.Test.YtenfaneaihdppaaProg
import Derived.Test.YtenfaneaihdppaaDistMath
import Derived.WalkKit
import Derived.Handy
import Derived.Deep.LoopGhost
import Derived.Deep.OwnRows
import Derived.Deep.QuietTactic
import Derived.BigQuiet
import Derived.Deep.Cut
import Derived.Deep.DeepCutAuto
import Derived.StillTailTactics
import Derived.Lib.Hide
import Derived.WalkLawsBesides
import Derived.Test.YtenfaneaihdppaaOwn
namespace Go.Proofs.Ytenfaneaihdppaa
set_option linter.unusedVariables false
open Go.RowKit Go.Deep Go.Own
theorem info3 : (Try.prog.info? 3).map (fun i => (i.zero, i.size, i.bytes)) = some (some (.int .i64 0), 1, 8) := by kernel_rfl
/-- the three rows in memory -/
structure Tb (w wr : World) (m : Nat) (F : Nat → Nat → Nat) : Prop where
  since : w.Since w.heap.size wr
  size : wr.heap.size = w.heap.size + 4
  top : wr.rowIs w.heap.size 34 3 (fun j => .slice (some ⟨w.heap.size + 1 + j, 0, none⟩) (m + 1) (m + 1))
  row : ∀ j, j < 3 → wr.rowIs (w.heap.size + 1 + j) 3 (m + 1) (fun k => .int .i64 (F j k : Nat))
def upd (F : Nat → Nat → Nat) (j k v : Nat) : Nat → Nat → Nat := fun i l => if i = j ∧ l = k then v else F i l
theorem Tb.set {w wr : World} {m : Nat} {F : Nat → Nat → Nat} (h : Tb w wr m F) (j k v : Nat) (hj : j < 3) :
    Tb w (wr.setCell ⟨w.heap.size + 1 + j, k, none⟩ (.int .i64 (v : Nat))) m (upd F j k v) := by
  refine ⟨h.since.setCell (by show w.heap.size ≤ w.heap.size + 1 + j; omega) _, by simp [h.size], h.top.setOther (by show w.heap.size ≠ w.heap.size + 1 + j; omega) _, fun i hi => ?_⟩
  by_cases e : i = j
  · subst e
    refine ((h.row i hi).set k _).congr fun l _ => ?_
    simp only [upd]
    by_cases e : l = k <;> simp [e]
  · refine ((h.row i hi).setOther (by show w.heap.size + 1 + i ≠ w.heap.size + 1 + j; omega) _).congr fun l _ => ?_
    simp only [upd]
    rw [if_neg (fun hh => e hh.1)]
theorem Tb.drewN {w wr : World} {m : Nat} {F : Nat → Nat → Nat} (h : Tb w wr m F) (n : Nat) : Tb w (wr.drewN n) m F :=
  ⟨⟨h.since.os, h.since.tape, h.since.output, h.since.size, h.since.block⟩, h.size, h.top, h.row⟩
theorem Tb.congr {w wr : World} {m : Nat} {F G : Nat → Nat → Nat} (h : Tb w wr m F) (e : ∀ j k, j < 3 → k ≤ m → F j k = G j k) : Tb w wr m G :=
  ⟨h.since, h.size, h.top, fun j hj => (h.row j hj).congr fun k hk => by rw [e j k hj (by omega)]⟩
theorem Tb.start (w : World) (m : Nat) : Tb w ((((w.alloc
              (Obj.cells
                #[Value.slice (some { block := w.heap.size + 1, off := 0 }) (m + 1) (m + 1),
                  Value.slice (some { block := w.heap.size + 1 + 1, off := 0 }) (m + 1) (m + 1),
                  Value.slice (some { block := w.heap.size + 1 + 1 + 1, off := 0 }) (m + 1) (m + 1)]
                34)).alloc
          (Obj.cells (madeCells #[Value.int IntKind.i64 0] (m + 1)) 3)).alloc
      (Obj.cells (madeCells #[Value.int IntKind.i64 0] (m + 1)) 3)).alloc
  (Obj.cells (madeCells #[Value.int IntKind.i64 0] (m + 1)) 3)) m (fun _ _ => 0) := by
  refine ⟨((((World.Since.refl _ _).alloc (by simp) _).alloc (by simp) _).alloc (by simp; omega) _).alloc (by simp; omega) _, by simp, ?_, ?_⟩
  · refine World.rowIs.alloc (World.rowIs.alloc (World.rowIs.alloc (World.rowIs_alloc w _ 34 _ ?_) _) _) _
    intro i hi
    match i, hi with
    | 0, _ => rfl
    | 1, _ => rfl
    | 2, _ => rfl
  · intro j hj
    have r0 := (World.rowIs_made (w.alloc (Obj.cells
                #[Value.slice (some { block := w.heap.size + 1, off := 0 }) (m + 1) (m + 1),
                  Value.slice (some { block := w.heap.size + 1 + 1, off := 0 }) (m + 1) (m + 1),
                  Value.slice (some { block := w.heap.size + 1 + 1 + 1, off := 0 }) (m + 1) (m + 1)]
                34)) (.int .i64 0) (m + 1) 3)
    have r1 := (World.rowIs_made ((w.alloc (Obj.cells
                #[Value.slice (some { block := w.heap.size + 1, off := 0 }) (m + 1) (m + 1),
                  Value.slice (some { block := w.heap.size + 1 + 1, off := 0 }) (m + 1) (m + 1),
                  Value.slice (some { block := w.heap.size + 1 + 1 + 1, off := 0 }) (m + 1) (m + 1)]
                34)).alloc (Obj.cells (madeCells #[Value.int IntKind.i64 0] (m + 1)) 3)) (.int .i64 0) (m + 1) 3)
    have r2 := (World.rowIs_made (((w.alloc (Obj.cells
                #[Value.slice (some { block := w.heap.size + 1, off := 0 }) (m + 1) (m + 1),
                  Value.slice (some { block := w.heap.size + 1 + 1, off := 0 }) (m + 1) (m + 1),
                  Value.slice (some { block := w.heap.size + 1 + 1 + 1, off := 0 }) (m + 1) (m + 1)]
                34)).alloc (Obj.cells (madeCells #[Value.int IntKind.i64 0] (m + 1)) 3)).alloc (Obj.cells (madeCells #[Value.int IntKind.i64 0] (m + 1)) 3)) (.int .i64 0) (m + 1) 3)
    simp only [World.size_alloc] at r0 r1 r2
    match j, hj with
    | 0, _ => exact (r0.alloc _).alloc _
    | 1, _ => exact r1.alloc _
    | 2, _ => exact r2
attribute [local go_sem] Own.own_min2 Own.own_min_two Own.own_min_three
set_option maxRecDepth 100000 in
set_option maxHeartbeats 4000000 in
theorem far_calls (A B : Option Addr) (ca cb : Nat) (a b : List Int) (w : World) (ha : a.length ≤ 1000) (hb : b.length ≤ 1000) (hA : Reads w A a) (hB : Reads w B b) :
    Calls Try.prog 10 #[.slice A a.length ca, .slice B b.length cb] w fun e w' => e = .returned (.int .i64 (Dst.far a b : Nat)) ∧ Below w.heap.size w w' := by
  have hmk := run_make_row' (P := Try.prog) 22 3 (.int .i64 0) 8 Try.underlying22 info3 rfl .i64 .i64 (b.length + 1) (by omega) (by omega)
  have ec : ((b.length + 1 : Nat) : Int) = (b.length : Int) + 1 := by omega
  rw [ec] at hmk
  go_enter Try.func10, Try.ntmps10
  go_wp2
  go_rounds 4
  have T0 := Tb.start w b.length
  clear hmk ec
  go_loopw [27] (fun t wr => ∃ k : Nat, k ≤ b.length + 1 ∧ t = .int .i64 k ∧ Tb w wr b.length (fun j l => if j = 0 ∧ l < k then l else 0)) (fun t _ => b.length + 1 - (intOf t).toNat)
  case atStart => exact ⟨0, by omega, rfl, T0.congr (fun _ _ _ _ => by simp)⟩
  case round =>
    obtain ⟨k, hk, rfl, hT⟩ := hrel
    clear T0
    by_cases hlt : k < b.length + 1
    · have c0 := hT.top.cell (i := 0) (by omega)
      have c1 := (hT.row 0 (by omega)).cell (i := k) hlt
      have c2 := (hT.row 0 (by omega)).frozen k
      simp only [Nat.add_zero] at c0 c1 c2
      go_wp2
      go_roundw
      case rel => exact ⟨k + 1, by omega, by go_num, (hT.set 0 k k (by omega)).congr (fun j l _ _ => by simp only [upd]; split <;> split <;> simp_all <;> omega)⟩
      case measure => simp [intOf]; omega
    · have hk' : k = b.length + 1 := by omega
      have hT' : Tb w wr b.length (fun j l => if j = 0 then l else 0) := hT.congr (fun j l _ _ => by split <;> split <;> simp_all <;> omega)
      have hd : decide ((k : Int) < (b.length : Int) + 1) = false := by simp; omega
      have Hk := Lib.hid hk'
      clear hk' hT
      go_wp2
      clear Hk hd hlt
      go_loopw [8] (fun t wr => ∃ n : Nat, ∃ F : Nat → Nat → Nat, n ≤ a.length ∧ t = .int .i64 ((n : Int) + 1) ∧ Tb w wr b.length F ∧ (∀ k, k ≤ b.length → F (n % 3) k = Dst.D a b n k) ∧ (1 ≤ n → ∀ k, k ≤ b.length → F ((n + 2) % 3) k = Dst.D a b (n - 1) k)) (fun t _ => a.length + 1 - (intOf t).toNat)
      case atStart => exact ⟨0, _, by omega, rfl, hT', fun k _ => by simp [Dst.D_0], fun h => by omega⟩
      case round =>
        obtain ⟨n, F, hn, rfl, hT, hF, hL⟩ := hrel
        clear hT' hk
        by_cases hlt : n < a.length
        · have hj0 : (n + 1) % 3 < 3 := Nat.mod_lt _ (by omega)
          have hj1 : n % 3 < 3 := Nat.mod_lt _ (by omega)
          have hj2 : (n + 2) % 3 < 3 := Nat.mod_lt _ (by omega)
          have e0 : ((n : Int) + 1) % 3 = (((n + 1) % 3 : Nat) : Int) := by omega
          have e1 : (n : Int) % 3 = ((n % 3 : Nat) : Int) := by omega
          have e2 : ((n : Int) + 1 + 1) % 3 = (((n + 2) % 3 : Nat) : Int) := by omega
          have e3 : (n : Int) + 1 - 1 = n := by omega
          have d1 : (n + 1) % 3 ≠ n % 3 := by omega
          have d2 : (n + 1) % 3 ≠ (n + 2) % 3 := by omega
          revert hF hL hT e0 e1 e2 hj0 hj1 hj2 d1 d2
          generalize hg0 : (n + 1) % 3 = j0
          generalize hg1 : n % 3 = j1
          generalize (n + 2) % 3 = j2
          have Hj0 := Lib.hid hg0
          have Hj1 := Lib.hid hg1
          clear hg0 hg1
          intro hT hF hL hj0 hj1 hj2 e0 e1 e2 d1 d2
          have c0 := hT.top.cell hj0
          have c1 := hT.top.cell hj1
          have c2 := hT.top.cell hj2
          go_wp2
          have c3 := (hT.row j0 hj0).cell (i := 0) (by omega)
          have c4 := (hT.row j0 hj0).frozen 0
          go_quiet (fail)
          go_wp2
          have T1 := (hT.drewN nq).set j0 0 (n + 1) hj0
          go_loopw [12] (fun t wr => ∃ k : Nat, ∃ G : Nat → Nat → Nat, k ≤ b.length ∧ t = .int .i64 ((k : Int) + 1) ∧ Tb w wr b.length G ∧ (∀ l, l ≤ b.length → G j1 l = Dst.D a b n l) ∧ (1 ≤ n → ∀ l, l ≤ b.length → G j2 l = Dst.D a b (n - 1) l) ∧ (∀ l, l ≤ k → G j0 l = Dst.D a b (n + 1) l)) (fun t _ => b.length + 1 - (intOf t).toNat)
          case atStart =>
            refine ⟨0, _, by omega, rfl, T1, fun l hl => ?_, fun h l hl => ?_, fun l hl => ?_⟩
            · simp only [upd]; rw [if_neg (fun h => d1 h.1.symm)]; exact hF l hl
            · simp only [upd]; rw [if_neg (fun h => d2 h.1.symm)]; exact hL h l hl
            · obtain rfl : l = 0 := by omega
              simp [upd, Dst.D_s0]
          case round =>
            obtain ⟨k, G, hk, rfl, hT, hF, hL, hR⟩ := hrel
            clear T1 c0 c1 c2 c3 c4 e0 e1 e2
            by_cases hlk : k < b.length
            · obtain ⟨ba, oa, rfl, hA'⟩ := hA (by omega)
              obtain ⟨bb, ob, rfl, hB'⟩ := hB (by omega)
              have x1 := hA' _ hT.since n hlt
              have x2 := hB' _ hT.since k hlk
              have y1 := (hT.row j1 hj1).cell (i := k) (by omega)
              have y2 := (hT.row j1 hj1).cell (i := k + 1) (by omega)
              have y3 := (hT.row j0 hj0).cell (i := k) (by omega)
              have y4 := (hT.row j0 hj0).cell (i := k + 1) (by omega)
              have y5 := (hT.row j0 hj0).frozen (k + 1)
              rw [hF k (by omega)] at y1
              rw [hF (k + 1) (by omega)] at y2
              rw [hR k (by omega)] at y3
              have b1 := Dst.D_le a b n k
              have b2 := Dst.D_le a b n (k + 1)
              have b3 := Dst.D_le a b (n + 1) k
              obtain ⟨va, hva⟩ : ∃ v, v = a.getD n 0 := ⟨_, rfl⟩
              obtain ⟨vb, hvb⟩ : ∃ v, v = b.getD k 0 := ⟨_, rfl⟩
              rw [← hva] at x1
              rw [← hvb] at x2
              have Hva := Lib.hid hva
              have Hvb := Lib.hid hvb
              clear hva hvb hA hB
              go_wp2
              go_quiet (fail)
              go_upto_if 75 with (fail)
              go_cut [13] (fun v wx => v = .int .i64 (Dst.cost va vb : Nat) ∧ ∃ q, wx = wr.drewN q)
              case first =>
                by_cases hc : va = vb
                · have hcd : (va == vb) = true := by simpa using hc
                  have Hc := Lib.hid hc
                  clear hc
                  go_wp2
                  go_meet
                  exact ⟨by unfold Dst.cost; rw [if_pos Hc.out]; rfl, nq, rfl⟩
                · have hcd : (va == vb) = false := by simpa using hc
                  have Hc := Lib.hid hc
                  clear hc
                  go_wp2
                  go_meet
                  exact ⟨by unfold Dst.cost; rw [if_neg Hc.out]; rfl, nq, rfl⟩
              case rest =>
                obtain ⟨rfl, q, rfl⟩ := hcut
                have b4 := Dst.cost_le va vb
                go_wp2
                refine Own.region_tail 22 (fun w' => ∃ n, w' = World.drewN wr n) (by kernel_rfl) (by kernel_rfl) ⟨q + 1, rfl⟩ ?_
                simp only [List.take_succ_cons, List.take_zero, List.drop_succ_cons, List.drop_zero]
                repeat (go_big_quiet_step (fail))
                refine wpQuiet_nil ?_
                rintro _ ⟨nq', rfl⟩
                go_wp2
                have T2 := (hT.drewN nq').set j0 (k + 1) (min (min (Dst.D a b n (k + 1) + 1) (Dst.D a b (n + 1) k + 1)) (Dst.D a b n k + Dst.cost va vb)) hj0
                rw [show ((min (min (Dst.D a b n (k + 1) + 1) (Dst.D a b (n + 1) k + 1)) (Dst.D a b n k + Dst.cost va vb) : Nat) : Int) = Own.imin (Own.imin (Dst.D a b n (k + 1) + 1) (Dst.D a b (n + 1) k + 1)) (Dst.D a b n k + Dst.cost va vb) from by rw [Own.imin_eq, Own.imin_eq]; omega] at T2
                generalize hW : ((wr.drewN nq').setCell { block := w.heap.size + 1 + j0, off := k + 1 } (Value.int IntKind.i64 (Own.imin (Own.imin (Dst.D a b n (k + 1) + 1) (Dst.D a b (n + 1) k + 1)) (Dst.D a b n k + Dst.cost va vb)))) = wz at T2 ⊢
                clear hW y1 y2 y3 y4 y5 x1 x2
                have z1 := hA' wz T2.since
                have z2 := hB' wz T2.since
                go_upto_region 24 with (fail)
                go_cut [129] (fun v wx => v = .bool (Dst.tr a b n k) ∧ ∃ q, wx = wz.drewN q)
                case first =>
                  by_cases hn0 : n = 0
                  · have g0 : decide ((1 : Int) < (n : Int) + 1) = false := by simp; omega
                    have ht : Dst.tr a b n k = false := by simp [Dst.tr, hn0]
                    have HT := Lib.hid ht
                    clear hn0 ht
                    go_quiet (fail)
                    go_wp2
                    go_meet
                    exact ⟨by rw [HT.out], nq, rfl⟩
                  have g0 : decide ((1 : Int) < (n : Int) + 1) = true := by simp; omega
                  by_cases hk0 : k = 0
                  · have g1 : decide ((1 : Int) < (k : Int) + 1) = false := by simp; omega
                    have ht : Dst.tr a b n k = false := by simp [Dst.tr, hk0]
                    have HT := Lib.hid ht
                    clear hk0 ht
                    go_quiet (fail)
                    go_wp2
                    go_meet
                    exact ⟨by rw [HT.out], nq, rfl⟩
                  have g1 : decide ((1 : Int) < (k : Int) + 1) = true := by simp; omega
                  have z3 := z1 n hlt
                  have z4 := z2 k hlk
                  have z5 := z1 (n - 1) (by omega)
                  have z6 := z2 (k - 1) (by omega)
                  clear z1 z2
                  rw [← Hva.out] at z3
                  rw [← Hvb.out] at z4
                  obtain ⟨vc, hvc⟩ : ∃ v, v = a.getD (n - 1) 0 := ⟨_, rfl⟩
                  obtain ⟨vd, hvd⟩ : ∃ v, v = b.getD (k - 1) 0 := ⟨_, rfl⟩
                  rw [← hvc] at z5
                  rw [← hvd] at z6
                  have Hvc := Lib.hid hvc
                  have Hvd := Lib.hid hvd
                  clear hvc hvd
                  by_cases h1 : va = vd
                  · by_cases h2 : vc = vb
                    · have g2 : (va == vd) = true := by simpa using h1
                      have g3 : (vc == vb) = true := by simpa using h2
                      have HT := Lib.hid (show Dst.tr a b n k = true by simp only [Dst.tr, ← Hva.out, ← Hvb.out, ← Hvc.out, ← Hvd.out]; simp [h1, h2]; omega)
                      clear h1 h2
                      go_quiet (fail)
                      go_wp2
                      go_meet
                      exact ⟨by rw [HT.out], nq, rfl⟩
                    · have g2 : (va == vd) = true := by simpa using h1
                      have g3 : (vc == vb) = false := by simpa using h2
                      have HT := Lib.hid (show Dst.tr a b n k = false by simp only [Dst.tr, ← Hva.out, ← Hvb.out, ← Hvc.out, ← Hvd.out]; simp [h2])
                      clear h1 h2
                      go_quiet (fail)
                      go_wp2
                      go_meet
                      exact ⟨by rw [HT.out], nq, rfl⟩
                  · have g2 : (va == vd) = false := by simpa using h1
                    have HT := Lib.hid (show Dst.tr a b n k = false by simp only [Dst.tr, ← Hva.out, ← Hvb.out, ← Hvc.out, ← Hvd.out]; simp [h1])
                    clear h1
                    go_quiet (fail)
                    go_wp2
                    go_meet
                    exact ⟨by rw [HT.out], nq, rfl⟩
                case rest =>
                  obtain ⟨rfl, q2, rfl⟩ := hcut
                  clear z1 z2 hA' hB'
                  have HD : Dst.D a b (n + 1) (k + 1) = Dst.cell (Dst.cost va vb) (Dst.tr a b n k) (Dst.D a b (n - 1) (k - 1)) (Dst.D a b n (k + 1)) (Dst.D a b (n + 1) k) (Dst.D a b n k) := by rw [Dst.D_ss, Hva.out, Hvb.out]
                  have HD' := Lib.hid HD
                  clear HD
                  cases ht : Dst.tr a b n k
                  · have HT := Lib.hid ht
                    clear ht
                    go_wp2
                    go_roundw
                    case rel =>
                      refine ⟨k + 1, _, by omega, by go_num, T2.drewN q2, fun l hl => ?_, fun h l hl => ?_, fun l hl => ?_⟩
                      · simp only [upd]; rw [if_neg (fun h => d1 h.1.symm)]; exact hF l hl
                      · simp only [upd]; rw [if_neg (fun h => d2 h.1.symm)]; exact hL h l hl
                      · simp only [upd]
                        by_cases e : l = k + 1
                        · subst e; rw [if_pos (by simp), HD'.out, HT.out]; rfl
                        · rw [if_neg (fun h => e h.2)]; exact hR l (by omega)
                    case measure => simp [intOf]; omega
                  · have HT := Lib.hid ht
                    have hn1 : 1 ≤ n ∧ 1 ≤ k := by simp [Dst.tr] at ht; omega
                    obtain ⟨hn1, hk1⟩ := hn1
                    clear ht
                    have y1 := (T2.row j2 hj2).cell (i := k - 1) (by omega)
                    have y2 := (T2.row j0 hj0).cell (i := k + 1) (by omega)
                    have y5 := (T2.row j0 hj0).frozen (k + 1)
                    simp only [upd] at y1 y2
                    rw [if_neg (fun h => d2 h.1.symm), hL hn1 (k - 1) (by omega)] at y1
                    rw [if_pos (by simp)] at y2
                    have b5 := Dst.D_le a b (n - 1) (k - 1)
                    obtain ⟨v, hv⟩ : ∃ v, v = min (min (Dst.D a b n (k + 1) + 1) (Dst.D a b (n + 1) k + 1)) (Dst.D a b n k + Dst.cost va vb) := ⟨_, rfl⟩
                    rw [← hv] at y2
                    have Hv := Lib.hid hv
                    clear hv
                    go_wp2
                    refine Own.region_tail 14 (fun w' => ∃ n, w' = World.drewN wz n) (by kernel_rfl) (by kernel_rfl) ⟨q2 + 1, rfl⟩ ?_
                    simp only [List.take_succ_cons, List.take_zero, List.drop_succ_cons, List.drop_zero]
                    repeat (go_big_quiet_step (fail))
                    refine wpQuiet_nil ?_
                    rintro _ ⟨nq', rfl⟩
                    go_wp2
                    go_roundw
                    case rel =>
                      have T3 := (T2.drewN nq').set j0 (k + 1) (min v (Dst.D a b (n - 1) (k - 1) + 1)) hj0
                      rw [show ((min v (Dst.D a b (n - 1) (k - 1) + 1) : Nat) : Int) = Own.imin v (Dst.D a b (n - 1) (k - 1) + 1) from by rw [Own.imin_eq]; omega] at T3
                      refine ⟨k + 1, _, by omega, by go_num, T3, fun l hl => ?_, fun h l hl => ?_, fun l hl => ?_⟩
                      · simp only [upd]; rw [if_neg (fun h => d1 h.1.symm), if_neg (fun h => d1 h.1.symm)]; exact hF l hl
                      · simp only [upd]; rw [if_neg (fun h => d2 h.1.symm), if_neg (fun h => d2 h.1.symm)]; exact hL h l hl
                      · simp only [upd]
                        by_cases e : l = k + 1
                        · subst e; rw [if_pos (by simp), HD'.out, HT.out, Hv.out]; rfl
                        · rw [if_neg (fun h => e h.2), if_neg (fun h => e h.2)]; exact hR l (by omega)
                    case measure => simp [intOf]; omega
            · have hkm : k = b.length := by omega
              have HK := Lib.hid hkm
              clear hkm
              go_wp2
              go_roundw
              case rel =>
                have hk' := HK.out
                subst hk'
                refine ⟨n + 1, G, by omega, by go_num, hT, fun l hl => ?_, fun h l hl => ?_⟩
                · rw [Hj0.out]; exact hR l hl
                · rw [show (n + 1 + 2) % 3 = n % 3 by omega, Hj1.out]; exact hF l hl
              case measure => simp [intOf]; omega
        · have hnm : n = a.length := by omega
          have HN := Lib.hid hnm
          clear hnm
          have e0 : (a.length : Int) % 3 = ((n % 3 : Nat) : Int) := by have := HN.out; omega
          have c0 := hT.top.cell (i := n % 3) (Nat.mod_lt _ (by omega))
          have c1 := (hT.row (n % 3) (Nat.mod_lt _ (by omega))).cell (i := b.length) (by omega)
          rw [hF b.length (by omega)] at c1
          have hj : n % 3 < 3 := Nat.mod_lt _ (by omega)
          clear hF hL
          revert e0 c0 c1 hj
          generalize n % 3 = j
          intro e0 c0 c1 hj
          go_wp2
          go_ret
          exact ⟨by rw [HN.out]; rfl, hT.since.os, hT.since.tape, hT.since.output, hT.since.size, hT.since.block⟩
end Go.Proofs.Ytenfaneaihdppaa

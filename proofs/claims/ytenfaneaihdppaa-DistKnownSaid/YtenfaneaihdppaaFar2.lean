/- abecedaryref17.Far: the table cell by cell. -/
import Derived.Test.YtenfaneaihdppaaDistA
namespace Go.Proofs.Ytenfaneaihdppaa
set_option linter.unusedVariables false
open Go.RowKit Go.Deep Go.Own
/-- the one block of the table -/
structure Fl (w wr : World) (L : Nat) (T : Nat → Nat) : Prop where
  since : w.Since w.heap.size wr
  size : wr.heap.size = w.heap.size + 1
  row : wr.rowIs w.heap.size 3 L (fun k => .int .i64 (T k : Nat))
theorem Fl.set {w wr : World} {L : Nat} {T : Nat → Nat} (h : Fl w wr L T) (k v : Nat) : Fl w (wr.setCell ⟨w.heap.size, k, none⟩ (.int .i64 (v : Nat))) L (fun l => if l = k then v else T l) :=
  ⟨h.since.setCell (Nat.le_refl _) _, by simp [h.size], (h.row.set k _).congr fun l _ => by by_cases e : l = k <;> simp [e]⟩
theorem Fl.drewN {w wr : World} {L : Nat} {T : Nat → Nat} (h : Fl w wr L T) (n : Nat) : Fl w (wr.drewN n) L T :=
  ⟨⟨h.since.os, h.since.tape, h.since.output, h.since.size, h.since.block⟩, h.size, h.row⟩
theorem Fl.next {w wr : World} {L M p : Nat} {T : Nat → Nat} {a b : List Int} {i k : Nat} (h : Fl w wr L T) (hp : p = i * M) (hk : k < M) (hD : ∀ j k, j < i → k < M → T (j * M + k) = Dst.D a b j k) (hR : ∀ l, l < k → T (p + l) = Dst.D a b i l) (v : Nat) (hv : v = Dst.D a b i k) :
    ∃ T' : Nat → Nat, Fl w (wr.setCell ⟨w.heap.size, p + k, none⟩ (.int .i64 (v : Nat))) L T' ∧ (∀ j k, j < i → k < M → T' (j * M + k) = Dst.D a b j k) ∧ (∀ l, l < k + 1 → T' (i * M + l) = Dst.D a b i l) := by
  refine ⟨_, h.set (p + k) v, fun j l hj hl => ?_, fun l hl => ?_⟩
  · have : j * M + M ≤ i * M := by rw [← Nat.succ_mul]; exact Nat.mul_le_mul_right _ (by omega)
    show (if j * M + l = p + k then v else T (j * M + l)) = _
    rw [if_neg (by omega)]
    exact hD j l hj hl
  · show (if i * M + l = p + k then v else T (i * M + l)) = _
    rw [← hp]
    by_cases e : l = k
    · subst e; rw [if_pos rfl, hv]
    · rw [if_neg (by omega)]; exact hR l (by omega)
attribute [local go_sem] Own.own_min2 Own.own_min_two Own.own_min_three
set_option maxRecDepth 100000 in
set_option maxHeartbeats 4000000 in
theorem rfar_calls (A B : Option Addr) (ca cb : Nat) (a b : List Int) (w : World) (ha : a.length ≤ 60) (hb : b.length ≤ 60) (hA : Reads w A a) (hB : Reads w B b) :
    Calls Try.prog 8 #[.slice A a.length ca, .slice B b.length cb] w fun e w' => e = .returned (.int .i64 (Dst.far a b : Nat)) ∧ Below w.heap.size w w' := by
  obtain ⟨M, hM⟩ : ∃ M, M = b.length + 1 := ⟨_, rfl⟩
  obtain ⟨L, hL⟩ : ∃ L, L = (a.length + 1) * M := ⟨_, rfl⟩
  have hLM : ∀ i, i ≤ a.length → i * M + M ≤ L := fun i hi => by
    rw [hL, ← Nat.succ_mul]; exact Nat.mul_le_mul_right _ (by omega)
  have hLb : L ≤ 3721 := by
    rw [hL]; exact Nat.le_trans (Nat.mul_le_mul (show a.length + 1 ≤ 61 by omega) (show M ≤ 61 by omega)) (by decide)
  have hLi : ((a.length : Int) + 1) * ((b.length : Int) + 1) = (L : Nat) := by rw [hL, hM]; simp
  have hmk := run_make_row' (P := Try.prog) 22 3 (.int .i64 0) 8 Try.underlying22 info3 rfl .i64 .i64 L (by omega) (by omega)
  have hLw : IntKind.i64.wrap (((a.length : Int) + 1) * ((b.length : Int) + 1)) = (L : Nat) := by rw [hLi]; exact IntWalk.i64_in _ (by omega)
  have HL := Lib.hid hL
  have HM := Lib.hid hM
  have HLi := Lib.hid hLi
  clear hL hM hLi
  go_enter Try.func8, Try.ntmps8
  go_wp2
  have T0 : Fl w (w.alloc (.cells (madeCells #[.int .i64 0] L) 3)) L (fun _ => 0) := ⟨(World.Since.refl _ _).alloc (Nat.le_refl _) _, by simp, World.rowIs_made w _ L 3⟩
  clear hmk hLw
  go_loopw [8] (fun t wr => ∃ i : Nat, ∃ T : Nat → Nat, i ≤ a.length + 1 ∧ t = .int .i64 (i : Nat) ∧ Fl w wr L T ∧ ∀ j k, j < i → k < M → T (j * M + k) = Dst.D a b j k) (fun t _ => a.length + 1 - (intOf t).toNat)
  case atStart => exact ⟨0, _, by omega, rfl, T0, fun j k h => by omega⟩
  case round =>
    obtain ⟨i, T, hi, rfl, hT, hD⟩ := hrel
    clear T0
    by_cases hin : i < a.length + 1
    · have hd : (i : Int) ≤ (a.length : Int) := by omega
      go_wp2
      go_loopw [9] (fun t wr => ∃ k : Nat, ∃ T : Nat → Nat, k ≤ b.length + 1 ∧ t = .int .i64 (k : Nat) ∧ Fl w wr L T ∧ (∀ j k, j < i → k < M → T (j * M + k) = Dst.D a b j k) ∧ (∀ l, l < k → T (i * M + l) = Dst.D a b i l)) (fun t _ => b.length + 1 - (intOf t).toNat)
      case atStart => exact ⟨0, _, by omega, rfl, hT, hD, fun l h => by omega⟩
      case round =>
        clear hT hD
        obtain ⟨k, T, hk, rfl, hT, hD, hR⟩ := hrel
        by_cases hkm : k < b.length + 1
        · have hkd : (k : Int) ≤ (b.length : Int) := by omega
          obtain ⟨p, hp⟩ : ∃ p, p = i * M := ⟨_, rfl⟩
          have hpL := hLM i (by omega)
          rw [← hp] at hpL
          have hMl : M = b.length + 1 := HM.out
          have hpi : IntKind.i64.wrap ((i : Int) * ((b.length : Int) + 1)) = (p : Nat) := by
            have : (i : Int) * ((b.length : Int) + 1) = (p : Nat) := by rw [hp, hMl]; simp
            rw [this]; exact IntWalk.i64_in _ (by omega)
          have hpk : p + k < L := by omega
          have hpb : p ≤ 3721 := by omega
          have s1 := hT.row.cell hpk
          have s2 := hT.row.frozen (p + k)
          rw [← hp] at hR
          have Hp := Lib.hid hp
          have HMl := Lib.hid hMl
          clear hp hMl
          by_cases hk0 : k = 0
          · have e0 : ((k : Int) == 0) = true := by simp; omega
            have HK0 := Lib.hid hk0
            clear hk0
            go_wp2
            go_roundw
            case rel =>
              obtain ⟨T', h1, h2, h3⟩ := hT.next Hp.out (by have := HMl.out; omega) hD hR i (by rw [HK0.out, Dst.D_i0])
              exact ⟨k + 1, T', by omega, by go_num, h1, h2, h3⟩
            case measure => simp [intOf]; omega
          have e0 : ((k : Int) == 0) = false := by simp; omega
          by_cases hi0 : i = 0
          · have e1 : ((i : Int) == 0) = true := by simp; omega
            have HI0 := Lib.hid hi0
            clear hi0 hk0
            go_wp2
            go_roundw
            case rel =>
              obtain ⟨T', h1, h2, h3⟩ := hT.next Hp.out (by have := HMl.out; omega) hD hR k (by rw [HI0.out, Dst.D_0])
              exact ⟨k + 1, T', by omega, by go_num, h1, h2, h3⟩
            case measure => simp [intOf]; omega
          have e1 : ((i : Int) == 0) = false := by simp; omega
          obtain ⟨x0, hx0⟩ : ∃ x, x = a.getD (i - 1) 0 := ⟨_, rfl⟩
          obtain ⟨y0, hy0⟩ : ∃ y, y = b.getD (k - 1) 0 := ⟨_, rfl⟩
          obtain ⟨ba, oa, rfl, hA'⟩ := hA (by omega)
          obtain ⟨bb, ob, rfl, hB'⟩ := hB (by omega)
          have x1 := hA' _ hT.since (i - 1) (by omega)
          have x2 := hB' _ hT.since (k - 1) (by omega)
          rw [← hx0] at x1
          rw [← hy0] at x2
          have HX0 := Lib.hid hx0
          have HY0 := Lib.hid hy0
          have hq : p = (i - 1) * M + M := by rw [Hp.out, ← Nat.succ_mul]; congr 1; omega
          have y1 := hD (i - 1) k (by omega) (by have := HMl.out; omega)
          have y2 := hR (k - 1) (by omega)
          have y3 := hD (i - 1) (k - 1) (by omega) (by have := HMl.out; omega)
          have q1 : (i - 1) * M + k = p + k - b.length - 1 := by have := HMl.out; omega
          have q2 : p + (k - 1) = p + k - 1 := by omega
          have q3 : (i - 1) * M + (k - 1) = p + k - b.length - 2 := by have := HMl.out; omega
          have pl : b.length + 1 ≤ p := by have := HMl.out; omega
          rw [q1] at y1
          rw [q2] at y2
          rw [q3] at y3
          have c1 := hT.row.cell (i := p + k - b.length - 1) (by omega)
          have c2 := hT.row.cell (i := p + k - 1) (by omega)
          have c3 := hT.row.cell (i := p + k - b.length - 2) (by omega)
          rw [y1] at c1
          rw [y2] at c2
          rw [y3] at c3
          have b1 := Dst.D_le a b (i - 1) k
          have b2 := Dst.D_le a b i (k - 1)
          have b3 := Dst.D_le a b (i - 1) (k - 1)
          clear hA hB hx0 hy0 hq q1 q2 q3 y1 y2 y3
          go_wp2
          go_quiet (fail)
          go_upto_if 49 with (fail)
          go_cut [11] (fun v wx => v = .int .i64 (Dst.cost x0 y0 : Nat) ∧ ∃ q, wx = wr.drewN q)
          case first =>
            by_cases hc : x0 = y0
            · have hcd : (x0 == y0) = true := by simpa using hc
              have Hc := Lib.hid hc
              clear hc
              go_wp2
              go_meet
              exact ⟨by unfold Dst.cost; rw [if_pos Hc.out]; rfl, nq, rfl⟩
            · have hcd : (x0 == y0) = false := by simpa using hc
              have Hc := Lib.hid hc
              clear hc
              go_wp2
              go_meet
              exact ⟨by unfold Dst.cost; rw [if_neg Hc.out]; rfl, nq, rfl⟩
          case rest =>
            obtain ⟨rfl, q, rfl⟩ := hcut
            have b4 := Dst.cost_le x0 y0
            go_wp2
            go_quiet (fail)
            obtain ⟨v, hv⟩ : ∃ v, v = min (min (Dst.D a b (i - 1) k + 1) (Dst.D a b i (k - 1) + 1)) (Dst.D a b (i - 1) (k - 1) + Dst.cost x0 y0) := ⟨_, rfl⟩
            rw [show Own.imin (Own.imin ((Dst.D a b (i - 1) k : Nat) + 1) ((Dst.D a b i (k - 1) : Nat) + 1)) ((Dst.D a b (i - 1) (k - 1) : Nat) + (Dst.cost x0 y0 : Nat)) = (v : Nat) from by rw [Own.imin_eq, Own.imin_eq, hv]; omega]
            have hvb : v ≤ 200 := by omega
            have HD := Lib.hid (show Dst.D a b i k = if Dst.tr a b (i - 1) (k - 1) then min v (Dst.D a b (i - 2) (k - 2) + 1) else v by
              obtain ⟨i', rfl⟩ : ∃ m, i = m + 1 := ⟨i - 1, by omega⟩
              obtain ⟨k', rfl⟩ : ∃ m, k = m + 1 := ⟨k - 1, by omega⟩
              rw [Dst.D_ss, hv, HX0.out, HY0.out]
              rfl)
            have Hv := Lib.hid hv
            clear hv c1 c2 c3
            go_upto_region 14 with (fail)
            go_cut [105] (fun u wx => u = .bool (Dst.tr a b (i - 1) (k - 1)) ∧ ∃ q, wx = wr.drewN q)
            case first =>
              by_cases hn0 : i = 1
              · have g0 : decide ((1 : Int) < (i : Int)) = false := by simp; omega
                have HT := Lib.hid (show Dst.tr a b (i - 1) (k - 1) = false by simp [Dst.tr, hn0])
                clear hn0
                go_quiet (fail)
                go_wp2
                go_meet
                exact ⟨by rw [HT.out], Own.drew_any3 _ _ _ _⟩
              have g0 : decide ((1 : Int) < (i : Int)) = true := by simp; omega
              by_cases hk1 : k = 1
              · have g1 : decide ((1 : Int) < (k : Int)) = false := by simp; omega
                have HT := Lib.hid (show Dst.tr a b (i - 1) (k - 1) = false by simp [Dst.tr, hk1])
                clear hk1
                go_quiet (fail)
                go_wp2
                go_meet
                exact ⟨by rw [HT.out], Own.drew_any3 _ _ _ _⟩
              have g1 : decide ((1 : Int) < (k : Int)) = true := by simp; omega
              have z5 := hA' _ hT.since (i - 2) (by omega)
              have z6 := hB' _ hT.since (k - 2) (by omega)
              obtain ⟨vc, hvc⟩ : ∃ v, v = a.getD (i - 2) 0 := ⟨_, rfl⟩
              obtain ⟨vd, hvd⟩ : ∃ v, v = b.getD (k - 2) 0 := ⟨_, rfl⟩
              rw [← hvc] at z5
              rw [← hvd] at z6
              have Hvc := Lib.hid hvc
              have Hvd := Lib.hid hvd
              have ht : Dst.tr a b (i - 1) (k - 1) = (decide (x0 = vd) && decide (vc = y0)) := by
                rw [HX0.out, HY0.out, hvc, hvd]
                unfold Dst.tr
                rw [decide_eq_true (show 1 ≤ i - 1 by omega), decide_eq_true (show 1 ≤ k - 1 by omega)]
                rfl
              have HT := Lib.hid ht
              clear hvc hvd hA' hB' ht
              by_cases h1 : x0 = vd
              · by_cases h2 : vc = y0
                · have g2 : (x0 == vd) = true := by simpa using h1
                  have g3 : (vc == y0) = true := by simpa using h2
                  have H1 := Lib.hid h1
                  have H2 := Lib.hid h2
                  clear h1 h2
                  go_quiet (fail)
                  go_wp2
                  go_meet
                  exact ⟨by rw [HT.out]; simp [H1.out, H2.out], Own.drew_any3 _ _ _ _⟩
                · have g2 : (x0 == vd) = true := by simpa using h1
                  have g3 : (vc == y0) = false := by simpa using h2
                  have H1 := Lib.hid h1
                  have H2 := Lib.hid h2
                  clear h1 h2
                  go_quiet (fail)
                  go_wp2
                  go_meet
                  exact ⟨by rw [HT.out]; simp [H2.out], Own.drew_any3 _ _ _ _⟩
              · have g2 : (x0 == vd) = false := by simpa using h1
                have H1 := Lib.hid h1
                clear h1
                go_quiet (fail)
                go_wp2
                go_meet
                exact ⟨by rw [HT.out]; simp [H1.out], Own.drew_any3 _ _ _ _⟩
            case rest =>
              obtain ⟨rfl, q2, rfl⟩ := hcut
              go_upto_if 105 with (fail)
              go_cut [12] (fun u wx => u = .int .i64 (Dst.D a b i k : Nat) ∧ ∃ q, wx = wr.drewN q)
              case first =>
                cases ht : Dst.tr a b (i - 1) (k - 1)
                · have HT := Lib.hid ht
                  clear ht
                  go_wp2
                  go_meet
                  exact ⟨by rw [HD.out, HT.out]; rfl, q2, rfl⟩
                · have HT := Lib.hid ht
                  have hn1 : 2 ≤ i ∧ 2 ≤ k := by simp [Dst.tr] at ht; omega
                  obtain ⟨hi2, hk2⟩ := hn1
                  clear ht
                  have pl2 : 2 * (b.length + 1) ≤ p := by
                    have e1 : p = (i - 2) * M + 2 * M := by rw [Hp.out, ← Nat.add_mul]; congr 1; omega
                    have := HMl.out; omega
                  have c4 := hT.row.cell (i := p + k - 2 * (b.length + 1) - 2) (by omega)
                  have y4 := hD (i - 2) (k - 2) (by omega) (by have := HMl.out; omega)
                  have q4 : (i - 2) * M + (k - 2) = p + k - 2 * (b.length + 1) - 2 := by
                    have e1 : p = (i - 2) * M + 2 * M := by rw [Hp.out, ← Nat.add_mul]; congr 1; omega
                    have := HMl.out; omega
                  rw [q4] at y4
                  rw [y4] at c4
                  have b5 := Dst.D_le a b (i - 2) (k - 2)
                  clear q4 y4
                  go_wp2
                  go_meet
                  exact ⟨by rw [HD.out, HT.out, if_pos rfl, Own.imin_eq]; congr 1; omega, q2, rfl⟩
              case rest =>
                obtain ⟨rfl, q3, rfl⟩ := hcut
                go_wp2
                go_roundw
                case rel =>
                  obtain ⟨T', h1, h2, h3⟩ := (hT.drewN q3).next Hp.out (by have := HMl.out; omega) hD hR (Dst.D a b i k) rfl
                  exact ⟨k + 1, T', by omega, by go_num, h1, h2, h3⟩
                case measure => simp [intOf]; omega
        · have hkM : k = M := by have := HM.out; omega
          have HK := Lib.hid hkM
          clear hkM
          go_wp2
          go_roundw
          case rel =>
            refine ⟨i + 1, T, by omega, by go_num, hT, fun j l hj hl => ?_⟩
            by_cases e : j = i
            · subst e; exact hR l (by have := HK.out; omega)
            · exact hD j l (by omega) hl
          case measure => simp [intOf]; omega
    · have hiN : i = a.length + 1 := by omega
      have HI := Lib.hid hiN
      have hlast := hLM a.length (Nat.le_refl _)
      obtain ⟨p, hp⟩ : ∃ p, p = a.length * M := ⟨_, rfl⟩
      have hpi : IntKind.i64.wrap ((a.length : Int) * ((b.length : Int) + 1)) = (p : Nat) := by
        have hM := HM.out
        have : (a.length : Int) * ((b.length : Int) + 1) = (p : Nat) := by rw [hp, hM]; simp
        rw [this]; exact IntWalk.i64_in _ (by omega)
      rw [← hp] at hlast
      have hM1 : M = b.length + 1 := HM.out
      have hpL : p + b.length < L := by omega
      have hpb : p ≤ 3721 := by omega
      have c1 := hT.row.cell hpL
      have y1 := hD a.length b.length (by omega) (by omega)
      rw [← hp] at y1
      rw [y1] at c1
      clear hiN hM1 y1 hp hD
      go_wp2
      go_ret
      exact ⟨rfl, below_of_since hT.since⟩
end Go.Proofs.Ytenfaneaihdppaa

/- the laws' List: its lines. -/
import Derived.Test.YtmpckoincdkeeaaDoorListI
import Derived.Test.YtmpckoincdkeeaaDoorWd
namespace Go.Proofs.YtmpckoincdkeeaaDoor
open Go.RowKit Go.Deep Go.Own
set_option linter.unusedVariables false
def wordL (i : Nat) : List UInt8 := match wdA[i]? with | some (.string s) => s.data.toList | _ => []
theorem word_at (i : Nat) (h : i < 24) : wdA[i]? = some (.string (mkB (wordL i))) := by
  have h2 : i = 0 ∨ i = 1 ∨ i = 2 ∨ i = 3 ∨ i = 4 ∨ i = 5 ∨ i = 6 ∨ i = 7 ∨ i = 8 ∨ i = 9 ∨ i = 10 ∨ i = 11 ∨ i = 12 ∨ i = 13 ∨ i = 14 ∨ i = 15 ∨ i = 16 ∨ i = 17 ∨ i = 18 ∨ i = 19 ∨ i = 20 ∨ i = 21 ∨ i = 22 ∨ i = 23 := by omega
  rcases h2 with rfl | rfl | rfl | rfl | rfl | rfl | rfl | rfl | rfl | rfl | rfl | rfl | rfl | rfl | rfl | rfl | rfl | rfl | rfl | rfl | rfl | rfl | rfl | rfl <;> rfl
theorem word_size : ∀ i : Fin 24, (wordL i.val).length ≤ 5 := by decide
def flL (i : Nat) : List UInt8 := if i = 0 then [83] else if i = 1 then [85] else if i = 2 then [83, 85] else if i = 3 then [68] else if i = 4 then [82, 83] else [84]
def flA : Array Value := #[.string ⟨#[83]⟩, .string ⟨#[85]⟩, .string ⟨#[83, 85]⟩, .string ⟨#[68]⟩, .string ⟨#[82, 83]⟩, .string ⟨#[84]⟩]
set_option maxRecDepth 100000 in
theorem fl_index (i : Nat) (h : i < 6) : ∀ w : World, (Instr.index 83 (.agg flA) (.int .i64 (i : Nat))).run Tryd.prog w = .ok (.string (mkB (flL i))) w := by
  have h2 : i = 0 ∨ i = 1 ∨ i = 2 ∨ i = 3 ∨ i = 4 ∨ i = 5 := by omega
  rcases h2 with rfl | rfl | rfl | rfl | rfl | rfl <;> exact fun w => by kernel_rfl
def lineK (k : Nat) : List UInt8 := wordL (k % 24) ++ if 0 < k / 24 % 3 then 47 :: flL (k / 72 % 6) else []
def kOfV (v : Int) : Nat := (v % 1048576).toNat
def listL (l : List Int) : List (List UInt8) := (l.take 30).map fun v => lineK (kOfV v)
def listT (l : List Int) : ByteArray := mkB (linesT (listL l))
theorem fl_size (i : Nat) : (flL i).length ≤ 2 := by unfold flL; (repeat' split) <;> decide
theorem line_size (k : Nat) : (lineK k).length ≤ 8 := by
  unfold lineK
  have h1 := word_size ⟨k % 24, Nat.mod_lt _ (by omega)⟩
  have h2 := fl_size (k / 72 % 6)
  simp only at h1
  split
  · rw [List.length_append, List.length_cons]; omega
  · rw [List.length_append, List.length_nil]; omega
theorem linesT_size : ∀ (ls : List (List UInt8)), (∀ l ∈ ls, l.length ≤ 8) → (linesT ls).length ≤ 9 * ls.length
  | [], h => Nat.le_refl _
  | l :: t, h => by
    have := linesT_size t fun x hx => h x (List.mem_cons_of_mem _ hx)
    have h1 := h l List.mem_cons_self
    rw [linesT, List.length_append, List.length_cons, List.length_cons]
    omega
theorem line_at_size (l : List Int) (j : Nat) : (linesT ((l.take j).map fun v => lineK (kOfV v))).length ≤ 9 * j := by
  have := linesT_size ((l.take j).map fun v => lineK (kOfV v)) fun x hx => by
    obtain ⟨v, _, rfl⟩ := List.mem_map.1 hx
    exact line_size _
  rw [List.length_map, List.length_take] at this
  omega
theorem mk_app (a b : List UInt8) : mkB (a ++ b) = mkB a ++ mkB b := by
  apply ByteArray.ext
  rw [ByteArray.data_append]
  apply Array.toList_inj.1
  rw [Array.toList_append]
  simp [mkB]
def z24 : Array Value := #[.string ⟨#[]⟩, .string ⟨#[]⟩, .string ⟨#[]⟩, .string ⟨#[]⟩, .string ⟨#[]⟩, .string ⟨#[]⟩, .string ⟨#[]⟩, .string ⟨#[]⟩, .string ⟨#[]⟩, .string ⟨#[]⟩, .string ⟨#[]⟩, .string ⟨#[]⟩, .string ⟨#[]⟩, .string ⟨#[]⟩, .string ⟨#[]⟩, .string ⟨#[]⟩, .string ⟨#[]⟩, .string ⟨#[]⟩, .string ⟨#[]⟩, .string ⟨#[]⟩, .string ⟨#[]⟩, .string ⟨#[]⟩, .string ⟨#[]⟩, .string ⟨#[]⟩]
theorem store24 (X : Array Value) (hX : X = wdA) (w1 : World) : (storeCells ⟨w1.heap.size, 0, none⟩ X.toList 0).run Tryd.prog (w1.alloc (.cells #[.string ⟨#[]⟩, .string ⟨#[]⟩, .string ⟨#[]⟩, .string ⟨#[]⟩, .string ⟨#[]⟩, .string ⟨#[]⟩, .string ⟨#[]⟩, .string ⟨#[]⟩, .string ⟨#[]⟩, .string ⟨#[]⟩, .string ⟨#[]⟩, .string ⟨#[]⟩, .string ⟨#[]⟩, .string ⟨#[]⟩, .string ⟨#[]⟩, .string ⟨#[]⟩, .string ⟨#[]⟩, .string ⟨#[]⟩, .string ⟨#[]⟩, .string ⟨#[]⟩, .string ⟨#[]⟩, .string ⟨#[]⟩, .string ⟨#[]⟩, .string ⟨#[]⟩] 81)) = .ok () (w1.alloc (.cells X 81)) := by
  subst hX
  exact run_storeCells_new (P := Tryd.prog) w1 81 z24 wdA (by kernel_rfl) rfl (by kernel_rfl)
set_option maxRecDepth 100000 in
set_option maxHeartbeats 8000000 in
theorem list_calls (A : Option Addr) (cap : Nat) (l : List Int) (W : World) (hA : Reads W A l) (hl : l.length ≤ 9223372036854775807) :
    Calls Tryd.prog 20 #[.slice A l.length cap] W fun e w' => e = .returned (.string (listT l)) ∧ Below W.heap.size W w' := by
  have HA := Lib.hid hA
  have CW := Lib.hid (words_calls W)
  clear hA
  obtain ⟨X, hX⟩ : ∃ X, X = wdA := ⟨_, rfl⟩
  rw [← hX] at CW
  have HX := Lib.hid hX
  have hxs : X.size = 24 := by rw [hX]; rfl
  have FST := store24 X hX
  clear hX
  go_enter Tryd.func20, Tryd.ntmps20
  go_wp2_with (fail)
  refine CW.out.mono ?_
  rintro e w1 ⟨rfl, b1⟩
  have B1 := Lib.hid b1
  clear b1 CW
  obtain ⟨w2, hw2⟩ : ∃ w2, w2 = w1.alloc (.cells X 81) := ⟨_, rfl⟩
  obtain ⟨M, hM⟩ : ∃ M, M = w1.heap.size := ⟨_, rfl⟩
  have B2 := Lib.hid (show Below W.heap.size W w2 by rw [hw2]; exact B1.out.alloc B1.out.size _)
  have N2 := Lib.hid (show w2.heap[M]? = some (.cells X 81 (0, 0)) by rw [hw2, hM]; exact blk_alloc_new _ _)
  have HW2 := Lib.hid hw2
  have HM := Lib.hid hM
  clear hw2 hM
  go_upto_region 3 with (fail)
  rw [← HW2.out, ← HM.out]
  clear FST hxs
  have HC := Lib.hid (show ∀ i, i < 24 → w2.cell? ⟨M, i, none⟩ = some (.string (mkB (wordL i))) from fun i hi => by
    have := N2.out
    unfold World.cell?
    rw [this, HX.out]
    show wdA[i]? = _
    exact word_at i hi)
  clear N2 HX HW2 HM
  go_wp2_with (fail)
  go_loopw [3, 5] (fun sv iv wr => ∃ j : Nat, j ≤ l.length ∧ j ≤ 30 ∧ sv = .string (mkB (linesT ((l.take j).map fun v => lineK (kOfV v)))) ∧ iv = .int .i64 (j : Nat) ∧ w2 = wr) (fun _ iv _ => 30 - (intOf iv).toNat)
  case atStart => exact ⟨0, Nat.zero_le _, Nat.zero_le _, rfl, rfl, by first | rfl | trivial⟩
  case round =>
    obtain ⟨j, hj, hj3, rfl, rfl, rfl⟩ := hrel
    have hz := line_at_size l j
    obtain ⟨S, hS⟩ : ∃ S, S = mkB (linesT ((l.take j).map fun v => lineK (kOfV v))) := ⟨_, rfl⟩
    have hSz : S.size ≤ 9 * j := by rw [hS, mk_size]; exact hz
    rw [← hS]
    have HS := Lib.hid hS
    clear hz hS
    by_cases hgo : j < l.length ∧ j < 30
    · obtain ⟨h1, h2⟩ := hgo
      have g2 : decide (j < 30) = true := by simpa using h2
      obtain ⟨v, hv⟩ : ∃ v, l[j]? = some v := ⟨_, List.getElem?_eq_getElem h1⟩
      obtain ⟨q, o, rfl, hc⟩ := reads_at HA.out B2.out hv
      obtain ⟨k, hk, ek, cp⟩ := place_nat v 1048576 (by omega) (by omega)
      have hkv : kOfV v = k := by unfold kOfV; omega
      have CP := Lib.hid cp
      have hstep : mkB (linesT ((l.take (j + 1)).map fun v => lineK (kOfV v))) = S ++ (mkB (lineK k) ++ ⟨#[10]⟩) := by
        have htk : l.take (j + 1) = l.take j ++ [v] := by
          obtain ⟨_, hx⟩ := List.getElem?_eq_some_iff.1 hv
          rw [List.take_succ_eq_append_getElem h1, hx]
        rw [htk, List.map_append, linesT_app, mk_app, ← HS.out]
        congr 1
        show mkB (lineK (kOfV v) ++ [10]) = _
        rw [hkv, mk_app]
        rfl
      have hcw := HC.out (k % 24) (by omega)
      have hwz := word_size ⟨k % 24, Nat.mod_lt _ (by omega)⟩
      simp only at hwz
      obtain ⟨Wd, hWd⟩ : ∃ Wd, Wd = mkB (wordL (k % 24)) := ⟨_, rfl⟩
      have hWz : Wd.size ≤ 5 := by rw [hWd, mk_size]; exact hwz
      rw [← hWd] at hcw
      have FI := fl_index (k / 72 % 6) (by omega)
      rw [show ((k / 72 % 6 : Nat) : Int) = (k : Int) / 72 % 6 by omega] at FI
      unfold flA at FI
      generalize hag : Value.agg _ = ag at FI
      have hfz := fl_size (k / 72 % 6)
      obtain ⟨Fl, hFl⟩ : ∃ Fl, Fl = mkB (flL (k / 72 % 6)) := ⟨_, rfl⟩
      have hFz : Fl.size ≤ 2 := by rw [hFl, mk_size]; exact hfz
      rw [← hFl] at FI
      have HST := Lib.hid hstep
      have HWF := Lib.hid (And.intro hWd hFl)
      clear hv cp hkv hstep hwz hWd hfz hFl ek
      by_cases h3 : 0 < k / 24 % 3
      · have g3 : decide (0 < k / 24 % 3) = true := by simpa using h3
        have g3' : decide ((0 : Int) < (k : Int) / 24 % 3) = true := by simp; omega
        have E := Lib.hid (show mkB (lineK k) = Wd ++ (⟨#[47]⟩ ++ Fl) by
          obtain ⟨e1, e2⟩ := HWF.out
          unfold lineK
          rw [if_pos h3, mk_app, e1, e2, show (47 :: flL (k / 72 % 6)) = [47] ++ flL (k / 72 % 6) from rfl, mk_app]
          rfl)
        clear h3
        go_wp2_with (fail)
        refine (CP.out _).mono ?_
        rintro e wq ⟨rfl, rfl⟩
        clear CP hc
        go_wp2_with (fail)
        go_roundw
        case rel => exact ⟨j + 1, h1, h2, by rw [HST.out, E.out]; simp only [ByteArray.append_assoc], by go_num, by first | rfl | trivial⟩
        case measure => simp [intOf]; omega
      · have g3 : decide (0 < k / 24 % 3) = false := by simpa using h3
        have g3' : decide ((0 : Int) < (k : Int) / 24 % 3) = false := by simp; omega
        have E := Lib.hid (show mkB (lineK k) = Wd by
          obtain ⟨e1, e2⟩ := HWF.out
          unfold lineK
          rw [if_neg h3, List.append_nil, e1])
        clear h3
        go_wp2_with (fail)
        refine (CP.out _).mono ?_
        rintro e wq ⟨rfl, rfl⟩
        clear CP hc
        go_wp2_with (fail)
        go_roundw
        case rel => exact ⟨j + 1, h1, h2, by rw [HST.out, E.out]; simp only [ByteArray.append_assoc], by go_num, by first | rfl | trivial⟩
        case measure => simp [intOf]; omega
    · have hE : l.take j = l.take 30 := by
        by_cases h1 : j < l.length
        · rw [show j = 30 by omega]
        · rw [List.take_of_length_le (by omega), List.take_of_length_le (by omega)]
      have E := Lib.hid (show S = listT l by rw [HS.out, hE]; rfl)
      clear hE
      by_cases h1 : j < l.length
      · have g1 : decide (j < l.length) = true := by simpa using h1
        have g2 : decide (j < 30) = false := by simp; omega
        have g3 : decide ((j : Int) < 30) = false := by simp; omega
        clear hgo
        go_wp2_with (fail)
        go_ret
        exact ⟨by rw [← E.out]; rfl, B2.out⟩
      · have g1 : decide (j < l.length) = false := by simpa using h1
        clear hgo
        go_wp2_with (fail)
        go_ret
        exact ⟨by rw [← E.out]; rfl, B2.out⟩
end Go.Proofs.YtmpckoincdkeeaaDoor

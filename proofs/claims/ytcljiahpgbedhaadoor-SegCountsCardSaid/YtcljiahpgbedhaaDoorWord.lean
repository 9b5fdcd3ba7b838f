/- Word: only the size of what comes. -/
import Derived.Test.YtcljiahpgbedhaaDoorWd
import Derived.Laws.IdiomStrings
namespace Go.Proofs.YtcljiahpgbedhaaDoor
open Go.RowKit Go.Deep Go.Own
set_option linter.unusedVariables false
/-- a block of bytes -/
def BB (w : World) (N n : Nat) (wr : World) : Prop := (∀ j, j < n → (∃ x : Int, 0 ≤ x ∧ x ≤ 255 ∧ wr.cell? ⟨N, j, none⟩ = some (.int .u8 x)) ∧ wr.frozen? ⟨N, j, none⟩ = false) ∧ Below w.heap.size w wr ∧ w.heap.size ≤ N
theorem BB.start {w w1 : World} (s : ByteArray) (cp : Nat) (h : Below w.heap.size w w1) : BB w w1.heap.size s.size (w1.drew.alloc (.cells (bytesRow s cp) 5 ((bytesRow s cp).size, (bytesRow s cp).size + 1))) := by
  refine ⟨fun j hj => ⟨⟨(s.data[j].toNat : Int), by omega, ?_, ?_⟩, ?_⟩, h.trans ((Below.refl _ _).alloc h.size _ |>.trans ⟨rfl, rfl, rfl, Nat.le_refl _, fun _ _ => rfl⟩), h.size⟩
  · have := s.data[j].toNat_lt; omega
  · rw [show w1.heap.size = w1.drew.heap.size from rfl, World.cell?_alloc_mark, bytesRow_at s cp j hj]
  · rw [show w1.heap.size = w1.drew.heap.size from rfl, World.frozen?_alloc_mark]
    have : j < (bytesRow s cp).size := by unfold bytesRow; simp; have : s.data.size = s.size := rfl; omega
    simp; omega
theorem BB.set {w wr : World} {N n j : Nat} {y : Int} (h : BB w N n wr) (hj : j < n) (y0 : 0 ≤ y) (y1 : y ≤ 255) : BB w N n (wr.setCell ⟨N, j, none⟩ (.int .u8 y)) := by
  refine ⟨fun i hi => ?_, h.2.1.setCell h.2.2 _, h.2.2⟩
  obtain ⟨⟨x, x0, x1, hx⟩, fz⟩ := h.1 i hi
  rw [World.frozen?_setCell]
  refine ⟨?_, fz⟩
  by_cases e : i = j
  · subst e
    exact ⟨y, y0, y1, World.cell?_setCell_same _ _ _ hx⟩
  · exact ⟨x, x0, x1, by rw [World.cell?_setCell_other _ _ _ _ (by intro h; injection h with _ h2; omega)]; exact hx⟩
theorem BB.bytes {w wr : World} {N n : Nat} (h : BB w N n wr) : ∃ l : List UInt8, l.length = n ∧ ∀ j (hj : j < l.length), wr.cell? ((⟨N, 0, none⟩ : Addr).add j) = some (.int .u8 (l[j].toNat : Int)) := by
  have hp : ∀ m : Nat, m ≤ n → ∃ l : List UInt8, l.length = m ∧ ∀ j (hj : j < l.length), wr.cell? ⟨N, j, none⟩ = some (.int .u8 (l[j].toNat : Int)) := by
    intro m
    induction m with
    | zero => exact fun _ => ⟨[], rfl, fun j hj => by simp at hj⟩
    | succ m ih =>
      intro hm
      obtain ⟨l, hl, hc⟩ := ih (by omega)
      obtain ⟨⟨x, x0, x1, hx⟩, _⟩ := h.1 m (by omega)
      refine ⟨l ++ [UInt8.ofNat x.toNat], by simp [hl], fun j hj => ?_⟩
      by_cases hjm : j < l.length
      · rw [List.getElem_append_left hjm]; exact hc j hjm
      · have : j = m := by simp at hj; omega
        subst this
        rw [List.getElem_append_right (by omega), hx]
        simp only [hl, Nat.sub_self, List.getElem_cons_zero, UInt8.toNat_ofNat]
        congr 2
        show x = (UInt8.ofNat x.toNat).toNat
        rw [UInt8.toNat_ofNat']
        omega
  obtain ⟨l, hl, hc⟩ := hp n (Nat.le_refl _)
  refine ⟨l, hl, fun j hj => ?_⟩
  rw [show (⟨N, 0, none⟩ : Addr).add j = ⟨N, j, none⟩ from by unfold Addr.add; split <;> simp_all]
  exact hc j hj
theorem one_back (w' : World) (N : Nat) (y : Int) (y0 : 0 ≤ y) (y1 : y ≤ 255) (h : w'.cell? ⟨N, 0, none⟩ = some (.int .u8 y)) : (convert 60 9 (.slice (some ⟨N, 0, none⟩) 1 1)).run Tryd.prog w' = .ok (.string ⟨[UInt8.ofNat y.toNat].toArray⟩) w' :=
  run_convert_bytes_back (P := Tryd.prog) w' 60 9 5 ⟨N, 0, none⟩ 1 [UInt8.ofNat y.toNat] (by kernel_rfl) (by kernel_rfl) (by kernel_rfl) (fun j hj => by
    obtain rfl : j = 0 := by simp at hj; omega
    rw [show (⟨N, 0, none⟩ : Addr).add 0 = ⟨N, 0, none⟩ from by unfold Addr.add; split <;> simp_all, h]
    congr 2
    show y = (UInt8.ofNat y.toNat).toNat
    rw [UInt8.toNat_ofNat']
    omega)
def WdPost (w : World) (n : Nat) (e : Ending) (w' : World) : Prop := (∃ s : ByteArray, e = .returned (.string s) ∧ s.size ≤ n) ∧ Below w.heap.size w w'
set_option maxRecDepth 100000 in
set_option maxHeartbeats 4000000 in
theorem word_0 (v k i : Int) (s : ByteArray) (w : World) (C1 : RowKit.Hid (∀ w : World, Calls Tryd.prog 23 #[.int .i64 v, .int .i64 16777216] w fun e w' => e = .returned (.int .i64 k) ∧ w = w')) (k0 : 0 ≤ k) (k1 : k < 16777216)
    (hi : k % 24 = i) (s1 : 1 ≤ s.size) (s5 : s.size ≤ 5) (HI : ∀ w : World, (Instr.index 78 (.agg wdA) (.int .i64 i)).run Tryd.prog w = .ok (.string s) w) (hc : k / 24 % 9 = 0) :
    Calls Tryd.prog 36 #[.int .i64 v] w (WdPost w 10) := by
  have q0 : (k / 24 % 9 == 0) = true := by rw [hc]; rfl
  clear hc
  go_enter Tryd.func36, Tryd.ntmps36
  go_wp2_with (first
    | (go_at_call 23; refine (C1.out _).mono ?_; rintro e wa ⟨rfl, rfl⟩)
    | (go_at_call 42; refine (words_calls _).mono ?_; rintro e w1 ⟨rfl, b1⟩; have B1 := Lib.hid b1; clear b1))
  go_ret
  exact ⟨⟨_, rfl, by rw [ByteArray.size_append]; show s.size + 1 ≤ 10; omega⟩, B1.out⟩
set_option maxRecDepth 100000 in
set_option maxHeartbeats 4000000 in
theorem word_1 (v k i : Int) (s : ByteArray) (w : World) (C1 : RowKit.Hid (∀ w : World, Calls Tryd.prog 23 #[.int .i64 v, .int .i64 16777216] w fun e w' => e = .returned (.int .i64 k) ∧ w = w')) (k0 : 0 ≤ k) (k1 : k < 16777216)
    (hi : k % 24 = i) (s1 : 1 ≤ s.size) (s5 : s.size ≤ 5) (HI : ∀ w : World, (Instr.index 78 (.agg wdA) (.int .i64 i)).run Tryd.prog w = .ok (.string s) w) (hc : k / 24 % 9 = 1) :
    Calls Tryd.prog 36 #[.int .i64 v] w (WdPost w 10) := by
  have q0 : (k / 24 % 9 == 0) = false := by rw [hc]; rfl
  have q1 : (k / 24 % 9 == 1) = true := by rw [hc]; rfl
  clear hc
  go_enter Tryd.func36, Tryd.ntmps36
  go_wp2_with (first
    | (go_at_call 23; refine (C1.out _).mono ?_; rintro e wa ⟨rfl, rfl⟩)
    | (go_at_call 42; refine (words_calls _).mono ?_; rintro e w1 ⟨rfl, b1⟩; have B1 := Lib.hid b1; clear b1))
  go_ret
  exact ⟨⟨_, rfl, by rw [ByteArray.size_append]; show 2 + s.size ≤ 10; omega⟩, B1.out⟩
set_option maxRecDepth 100000 in
set_option maxHeartbeats 4000000 in
theorem word_2 (v k i : Int) (s : ByteArray) (w : World) (C1 : RowKit.Hid (∀ w : World, Calls Tryd.prog 23 #[.int .i64 v, .int .i64 16777216] w fun e w' => e = .returned (.int .i64 k) ∧ w = w')) (k0 : 0 ≤ k) (k1 : k < 16777216)
    (hi : k % 24 = i) (s1 : 1 ≤ s.size) (s5 : s.size ≤ 5) (HI : ∀ w : World, (Instr.index 78 (.agg wdA) (.int .i64 i)).run Tryd.prog w = .ok (.string s) w) (hc : k / 24 % 9 = 2) :
    Calls Tryd.prog 36 #[.int .i64 v] w (WdPost w 10) := by
  have q0 : (k / 24 % 9 == 0) = false := by rw [hc]; rfl
  have q1 : (k / 24 % 9 == 1) = false := by rw [hc]; rfl
  have q2 : (k / 24 % 9 == 2) = true := by rw [hc]; rfl
  clear hc
  by_cases h1 : 1 < s.size
  · have g1 : decide (1 < s.size) = true := by simpa using h1
    have f1 : ∀ w : World, (Instr.slice 9 (.string s) (some (.int .i64 1)) (some (.int .i64 2)) none).run Tryd.prog w = .ok (.string (s.extract 1 2)) w := fun w => by
      rw [run_slice_string (t := 9) (s := s) (k := .i64) (k' := .i64) (i := 1) (j := 2) (h := Tryd.underlying9)]
      · rfl
      all_goals omega
    have f2 : ∀ w : World, (Instr.slice 9 (.string s) none (some (.int .i64 1)) none).run Tryd.prog w = .ok (.string (s.extract 0 1)) w := fun w => by
      rw [run_slice_string_h (t := 9) (s := s) (ht := Tryd.underlying9) (kh := .i64) (h := 1)]
      · rfl
      all_goals omega
    have f3 : ∀ w : World, (Instr.slice 9 (.string s) (some (.int .i64 2)) none none).run Tryd.prog w = .ok (.string (s.extract 2 s.size)) w := fun w => by
      rw [run_slice_string_l (t := 9) (s := s) (ht := Tryd.underlying9) (kl := .i64) (l := 2)]
      · rfl
      all_goals omega
    go_enter Tryd.func36, Tryd.ntmps36
    go_wp2_with (first
      | (go_at_call 23; refine (C1.out _).mono ?_; rintro e wa ⟨rfl, rfl⟩)
      | (go_at_call 42; refine (words_calls _).mono ?_; rintro e w1 ⟨rfl, b1⟩; have B1 := Lib.hid b1; clear b1))
    refine Own.region_all (fun w' => ∃ n, w' = World.drewN w1 n) (by kernel_rfl) (by kernel_rfl) ⟨1, rfl⟩ ?_
    repeat (go_big_quiet_step (fail))
    refine wpQuiet_nil ?_
    rintro _ ⟨nq, rfl⟩
    go_wp2_with (fail)
    go_ret
    exact ⟨⟨_, rfl, by simp only [ByteArray.size_append, ByteArray.size_extract]; omega⟩, B1.out.trans ⟨rfl, rfl, rfl, Nat.le_refl _, fun _ _ => rfl⟩⟩
  · have g1 : decide (1 < s.size) = false := by simpa using h1
    go_enter Tryd.func36, Tryd.ntmps36
    go_wp2_with (first
      | (go_at_call 23; refine (C1.out _).mono ?_; rintro e wa ⟨rfl, rfl⟩)
      | (go_at_call 42; refine (words_calls _).mono ?_; rintro e w1 ⟨rfl, b1⟩; have B1 := Lib.hid b1; clear b1))
    go_ret
    exact ⟨⟨_, rfl, by omega⟩, B1.out⟩
set_option maxRecDepth 100000 in
set_option maxHeartbeats 4000000 in
theorem word_3 (v k i : Int) (s : ByteArray) (w : World) (C1 : RowKit.Hid (∀ w : World, Calls Tryd.prog 23 #[.int .i64 v, .int .i64 16777216] w fun e w' => e = .returned (.int .i64 k) ∧ w = w')) (k0 : 0 ≤ k) (k1 : k < 16777216)
    (hi : k % 24 = i) (s1 : 1 ≤ s.size) (s5 : s.size ≤ 5) (HI : ∀ w : World, (Instr.index 78 (.agg wdA) (.int .i64 i)).run Tryd.prog w = .ok (.string s) w) (hc : k / 24 % 9 = 3) :
    Calls Tryd.prog 36 #[.int .i64 v] w (WdPost w 10) := by
  have q0 : (k / 24 % 9 == 0) = false := by rw [hc]; rfl
  have q1 : (k / 24 % 9 == 1) = false := by rw [hc]; rfl
  have q2 : (k / 24 % 9 == 2) = false := by rw [hc]; rfl
  have q3 : (k / 24 % 9 == 3) = true := by rw [hc]; rfl
  clear hc
  go_enter Tryd.func36, Tryd.ntmps36
  go_wp2_with (first
    | (go_at_call 23; refine (C1.out _).mono ?_; rintro e wa ⟨rfl, rfl⟩)
    | (go_at_call 42; refine (words_calls _).mono ?_; rintro e w1 ⟨rfl, b1⟩; have B1 := Lib.hid b1; clear b1))
  go_ret
  exact ⟨⟨_, rfl, by rw [ByteArray.size_append]; show s.size + 1 ≤ 10; omega⟩, B1.out⟩
set_option maxRecDepth 100000 in
set_option maxHeartbeats 4000000 in
theorem word_4 (v k i : Int) (s : ByteArray) (w : World) (C1 : RowKit.Hid (∀ w : World, Calls Tryd.prog 23 #[.int .i64 v, .int .i64 16777216] w fun e w' => e = .returned (.int .i64 k) ∧ w = w')) (k0 : 0 ≤ k) (k1 : k < 16777216)
    (hi : k % 24 = i) (s1 : 1 ≤ s.size) (s5 : s.size ≤ 5) (HI : ∀ w : World, (Instr.index 78 (.agg wdA) (.int .i64 i)).run Tryd.prog w = .ok (.string s) w) (hc : k / 24 % 9 = 4) :
    Calls Tryd.prog 36 #[.int .i64 v] w (WdPost w 10) := by
  have q0 : (k / 24 % 9 == 0) = false := by rw [hc]; rfl
  have q1 : (k / 24 % 9 == 1) = false := by rw [hc]; rfl
  have q2 : (k / 24 % 9 == 2) = false := by rw [hc]; rfl
  have q3 : (k / 24 % 9 == 3) = false := by rw [hc]; rfl
  have q4 : (k / 24 % 9 == 4) = true := by rw [hc]; rfl
  clear hc
  by_cases h1 : 2 < s.size
  · have g1 : decide (2 < s.size) = true := by simpa using h1
    go_enter Tryd.func36, Tryd.ntmps36
    go_wp2_with (first
      | (go_at_call 23; refine (C1.out _).mono ?_; rintro e wa ⟨rfl, rfl⟩)
      | (go_at_call 42; refine (words_calls _).mono ?_; rintro e w1 ⟨rfl, b1⟩; have B1 := Lib.hid b1; clear b1))
    go_ret
    exact ⟨⟨_, rfl, by simp only [ByteArray.size_extract]; omega⟩, B1.out⟩
  · have g1 : decide (2 < s.size) = false := by simpa using h1
    go_enter Tryd.func36, Tryd.ntmps36
    go_wp2_with (first
      | (go_at_call 23; refine (C1.out _).mono ?_; rintro e wa ⟨rfl, rfl⟩)
      | (go_at_call 42; refine (words_calls _).mono ?_; rintro e w1 ⟨rfl, b1⟩; have B1 := Lib.hid b1; clear b1))
    go_ret
    exact ⟨⟨_, rfl, by omega⟩, B1.out⟩
set_option maxRecDepth 100000 in
set_option maxHeartbeats 4000000 in
theorem word_5 (v k i : Int) (s : ByteArray) (w : World) (C1 : RowKit.Hid (∀ w : World, Calls Tryd.prog 23 #[.int .i64 v, .int .i64 16777216] w fun e w' => e = .returned (.int .i64 k) ∧ w = w')) (k0 : 0 ≤ k) (k1 : k < 16777216)
    (hi : k % 24 = i) (s1 : 1 ≤ s.size) (s5 : s.size ≤ 5) (HI : ∀ w : World, (Instr.index 78 (.agg wdA) (.int .i64 i)).run Tryd.prog w = .ok (.string s) w) (hc : k / 24 % 9 = 5) :
    Calls Tryd.prog 36 #[.int .i64 v] w (WdPost w 10) := by
  have q0 : (k / 24 % 9 == 0) = false := by rw [hc]; rfl
  have q1 : (k / 24 % 9 == 1) = false := by rw [hc]; rfl
  have q2 : (k / 24 % 9 == 2) = false := by rw [hc]; rfl
  have q3 : (k / 24 % 9 == 3) = false := by rw [hc]; rfl
  have q4 : (k / 24 % 9 == 4) = false := by rw [hc]; rfl
  have q5 : (k / 24 % 9 == 5) = true := by rw [hc]; rfl
  clear hc
  have cv := fun w : World => run_bytes_of_string (P := Tryd.prog) w 9 60 5 s (by kernel_rfl) (by kernel_rfl) (by kernel_rfl)
  go_enter Tryd.func36, Tryd.ntmps36
  go_wp2_with (first
    | (go_at_call 23; refine (C1.out _).mono ?_; rintro e wa ⟨rfl, rfl⟩)
    | (go_at_call 42; refine (words_calls _).mono ?_; rintro e w1 ⟨rfl, b1⟩; have B1 := Lib.hid b1; clear b1))
  clear cv
  obtain ⟨cp, hcp⟩ : ∃ cp, cp = grownCap w1 s.size 0 5 := ⟨_, rfl⟩
  rw [← hcp]
  obtain ⟨N, hN⟩ : ∃ N, N = w1.heap.size := ⟨_, rfl⟩
  obtain ⟨w2, hw2⟩ : ∃ w2, w2 = (w1.alloc (.cells (bytesRow s cp) 5 ((bytesRow s cp).size, (bytesRow s cp).size + 1))).drew := ⟨_, rfl⟩
  rw [← hw2, ← hN]
  have S2 := Lib.hid (show BB w N s.size w2 by
    rw [hw2, hN]
    exact BB.start s cp B1.out)
  clear hw2 hN hcp
  go_loopw [6] (fun i wr => ∃ j : Nat, j ≤ s.size ∧ i = .int .i64 (j : Nat) ∧ BB w N s.size wr) (fun i _ => s.size - (intOf i).toNat)
  case atStart => exact ⟨0, by omega, rfl, S2.out⟩
  case round =>
    obtain ⟨j, hj, rfl, sp⟩ := hrel
    clear S2
    have SP := Lib.hid sp
    by_cases hlt : j < s.size
    · obtain ⟨⟨x, x0, x1, hx⟩, fz⟩ := sp.1 j hlt
      clear sp
      by_cases y1 : 97 ≤ x
      · have t1 : decide (97 ≤ x) = true := by simpa using y1
        by_cases y2 : x ≤ 122
        · have t2 : decide (x ≤ 122) = true := by simpa using y2
          go_wp2_with (fail)
          go_roundw
          case rel => exact ⟨j + 1, by omega, by go_num, SP.out.set hlt (by omega) (by omega)⟩
          case measure => simp [intOf]; omega
        · have t2 : decide (x ≤ 122) = false := by simpa using y2
          go_wp2_with (fail)
          go_roundw
          case rel => exact ⟨j + 1, by omega, by go_num, SP.out⟩
          case measure => simp [intOf]; omega
      · have t1 : decide (97 ≤ x) = false := by simpa using y1
        go_wp2_with (fail)
        go_roundw
        case rel => exact ⟨j + 1, by omega, by go_num, SP.out⟩
        case measure => simp [intOf]; omega
    · obtain ⟨l, hl, hc⟩ := sp.bytes
      clear sp
      have cb := fun cap => run_convert_bytes_back (P := Tryd.prog) wr 60 9 5 ⟨N, 0, none⟩ cap l (by kernel_rfl) (by kernel_rfl) (by kernel_rfl) hc
      rw [hl] at cb
      clear hc
      go_wp2_with (fail)
      go_ret
      exact ⟨⟨_, rfl, by rw [ByteArray.size, List.size_toArray]; omega⟩, SP.out.2.1⟩
set_option maxRecDepth 100000 in
set_option maxHeartbeats 4000000 in
theorem word_6 (v k i : Int) (s : ByteArray) (w : World) (C1 : RowKit.Hid (∀ w : World, Calls Tryd.prog 23 #[.int .i64 v, .int .i64 16777216] w fun e w' => e = .returned (.int .i64 k) ∧ w = w')) (k0 : 0 ≤ k) (k1 : k < 16777216)
    (hi : k % 24 = i) (s1 : 1 ≤ s.size) (s5 : s.size ≤ 5) (HI : ∀ w : World, (Instr.index 78 (.agg wdA) (.int .i64 i)).run Tryd.prog w = .ok (.string s) w) (hc : k / 24 % 9 = 6) :
    Calls Tryd.prog 36 #[.int .i64 v] w (WdPost w 10) := by
  have q0 : (k / 24 % 9 == 0) = false := by rw [hc]; rfl
  have q1 : (k / 24 % 9 == 1) = false := by rw [hc]; rfl
  have q2 : (k / 24 % 9 == 2) = false := by rw [hc]; rfl
  have q3 : (k / 24 % 9 == 3) = false := by rw [hc]; rfl
  have q4 : (k / 24 % 9 == 4) = false := by rw [hc]; rfl
  have q5 : (k / 24 % 9 == 5) = false := by rw [hc]; rfl
  have q6 : (k / 24 % 9 == 6) = true := by rw [hc]; rfl
  clear hc
  obtain ⟨x, x0, x1, HX⟩ : ∃ x : Int, 0 ≤ x ∧ x ≤ 255 ∧ ∀ w : World, (Instr.index 9 (.string s) (.int .i64 0)).run Tryd.prog w = .ok (.int .u8 x) w := by
    refine ⟨((s[0]'(by omega)).toNat : Int), by omega, by have := (s[0]'(by omega)).toNat_lt; omega, fun w => ?_⟩
    rw [run_index_string (t := 9) (s := s) (k := .i64) (i := 0) (h := Tryd.underlying9)]
    rw [dif_pos (by omega)]
    rfl
  by_cases y1 : 97 ≤ x
  · have t1 : decide (97 ≤ x) = true := by simpa using y1
    by_cases y2 : x ≤ 122
    · have t2 : decide (x ≤ 122) = true := by simpa using y2
      go_enter Tryd.func36, Tryd.ntmps36
      go_wp2_with (first
        | (go_at_call 23; refine (C1.out _).mono ?_; rintro e wa ⟨rfl, rfl⟩)
        | (go_at_call 42; refine (words_calls _).mono ?_; rintro e w1 ⟨rfl, b1⟩; have B1 := Lib.hid b1; clear b1))
      refine Own.region_mix (CR [4] [(4, ⟨w1.heap.size, 0, none⟩, .int .u8 (x - 32))]) [4] [0, 1, 3, 7, 15, 0, 32, 127, 255] (Own.Ord.run [(0, true), (1, true), (2, true), (5, true), (6, true), (3, false), (4, true), (7, true), (8, true)] .done) (by kernel_rfl) (by kernel_rfl) (fun dst v c a w h => by cases dst <;> exact h) (fun x hx w => CR.off x hx w) ?_
      simp only [Own.Ord.run]
      repeat (refine Own.st_blind _ rfl rfl (CR.off _ (by decide) _) ?_; go_big_quiet_step (fail); refine wpQuiet_nil ?_)
      refine Own.st_do _ rfl rfl (fun K hK => ?_)
      go_simp
      refine hK _ _ (fun q hq hd _ => ?_) ?_
      · intro _ q hq e; simp only [List.mem_cons, List.mem_nil_iff, or_false] at hq; subst hq <;> first | assumption | (simp at e; done) | (go_simp; done) | (simp; done)
      clear hK K
      refine Own.st_load _ rfl rfl (.string ⟨[UInt8.ofNat (x - 32).toNat].toArray⟩) (fun w' hw' => ?_) ?_ ?_
      · have hg0 := hw'.get (a := ⟨w1.heap.size, 0, none⟩) (v := .int .u8 (x - 32)) (by decide) (by simp)
        have cb := one_back w' w1.heap.size (x - 32) (by omega) (by omega) hg0
        go_simp
      · intro _ q hq e; simp only [List.mem_cons, List.mem_nil_iff, or_false] at hq; subst hq <;> first | assumption | (simp at e; done) | (go_simp; done) | (simp; done)
      simp only [Act.put, List.setIfInBounds_toArray, List.set_cons_succ, List.set_cons_zero]
      repeat (refine Own.st_blind _ rfl rfl (CR.off _ (by decide) _) ?_; go_big_quiet_step (fail); refine wpQuiet_nil ?_)
      refine Own.mix_done ?_
      go_wp2_with (fail)
      go_ret
      exact ⟨⟨_, rfl, by simp only [ByteArray.size_append, ByteArray.size_extract]; show 1 + _ ≤ 10; omega⟩, B1.out.trans ((Below.refl _ _).alloc B1.out.size _).drew⟩
    · have t2 : decide (x ≤ 122) = false := by simpa using y2
      go_enter Tryd.func36, Tryd.ntmps36
      go_wp2_with (first
        | (go_at_call 23; refine (C1.out _).mono ?_; rintro e wa ⟨rfl, rfl⟩)
        | (go_at_call 42; refine (words_calls _).mono ?_; rintro e w1 ⟨rfl, b1⟩; have B1 := Lib.hid b1; clear b1))
      go_ret
      exact ⟨⟨_, rfl, by omega⟩, B1.out⟩
  · have t1 : decide (97 ≤ x) = false := by simpa using y1
    go_enter Tryd.func36, Tryd.ntmps36
    go_wp2_with (first
      | (go_at_call 23; refine (C1.out _).mono ?_; rintro e wa ⟨rfl, rfl⟩)
      | (go_at_call 42; refine (words_calls _).mono ?_; rintro e w1 ⟨rfl, b1⟩; have B1 := Lib.hid b1; clear b1))
    go_ret
    exact ⟨⟨_, rfl, by omega⟩, B1.out⟩
set_option maxRecDepth 100000 in
set_option maxHeartbeats 4000000 in
theorem word_7 (v k i : Int) (s : ByteArray) (w : World) (C1 : RowKit.Hid (∀ w : World, Calls Tryd.prog 23 #[.int .i64 v, .int .i64 16777216] w fun e w' => e = .returned (.int .i64 k) ∧ w = w')) (k0 : 0 ≤ k) (k1 : k < 16777216)
    (hi : k % 24 = i) (s1 : 1 ≤ s.size) (s5 : s.size ≤ 5) (HI : ∀ w : World, (Instr.index 78 (.agg wdA) (.int .i64 i)).run Tryd.prog w = .ok (.string s) w) (hc : k / 24 % 9 = 7) :
    Calls Tryd.prog 36 #[.int .i64 v] w (WdPost w 10) := by
  have q0 : (k / 24 % 9 == 0) = false := by rw [hc]; rfl
  have q1 : (k / 24 % 9 == 1) = false := by rw [hc]; rfl
  have q2 : (k / 24 % 9 == 2) = false := by rw [hc]; rfl
  have q3 : (k / 24 % 9 == 3) = false := by rw [hc]; rfl
  have q4 : (k / 24 % 9 == 4) = false := by rw [hc]; rfl
  have q5 : (k / 24 % 9 == 5) = false := by rw [hc]; rfl
  have q6 : (k / 24 % 9 == 6) = false := by rw [hc]; rfl
  clear hc
  go_enter Tryd.func36, Tryd.ntmps36
  go_wp2_with (first
    | (go_at_call 23; refine (C1.out _).mono ?_; rintro e wa ⟨rfl, rfl⟩)
    | (go_at_call 42; refine (words_calls _).mono ?_; rintro e w1 ⟨rfl, b1⟩; have B1 := Lib.hid b1; clear b1))
  go_ret
  exact ⟨⟨_, rfl, by omega⟩, B1.out⟩
set_option maxRecDepth 100000 in
set_option maxHeartbeats 4000000 in
theorem word_8 (v k i : Int) (s : ByteArray) (w : World) (C1 : RowKit.Hid (∀ w : World, Calls Tryd.prog 23 #[.int .i64 v, .int .i64 16777216] w fun e w' => e = .returned (.int .i64 k) ∧ w = w')) (k0 : 0 ≤ k) (k1 : k < 16777216)
    (hi : k % 24 = i) (s1 : 1 ≤ s.size) (s5 : s.size ≤ 5) (HI : ∀ w : World, (Instr.index 78 (.agg wdA) (.int .i64 i)).run Tryd.prog w = .ok (.string s) w) (hc : k / 24 % 9 = 8) :
    Calls Tryd.prog 36 #[.int .i64 v] w (WdPost w 10) := by
  have q0 : (k / 24 % 9 == 0) = false := by rw [hc]; rfl
  have q1 : (k / 24 % 9 == 1) = false := by rw [hc]; rfl
  have q2 : (k / 24 % 9 == 2) = false := by rw [hc]; rfl
  have q3 : (k / 24 % 9 == 3) = false := by rw [hc]; rfl
  have q4 : (k / 24 % 9 == 4) = false := by rw [hc]; rfl
  have q5 : (k / 24 % 9 == 5) = false := by rw [hc]; rfl
  have q6 : (k / 24 % 9 == 6) = false := by rw [hc]; rfl
  clear hc
  go_enter Tryd.func36, Tryd.ntmps36
  go_wp2_with (first
    | (go_at_call 23; refine (C1.out _).mono ?_; rintro e wa ⟨rfl, rfl⟩)
    | (go_at_call 42; refine (words_calls _).mono ?_; rintro e w1 ⟨rfl, b1⟩; have B1 := Lib.hid b1; clear b1))
  go_ret
  exact ⟨⟨_, rfl, by omega⟩, B1.out⟩
theorem word_calls (v : Int) (w : World) : Calls Tryd.prog 36 #[.int .i64 v] w (WdPost w 10) := by
  have C1 := Lib.hid (fun w : World => place_calls v 16777216 w (by decide) (by decide))
  obtain ⟨k, hk⟩ : ∃ k, k = v % 16777216 := ⟨_, rfl⟩
  rw [← hk] at C1
  obtain ⟨s, s1, s5, HI⟩ := wd_index (k % 24) (by omega) (by omega)
  have hc : k / 24 % 9 = 0 ∨ k / 24 % 9 = 1 ∨ k / 24 % 9 = 2 ∨ k / 24 % 9 = 3 ∨ k / 24 % 9 = 4 ∨ k / 24 % 9 = 5 ∨ k / 24 % 9 = 6 ∨ k / 24 % 9 = 7 ∨ k / 24 % 9 = 8 := by omega
  rcases hc with hc | hc | hc | hc | hc | hc | hc | hc | hc
  · exact word_0 v k _ s w C1 (by omega) (by omega) rfl s1 s5 HI hc
  · exact word_1 v k _ s w C1 (by omega) (by omega) rfl s1 s5 HI hc
  · exact word_2 v k _ s w C1 (by omega) (by omega) rfl s1 s5 HI hc
  · exact word_3 v k _ s w C1 (by omega) (by omega) rfl s1 s5 HI hc
  · exact word_4 v k _ s w C1 (by omega) (by omega) rfl s1 s5 HI hc
  · exact word_5 v k _ s w C1 (by omega) (by omega) rfl s1 s5 HI hc
  · exact word_6 v k _ s w C1 (by omega) (by omega) rfl s1 s5 HI hc
  · exact word_7 v k _ s w C1 (by omega) (by omega) rfl s1 s5 HI hc
  · exact word_8 v k _ s w C1 (by omega) (by omega) rfl s1 s5 HI hc
end Go.Proofs.YtcljiahpgbedhaaDoor

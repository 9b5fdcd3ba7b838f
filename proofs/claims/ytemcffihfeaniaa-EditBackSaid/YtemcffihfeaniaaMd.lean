/- the laws' own flat text: in, insert, remove. -/
import Derived.Test.YtemcffihfeaniaaEdo
namespace Go.Own
open Go Go.RowKit Go.Deep
set_option linter.unusedVariables false
def MdAt (w : World) (m : Nat) (x : ByteArray) (M : Nat) : Prop := w.heap[m]? = some (.cells #[.string x, .int .i64 (M : Nat)] 59 (0, 0))
theorem MdAt.cells {w : World} {m : Nat} {x : ByteArray} {M : Nat} (h : MdAt w m x M) : w.cell? ⟨m, 0, none⟩ = some (.string x) ∧ w.cell? ⟨m, 1, none⟩ = some (.int .i64 (M : Nat)) ∧ ∀ j, w.frozen? ⟨m, j, none⟩ = false := by
  unfold MdAt at h
  refine ⟨?_, ?_, fun j => ?_⟩ <;> simp [World.cell?, World.frozen?, h]
theorem MdAt.drewN {w : World} {m : Nat} {x : ByteArray} {M : Nat} (h : MdAt w m x M) (n : Nat) : MdAt (w.drewN n) m x M := h
end Go.Own
namespace Go.Proofs.Ytemcffihfeaniaa
open Go.RowKit Go.Deep Go.Own
set_option linter.unusedVariables false
set_option maxRecDepth 100000 in
theorem min_yes (s : ByteArray) (a n : Nat) (w : World) (h : a + n ≤ s.size) (hs : s.size ≤ 140737488351232) : Calls Try.prog 65 #[.string s, .int .i64 (a : Nat), .int .i64 (n : Nat)] w fun e w' => e = .returned (.bool true) ∧ w = w' := by
  have g2 : decide (a ≤ s.size) = true := by simp; omega
  have g3 : decide ((n : Int) ≤ (s.size : Int) - (a : Int)) = true := by simp; omega
  go_enter Try.func65, Try.ntmps65
  go_wp2_with (fail)
  go_ret
  exact ⟨rfl, rfl⟩
set_option maxRecDepth 100000 in
theorem min_no (s : ByteArray) (a n : Int) (w : World) (h : ¬ (0 ≤ a ∧ 0 ≤ n ∧ a ≤ s.size ∧ n ≤ s.size - a)) (hs : s.size ≤ 140737488351232) : Calls Try.prog 65 #[.string s, .int .i64 a, .int .i64 n] w fun e w' => e = .returned (.bool false) ∧ w = w' := by
  by_cases h0 : 0 ≤ a
  · have g0 : decide (0 ≤ a) = true := by simpa using h0
    by_cases h1 : 0 ≤ n
    · have g1 : decide (0 ≤ n) = true := by simpa using h1
      obtain ⟨a, rfl⟩ : ∃ k : Nat, a = (k : Int) := ⟨a.toNat, by omega⟩
      obtain ⟨n, rfl⟩ : ∃ k : Nat, n = (k : Int) := ⟨n.toNat, by omega⟩
      by_cases h2 : a ≤ s.size
      · have g2 : decide (a ≤ s.size) = true := by simpa using h2
        have g3 : decide ((n : Int) ≤ (s.size : Int) - (a : Int)) = false := by simp; omega
        clear h
        go_enter Try.func65, Try.ntmps65
        go_wp2_with (fail)
        go_ret
        exact ⟨rfl, rfl⟩
      · have g2 : decide (a ≤ s.size) = false := by simpa using h2
        clear h
        go_enter Try.func65, Try.ntmps65
        go_wp2_with (fail)
        go_ret
        exact ⟨rfl, rfl⟩
    · have g1 : decide (0 ≤ n) = false := by simpa using h1
      clear h
      go_enter Try.func65, Try.ntmps65
      go_wp2_with (fail)
      go_ret
      exact ⟨rfl, rfl⟩
  · have g0 : decide (0 ≤ a) = false := by simpa using h0
    clear h
    go_enter Try.func65, Try.ntmps65
    go_wp2_with (fail)
    go_ret
    exact ⟨rfl, rfl⟩
def MdPost (w : World) (m : Nat) (t : List UInt8) (M : Nat) (w' : World) : Prop := ∃ y : ByteArray, y.data.toList = t ∧ MdAt w' m y M ∧ Fr (fun j => j = m) w w'
theorem MdPost.same {w : World} {m : Nat} {x : ByteArray} {M : Nat} (h : MdAt w m x M) (n : Nat) : MdPost w m x.data.toList M (w.drewN n) := ⟨x, rfl, h, (Fr.refl _ w).step rfl rfl rfl (Nat.le_refl _) (fun _ _ _ => rfl)⟩
theorem MdPost.set {w : World} {m : Nat} {x : ByteArray} {M : Nat} (h : MdAt w m x M) (n : Nat) (y : ByteArray) : MdPost w m y.data.toList M ((w.drewN n).setCell ⟨m, 0, none⟩ (.string y)) := by
  refine ⟨y, rfl, ?_, ?_⟩
  · unfold MdAt at h ⊢
    rw [setCell_same (w := w.drewN n) h]; rfl
  · exact Fr.setCell (F := fun j => j = m) (w := w) (w' := w.drewN n) ⟨rfl, rfl, rfl, Nat.le_refl _, fun _ _ _ => rfl⟩ _ _ (.inl rfl)
set_option maxRecDepth 100000 in
set_option maxHeartbeats 4000000 in
theorem minsert_calls (m : Nat) (x : ByteArray) (M : Nat) (a : Int) (s : ByteArray) (w : World) (h : MdAt w m x M) (hx : x.size ≤ 65536) (hs : s.size ≤ 140737488351232) (hM : M ≤ 65536) :
    Calls Try.prog 63 #[.pointer (some ⟨m, 0, none⟩), .int .i64 a, .string s] w fun e w' => e = .returned (.int .i64 (insR x.data.toList M a s.data.toList).1) ∧ MdPost w m (insR x.data.toList M a s.data.toList).2 M w' := by
  obtain ⟨c0, c1, c2⟩ := h.cells
  have hxl : x.data.toList.length = x.size := by simp
  have hsl : s.data.toList.length = s.size := by simp
  have H := Lib.hid h
  clear h
  by_cases hp : 0 ≤ a ∧ a ≤ x.size
  · obtain ⟨a, rfl⟩ : ∃ j : Nat, a = (j : Int) := ⟨a.toNat, by omega⟩
    have ha : a ≤ x.size := by omega
    have g0 : decide (x.size < a) = false := by simp; omega
    clear hp
    by_cases hb : M < x.size + s.size
    · have E := Lib.hid (insR_big x.data.toList s.data.toList M a (by omega) (by omega))
      have g1 : decide ((M : Int) < (x.size : Int) + (s.size : Int)) = true := by simp; omega
      have g2 : decide (M < x.size + s.size) = true := by simpa using hb
      rw [E.out]
      clear hxl hsl
      go_enter Try.func63, Try.ntmps63
      go_wp2_with (fail)
      refine Own.region_all (fun w' => ∃ n, w' = World.drewN w n) (by kernel_rfl) (by kernel_rfl) ⟨1, rfl⟩ ?_
      repeat (go_big_quiet_step (fail))
      refine wpQuiet_nil ?_
      rintro _ ⟨nq, rfl⟩
      go_wp2_with (fail)
      go_ret
      exact ⟨rfl, MdPost.same H.out _⟩
    · have E := Lib.hid (insR_ok x.data.toList s.data.toList M a (by omega) (by omega))
      have g1 : decide ((M : Int) < (x.size : Int) + (s.size : Int)) = false := by simp; omega
      have g2 : decide (M < x.size + s.size) = false := by simpa using hb
      obtain ⟨y, hy⟩ : ∃ y, y = x.extract 0 a ++ s ++ x.extract a x.size := ⟨_, rfl⟩
      have hyd : y.data.toList = x.data.toList.take a ++ (s.data.toList ++ x.data.toList.drop a) := by
        rw [hy]; simp only [ByteArray.data_append, Array.toList_append, ext_take, ext_drop, List.append_assoc]
      have HY := Lib.hid hy
      rw [E.out, ← hyd]
      clear hxl hsl hy hyd
      go_enter Try.func63, Try.ntmps63
      go_wp2_with (fail)
      refine Own.region_all (fun w' => ∃ n, w' = World.drewN w n) (by kernel_rfl) (by kernel_rfl) ⟨1, rfl⟩ ?_
      repeat (go_big_quiet_step (fail))
      refine wpQuiet_nil ?_
      rintro _ ⟨nq, rfl⟩
      go_wp2_with (fail)
      refine Own.region_tail 18 (fun w' => ∃ n, w' = World.drewN w n) (by kernel_rfl) (by kernel_rfl) ⟨nq + 1, rfl⟩ ?_
      simp only [List.take_succ_cons, List.take_zero, List.drop_succ_cons, List.drop_zero]
      repeat (go_big_quiet_step (fail))
      refine wpQuiet_nil ?_
      rintro _ ⟨nq2, rfl⟩
      rw [← HY.out]
      go_wp2_with (fail)
      go_ret
      exact ⟨rfl, MdPost.set H.out _ y⟩
  · have E := Lib.hid (insR_no x.data.toList s.data.toList M a (by rw [hxl]; exact hp))
    rw [E.out]
    clear hxl hsl
    by_cases h0 : a < 0
    · have g0 : decide (a < 0) = true := by simpa using h0
      clear hp
      go_enter Try.func63, Try.ntmps63
      go_wp2_with (fail)
      go_ret
      exact ⟨rfl, MdPost.same H.out 0⟩
    · have g0 : decide (a < 0) = false := by simpa using h0
      obtain ⟨a, rfl⟩ : ∃ j : Nat, a = (j : Int) := ⟨a.toNat, by omega⟩
      have g1 : decide (x.size < a) = true := by simp; omega
      clear hp
      go_enter Try.func63, Try.ntmps63
      go_wp2_with (fail)
      go_ret
      exact ⟨rfl, MdPost.same H.out 0⟩
set_option maxRecDepth 100000 in
set_option maxHeartbeats 4000000 in
theorem mremove_calls (m : Nat) (x : ByteArray) (M : Nat) (a n : Int) (w : World) (h : MdAt w m x M) (hx : x.size ≤ 65536) :
    Calls Try.prog 64 #[.pointer (some ⟨m, 0, none⟩), .int .i64 a, .int .i64 n] w fun e w' => e = .returned (.int .i64 (delR x.data.toList a n).1) ∧ MdPost w m (delR x.data.toList a n).2 M w' := by
  obtain ⟨c0, c1, c2⟩ := h.cells
  have hxl : x.data.toList.length = x.size := by simp
  have H := Lib.hid h
  clear h
  by_cases hp : 0 ≤ a ∧ 0 ≤ n ∧ a ≤ x.size ∧ n ≤ x.size - a
  · obtain ⟨p1, p2, p3, p4⟩ := hp
    obtain ⟨a, rfl⟩ : ∃ j : Nat, a = (j : Int) := ⟨a.toNat, by omega⟩
    obtain ⟨n, rfl⟩ : ∃ j : Nat, n = (j : Int) := ⟨n.toNat, by omega⟩
    have han : a + n ≤ x.size := by omega
    have CI := Lib.hid (min_yes x a n w han (by omega))
    have E := Lib.hid (delR_ok x.data.toList a n (by omega))
    have sf := slice_from x a n han
    obtain ⟨y, hy⟩ : ∃ y, y = x.extract 0 a ++ x.extract (a + n) x.size := ⟨_, rfl⟩
    have hyd : y.data.toList = x.data.toList.take a ++ x.data.toList.drop (a + n) := by
      rw [hy]; simp only [ByteArray.data_append, Array.toList_append, ext_take, ext_drop]
    have HY := Lib.hid hy
    rw [E.out, ← hyd]
    clear hxl hy hyd p1 p2 p3 p4
    go_enter Try.func64, Try.ntmps64
    go_wp2_with (fail)
    refine CI.out.mono ?_
    rintro e w1 ⟨rfl, rfl⟩
    go_wp2_with (fail)
    refine Own.region_tail 18 (fun w' => ∃ n, w' = World.drewN w n) (by kernel_rfl) (by kernel_rfl) ⟨1, rfl⟩ ?_
    simp only [List.take_succ_cons, List.take_zero, List.drop_succ_cons, List.drop_zero]
    repeat (go_big_quiet_step (fail))
    refine wpQuiet_nil ?_
    rintro _ ⟨nq2, rfl⟩
    rw [← HY.out]
    go_wp2_with (fail)
    go_ret
    exact ⟨rfl, MdPost.set H.out _ y⟩
  · have CI := Lib.hid (min_no x a n w hp (by omega))
    have E := Lib.hid (delR_no x.data.toList a n (by rw [hxl]; exact hp))
    rw [E.out]
    clear hxl hp
    go_enter Try.func64, Try.ntmps64
    go_wp2_with (fail)
    refine CI.out.mono ?_
    rintro e w1 ⟨rfl, rfl⟩
    go_wp2_with (fail)
    go_ret
    exact ⟨rfl, MdPost.same H.out 0⟩
end Go.Proofs.Ytemcffihfeaniaa

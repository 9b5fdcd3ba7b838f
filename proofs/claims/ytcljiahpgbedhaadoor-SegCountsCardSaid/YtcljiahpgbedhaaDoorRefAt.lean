/- The reference's At. -/
import Derived.Test.YtcljiahpgbedhaaDoorRon2
namespace Go.Proofs.YtcljiahpgbedhaaDoor
open Go.RowKit Go.Deep Go.Own
set_option linter.unusedVariables false
set_option maxRecDepth 100000 in
set_option maxHeartbeats 2000000 in
theorem rat_out (s : ByteArray) (i : Int) (w : World) (h : ¬ (0 ≤ i ∧ i < s.size)) :
    Calls Tryd.prog 14 #[.string s, .int .i64 i] w fun e w' => e = .returned (.tuple #[.agg #[.int .i64 0, .int .i64 0, .int .i64 0], .bool false]) ∧ Below w.heap.size w w' := by
  by_cases h0 : i < 0
  · have g0 : decide (i < 0) = true := by simpa using h0
    clear h
    go_enter Tryd.func14, Tryd.ntmps14
    go_wp2_with (fail)
    refine bodyPost_ret (v := .tuple #[.agg #[.int .i64 0, .int .i64 0, .int .i64 0], .bool false]) (by simp [results, Tryd.results14, go_sem]) rfl ⟨rfl, ?_⟩
    exact (Below.refl _ _).alloc (Nat.le_refl _) _
  · have g0 : decide (i < 0) = false := by simpa using h0
    obtain ⟨i, rfl⟩ : ∃ k : Nat, i = (k : Int) := ⟨i.toNat, by omega⟩
    have g1 : decide (s.size ≤ i) = true := by simp; omega
    clear h
    go_enter Tryd.func14, Tryd.ntmps14
    go_wp2_with (fail)
    refine bodyPost_ret (v := .tuple #[.agg #[.int .i64 0, .int .i64 0, .int .i64 0], .bool false]) (by simp [results, Tryd.results14, go_sem]) rfl ⟨rfl, ?_⟩
    exact (Below.refl _ _).alloc (Nat.le_refl _) _
set_option maxRecDepth 100000 in
set_option maxHeartbeats 2000000 in
theorem rat_in (s : ByteArray) (i : Nat) (w : World) (h : i < s.size) (hs : s.size ≤ 140737488351232) :
    Calls Tryd.prog 14 #[.string s, .int .i64 (i : Nat)] w fun e w' => e = .returned (.tuple #[unitV i (uLen s i) (uCode s i), .bool true]) ∧ Below w.heap.size w w' := by
  have g1 : decide (s.size ≤ i) = false := by simp; omega
  have CO := Lib.hid (fun w => one_calls s i w h hs)
  obtain ⟨n, hn⟩ : ∃ n, uLen s i = n := ⟨_, rfl⟩
  obtain ⟨c, hc⟩ : ∃ c, uCode s i = c := ⟨_, rfl⟩
  rw [hn, hc] at CO ⊢
  clear hn hc
  obtain ⟨N, hN⟩ : ∃ N, N = w.heap.size := ⟨_, rfl⟩
  obtain ⟨w1, hw1⟩ : ∃ w1, w1 = w.alloc (.cells #[Value.int .i64 0, .int .i64 0, .int .i64 0] 24) := ⟨_, rfl⟩
  have n1 : w1.heap[N]? = some (.cells #[.int .i64 0, .int .i64 0, .int .i64 0] 24 (0, 0)) := by rw [hw1, hN]; exact blk_new w _
  have B1 := Lib.hid (show Below w.heap.size w w1 by rw [hw1]; exact (Below.refl _ _).alloc (Nat.le_refl _) _)
  have N1 := Lib.hid n1
  have HN := Lib.hid hN
  have HW1 := Lib.hid hw1
  clear n1 hN hw1
  go_enter Tryd.func14, Tryd.ntmps14
  go_wp2_with (fail)
  rw [← HW1.out, ← HN.out]
  refine (CO.out _).mono ?_
  unfold unitV
  rintro e w2 ⟨rfl, b2⟩
  have n2 := (b2.block N (Array.getElem?_eq_some_iff.1 N1.out).1).trans N1.out
  have d0 : w2.cell? ⟨N, 0, none⟩ = some (Value.int .i64 0) := by simp [World.cell?, n2]
  have d1 : w2.cell? ⟨N, 1, none⟩ = some (Value.int .i64 0) := by simp [World.cell?, n2]
  have d2 : w2.cell? ⟨N, 2, none⟩ = some (Value.int .i64 0) := by simp [World.cell?, n2]
  have d3 : ∀ j, w2.frozen? ⟨N, j, none⟩ = false := fun j => by simp [World.frozen?, n2]
  have B2 := Lib.hid b2
  clear b2 n2 CO
  go_wp2_with (fail)
  refine bodyPost_ret (v := .tuple #[.agg #[.int .i64 (i : Nat), .int .i64 (n : Nat), .int .i64 c], .bool true]) (by simp [results, Tryd.results14, go_sem, d0, d1, d2]) rfl ⟨rfl, ?_⟩
  exact (((B1.out.trans (B2.out.mono B1.out.size)).setCell (p := ⟨N, 0, none⟩) (Nat.le_of_eq HN.out.symm) _).setCell (p := ⟨N, 1, none⟩) (Nat.le_of_eq HN.out.symm) _).setCell (p := ⟨N, 2, none⟩) (Nat.le_of_eq HN.out.symm) _
end Go.Proofs.YtcljiahpgbedhaaDoor

/- runes.At; the reference's one unit. -/
import Derived.Test.YtmcnnfpeicnnjaaDoorUtf
import Derived.Test.YtmcnnfpeicnnjaaDoorRep
import Derived.Test.YtmcnnfpeicnnjaaDoorProg
import Derived.Lib.Hide
import Derived.Below
import Derived.Test.YtmcnnfpeicnnjaaDoorShelf
import Derived.Shelf.Unicode.DecodeAny
import Derived.Lib.MapLaws
import Derived.Handy
namespace Go.Proofs.YtmcnnfpeicnnjaaDoor
open Go.RowKit Go.Deep Go.Own
set_option linter.unusedVariables false
def unitV (a n : Nat) (c : Int) : Value := .agg #[.int .i64 (a : Nat), .int .i64 (n : Nat), .int .i64 c]
theorem blk_new (w : World) (o : Obj) : (w.alloc o).heap[w.heap.size]? = some o := by
  show (w.heap.push o)[w.heap.size]? = _
  simp
theorem s_index (s : ByteArray) (i : Nat) (h : i < s.size) (w : World) : (Instr.index 9 (.string s) (.int .i64 (i : Nat))).run Tryd.prog w = .ok (.int .u8 (uB s i : Nat)) w := by
  rw [run_index_string (t := 9) (s := s) (k := .i64) (i := (i : Nat)) (h := Tryd.underlying9), dif_pos ⟨by omega, by omega⟩]
  unfold uB
  rw [Utf8W.get!_of_lt s i h]
  rfl
theorem dec_at (s : ByteArray) (i : Nat) (h : i < s.size) : Lib.decodeGo (s.extract i s.size) = Utf8.decode s i := by
  have hx : (s.extract i s.size).data.toList = s.data.toList.drop i := by
    rw [Lib.extract_data, List.take_of_length_le (by rw [List.length_drop, ← Lib.size_eq]; omega)]
  have hz : (s.extract i s.size).size ≠ 0 := by rw [Lib.size_eq, hx, List.length_drop, ← Lib.size_eq]; omega
  unfold Lib.decodeGo
  rw [if_neg hz, ← Lib.decodeL_drop s i, ← hx]
  rfl
set_option maxRecDepth 100000 in
set_option maxHeartbeats 2000000 in
theorem uat_out (s : ByteArray) (i : Int) (w : World) (h : ¬ (0 ≤ i ∧ i < s.size)) :
    Calls Tryd.prog 57 #[.string s, .int .i64 i] w fun e w' => e = .returned (.tuple #[.agg #[.int .i64 0, .int .i64 0, .int .i64 0], .bool false]) ∧ Below w.heap.size w w' := by
  by_cases h0 : i < 0
  · have g0 : decide (i < 0) = true := by simpa using h0
    clear h
    go_enter Tryd.func57, Tryd.ntmps57
    go_wp2_with (fail)
    refine bodyPost_ret (v := .tuple #[.agg #[.int .i64 0, .int .i64 0, .int .i64 0], .bool false]) (by simp [results, Tryd.results57, go_sem]) rfl ⟨rfl, ?_⟩
    exact (Below.refl _ _).alloc (Nat.le_refl _) _
  · have g0 : decide (i < 0) = false := by simpa using h0
    obtain ⟨i, rfl⟩ : ∃ k : Nat, i = (k : Int) := ⟨i.toNat, by omega⟩
    have g1 : decide (s.size ≤ i) = true := by simp; omega
    clear h
    go_enter Tryd.func57, Tryd.ntmps57
    go_wp2_with (fail)
    refine bodyPost_ret (v := .tuple #[.agg #[.int .i64 0, .int .i64 0, .int .i64 0], .bool false]) (by simp [results, Tryd.results57, go_sem]) rfl ⟨rfl, ?_⟩
    exact (Below.refl _ _).alloc (Nat.le_refl _) _
set_option maxRecDepth 100000 in
set_option maxHeartbeats 2000000 in
theorem uat_in (s : ByteArray) (i : Nat) (w : World) (h : i < s.size) (hs : s.size ≤ 140737488351232) (hT : Lib.Utf8Tabs 0 1 w) :
    Calls Tryd.prog 57 #[.string s, .int .i64 (i : Nat)] w fun e w' => e = .returned (.tuple #[unitV i (uLen s i) (uCode s i), .bool true]) ∧ Below w.heap.size w w' := by
  have g1 : decide (s.size ≤ i) = false := by simp; omega
  have HX := s_index s i h
  have hdec := dec_at s i h
  obtain ⟨r, hr⟩ : ∃ r, (Utf8.decode s i).1 = r := ⟨_, rfl⟩
  obtain ⟨n, hn⟩ : ∃ n, (Utf8.decode s i).2 = n := ⟨_, rfl⟩
  have hmax : r ≤ 1114111 := by rw [← hr]; exact u_max s i
  have hn4 : n ≤ 4 := by rw [← hn]; exact u_len4 s i
  have hb := uB_lt s i
  have hcode : uCode s i = if r = 65533 ∧ n = 1 then -1 - (uB s i : Int) else (r : Int) := by unfold uCode; rw [hr, hn]
  have hlen : uLen s i = n := hn
  obtain ⟨w1, hw1⟩ : ∃ w1, w1 = w.alloc (.cells #[Value.int .i64 0, .int .i64 0, .int .i64 0] 103) := ⟨_, rfl⟩
  have hb1 : Below w.heap.size w w1 := by rw [hw1]; exact (Below.refl _ _).alloc (Nat.le_refl _) _
  have C1 := Lib.hid (Tryd.utf8_DecodeRuneInString (s.extract i s.size) w1 (Utf8Tabs_below hT hb1))
  rw [hdec, hr, hn] at C1
  obtain ⟨N, hN⟩ : ∃ N, N = w.heap.size := ⟨_, rfl⟩
  have n1 : w1.heap[N]? = some (.cells #[Value.int .i64 0, .int .i64 0, .int .i64 0] 103 (0, 0)) := by rw [hw1, hN]; exact blk_new w _
  have N1 := Lib.hid n1
  have HN := Lib.hid hN
  have HW1 := Lib.hid hw1
  have B1 := Lib.hid hb1
  rw [hlen, hcode]
  clear hdec hT hr hn hcode hlen n1 hb1 hN hw1
  by_cases hbad : r = 65533 ∧ n = 1
  · obtain ⟨rfl, rfl⟩ := hbad
    rw [if_pos ⟨rfl, rfl⟩]
    go_enter Tryd.func57, Tryd.ntmps57
    go_wp2_with (fail)
    rw [← HW1.out, ← HN.out]
    refine C1.out.mono ?_
    rintro e w2 ⟨rfl, b2⟩
    have n2 := (b2.block N (Array.getElem?_eq_some_iff.1 N1.out).1).trans N1.out
    have d0 : w2.cell? ⟨N, 0, none⟩ = some (Value.int .i64 0) := by simp [World.cell?, n2]
    have d1 : w2.cell? ⟨N, 1, none⟩ = some (Value.int .i64 0) := by simp [World.cell?, n2]
    have d2 : w2.cell? ⟨N, 2, none⟩ = some (Value.int .i64 0) := by simp [World.cell?, n2]
    have d3 : ∀ j, w2.frozen? ⟨N, j, none⟩ = false := fun j => by simp [World.frozen?, n2]
    have B2 := Lib.hid b2
    clear b2 n2 C1
    go_wp2_with (fail)
    refine bodyPost_ret (v := .tuple #[.agg #[.int .i64 (i : Nat), .int .i64 1, .int .i64 (-1 - (uB s i : Int))], .bool true]) (by simp [results, Tryd.results57, go_sem, d0, d1, d2]) rfl ⟨rfl, ?_⟩
    exact (((B1.out.trans (B2.out.mono B1.out.size)).setCell (p := ⟨N, 0, none⟩) (Nat.le_of_eq HN.out.symm) _).setCell (p := ⟨N, 1, none⟩) (Nat.le_of_eq HN.out.symm) _).setCell (p := ⟨N, 2, none⟩) (Nat.le_of_eq HN.out.symm) _
  · rw [if_neg hbad]
    by_cases hr : r = 65533
    · subst hr
      have g3 : ((n : Int) == 1) = false := by simp; omega
      have g4 : decide ((n : Int) = 1) = false := by simp; omega
      go_enter Tryd.func57, Tryd.ntmps57
      go_wp2_with (fail)
      rw [← HW1.out, ← HN.out]
      refine C1.out.mono ?_
      rintro e w2 ⟨rfl, b2⟩
      have n2 := (b2.block N (Array.getElem?_eq_some_iff.1 N1.out).1).trans N1.out
      have d0 : w2.cell? ⟨N, 0, none⟩ = some (Value.int .i64 0) := by simp [World.cell?, n2]
      have d1 : w2.cell? ⟨N, 1, none⟩ = some (Value.int .i64 0) := by simp [World.cell?, n2]
      have d2 : w2.cell? ⟨N, 2, none⟩ = some (Value.int .i64 0) := by simp [World.cell?, n2]
      have d3 : ∀ j, w2.frozen? ⟨N, j, none⟩ = false := fun j => by simp [World.frozen?, n2]
      have B2 := Lib.hid b2
      clear b2 n2 C1
      go_wp2_with (fail)
      refine bodyPost_ret (v := .tuple #[.agg #[.int .i64 (i : Nat), .int .i64 (n : Nat), .int .i64 65533], .bool true]) (by simp [results, Tryd.results57, go_sem, d0, d1, d2]) rfl ⟨rfl, ?_⟩
      exact (((B1.out.trans (B2.out.mono B1.out.size)).setCell (p := ⟨N, 0, none⟩) (Nat.le_of_eq HN.out.symm) _).setCell (p := ⟨N, 1, none⟩) (Nat.le_of_eq HN.out.symm) _).setCell (p := ⟨N, 2, none⟩) (Nat.le_of_eq HN.out.symm) _
    · have g2 : ((r : Int) == 65533) = false := by simp; omega
      go_enter Tryd.func57, Tryd.ntmps57
      go_wp2_with (fail)
      rw [← HW1.out, ← HN.out]
      refine C1.out.mono ?_
      rintro e w2 ⟨rfl, b2⟩
      have n2 := (b2.block N (Array.getElem?_eq_some_iff.1 N1.out).1).trans N1.out
      have d0 : w2.cell? ⟨N, 0, none⟩ = some (Value.int .i64 0) := by simp [World.cell?, n2]
      have d1 : w2.cell? ⟨N, 1, none⟩ = some (Value.int .i64 0) := by simp [World.cell?, n2]
      have d2 : w2.cell? ⟨N, 2, none⟩ = some (Value.int .i64 0) := by simp [World.cell?, n2]
      have d3 : ∀ j, w2.frozen? ⟨N, j, none⟩ = false := fun j => by simp [World.frozen?, n2]
      have B2 := Lib.hid b2
      clear b2 n2 C1
      go_wp2_with (fail)
      refine bodyPost_ret (v := .tuple #[.agg #[.int .i64 (i : Nat), .int .i64 (n : Nat), .int .i64 (r : Nat)], .bool true]) (by simp [results, Tryd.results57, go_sem, d0, d1, d2]) rfl ⟨rfl, ?_⟩
      exact (((B1.out.trans (B2.out.mono B1.out.size)).setCell (p := ⟨N, 0, none⟩) (Nat.le_of_eq HN.out.symm) _).setCell (p := ⟨N, 1, none⟩) (Nat.le_of_eq HN.out.symm) _).setCell (p := ⟨N, 2, none⟩) (Nat.le_of_eq HN.out.symm) _
end Go.Proofs.YtmcnnfpeicnnjaaDoor

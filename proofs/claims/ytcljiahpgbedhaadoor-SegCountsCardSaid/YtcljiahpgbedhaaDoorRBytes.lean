/- A code point's bytes: the reference's. -/
import Derived.Test.YtcljiahpgbedhaaDoorUBytes
namespace Go.Proofs.YtcljiahpgbedhaaDoor
open Go.RowKit Go.Deep Go.Own
set_option linter.unusedVariables false
theorem and63' (c : Nat) (h : c < 1114112) : bits .and .i64 (c : Int) 63 = ((c % 64 : Nat) : Int) := by
  have := bits_mask .i64 62 (by decide) wraps_i64 6 (by decide) (c : Int) (by omega) (by omega)
  simpa using this
theorem or192 (b : Nat) (hb : b < 32) : bits .or .i64 192 (b : Int) = ((192 + b : Nat) : Int) := by
  have := bits_join .i64 62 (by decide) wraps_i64 5 192 (b : Int) (by omega) (by omega) (by omega) (by omega) (by omega) (by omega)
  rw [this]; omega
theorem or224 (b : Nat) (hb : b < 16) : bits .or .i64 224 (b : Int) = ((224 + b : Nat) : Int) := by
  have := bits_join .i64 62 (by decide) wraps_i64 4 224 (b : Int) (by omega) (by omega) (by omega) (by omega) (by omega) (by omega)
  rw [this]; omega
theorem or240 (b : Nat) (hb : b < 8) : bits .or .i64 240 (b : Int) = ((240 + b : Nat) : Int) := by
  have := bits_join .i64 62 (by decide) wraps_i64 3 240 (b : Int) (by omega) (by omega) (by omega) (by omega) (by omega) (by omega)
  rw [this]; omega
theorem or128 (b : Nat) (hb : b < 64) : bits .or .i64 128 (b : Int) = ((128 + b : Nat) : Int) := by
  have := bits_join .i64 62 (by decide) wraps_i64 6 128 (b : Int) (by omega) (by omega) (by omega) (by omega) (by omega) (by omega)
  rw [this]; omega
theorem and63a (c : Nat) (h : c < 1114112) : bits .and .i64 (c : Int) 63 = (c : Int) % 64 := by rw [and63' c h]; omega
theorem and63b (c : Nat) (h : c < 1114112) : bits .and .i64 ((c : Int) / 64) 63 = (c : Int) / 64 % 64 := by
  have := and63a (c / 64) (by omega)
  simpa using this
theorem and63c (c : Nat) (h : c < 1114112) : bits .and .i64 ((c : Int) / 4096) 63 = (c : Int) / 4096 % 64 := by
  have := and63a (c / 4096) (by omega)
  simpa using this
set_option maxRecDepth 100000 in
set_option maxHeartbeats 4000000 in
theorem rbytes_none (c : Int) (w : World) (hv : ¬ Utf8.valid c = true) :
    Calls Tryd.prog 21 #[.int .i64 c] w fun e w' => e = .returned (.string ⟨#[]⟩) ∧ Below w.heap.size w w' := by
  rw [valid_int] at hv
  by_cases h0 : c < 0
  · have g0 : decide (c < 0) = true := by simpa using h0
    clear h0 hv
    go_enter Tryd.func21, Tryd.ntmps21
    go_wp2_with (fail)
    go_ret
    exact ⟨rfl, Below.refl _ _⟩
  · have g0 : decide (c < 0) = false := by simpa using h0
    by_cases h1 : 1114111 < c
    · have g1 : decide (1114111 < c) = true := by simpa using h1
      clear h0 h1 hv
      go_enter Tryd.func21, Tryd.ntmps21
      go_wp2_with (fail)
      go_ret
      exact ⟨rfl, Below.refl _ _⟩
    · have g1 : decide (1114111 < c) = false := by simpa using h1
      have g3 : decide (55296 ≤ c) = true := by simp; omega
      have g4 : decide (c ≤ 57343) = true := by simp; omega
      clear h0 h1 hv
      go_enter Tryd.func21, Tryd.ntmps21
      go_wp2_with (fail)
      go_ret
      exact ⟨rfl, Below.refl _ _⟩
theorem back_bytes (w w' : World) (N : Nat) (l : List Nat) (h8 : ∀ x ∈ l, x < 256) (h : w'.heap[N]? = some (.cells (l.map fun x => Value.int .u8 (x : Nat)).toArray 5 (0, 0))) :
    (convert 60 9 (.slice (some ⟨N, 0, none⟩) l.length l.length)).run Tryd.prog w' = .ok (.string ⟨(l.map fun x => x.toUInt8).toArray⟩) w' := by
  have := run_convert_bytes_back (P := Tryd.prog) w' 60 9 5 ⟨N, 0, none⟩ l.length (l.map fun x => x.toUInt8) (by kernel_rfl) (by kernel_rfl) (by kernel_rfl) (fun j hj => by
    rw [List.length_map] at hj
    have e1 : (⟨N, 0, none⟩ : Addr).add j = ⟨N, j, none⟩ := by unfold Addr.add; split <;> simp_all
    rw [e1]
    have h9 := h8 l[j] (List.getElem_mem hj)
    simp [World.cell?, h, hj]
    try omega)
  rw [List.length_map] at this
  exact this
set_option maxRecDepth 100000 in
set_option maxHeartbeats 4000000 in
theorem rbytes_one (c : Nat) (w : World) (h0 : 0 ≤ c) (h1 : c < 128) :
    Calls Tryd.prog 21 #[.int .i64 (c : Nat)] w fun e w' => e = .returned (.string ⟨#[(c).toUInt8]⟩) ∧ Below w.heap.size w w' := by
  have g0 : decide ((c : Int) < 0) = false := by simp
  have g1 : decide ((1114111 : Int) < (c : Int)) = false := by simp; omega
  have g3 : decide ((55296 : Int) ≤ (c : Int)) = false := by simp; omega
  have t1 : decide ((c : Int) < 128) = true := by simp; omega
  have l0 : c < 256 := by omega
  have m0 : (c : Int) % 256 = (c : Nat) := by omega
  obtain ⟨N, hN⟩ : ∃ N, N = w.heap.size := ⟨_, rfl⟩
  obtain ⟨w1, hw1⟩ : ∃ w1, w1 = w.alloc (.cells #[Value.int .u8 (c : Nat)] 5) := ⟨_, rfl⟩
  have B1 := Lib.hid (show Below w.heap.size w w1 by rw [hw1]; exact (Below.refl _ _).alloc (Nat.le_refl _) _)
  have CB := Lib.hid (back_bytes w w1 N [c] (by simp; omega) (by rw [hw1, hN]; exact blk_new w _))
  have HN := Lib.hid hN
  have HW := Lib.hid hw1
  clear hN hw1
  go_enter Tryd.func21, Tryd.ntmps21
  go_wp2_with (fail)
  rw [← HW.out, ← HN.out]
  have cb := CB.out
  simp only [List.length_cons, List.length_nil, List.map_cons, List.map_nil, Nat.zero_add, Nat.reduceAdd] at cb
  rw [cb]
  go_wp2_with (fail)
  go_ret
  exact ⟨rfl, B1.out⟩
set_option maxRecDepth 100000 in
set_option maxHeartbeats 4000000 in
theorem rbytes_two (c : Nat) (w : World) (h0 : 128 ≤ c) (h1 : c < 2048) :
    Calls Tryd.prog 21 #[.int .i64 (c : Nat)] w fun e w' => e = .returned (.string ⟨#[(192 + c / 64).toUInt8, (128 + c % 64).toUInt8]⟩) ∧ Below w.heap.size w w' := by
  have g0 : decide ((c : Int) < 0) = false := by simp
  have g1 : decide ((1114111 : Int) < (c : Int)) = false := by simp; omega
  have g3 : decide ((55296 : Int) ≤ (c : Int)) = false := by simp; omega
  have t1 : decide ((c : Int) < 128) = false := by simp; omega
  have t2 : decide ((c : Int) < 2048) = true := by simp; omega
  have aa := and63a c (by omega)
  obtain ⟨x0, hx0⟩ : ∃ x, x = 192 + c / 64 := ⟨_, rfl⟩
  have l0 : x0 < 256 := by omega
  have m0 : (x0 : Int) % 256 = (x0 : Nat) := by omega
  have b0 : bits .or .i64 192 ((c : Int) / 64) = (x0 : Nat) := by
    have := or192 (c / 64) (by omega)
    rw [hx0]; simpa using this
  obtain ⟨x1, hx1⟩ : ∃ x, x = 128 + c % 64 := ⟨_, rfl⟩
  have l1 : x1 < 256 := by omega
  have m1 : (x1 : Int) % 256 = (x1 : Nat) := by omega
  have b1 : bits .or .i64 128 ((c : Int) % 64) = (x1 : Nat) := by
    have := or128 (c % 64) (by omega)
    rw [hx1]; simpa using this
  rw [← hx0, ← hx1]
  obtain ⟨N, hN⟩ : ∃ N, N = w.heap.size := ⟨_, rfl⟩
  obtain ⟨w1, hw1⟩ : ∃ w1, w1 = w.alloc (.cells #[Value.int .u8 (x0 : Nat), Value.int .u8 (x1 : Nat)] 5) := ⟨_, rfl⟩
  have B1 := Lib.hid (show Below w.heap.size w w1 by rw [hw1]; exact (Below.refl _ _).alloc (Nat.le_refl _) _)
  have CB := Lib.hid (back_bytes w w1 N [x0, x1] (by simp; omega) (by rw [hw1, hN]; exact blk_new w _))
  have HN := Lib.hid hN
  have HW := Lib.hid hw1
  clear hN hw1 hx0 hx1
  go_enter Tryd.func21, Tryd.ntmps21
  go_wp2_with (fail)
  rw [← HW.out, ← HN.out]
  have cb := CB.out
  simp only [List.length_cons, List.length_nil, List.map_cons, List.map_nil, Nat.zero_add, Nat.reduceAdd] at cb
  rw [cb]
  go_wp2_with (fail)

  go_ret
  exact ⟨rfl, B1.out⟩
set_option maxRecDepth 100000 in
set_option maxHeartbeats 4000000 in
theorem rbytes_threeA (c : Nat) (w : World) (h0 : 2048 ≤ c) (h1 : c < 55296) :
    Calls Tryd.prog 21 #[.int .i64 (c : Nat)] w fun e w' => e = .returned (.string ⟨#[(224 + c / 4096).toUInt8, (128 + c / 64 % 64).toUInt8, (128 + c % 64).toUInt8]⟩) ∧ Below w.heap.size w w' := by
  have g0 : decide ((c : Int) < 0) = false := by simp
  have g1 : decide ((1114111 : Int) < (c : Int)) = false := by simp; omega
  have g3 : decide ((55296 : Int) ≤ (c : Int)) = false := by simp; omega
  have t1 : decide ((c : Int) < 128) = false := by simp; omega
  have t2 : decide ((c : Int) < 2048) = false := by simp; omega
  have t3 : decide ((c : Int) < 65536) = true := by simp; omega
  have aa := and63a c (by omega)
  have ab := and63b c (by omega)
  obtain ⟨x0, hx0⟩ : ∃ x, x = 224 + c / 4096 := ⟨_, rfl⟩
  have l0 : x0 < 256 := by omega
  have m0 : (x0 : Int) % 256 = (x0 : Nat) := by omega
  have b0 : bits .or .i64 224 ((c : Int) / 4096) = (x0 : Nat) := by
    have := or224 (c / 4096) (by omega)
    rw [hx0]; simpa using this
  obtain ⟨x1, hx1⟩ : ∃ x, x = 128 + c / 64 % 64 := ⟨_, rfl⟩
  have l1 : x1 < 256 := by omega
  have m1 : (x1 : Int) % 256 = (x1 : Nat) := by omega
  have b1 : bits .or .i64 128 ((c : Int) / 64 % 64) = (x1 : Nat) := by
    have := or128 (c / 64 % 64) (by omega)
    rw [hx1]; simpa using this
  obtain ⟨x2, hx2⟩ : ∃ x, x = 128 + c % 64 := ⟨_, rfl⟩
  have l2 : x2 < 256 := by omega
  have m2 : (x2 : Int) % 256 = (x2 : Nat) := by omega
  have b2 : bits .or .i64 128 ((c : Int) % 64) = (x2 : Nat) := by
    have := or128 (c % 64) (by omega)
    rw [hx2]; simpa using this
  rw [← hx0, ← hx1, ← hx2]
  obtain ⟨N, hN⟩ : ∃ N, N = w.heap.size := ⟨_, rfl⟩
  obtain ⟨w1, hw1⟩ : ∃ w1, w1 = w.alloc (.cells #[Value.int .u8 (x0 : Nat), Value.int .u8 (x1 : Nat), Value.int .u8 (x2 : Nat)] 5) := ⟨_, rfl⟩
  have B1 := Lib.hid (show Below w.heap.size w w1 by rw [hw1]; exact (Below.refl _ _).alloc (Nat.le_refl _) _)
  have CB := Lib.hid (back_bytes w w1 N [x0, x1, x2] (by simp; omega) (by rw [hw1, hN]; exact blk_new w _))
  have HN := Lib.hid hN
  have HW := Lib.hid hw1
  clear hN hw1 hx0 hx1 hx2
  go_enter Tryd.func21, Tryd.ntmps21
  go_wp2_with (fail)
  rw [← HW.out, ← HN.out]
  have cb := CB.out
  simp only [List.length_cons, List.length_nil, List.map_cons, List.map_nil, Nat.zero_add, Nat.reduceAdd] at cb
  rw [cb]
  go_wp2_with (fail)
  go_ret
  exact ⟨rfl, B1.out⟩
set_option maxRecDepth 100000 in
set_option maxHeartbeats 4000000 in
theorem rbytes_threeB (c : Nat) (w : World) (h0 : 57344 ≤ c) (h1 : c < 65536) :
    Calls Tryd.prog 21 #[.int .i64 (c : Nat)] w fun e w' => e = .returned (.string ⟨#[(224 + c / 4096).toUInt8, (128 + c / 64 % 64).toUInt8, (128 + c % 64).toUInt8]⟩) ∧ Below w.heap.size w w' := by
  have g0 : decide ((c : Int) < 0) = false := by simp
  have g1 : decide ((1114111 : Int) < (c : Int)) = false := by simp; omega
  have g3 : decide ((55296 : Int) ≤ (c : Int)) = true := by simp; omega
  have g4 : decide ((c : Int) ≤ 57343) = false := by simp; omega
  have t1 : decide ((c : Int) < 128) = false := by simp; omega
  have t2 : decide ((c : Int) < 2048) = false := by simp; omega
  have t3 : decide ((c : Int) < 65536) = true := by simp; omega
  have aa := and63a c (by omega)
  have ab := and63b c (by omega)
  obtain ⟨x0, hx0⟩ : ∃ x, x = 224 + c / 4096 := ⟨_, rfl⟩
  have l0 : x0 < 256 := by omega
  have m0 : (x0 : Int) % 256 = (x0 : Nat) := by omega
  have b0 : bits .or .i64 224 ((c : Int) / 4096) = (x0 : Nat) := by
    have := or224 (c / 4096) (by omega)
    rw [hx0]; simpa using this
  obtain ⟨x1, hx1⟩ : ∃ x, x = 128 + c / 64 % 64 := ⟨_, rfl⟩
  have l1 : x1 < 256 := by omega
  have m1 : (x1 : Int) % 256 = (x1 : Nat) := by omega
  have b1 : bits .or .i64 128 ((c : Int) / 64 % 64) = (x1 : Nat) := by
    have := or128 (c / 64 % 64) (by omega)
    rw [hx1]; simpa using this
  obtain ⟨x2, hx2⟩ : ∃ x, x = 128 + c % 64 := ⟨_, rfl⟩
  have l2 : x2 < 256 := by omega
  have m2 : (x2 : Int) % 256 = (x2 : Nat) := by omega
  have b2 : bits .or .i64 128 ((c : Int) % 64) = (x2 : Nat) := by
    have := or128 (c % 64) (by omega)
    rw [hx2]; simpa using this
  rw [← hx0, ← hx1, ← hx2]
  obtain ⟨N, hN⟩ : ∃ N, N = w.heap.size := ⟨_, rfl⟩
  obtain ⟨w1, hw1⟩ : ∃ w1, w1 = w.alloc (.cells #[Value.int .u8 (x0 : Nat), Value.int .u8 (x1 : Nat), Value.int .u8 (x2 : Nat)] 5) := ⟨_, rfl⟩
  have B1 := Lib.hid (show Below w.heap.size w w1 by rw [hw1]; exact (Below.refl _ _).alloc (Nat.le_refl _) _)
  have CB := Lib.hid (back_bytes w w1 N [x0, x1, x2] (by simp; omega) (by rw [hw1, hN]; exact blk_new w _))
  have HN := Lib.hid hN
  have HW := Lib.hid hw1
  clear hN hw1 hx0 hx1 hx2
  go_enter Tryd.func21, Tryd.ntmps21
  go_wp2_with (fail)
  rw [← HW.out, ← HN.out]
  have cb := CB.out
  simp only [List.length_cons, List.length_nil, List.map_cons, List.map_nil, Nat.zero_add, Nat.reduceAdd] at cb
  rw [cb]
  go_wp2_with (fail)
  go_ret
  exact ⟨rfl, B1.out⟩
set_option maxRecDepth 100000 in
set_option maxHeartbeats 4000000 in
theorem rbytes_four (c : Nat) (w : World) (h0 : 65536 ≤ c) (h1 : c < 1114112) :
    Calls Tryd.prog 21 #[.int .i64 (c : Nat)] w fun e w' => e = .returned (.string ⟨#[(240 + c / 262144).toUInt8, (128 + c / 4096 % 64).toUInt8, (128 + c / 64 % 64).toUInt8, (128 + c % 64).toUInt8]⟩) ∧ Below w.heap.size w w' := by
  have g0 : decide ((c : Int) < 0) = false := by simp
  have g1 : decide ((1114111 : Int) < (c : Int)) = false := by simp; omega
  have g3 : decide ((55296 : Int) ≤ (c : Int)) = true := by simp; omega
  have g4 : decide ((c : Int) ≤ 57343) = false := by simp; omega
  have t1 : decide ((c : Int) < 128) = false := by simp; omega
  have t2 : decide ((c : Int) < 2048) = false := by simp; omega
  have t3 : decide ((c : Int) < 65536) = false := by simp; omega
  have aa := and63a c (by omega)
  have ab := and63b c (by omega)
  have ac := and63c c (by omega)
  obtain ⟨x0, hx0⟩ : ∃ x, x = 240 + c / 262144 := ⟨_, rfl⟩
  have l0 : x0 < 256 := by omega
  have m0 : (x0 : Int) % 256 = (x0 : Nat) := by omega
  have b0 : bits .or .i64 240 ((c : Int) / 262144) = (x0 : Nat) := by
    have := or240 (c / 262144) (by omega)
    rw [hx0]; simpa using this
  obtain ⟨x1, hx1⟩ : ∃ x, x = 128 + c / 4096 % 64 := ⟨_, rfl⟩
  have l1 : x1 < 256 := by omega
  have m1 : (x1 : Int) % 256 = (x1 : Nat) := by omega
  have b1 : bits .or .i64 128 ((c : Int) / 4096 % 64) = (x1 : Nat) := by
    have := or128 (c / 4096 % 64) (by omega)
    rw [hx1]; simpa using this
  obtain ⟨x2, hx2⟩ : ∃ x, x = 128 + c / 64 % 64 := ⟨_, rfl⟩
  have l2 : x2 < 256 := by omega
  have m2 : (x2 : Int) % 256 = (x2 : Nat) := by omega
  have b2 : bits .or .i64 128 ((c : Int) / 64 % 64) = (x2 : Nat) := by
    have := or128 (c / 64 % 64) (by omega)
    rw [hx2]; simpa using this
  obtain ⟨x3, hx3⟩ : ∃ x, x = 128 + c % 64 := ⟨_, rfl⟩
  have l3 : x3 < 256 := by omega
  have m3 : (x3 : Int) % 256 = (x3 : Nat) := by omega
  have b3 : bits .or .i64 128 ((c : Int) % 64) = (x3 : Nat) := by
    have := or128 (c % 64) (by omega)
    rw [hx3]; simpa using this
  rw [← hx0, ← hx1, ← hx2, ← hx3]
  obtain ⟨N, hN⟩ : ∃ N, N = w.heap.size := ⟨_, rfl⟩
  obtain ⟨w1, hw1⟩ : ∃ w1, w1 = w.alloc (.cells #[Value.int .u8 (x0 : Nat), Value.int .u8 (x1 : Nat), Value.int .u8 (x2 : Nat), Value.int .u8 (x3 : Nat)] 5) := ⟨_, rfl⟩
  have B1 := Lib.hid (show Below w.heap.size w w1 by rw [hw1]; exact (Below.refl _ _).alloc (Nat.le_refl _) _)
  have CB := Lib.hid (back_bytes w w1 N [x0, x1, x2, x3] (by simp; omega) (by rw [hw1, hN]; exact blk_new w _))
  have HN := Lib.hid hN
  have HW := Lib.hid hw1
  clear hN hw1 hx0 hx1 hx2 hx3
  go_enter Tryd.func21, Tryd.ntmps21
  go_wp2_with (fail)
  rw [← HW.out, ← HN.out]
  have cb := CB.out
  simp only [List.length_cons, List.length_nil, List.map_cons, List.map_nil, Nat.zero_add, Nat.reduceAdd] at cb
  rw [cb]
  go_wp2_with (fail)
  go_ret
  exact ⟨rfl, B1.out⟩
theorem enc_nat (c : Nat) (hv : c < 55296 ∨ (57344 ≤ c ∧ c ≤ 1114111)) : enc (c : Int) = ⟨if c < 128 then #[c.toUInt8] else if c < 2048 then #[(192 + c / 64).toUInt8, (128 + c % 64).toUInt8] else if c < 65536 then #[(224 + c / 4096).toUInt8, (128 + c / 64 % 64).toUInt8, (128 + c % 64).toUInt8] else #[(240 + c / 262144).toUInt8, (128 + c / 4096 % 64).toUInt8, (128 + c / 64 % 64).toUInt8, (128 + c % 64).toUInt8]⟩ := by
  have h1 : Utf8.valid (c : Int) = true := by rw [valid_int]; omega
  rw [enc_valid h1]
  unfold Utf8.encode
  simp only [h1, if_true, Int.toNat_natCast]
  repeat' split
  all_goals first | rfl | omega
theorem rbytes_calls (c : Int) (w : World) :
    Calls Tryd.prog 21 #[.int .i64 c] w fun e w' => e = .returned (.string (enc c)) ∧ Below w.heap.size w w' := by
  by_cases hv : Utf8.valid c = true
  · rw [valid_int] at hv
    obtain ⟨c, rfl⟩ : ∃ k : Nat, c = (k : Int) := ⟨c.toNat, by omega⟩
    rw [enc_nat c (by omega)]
    by_cases h1 : c < 128
    · rw [if_pos h1]; exact rbytes_one c w (by omega) h1
    · rw [if_neg h1]
      by_cases h2 : c < 2048
      · rw [if_pos h2]; exact rbytes_two c w (by omega) h2
      · rw [if_neg h2]
        by_cases h3 : c < 65536
        · rw [if_pos h3]
          by_cases h4 : c < 55296
          · exact rbytes_threeA c w (by omega) h4
          · exact rbytes_threeB c w (by omega) h3
        · rw [if_neg h3]; exact rbytes_four c w (by omega) (by omega)
  · rw [enc_not hv]; exact rbytes_none c w hv
end Go.Proofs.YtcljiahpgbedhaaDoor

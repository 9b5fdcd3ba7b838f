/- Store's laws: StoreEmpty. -/
import Derived.Test.YtemcffihfeaniaaStoreC
import Derived.WalkArith
namespace Go.Proofs.Ytemcffihfeaniaa
open Go.RowKit Go.Deep Go.Own
set_option linter.unusedVariables false
theorem place_nat (v : Int) (n : Nat) (hn : 0 < n) (hn' : n ≤ 1099511627776) : ∃ k : Nat, k < n ∧ v % (n : Int) = (k : Int) ∧ ∀ w : World, Calls Try.prog 17 #[.int .i64 v, .int .i64 (n : Int)] w fun e w' => e = .returned (.int .i64 (k : Nat)) ∧ w = w' := by
  have h0 := Int.emod_nonneg v (show (n : Int) ≠ 0 by omega)
  have h1 := Int.emod_lt_of_pos v (show (0 : Int) < n by omega)
  refine ⟨(v % (n : Int)).toNat, by omega, by omega, fun w => ?_⟩
  have := place_calls v n w (by omega) (by omega)
  rw [show (((v % (n : Int)).toNat : Nat) : Int) = v % (n : Int) by omega]
  exact this
set_option maxRecDepth 100000 in
set_option maxHeartbeats 4000000 in
theorem storeEmpty_walk (x : ByteArray) (n z : Int) (W : World) (hx : x.size ≤ 140737488351232) (hn : (Lit.int .i64 n).wf = true) (hz : (Lit.int .i64 z).wf = true) :
    Calls Try.prog 6 #[.string x, .int .i64 n, .int .i64 z] W fun e w' => e = .returned (.bool true) ∧ Below W.heap.size W w' := by
  by_cases h5 : 300 < x.size
  · go_enter Try.func6, Try.ntmps6
    go_wp2_with (first | (go_at_call 15; refine (awake_calls _).mono ?_; rintro e w1 ⟨rfl, h1⟩))
    go_ret
    exact ⟨rfl, h1⟩
  · have hsl : x.data.toList.length = x.size := by simp
    obtain ⟨p, hp, _, cp⟩ := place_nat n 20 (by decide) (by decide)
    obtain ⟨k, hk, _, ck⟩ := place_nat z (x.size + 1) (by omega) (by omega)
    have HSL := Lib.hid hsl
    have sx : x = cutB x.data.toList 0 x.size := by
      rw [← cutB_extract]; simp
    have SX := Lib.hid sx
    have CP := Lib.hid cp
    have CK := Lib.hid (show ∀ w : World, Calls Try.prog 17 #[.int .i64 z, .int .i64 ((x.size : Int) + 1)] w fun e w' => e = .returned (.int .i64 (k : Nat)) ∧ w = w' from ck)
    have h5' : x.size ≤ 300 := by omega
    have wf1 : (Lit.int .i64 ((x.size : Int) + 1 + (k : Int))).wf = true := Go.WalkArith.wf_i64 ⟨by omega, by omega⟩
    have wf2 : (Lit.int .i64 (0 : Int)).wf = true := by decide
    have CA := Lib.hid (show ∀ w1 : World, St W w1 W.heap.size x.data.toList → Calls Try.prog 18 #[.pointer (some ⟨W.heap.size, 0, none⟩), .string ⟨#[]⟩] w1 fun e w' => e = .returned (.int .i64 (x.size : Nat)) ∧ St W w' W.heap.size x.data.toList from fun w1 h =>
      (st_add ⟨#[]⟩ h (by rw [hsl]; have : (ByteArray.mk #[]).size = 0 := rfl; omega)).mono fun e w' ⟨h1, h2⟩ => ⟨by rw [h1, hsl], by simpa using h2⟩)
    have CL := Lib.hid (show ∀ w1 : World, St W w1 W.heap.size x.data.toList → Calls Try.prog 20 #[.pointer (some ⟨W.heap.size, 0, none⟩)] w1 fun e w' => e = .returned (.int .i64 (x.size : Nat)) ∧ w1 = w' from fun w1 h =>
      (st_len h).mono fun e w' ⟨h1, h2⟩ => ⟨by rw [h1, hsl], h2⟩)
    have C1 := Lib.hid (show ∀ w1 : World, St W w1 W.heap.size x.data.toList → Calls Try.prog 19 #[.pointer (some ⟨W.heap.size, 0, none⟩), .int .i64 (k : Nat), .int .i64 0] w1 fun e w' => e = .returned (.tuple #[.string ⟨#[]⟩, .bool true]) ∧ St W w' W.heap.size x.data.toList from fun w1 h =>
      st_slice k 0 h (by rw [hsl]; omega) (by rw [hsl]; omega) ⟨#[]⟩ (by simp [cutB]))
    have C2 := Lib.hid (show ∀ w1 : World, St W w1 W.heap.size x.data.toList → Calls Try.prog 19 #[.pointer (some ⟨W.heap.size, 0, none⟩), .int .i64 0, .int .i64 (x.size : Nat)] w1 fun e w' => e = .returned (.tuple #[.string x, .bool true]) ∧ St W w' W.heap.size x.data.toList from fun w1 h =>
      st_slice 0 x.size h (by rw [hsl]; omega) (by rw [hsl]; omega) x sx)
    have C3 := Lib.hid (show ∀ w1 : World, St W w1 W.heap.size x.data.toList → Calls Try.prog 19 #[.pointer (some ⟨W.heap.size, 0, none⟩), .int .i64 ((x.size : Int) + 1 + (k : Int)), .int .i64 0] w1 fun e w' => e = .returned (.tuple #[.string ⟨#[]⟩, .bool false]) ∧ St W w' W.heap.size x.data.toList from fun w1 h =>
      st_slice_no _ _ h wf1 wf2 (by rw [hsl]; omega) (by rw [hsl]; omega))
    have HN := Lib.hid (st_new x W (by omega))
    clear hn hz hsl cp ck hx sx wf1 wf2
    go_enter Try.func6, Try.ntmps6
    go_wp2_with (first | (go_at_call 16; refine HN.out.mono ?_; rintro e w1 ⟨rfl, h1⟩))
    go_loopw [8] (fun u wr => ∃ i : Nat, i ≤ p ∧ u = .int .i64 (i : Nat) ∧ St W wr W.heap.size x.data.toList) (fun u _ => p - (intOf u).toNat)
    case atStart => exact ⟨0, by omega, rfl, h1⟩
    case round =>
      obtain ⟨i, hi, rfl, hS⟩ := hrel
      clear h1
      by_cases hlt : i < p
      · have d1 : decide (i < p) = true := by simpa using hlt
        go_wp2_with (first
          | (go_at_call 17; refine (CP.out _).mono ?_; rintro e w2 ⟨rfl, rfl⟩)
          | (go_at_call 18; refine (CA.out _ hS).mono ?_; rintro e w3 ⟨rfl, h3⟩; clear hS)
          | (go_at_call 20; refine (CL.out _ h3).mono ?_; rintro e w4 ⟨rfl, rfl⟩))
        go_roundw
        case rel => exact ⟨i + 1, by omega, by go_num, h3⟩
        case measure => simp [intOf]; omega
      · have d1 : decide (i < p) = false := by simpa using hlt
        clear hlt
        go_wp2_with (first
          | (go_at_call 17; first | (refine (CP.out _).mono ?_; rintro e w2 ⟨rfl, rfl⟩; clear CP) | (refine (CK.out _).mono ?_; rintro e w2 ⟨rfl, rfl⟩))
          | (go_at_call 19; refine (C1.out _ hS).mono ?_; rintro e w3 ⟨rfl, h3⟩; clear hS)
          | (go_at_call 19; refine (C2.out _ h3).mono ?_; rintro e w4 ⟨rfl, h4⟩; clear h3)
          | (go_at_call 19; refine (C3.out _ h4).mono ?_; rintro e w5 ⟨rfl, h5⟩; clear h4)
          | (go_at_call 15; refine (awake_calls _).mono ?_; rintro e w6 ⟨rfl, h6⟩))
        go_ret
        exact ⟨rfl, h5.below.trans (h6.mono h5.below.size)⟩
end Go.Proofs.Ytemcffihfeaniaa

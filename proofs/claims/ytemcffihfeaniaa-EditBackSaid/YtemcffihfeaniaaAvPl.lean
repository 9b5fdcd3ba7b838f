/- Avl's laws: AvlPlaces. -/
import Derived.Test.YtemcffihfeaniaaAvLaw
namespace Go.Own
open Go Go.RowKit Go.Deep
set_option linter.unusedVariables false
def avIt (sz : List Int) : Nat → List (Int × Int)
  | 0 => []
  | k + 1 => avIt sz k ++ [((k : Int), sz.getD k 0 % 5)]
theorem avIt_length (sz : List Int) : ∀ k, (avIt sz k).length = k
  | 0 => rfl
  | k + 1 => by simp [avIt, avIt_length sz k]
theorem avIt_sized (sz : List Int) : ∀ k, ∀ x ∈ avIt sz k, 0 ≤ x.2
  | 0, x, h => by simp [avIt] at h
  | k + 1, x, h => by
    simp only [avIt, List.mem_append, List.mem_singleton] at h
    rcases h with h | rfl
    · exact avIt_sized sz k x h
    · exact Int.emod_nonneg _ (by decide)
theorem avIt_sum (sz : List Int) : ∀ k, 0 ≤ sumL (avIt sz k) ∧ sumL (avIt sz k) ≤ 5 * k
  | 0 => by simp [avIt, sumL]
  | k + 1 => by
    have h := avIt_sum sz k
    have h1 := Int.emod_nonneg (sz.getD k 0) (show (5 : Int) ≠ 0 by decide)
    have h2 := Int.emod_lt_of_pos (sz.getD k 0) (show (0 : Int) < 5 by decide)
    simp only [avIt, sumL_append]
    have : sumL [((k : Int), sz.getD k 0 % 5)] = sz.getD k 0 % 5 := by simp [sumL]
    rw [this]; omega
theorem ins_end (l : List (Int × Int)) (x : Int × Int) : Tr.ins l l.length x = l ++ [x] := by simp [Tr.ins]
theorem preL_succ (l : List (Int × Int)) (i : Nat) (x : Int × Int) (h : l[i]? = some x) : preL l (i + 1) = preL l i + x.2 := by
  obtain ⟨hi, rfl⟩ := List.getElem?_eq_some_iff.1 h
  simp only [preL]
  rw [List.take_succ_eq_append_getElem hi, sumL_append]
  simp [sumL]
theorem reads_cell {W w : World} {A : Option Addr} {l : List Int} (h : Reads W A l) (hb : Below W.heap.size W w) {i : Nat} (hi : i < l.length) : ∃ b o, A = some ⟨b, o, none⟩ ∧ b < W.heap.size ∧ w.cell? ⟨b, o + i, none⟩ = some (.int .i64 (l.getD i 0)) := by
  obtain ⟨b, o, e, hc⟩ := h (by omega)
  exact ⟨b, o, e, Reads.lt hc (by omega), hc w (since_of_below hb) i hi⟩
end Go.Own
namespace Go.Proofs.Ytemcffihfeaniaa
open Go.RowKit Go.Deep Go.Own
set_option linter.unusedVariables false
set_option maxRecDepth 100000 in
set_option maxHeartbeats 4000000 in
theorem avlPlaces_walk (A : Option Addr) (cap : Nat) (l : List Int) (a : Int) (W : World) (hA : Reads W A l) (hl : l.length ≤ 9223372036854775807) (ha : (Lit.int .i64 a).wf = true) :
    Calls Try.prog 7 #[.slice A l.length cap, .int .i64 a] W fun e w' => e = .returned (.bool true) ∧ Below W.heap.size W w' := by
  clear ha
  by_cases h100 : 100 < l.length
  · go_enter Try.func7, Try.ntmps7
    go_wp2_with (fail)
    refine (t_new W).mono ?_
    rintro e w0 ⟨rfl, h0⟩
    go_wp2_with (fail)
    refine (av_awake _).mono ?_
    rintro e w1 ⟨rfl, h1⟩
    go_wp2_with (fail)
    go_ret
    exact ⟨rfl, h0.below.trans (h1.mono h0.below.size)⟩
  · have h100' : l.length ≤ 100 := by omega
    clear h100
    have HA := Lib.hid hA
    clear hA
    obtain ⟨m, hm, _, cm0⟩ := place_n a 50 (by decide) (by decide)
    have CM : Hid (∀ w : World, Calls Try.prog 17 #[.int .i64 a, .int .i64 50] w fun e w' => e = .returned (.int .i64 (m : Nat)) ∧ w = w') := Lib.hid cm0
    have tot := avIt_sum l l.length
    obtain ⟨S, hS⟩ : ∃ S : Nat, sumL (avIt l l.length) = S := ⟨(sumL (avIt l l.length)).toNat, by omega⟩
    have hS5 : S ≤ 500 := by omega
    have HS := Lib.hid hS
    have EA := Lib.hid (findL_all (avIt l l.length) ((S : Int) + (m : Int)) (avIt_sized l _) (by omega))
    have HAL := Lib.hid (avIt_length l l.length)
    clear cm0 tot hS
    go_enter Try.func7, Try.ntmps7
    go_wp2_with (fail)
    refine (t_new W).mono ?_
    rintro e w0 ⟨rfl, h0⟩
    go_wp2_with (fail)
    go_loopw [6, 7] (fun s i wr => ∃ k : Nat, k ≤ l.length ∧ i = .int .i64 (k : Nat) ∧ s = .int .i64 (sumL (avIt l k)) ∧ Tt W wr W.heap.size (avIt l k)) (fun _ i _ => l.length - (intOf i).toNat)
    case atStart => exact ⟨0, by omega, rfl, rfl, h0⟩
    case round =>
      obtain ⟨k, hk, rfl, rfl, ht⟩ := hrel
      by_cases hlt : k < l.length
      · obtain ⟨b, o, rfl, hbl, hc⟩ := reads_cell HA.out ht.below hlt
        obtain ⟨v, hv⟩ : ∃ v, v = l.getD k 0 := ⟨_, rfl⟩
        rw [← hv] at hc
        obtain ⟨z, hz, hz5, cz0⟩ := place_n v 5 (by decide) (by decide)
        have CZ : Hid (∀ w : World, Calls Try.prog 17 #[.int .i64 v, .int .i64 5] w fun e w' => e = .returned (.int .i64 (z : Nat)) ∧ w = w') := Lib.hid cz0
        have CI := Lib.hid (t_insert k (k : Int) (z : Int) ht (by rw [avIt_length]; omega) (by omega) (by omega) (by rw [avIt_length]; omega))
        have e1 : Tr.ins (avIt l k) k ((k : Int), (z : Int)) = avIt l (k + 1) := by
          have := ins_end (avIt l k) ((k : Int), (z : Int))
          rw [avIt_length] at this
          rw [this, avIt, ← hv, ← hz5]; rfl
        have e2 : sumL (avIt l (k + 1)) = sumL (avIt l k) + (z : Int) := by rw [avIt, sumL_append, ← hv, show v % 5 = (z : Int) from hz5]; simp [sumL]
        have E1 := Lib.hid e1
        have E2 := Lib.hid e2
        have b1 := avIt_sum l k
        have HV := Lib.hid hv
        have HB := Lib.hid ht.below
        clear ht cz0 hz5 e1 e2 hv h0
        go_wp2_with (fail)
        refine (CZ.out _).mono ?_
        rintro e w2 ⟨rfl, rfl⟩
        go_wp2_with (fail)
        refine CI.out.mono ?_
        rintro e w3 ⟨rfl, h3⟩
        rw [E1.out] at h3
        obtain ⟨b', o', hbo, _, hc'⟩ := reads_cell HA.out h3.below hlt
        obtain ⟨rfl, rfl⟩ : b = b' ∧ o = o' := by simpa using hbo
        rw [← HV.out] at hc'
        clear hbo CI
        go_wp2_with (fail)
        refine (CZ.out _).mono ?_
        rintro e w4 ⟨rfl, rfl⟩
        go_wp2_with (fail)
        go_roundw
        case rel => exact ⟨k + 1, by omega, by go_num, by rw [E2.out], h3⟩
        case measure => simp [intOf]; omega
      · obtain rfl : k = l.length := by omega
        rw [HS.out]
        have CF := Lib.hid (t_find ((S : Int) + (m : Int)) ht (by omega) (by omega))
        rw [EA.out, HAL.out] at CF
        have CS := Lib.hid (fun w1 (h : Tt W w1 W.heap.size (avIt l l.length)) => t_sum h)
        rw [HS.out] at CS
        clear ht h0
        go_wp2_with (fail)
        refine (CM.out _).mono ?_
        rintro e w2 ⟨rfl, rfl⟩
        go_wp2_with (fail)
        refine CF.out.mono ?_
        rintro e w3 ⟨rfl, h3⟩
        clear CF
        by_cases hS0 : S = 0
        · subst hS0
          go_wp2_with (fail)
          refine (CS.out _ h3).mono ?_
          rintro e w4 ⟨rfl, rfl⟩
          go_wp2_with (fail)
          refine (av_awake _).mono ?_
          rintro e w5 ⟨rfl, h5⟩
          go_wp2_with (fail)
          go_ret
          exact ⟨rfl, h3.below.trans (h5.mono h3.below.size)⟩
        · obtain ⟨p, hp, _, cp0⟩ := place_n a S (by omega) (by omega)
          have CP := Lib.hid cp0
          obtain ⟨⟨x1, z⟩, f1, f2, f3, f4⟩ := findL_spec (avIt l l.length) (p : Int) (by omega) (by rw [HS.out]; omega)
          have CF2 := Lib.hid (fun w1 (h : Tt W w1 W.heap.size (avIt l l.length)) => t_find (p : Int) h (by omega) (by omega))
          generalize (findL (avIt l l.length) (p : Int)).1 = i at *
          generalize (findL (avIt l l.length) (p : Int)).2 = off at *
          have hi := (List.getElem?_eq_some_iff.1 f1).1
          rw [HAL.out] at hi
          have CG := Lib.hid (fun w1 (h : Tt W w1 W.heap.size (avIt l l.length)) => t_get i x1 z h f1)
          have CB := Lib.hid (fun w1 (h : Tt W w1 W.heap.size (avIt l l.length)) => t_before i h (by rw [HAL.out]; omega))
          have CB2 := Lib.hid (fun w1 (h : Tt W w1 W.heap.size (avIt l l.length)) => t_before (i + 1) h (by rw [HAL.out]; omega))
          have pl1 := preL_le (avIt l l.length) i (avIt_sized l _)
          rw [HS.out] at pl1
          have zz : 0 ≤ z ∧ z ≤ 500 := by
            have h1 := preL_le (avIt l l.length) (i + 1) (avIt_sized l _)
            rw [preL_succ _ _ _ f1, HS.out] at h1
            have h2 := avIt_sized l _ _ (List.mem_of_getElem? f1)
            simp only at h1 h2; omega
          rw [preL_succ _ _ _ f1] at CB2
          have hc1 : ((i + 1 : Nat) : Int) = (i : Int) + 1 := by omega
          rw [hc1] at CB2
          simp only at f3
          generalize preL (avIt l l.length) i = pi at *
          have g1 : decide (0 ≤ off) = true := by simpa using f2
          have g2 : decide (off < z) = true := by simpa using f3
          have g3 : (S == 0) = false := by simpa using hS0
          have g4 : ((S : Int) == 0) = false := by simp; omega
          obtain ⟨f5, f6⟩ := zz
          clear f1 hc1 cp0 hS0
          obtain ⟨f7, f8⟩ := pl1
          go_wp2_with (fail)
          refine (CS.out _ h3).mono ?_
          rintro e w4 ⟨rfl, rfl⟩
          go_wp2_with (fail)
          refine (CP.out _).mono ?_
          rintro e w5 ⟨rfl, rfl⟩
          go_wp2_with (fail)
          refine (CF2.out _ h3).mono ?_
          rintro e w6 ⟨rfl, h6⟩
          go_wp2_with (fail)
          refine (CG.out _ h6).mono ?_
          rintro e w7 ⟨rfl, h7⟩
          go_wp2_with (fail)
          refine (CB.out _ h7).mono ?_
          rintro e w8 ⟨rfl, h8⟩
          go_wp2_with (fail)
          refine (CB2.out _ h8).mono ?_
          rintro e w9 ⟨rfl, h9⟩
          go_wp2_with (fail)
          refine (CB.out _ h9).mono ?_
          rintro e w10 ⟨rfl, h10⟩
          go_wp2_with (fail)
          refine (av_awake _).mono ?_
          rintro e w11 ⟨rfl, h11⟩
          go_wp2_with (fail)
          go_ret
          exact ⟨rfl, h10.below.trans (h11.mono h10.below.size)⟩
end Go.Proofs.Ytemcffihfeaniaa

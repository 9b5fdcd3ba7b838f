/- list: strings.ContainsFunc with the one test of list.one. -/
import Derived.Test.YtmpckoincdkeeaaDoorListA
namespace Go.Proofs.YtmpckoincdkeeaaDoor
open Go.RowKit Go.Deep Go.Own
set_option linter.unusedVariables false
def badC (c : Int) : Bool := decide (c ≤ 32) || (c == 35)
def badU (c : Int) : Bool := decide (0 ≤ c) && badC c
def hasBad (s : ByteArray) : Bool := (codes s).any badU
theorem test_calls (c : Int) (w : World) : Calls Tryd.prog 56 #[.int .i32 c] w fun e w' => e = .returned (.bool (badC c)) ∧ w' = w := by
  by_cases h : c ≤ 32
  · have g1 : decide (c ≤ 32) = true := by simpa using h
    have E := Lib.hid (show badC c = true by unfold badC; rw [g1, Bool.true_or])
    go_enter Tryd.func56, Tryd.ntmps56
    go_wp2_with (fail)
    go_ret
    exact ⟨by rw [E.out]; rfl, rfl⟩
  · have g1 : decide (c ≤ 32) = false := by simpa using h
    have E := Lib.hid (show badC c = (c == 35) by unfold badC; rw [g1, Bool.false_or])
    go_enter Tryd.func56, Tryd.ntmps56
    go_wp2_with (fail)
    go_ret
    exact ⟨by rw [E.out]; rfl, rfl⟩
theorem bad_dec (s : ByteArray) (pos : Nat) : badU (uCode s pos) = badC ((Utf8.decode s pos).1 : Nat) := by
  by_cases h : BadU s pos
  · rw [uCode_bad h, h.1]
    unfold badU
    rw [decide_eq_false (by omega), Bool.false_and]
    decide
  · rw [uCode_good h]
    unfold badU
    rw [decide_eq_true (by omega), Bool.true_and]
set_option maxRecDepth 100000 in
set_option maxHeartbeats 8000000 in
theorem indexf_calls (s : ByteArray) (w : World) (hs : s.size ≤ 1099511627776) :
    Calls Tryd.prog 78 #[.string s, .func (.func 56) #[] #[], .bool true] w fun e w' => (∃ i : Int, e = .returned (.int .i64 i) ∧ decide (0 ≤ i) = hasBad s) ∧ Below w.heap.size w w' := by
  obtain ⟨N, hN⟩ : ∃ N, N = w.heap.size := ⟨_, rfl⟩
  have HN := Lib.hid hN
  clear hN
  go_enter Tryd.func78, Tryd.ntmps78
  go_wp2_with (fail)
  rw [← HN.out]
  go_loopw [] (fun wr => ∃ (pos fuel : Nat), wr.heap[N]? = some (.stringIter s pos) ∧ Below w.heap.size w wr ∧ ((unitsFrom s fuel pos).map fun u => u.2.2).any badU = hasBad s ∧ s.size ≤ pos + fuel) (fun wr => s.size - wr.iterPos N)
  case atStart =>
    exact ⟨0, s.size, by rw [HN.out]; exact World.iter_heap w s 0, (Below.refl _ _).alloc (Nat.le_refl _) _, rfl, by omega⟩
  case round =>
    obtain ⟨pos, fuel, hit, hbw, hacc, hfu⟩ := hrel
    have hN0 : w.heap.size ≤ N := by rw [HN.out]; exact Nat.le_refl _
    by_cases hp : pos < s.size
    · obtain ⟨f, rfl⟩ : ∃ f, fuel = f + 1 := ⟨fuel - 1, by omega⟩
      have hl1 : 1 ≤ uLen s pos := u_len1 s pos
      have hl4 : uLen s pos ≤ 4 := u_len4 s pos
      have hmax : (Utf8.decode s pos).1 ≤ 1114111 := u_max s pos
      have huf : unitsFrom s (f + 1) pos = (pos, uLen s pos, uCode s pos) :: unitsFrom s f (pos + uLen s pos) := by rw [unitsFrom, if_pos hp]
      rw [huf, List.map_cons, List.any_cons, bad_dec] at hacc
      have hnx : ∀ ty, (Instr.next (.pointer (some ⟨N, 0, none⟩)) true ty).run Tryd.prog wr = .ok (.tuple #[.bool true, .int .i64 (pos : Nat), .int .i32 ((Utf8.decode s pos).1 : Nat)]) (wr.iterAt N s (pos + uLen s pos)) := fun ty => Lib.run_next_any_at wr N s pos ty hit hp
      have hit2 := Lib.iterAt_heap wr N s pos (pos + uLen s pos) hit
      have hb2 := Lib.below_iterAt hbw (k := N) hN0 s (pos + uLen s pos)
      obtain ⟨w2, hw2⟩ : ∃ w2, w2 = wr.iterAt N s (pos + uLen s pos) := ⟨_, rfl⟩
      rw [← hw2] at hnx hit2 hb2
      obtain ⟨n, hn⟩ : ∃ n, uLen s pos = n := ⟨_, rfl⟩
      obtain ⟨c, hc⟩ : ∃ c, (Utf8.decode s pos).1 = c := ⟨_, rfl⟩
      rw [hn] at hl1 hl4 hit2 hacc
      rw [hc] at hnx hmax hacc
      have CT := Lib.hid (test_calls (c : Int) w2)
      have HIT := Lib.hid hit
      have HIT2 := Lib.hid hit2
      have HACC := Lib.hid hacc
      have HB2 := Lib.hid hb2
      clear hit hit2 hb2 hbw hw2 hacc huf hn hc
      cases hbc : badC (c : Int) with
      | true =>
        rw [hbc] at CT HACC
        clear hbc
        go_wp2_with (fail)
        refine CT.out.mono ?_
        rintro e w3 ⟨rfl, rfl⟩
        clear CT
        go_wp2_with (fail)
        refine bodyPost_ret (v := .int .i64 (pos : Nat)) (by simp [results, Tryd.results78, go_sem]) rfl ?_
        refine ⟨⟨_, rfl, ?_⟩, HB2.out⟩
        rw [← HACC.out, Bool.true_or]
        simp
      | false =>
        rw [hbc] at CT HACC
        clear hbc
        go_wp2_with (fail)
        refine CT.out.mono ?_
        rintro e w3 ⟨rfl, rfl⟩
        clear CT
        go_wp2_with (fail)
        go_roundw
        case rel => exact ⟨pos + n, f, HIT2.out, HB2.out, by have := HACC.out; rwa [Bool.false_or] at this, by omega⟩
        case measure =>
          have i5 := HIT2.out
          simp only [World.iterPos, i5, HIT.out]
          omega
    · have hnx : ∀ ty, (Instr.next (.pointer (some ⟨N, 0, none⟩)) true ty).run Tryd.prog wr = .ok (.tuple #[.bool false]) wr := fun ty => Lib.run_next_end_at wr N s pos ty hit hp
      have HB := Lib.hid hbw
      rw [unitsFrom_end s fuel pos hp] at hacc
      have HACC := Lib.hid hacc
      clear hit hbw hacc
      go_wp2_with (fail)
      refine bodyPost_ret (v := .int .i64 (-1)) (by simp [results, Tryd.results78, go_sem]) rfl ?_
      exact ⟨⟨_, rfl, by rw [← HACC.out]; rfl⟩, HB.out⟩
theorem indexF_calls (s : ByteArray) (w : World) (hs : s.size ≤ 1099511627776) :
    Calls Tryd.prog 69 #[.string s, .func (.func 56) #[] #[]] w fun e w' => (∃ i : Int, e = .returned (.int .i64 i) ∧ decide (0 ≤ i) = hasBad s) ∧ Below w.heap.size w w' := by
  have C1 := Lib.hid (indexf_calls s w hs)
  go_enter Tryd.func69, Tryd.ntmps69
  go_wp2_with (fail)
  refine C1.out.mono ?_
  rintro e w1 ⟨⟨i, rfl, hi⟩, b1⟩
  have HI := Lib.hid hi
  have B1 := Lib.hid b1
  clear C1 hi b1
  go_wp2_with (fail)
  go_ret
  exact ⟨⟨i, rfl, HI.out⟩, B1.out⟩
theorem containsF_calls (s : ByteArray) (w : World) (hs : s.size ≤ 1099511627776) :
    Calls Tryd.prog 55 #[.string s, .func (.func 56) #[] #[]] w fun e w' => e = .returned (.bool (hasBad s)) ∧ Below w.heap.size w w' := by
  have C1 := Lib.hid (indexF_calls s w hs)
  go_enter Tryd.func55, Tryd.ntmps55
  go_wp2_with (fail)
  refine C1.out.mono ?_
  rintro e w1 ⟨⟨i, rfl, hi⟩, b1⟩
  have HI := Lib.hid hi
  have B1 := Lib.hid b1
  clear C1 hi b1
  go_wp2_with (fail)
  go_ret
  exact ⟨by rw [← HI.out]; rfl, B1.out⟩
end Go.Proofs.YtmpckoincdkeeaaDoor

/- Avl's laws: awake, AvlPlaces. -/
import Derived.Test.YtemcffihfeaniaaAvb
import Derived.LoopN
namespace Go.Proofs.Ytemcffihfeaniaa
open Go.RowKit Go.Deep Go.Own
set_option linter.unusedVariables false
structure Tt (W w : World) (b : Nat) (l : List (Int × Int)) : Prop where
  tree : HasTree w (Mk W w) b l
  below : Below W.heap.size W w
theorem Tt.later {W w w' : World} {b : Nat} {l : List (Int × Int)} (h : Tt W w b l) (hb : Below w.heap.size w w') : Tt W w' b l :=
  ⟨(h.tree.keep (fun k hk _ => hb.block k hk)).mono (fun k hk => ⟨hk.1, Nat.lt_of_lt_of_le hk.2 hb.size⟩), h.below.trans (hb.mono h.below.size)⟩
theorem Tt.drewN {W w : World} {b n : Nat} {l : List (Int × Int)} (h : Tt W w b l) : Tt W (w.drewN n) b l := h.later ⟨rfl, rfl, rfl, Nat.le_refl _, fun _ _ => rfl⟩
theorem t_new (W : World) : Calls Try.prog 21 #[] W fun e w' => e = .returned (.pointer (some ⟨W.heap.size, 0, none⟩)) ∧ Tt W w' W.heap.size [] := (avl_new W).mono fun e w' ⟨h1, h2, h3⟩ => ⟨h1, h2, h3⟩
theorem t_insert {W w : World} {b : Nat} {l : List (Int × Int)} (i : Nat) (k z : Int) (h : Tt W w b l) (hi : i ≤ l.length) (h0 : 0 ≤ z) (h1 : z ≤ 1099511627776) (hl : l.length < 65536) :
    Calls Try.prog 23 #[.pointer (some ⟨b, 0, none⟩), .int .i64 (i : Nat), .int .i64 k, .int .i64 z] w fun e w' => e = .returned (.bool true) ∧ Tt W w' b (Tr.ins l i (k, z)) :=
  (insert_at _ b l i k z w h.tree (fun k hk => hk.2) hi h0 h1 hl).mono fun e w' ⟨a1, a2, a3⟩ => ⟨a1, a2.mono (fun k hk => by
    have := a3.size
    have := h.below.size
    rcases hk with hk | hk
    · exact ⟨hk.1, by have := hk.2; omega⟩
    · exact ⟨by have := hk.1; omega, hk.2⟩), h.below.trans (a3.below (fun k hk => hk.1) h.below.size)⟩
theorem t_remove {W w : World} {b : Nat} {l : List (Int × Int)} (i : Nat) (h : Tt W w b l) (hi : i < l.length) :
    Calls Try.prog 31 #[.pointer (some ⟨b, 0, none⟩), .int .i64 (i : Nat)] w fun e w' => e = .returned (.bool true) ∧ Tt W w' b (l.eraseIdx i) :=
  (remove_at _ b l i w h.tree hi).mono fun e w' ⟨a1, a2, a3⟩ => ⟨a1, a2.mono (fun k hk => ⟨hk.1, Nat.lt_of_lt_of_le hk.2 a3.size⟩), h.below.trans (a3.below (fun k hk => hk.1) h.below.size)⟩
theorem t_find {W w : World} {b : Nat} {l : List (Int × Int)} (p : Int) (h : Tt W w b l) (h0 : 0 ≤ p) (h1 : p ≤ 4611686018427387904) :
    Calls Try.prog 24 #[.pointer (some ⟨b, 0, none⟩), .int .i64 p] w fun e w' => e = .returned (.tuple #[.int .i64 ((findL l p).1 : Nat), .int .i64 (findL l p).2]) ∧ Tt W w' b l :=
  (find_at _ b l p w h.tree h0 h1).mono fun e w' ⟨a1, n, a2⟩ => ⟨a1, a2 ▸ h.drewN⟩
theorem t_sum {W w : World} {b : Nat} {l : List (Int × Int)} (h : Tt W w b l) : Calls Try.prog 25 #[.pointer (some ⟨b, 0, none⟩)] w fun e w' => e = .returned (.int .i64 (sumL l)) ∧ w = w' := sum_at _ b l w h.tree
theorem t_len {W w : World} {b : Nat} {l : List (Int × Int)} (h : Tt W w b l) : Calls Try.prog 28 #[.pointer (some ⟨b, 0, none⟩)] w fun e w' => e = .returned (.int .i64 (l.length : Nat)) ∧ w = w' := len_at _ b l w h.tree
theorem t_get {W w : World} {b : Nat} {l : List (Int × Int)} (i : Nat) (k z : Int) (h : Tt W w b l) (hi : l[i]? = some (k, z)) :
    Calls Try.prog 26 #[.pointer (some ⟨b, 0, none⟩), .int .i64 (i : Nat)] w fun e w' => e = .returned (.tuple #[.int .i64 k, .int .i64 z, .bool true]) ∧ Tt W w' b l :=
  (get_at _ b l i k z w h.tree hi).mono fun e w' ⟨a1, n, a2⟩ => ⟨a1, a2 ▸ h.drewN⟩
theorem t_before {W w : World} {b : Nat} {l : List (Int × Int)} (i : Nat) (h : Tt W w b l) (hi : i ≤ l.length) :
    Calls Try.prog 27 #[.pointer (some ⟨b, 0, none⟩), .int .i64 (i : Nat)] w fun e w' => e = .returned (.int .i64 (preL l i)) ∧ Tt W w' b l :=
  (before_at _ b l i w h.tree hi).mono fun e w' ⟨a1, n, a2⟩ => ⟨a1, a2 ▸ h.drewN⟩
theorem t_height3 {W w : World} {b : Nat} {l : List (Int × Int)} (h : Tt W w b l) (hl : l.length = 3) : Calls Try.prog 30 #[.pointer (some ⟨b, 0, none⟩)] w fun e w' => e = .returned (.int .i64 2) ∧ w = w' := by
  obtain ⟨hh, ⟨h1, h2, h3⟩, hc⟩ := height_at _ b l w h.tree
  rw [hl] at h1 h3
  obtain rfl : hh = 2 := by
    rcases Nat.lt_or_ge hh 2 with h4 | h4
    · have : hh = 0 ∨ hh = 1 := by omega
      rcases this with rfl | rfl <;> simp at h3
    · rcases Nat.lt_or_ge 2 hh with h5 | h5
      · have := Tr.least_mono (m := 3) (n := hh) h5
        have e : Tr.least 3 = 4 := by decide
        omega
      · omega
  exact hc
theorem place_n (v : Int) (n : Nat) (hn : 0 < n) (hn' : n ≤ 1099511627776) : ∃ k : Nat, k < n ∧ v % (n : Int) = (k : Int) ∧ ∀ w : World, Calls Try.prog 17 #[.int .i64 v, .int .i64 (n : Int)] w fun e w' => e = .returned (.int .i64 (k : Nat)) ∧ w = w' := by
  have h0 := Int.emod_nonneg v (show (n : Int) ≠ 0 by omega)
  have h1 := Int.emod_lt_of_pos v (show (0 : Int) < n by omega)
  refine ⟨(v % (n : Int)).toNat, by omega, by omega, fun w => ?_⟩
  have := place_calls v n w (by omega) (by omega)
  rw [show (((v % (n : Int)).toNat : Nat) : Int) = v % (n : Int) by omega]
  exact this
set_option maxRecDepth 100000 in
set_option maxHeartbeats 4000000 in
theorem av_awake (W : World) : Calls Try.prog 22 #[] W fun e w' => e = .returned (.bool true) ∧ Below W.heap.size W w' := by
  have C0 := Lib.hid (fun w (h : Tt W w W.heap.size []) => t_insert 0 10 5 h (by decide) (by decide) (by decide) (by decide))
  have C1 := Lib.hid (fun w (h : Tt W w W.heap.size (Tr.ins [] 0 (10, 5))) => t_insert 1 11 5 h (by decide) (by decide) (by decide) (by decide))
  have C2 := Lib.hid (fun w (h : Tt W w W.heap.size (Tr.ins (Tr.ins [] 0 (10, 5)) 1 (11, 5))) => t_insert 2 12 5 h (by decide) (by decide) (by decide) (by decide))
  have CF : Hid (∀ w, Tt W w W.heap.size (Tr.ins (Tr.ins (Tr.ins [] 0 (10, 5)) 1 (11, 5)) 2 (12, 5)) → Calls Try.prog 24 #[.pointer (some ⟨W.heap.size, 0, none⟩), .int .i64 7] w fun e w' => e = .returned (.tuple #[.int .i64 1, .int .i64 2]) ∧ Tt W w' W.heap.size (Tr.ins (Tr.ins (Tr.ins [] 0 (10, 5)) 1 (11, 5)) 2 (12, 5))) :=
    Lib.hid fun w h => t_find 7 h (by decide) (by decide)
  have CH : Hid (∀ w, Tt W w W.heap.size (Tr.ins (Tr.ins (Tr.ins [] 0 (10, 5)) 1 (11, 5)) 2 (12, 5)) → Calls Try.prog 30 #[.pointer (some ⟨W.heap.size, 0, none⟩)] w fun e w' => e = .returned (.int .i64 2) ∧ w = w') := Lib.hid fun w h => t_height3 h (by decide)
  have CL : Hid (∀ w, Tt W w W.heap.size (Tr.ins (Tr.ins (Tr.ins [] 0 (10, 5)) 1 (11, 5)) 2 (12, 5)) → Calls Try.prog 28 #[.pointer (some ⟨W.heap.size, 0, none⟩)] w fun e w' => e = .returned (.int .i64 3) ∧ w = w') := Lib.hid fun w h => t_len h
  have CS : Hid (∀ w, Tt W w W.heap.size (Tr.ins (Tr.ins (Tr.ins [] 0 (10, 5)) 1 (11, 5)) 2 (12, 5)) → Calls Try.prog 25 #[.pointer (some ⟨W.heap.size, 0, none⟩)] w fun e w' => e = .returned (.int .i64 15) ∧ w = w') := Lib.hid fun w h => t_sum h
  have CB : Hid (∀ w, Tt W w W.heap.size (Tr.ins (Tr.ins (Tr.ins [] 0 (10, 5)) 1 (11, 5)) 2 (12, 5)) → Calls Try.prog 27 #[.pointer (some ⟨W.heap.size, 0, none⟩), .int .i64 2] w fun e w' => e = .returned (.int .i64 10) ∧ Tt W w' W.heap.size (Tr.ins (Tr.ins (Tr.ins [] 0 (10, 5)) 1 (11, 5)) 2 (12, 5))) := Lib.hid fun w h => t_before 2 h (by decide)
  go_enter Try.func22, Try.ntmps22
  go_wp2_with (fail)
  refine (t_new W).mono ?_
  rintro e w0 ⟨rfl, h0⟩
  go_wp2_with (fail)
  refine wp_loop_rounds 4 ?_
  rw [rounds_succ]
  go_wp2_with (fail)
  refine (C0.out _ h0).mono ?_
  rintro e w1 ⟨rfl, h1⟩
  clear h0
  go_wp2_with (fail)
  rw [rounds_succ]
  go_wp2_with (fail)
  refine (C1.out _ h1).mono ?_
  rintro e w2 ⟨rfl, h2⟩
  clear h1
  go_wp2_with (fail)
  rw [rounds_succ]
  go_wp2_with (fail)
  refine (C2.out _ h2).mono ?_
  rintro e w3 ⟨rfl, h3⟩
  clear h2
  go_wp2_with (fail)
  rw [rounds_succ]
  go_wp2_with (fail)
  refine (CF.out _ h3).mono ?_
  rintro e w4 ⟨rfl, h4⟩
  clear h3
  go_wp2_with (fail)
  refine (CH.out _ h4).mono ?_
  rintro e w5 ⟨rfl, rfl⟩
  go_wp2_with (fail)
  refine (CL.out _ h4).mono ?_
  rintro e w5 ⟨rfl, rfl⟩
  go_wp2_with (fail)
  refine (CS.out _ h4).mono ?_
  rintro e w5 ⟨rfl, rfl⟩
  go_wp2_with (fail)
  refine (CB.out _ h4).mono ?_
  rintro e w5 ⟨rfl, h5⟩
  go_wp2_with (fail)
  go_ret
  exact ⟨rfl, h5.below⟩
end Go.Proofs.Ytemcffihfeaniaa

/- Edit's laws: EditDoes. -/
import Derived.Test.YtemcffihfeaniaaEdo
namespace Go.Proofs.Ytemcffihfeaniaa
open Go.RowKit Go.Deep Go.Own
set_option linter.unusedVariables false
attribute [local go_sem] Own.own_max2 Own.own_max_two Own.own_min2 Own.own_min_two
theorem z_size (x i : ByteArray) (a n : Nat) (h : a + n ≤ x.size) : (x.extract 0 a ++ i ++ x.extract (a + n) x.size).size = x.size - n + i.size := by
  rw [size_data]
  simp only [ByteArray.data_append, Array.toList_append, ext_take, ext_drop, List.length_append, List.length_take, List.length_drop, ← size_data]
  omega
set_option maxRecDepth 100000 in
set_option maxHeartbeats 8000000 in
theorem editDoes_walk (s : ByteArray) (most a n : Int) (ins : ByteArray) (W : World) (hs : s.size ≤ 140737488351232) (hmo : (Lit.int .i64 most).wf = true) (ha : (Lit.int .i64 a).wf = true) (hn : (Lit.int .i64 n).wf = true) (hi : ins.size ≤ 140737488351232) :
    Calls Try.prog 13 #[.string s, .int .i64 most, .int .i64 a, .int .i64 n, .string ins] W fun e w' => e = .returned (.bool true) ∧ Below W.heap.size W w' := by
  clear hmo ha hn
  by_cases h2000 : 2000 < s.size + ins.size
  · have g0 : decide ((2000 : Int) < (s.size : Int) + (ins.size : Int)) = true := by simp; omega
    have g1 : decide (2000 < s.size + ins.size) = true := by simpa using h2000
    go_enter Try.func13, Try.ntmps13
    go_wp2_with (fail)
    refine (ed_awake _).mono ?_
    rintro e w1 ⟨rfl, h1⟩
    go_wp2_with (fail)
    go_ret
    exact ⟨rfl, h1⟩
  · have g0 : decide ((2000 : Int) < (s.size : Int) + (ins.size : Int)) = false := by simp; omega
    have g1 : decide (2000 < s.size + ins.size) = false := by simpa using h2000
    have hs2 : s.size ≤ 2000 := by omega
    have hi2 : ins.size ≤ 2000 := by omega
    obtain ⟨M, hM⟩ : ∃ M : Nat, imax 0 (imin most 65536) = (M : Int) := ⟨(imax 0 (imin most 65536)).toNat, by rw [imax_eq]; omega⟩
    have hM2 : M ≤ 65536 := by rw [imax_eq, imin_eq] at hM; omega
    have hM3 : imin (imax most 0) 65536 = (M : Int) := by rw [imax_eq, imin_eq] at hM; rw [imin_eq, imax_eq]; omega
    clear h2000
    by_cases hbig : M < s.size
    · have g2 : decide (M < s.size) = true := by simpa using hbig
      have CN := Lib.hid (bnew_big s most M hM W hbig (by unfold BigS; omega))
      clear hM
      go_enter Try.func13, Try.ntmps13
      go_wp2_with (fail)
      refine CN.out.mono ?_
      rintro e w1 ⟨rfl, rfl⟩
      go_wp2_with (fail)
      refine (ed_awake _).mono ?_
      rintro e w1 ⟨rfl, h1⟩
      go_wp2_with (fail)
      go_ret
      exact ⟨rfl, h1⟩
    · have g2 : decide (M < s.size) = false := by simpa using hbig
      have CN := Lib.hid (bs_new s most M hM hM2 W W (Below.refl _ _) (by omega))
      have hsl : s.data.toList.length = s.size := by simp
      have HSL := Lib.hid hsl
      clear hM hsl
      by_cases hin : 0 ≤ a ∧ 0 ≤ n ∧ a ≤ s.size ∧ n ≤ s.size - a
      · obtain ⟨p1, p2, p3, p4⟩ := hin
        obtain ⟨a, rfl⟩ : ∃ k : Nat, a = (k : Int) := ⟨a.toNat, by omega⟩
        obtain ⟨n, rfl⟩ : ∃ k : Nat, n = (k : Int) := ⟨n.toNat, by omega⟩
        have han : a + n ≤ s.size := by omega
        clear p1 p2 p3 p4
        by_cases hb : M < s.size - n + ins.size
        · have CR := Lib.hid (fun w => rdo_big s M a n ins w (by omega) (by omega) han hb)
          have CD := Lib.hid (fun w b k (h : Bt W w b s.data.toList M k 0) => bdo_big s a n ins h han hb (by omega) (by omega))
          go_enter Try.func13, Try.ntmps13
          go_wp2_with (fail)
          refine CN.out.mono ?_
          rintro e w1 ⟨b, kk, rfl, hkk, t1⟩
          have CD' := Lib.hid (CD.out _ _ _ t1)
          clear t1 CN CD
          go_wp2_with (fail)
          refine CD'.out.mono ?_
          rintro e w2 ⟨rfl, k2, t2⟩
          have T2 := Lib.hid t2
          clear t2 CD'
          go_wp2_with (fail)
          obtain ⟨w3, hw3⟩ : ∃ w3, w3 = w2.alloc (.cells #[Value.int .i64 0, .string (⟨#[]⟩ : ByteArray), .string (⟨#[]⟩ : ByteArray)] 68) := ⟨_, rfl⟩
          obtain ⟨N, hN⟩ : ∃ N, N = w2.heap.size := ⟨_, rfl⟩
          rw [← hw3, ← hN]
          have n3 : w3.heap[N]? = some (.cells #[Value.int .i64 0, .string (⟨#[]⟩ : ByteArray), .string (⟨#[]⟩ : ByteArray)] 68 (0, 0)) := by rw [hw3, hN]; exact blk_alloc_new w2 _
          have b3 : Below w2.heap.size w2 w3 := by rw [hw3]; exact (Below.refl _ _).alloc (Nat.le_refl _) _
          have l3 : N < w3.heap.size := by rw [hw3, hN]; simp
          have N3 := Lib.hid n3
          have B3 := Lib.hid b3
          clear hw3 hN n3 b3
          refine (CR.out w3).mono ?_
          rintro e w4 ⟨rfl, b4⟩
          have B4 := Lib.hid b4
          have n4 : w4.heap[N]? = some (.cells #[Value.int .i64 0, .string (⟨#[]⟩ : ByteArray), .string (⟨#[]⟩ : ByteArray)] 68 (0, 0)) := (b4.block N l3).trans N3.out
          have l4 : N < w4.heap.size := Nat.lt_of_lt_of_le l3 b4.size
          have d0 : ∀ o, (w4.alloc o).cell? ⟨N, 0, none⟩ = some (Value.int .i64 0) := fun o => by rw [World.cell?_of_block (w := w4) (blk_alloc_lt _ _ _ l4)]; simp [World.cell?, n4]
          have d1 : ∀ o, (w4.alloc o).cell? ⟨N, 1, none⟩ = some (Value.string (⟨#[]⟩ : ByteArray)) := fun o => by rw [World.cell?_of_block (w := w4) (blk_alloc_lt _ _ _ l4)]; simp [World.cell?, n4]
          have d2 : ∀ o, (w4.alloc o).cell? ⟨N, 2, none⟩ = some (Value.string (⟨#[]⟩ : ByteArray)) := fun o => by rw [World.cell?_of_block (w := w4) (blk_alloc_lt _ _ _ l4)]; simp [World.cell?, n4]
          clear b4 CR n4 l4
          go_wp2_with (fail)
          obtain ⟨w5, hw5⟩ : ∃ w5, w5 = w4.alloc (.cells #[Value.int .i64 0, .string (⟨#[]⟩ : ByteArray), .string (⟨#[]⟩ : ByteArray)] 68) := ⟨_, rfl⟩
          rw [← hw5]
          have T5 := Lib.hid (((T2.out.later B3.out).later B4.out).later (show Below w4.heap.size w4 w5 by rw [hw5]; exact (Below.refl _ _).alloc (Nat.le_refl _) _))
          clear hw5 d0 d1 d2 l3
          refine (same_refl 0 (⟨#[]⟩ : ByteArray) (⟨#[]⟩ : ByteArray) w5).mono ?_
          rintro e w6 ⟨rfl, b6⟩
          have CT := Lib.hid (bs_text s (T5.out.later b6) (by decide))
          clear b6
          go_wp2_with (fail)
          refine CT.out.mono ?_
          rintro e w7 ⟨rfl, t7⟩
          have T7 := Lib.hid t7.below
          clear t7 CT
          go_wp2_with (fail)
          refine (ed_awake _).mono ?_
          rintro e w8 ⟨rfl, h8⟩
          go_wp2_with (fail)
          go_ret
          exact ⟨rfl, T7.out.trans (h8.mono T7.out.size)⟩
        · obtain ⟨z, hz⟩ : ∃ z, z = s.extract 0 a ++ ins ++ s.extract (a + n) s.size := ⟨_, rfl⟩
          have hzs : z.size ≤ M := by rw [hz, z_size _ _ _ _ han]; omega
          have CR := Lib.hid (fun w => rdo_ok s M a n ins w (by omega) (by omega) han (by omega) hM2)
          rw [← hz] at CR
          have CD := Lib.hid (fun w b k (h : Bt W w b s.data.toList M k 0) => bdo_ok s a n ins z h han hz hzs (by omega) (by omega))
          have HZ := Lib.hid hz
          clear hz
          go_enter Try.func13, Try.ntmps13
          go_wp2_with (fail)
          refine CN.out.mono ?_
          rintro e w1 ⟨b, kk, rfl, hkk, t1⟩
          have CD' := Lib.hid (CD.out _ _ _ t1)
          clear t1 CN CD
          go_wp2_with (fail)
          refine CD'.out.mono ?_
          rintro e w2 ⟨rfl, k2, t2⟩
          have T2 := Lib.hid t2
          clear t2 CD'
          go_wp2_with (fail)
          obtain ⟨w3, hw3⟩ : ∃ w3, w3 = w2.alloc (.cells #[Value.int .i64 (a : Nat), .string (s.extract a (a + n)), .string ins] 68) := ⟨_, rfl⟩
          obtain ⟨N, hN⟩ : ∃ N, N = w2.heap.size := ⟨_, rfl⟩
          rw [← hw3, ← hN]
          have n3 : w3.heap[N]? = some (.cells #[Value.int .i64 (a : Nat), .string (s.extract a (a + n)), .string ins] 68 (0, 0)) := by rw [hw3, hN]; exact blk_alloc_new w2 _
          have b3 : Below w2.heap.size w2 w3 := by rw [hw3]; exact (Below.refl _ _).alloc (Nat.le_refl _) _
          have l3 : N < w3.heap.size := by rw [hw3, hN]; simp
          have N3 := Lib.hid n3
          have B3 := Lib.hid b3
          clear hw3 hN n3 b3
          refine (CR.out w3).mono ?_
          rintro e w4 ⟨rfl, b4⟩
          have B4 := Lib.hid b4
          have n4 : w4.heap[N]? = some (.cells #[Value.int .i64 (a : Nat), .string (s.extract a (a + n)), .string ins] 68 (0, 0)) := (b4.block N l3).trans N3.out
          have l4 : N < w4.heap.size := Nat.lt_of_lt_of_le l3 b4.size
          have d0 : ∀ o, (w4.alloc o).cell? ⟨N, 0, none⟩ = some (Value.int .i64 (a : Nat)) := fun o => by rw [World.cell?_of_block (w := w4) (blk_alloc_lt _ _ _ l4)]; simp [World.cell?, n4]
          have d1 : ∀ o, (w4.alloc o).cell? ⟨N, 1, none⟩ = some (Value.string (s.extract a (a + n))) := fun o => by rw [World.cell?_of_block (w := w4) (blk_alloc_lt _ _ _ l4)]; simp [World.cell?, n4]
          have d2 : ∀ o, (w4.alloc o).cell? ⟨N, 2, none⟩ = some (Value.string ins) := fun o => by rw [World.cell?_of_block (w := w4) (blk_alloc_lt _ _ _ l4)]; simp [World.cell?, n4]
          clear b4 CR n4 l4
          go_wp2_with (fail)
          obtain ⟨w5, hw5⟩ : ∃ w5, w5 = w4.alloc (.cells #[Value.int .i64 (a : Nat), .string (s.extract a (a + n)), .string ins] 68) := ⟨_, rfl⟩
          rw [← hw5]
          have T5 := Lib.hid (((T2.out.later B3.out).later B4.out).later (show Below w4.heap.size w4 w5 by rw [hw5]; exact (Below.refl _ _).alloc (Nat.le_refl _) _))
          clear hw5 d0 d1 d2 l3
          refine (same_refl (a : Nat) (s.extract a (a + n)) ins w5).mono ?_
          rintro e w6 ⟨rfl, b6⟩
          have CT := Lib.hid (bs_text z (T5.out.later b6) (by decide))
          clear b6
          go_wp2_with (fail)
          refine CT.out.mono ?_
          rintro e w7 ⟨rfl, t7⟩
          have T7 := Lib.hid t7.below
          clear t7 CT
          go_wp2_with (fail)
          refine (ed_awake _).mono ?_
          rintro e w8 ⟨rfl, h8⟩
          go_wp2_with (fail)
          go_ret
          exact ⟨rfl, T7.out.trans (h8.mono T7.out.size)⟩
      · have CR := Lib.hid (fun w => rdo_place s M a n ins w (by omega) hin)
        have CD := Lib.hid (fun w b k (h : Bt W w b s.data.toList M k 0) => bdo_place s a n ins h (by rw [HSL.out]; exact hin))
        clear hin
        go_enter Try.func13, Try.ntmps13
        go_wp2_with (fail)
        refine CN.out.mono ?_
        rintro e w1 ⟨b, kk, rfl, hkk, t1⟩
        have CD' := Lib.hid (CD.out _ _ _ t1)
        clear t1 CN CD
        go_wp2_with (fail)
        refine CD'.out.mono ?_
        rintro e w2 ⟨rfl, k2, t2⟩
        have T2 := Lib.hid t2
        clear t2 CD'
        go_wp2_with (fail)
        obtain ⟨w3, hw3⟩ : ∃ w3, w3 = w2.alloc (.cells #[Value.int .i64 0, .string (⟨#[]⟩ : ByteArray), .string (⟨#[]⟩ : ByteArray)] 68) := ⟨_, rfl⟩
        obtain ⟨N, hN⟩ : ∃ N, N = w2.heap.size := ⟨_, rfl⟩
        rw [← hw3, ← hN]
        have n3 : w3.heap[N]? = some (.cells #[Value.int .i64 0, .string (⟨#[]⟩ : ByteArray), .string (⟨#[]⟩ : ByteArray)] 68 (0, 0)) := by rw [hw3, hN]; exact blk_alloc_new w2 _
        have b3 : Below w2.heap.size w2 w3 := by rw [hw3]; exact (Below.refl _ _).alloc (Nat.le_refl _) _
        have l3 : N < w3.heap.size := by rw [hw3, hN]; simp
        have N3 := Lib.hid n3
        have B3 := Lib.hid b3
        clear hw3 hN n3 b3
        refine (CR.out w3).mono ?_
        rintro e w4 ⟨rfl, b4⟩
        have B4 := Lib.hid b4
        have n4 : w4.heap[N]? = some (.cells #[Value.int .i64 0, .string (⟨#[]⟩ : ByteArray), .string (⟨#[]⟩ : ByteArray)] 68 (0, 0)) := (b4.block N l3).trans N3.out
        have l4 : N < w4.heap.size := Nat.lt_of_lt_of_le l3 b4.size
        have d0 : ∀ o, (w4.alloc o).cell? ⟨N, 0, none⟩ = some (Value.int .i64 0) := fun o => by rw [World.cell?_of_block (w := w4) (blk_alloc_lt _ _ _ l4)]; simp [World.cell?, n4]
        have d1 : ∀ o, (w4.alloc o).cell? ⟨N, 1, none⟩ = some (Value.string (⟨#[]⟩ : ByteArray)) := fun o => by rw [World.cell?_of_block (w := w4) (blk_alloc_lt _ _ _ l4)]; simp [World.cell?, n4]
        have d2 : ∀ o, (w4.alloc o).cell? ⟨N, 2, none⟩ = some (Value.string (⟨#[]⟩ : ByteArray)) := fun o => by rw [World.cell?_of_block (w := w4) (blk_alloc_lt _ _ _ l4)]; simp [World.cell?, n4]
        clear b4 CR n4 l4
        go_wp2_with (fail)
        obtain ⟨w5, hw5⟩ : ∃ w5, w5 = w4.alloc (.cells #[Value.int .i64 0, .string (⟨#[]⟩ : ByteArray), .string (⟨#[]⟩ : ByteArray)] 68) := ⟨_, rfl⟩
        rw [← hw5]
        have T5 := Lib.hid (((T2.out.later B3.out).later B4.out).later (show Below w4.heap.size w4 w5 by rw [hw5]; exact (Below.refl _ _).alloc (Nat.le_refl _) _))
        clear hw5 d0 d1 d2 l3
        refine (same_refl 0 (⟨#[]⟩ : ByteArray) (⟨#[]⟩ : ByteArray) w5).mono ?_
        rintro e w6 ⟨rfl, b6⟩
        have CT := Lib.hid (bs_text s (T5.out.later b6) (by decide))
        clear b6
        go_wp2_with (fail)
        refine CT.out.mono ?_
        rintro e w7 ⟨rfl, t7⟩
        have T7 := Lib.hid t7.below
        clear t7 CT
        go_wp2_with (fail)
        refine (ed_awake _).mono ?_
        rintro e w8 ⟨rfl, h8⟩
        go_wp2_with (fail)
        go_ret
        exact ⟨rfl, T7.out.trans (h8.mono T7.out.size)⟩
end Go.Proofs.Ytemcffihfeaniaa

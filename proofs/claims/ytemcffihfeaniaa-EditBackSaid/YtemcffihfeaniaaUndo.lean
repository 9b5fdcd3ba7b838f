/- Undo. -/
import Derived.Test.YtemcffihfeaniaaEdo
namespace Go.Proofs.Ytemcffihfeaniaa
open Go.RowKit Go.Deep Go.Own
set_option linter.unusedVariables false
section
variable {K : Nat → Prop} {w w' : World} {b : Nat} {most k g : Nat}
/-- behind Inverse: the edit turned lies in a block of its own, kept -/
theorem undo_start {w0 w1 : World} {x : ByteArray} (h : Bk K w b x.data.toList most k g) (o1 : Obj) (b1 : Below (w.alloc o1).heap.size (w.alloc o1) w1) (cs : Array Value) :
    Bk (fun j => K j ∨ j = w1.heap.size) (w1.alloc (.cells cs 68)) b x.data.toList most k g ∧ Below w.heap.size w (w1.alloc (.cells cs 68)) ∧ w.heap.size ≤ w1.heap.size := by
  have hb : Below w.heap.size w w1 := (Below.trans ((Below.refl _ _).alloc (Nat.le_refl _) o1) (b1.mono (by simp)))
  exact ⟨(h.later hb).fresh _, hb.alloc hb.size _, hb.size⟩
def UnPost (K : Nat → Prop) (w : World) (b : Nat) (t : List UInt8) (most g : Nat) (w' : World) : Prop := ∃ k', Bk K w' b t most k' (g + 3) ∧ Kp K w w'
set_option maxRecDepth 100000 in
set_option maxHeartbeats 4000000 in
theorem undo_far (x : ByteArray) (a : Nat) (d i : ByteArray) (h : Bk K w b x.data.toList most k g) (hn : x.size < a + i.size) (hi : i.size ≤ 140737488351232) :
    Calls Try.prog 47 #[.pointer (some ⟨b, 0, none⟩), .agg #[.int .i64 (a : Nat), .string d, .string i]] w fun e w' => e = .returned (.int .i64 2) ∧ UnPost K w b x.data.toList most g w' := by
  have H := Lib.hid h
  clear h
  go_enter Try.func47, Try.ntmps47
  go_wp2_with (fail)
  refine (inverse_calls _ _ _ _).mono ?_
  rintro e w1 ⟨rfl, b1⟩
  obtain ⟨h2, hb2, hs⟩ := undo_start (w0 := w) H.out _ b1 #[.int .i64 (a : Nat), .string i, .string d]
  have B2 := Lib.hid hb2
  have CS := Lib.hid (bk_slice_no h2 (a : Nat) (i.size : Nat) (by have : x.data.toList.length = x.size := by simp
                                                                  rw [this]; omega))
  have H2 := Lib.hid h2
  clear h2 hb2 b1
  go_wp2_with (fail)
  refine CS.out.mono ?_
  rintro e w3 ⟨rfl, rfl⟩
  go_wp2_with (fail)
  go_ret
  exact ⟨rfl, k, (H2.out.mono fun j hj => .inl hj).more (by omega), Kp.of_below B2.out⟩
set_option maxRecDepth 100000 in
set_option maxHeartbeats 4000000 in
theorem undo_no (x : ByteArray) (a : Nat) (d i : ByteArray) (h : Bk K w b x.data.toList most k g) (hn : a + i.size ≤ x.size) (he : x.extract a (a + i.size) ≠ i) (hg : g ≤ 999990) (hi : i.size ≤ 140737488351232) :
    Calls Try.prog 47 #[.pointer (some ⟨b, 0, none⟩), .agg #[.int .i64 (a : Nat), .string d, .string i]] w fun e w' => e = .returned (.int .i64 2) ∧ UnPost K w b x.data.toList most g w' := by
  have H := Lib.hid h
  have hf : ((x.extract a (a + i.size)).toList == i.toList) = false := by
    rw [beq_eq_false_iff_ne]
    intro e
    rw [Lib.toList_data, Lib.toList_data] at e
    exact he (ByteArray.ext (Array.toList_inj.1 e))
  obtain ⟨y, hy⟩ : ∃ y, y = x.extract a (a + i.size) := ⟨_, rfl⟩
  rw [← hy] at hf
  have HY := Lib.hid hy
  clear h he hy
  go_enter Try.func47, Try.ntmps47
  go_wp2_with (fail)
  refine (inverse_calls _ _ _ _).mono ?_
  rintro e w1 ⟨rfl, b1⟩
  obtain ⟨h2, hb2, hs⟩ := undo_start (w0 := w) H.out _ b1 #[.int .i64 (a : Nat), .string i, .string d]
  have B2 := Lib.hid hb2
  have CS := Lib.hid (ks_slice x h2 (by omega) a i.size hn)
  rw [← HY.out] at CS
  clear h2 hb2 b1
  go_wp2_with (fail)
  refine CS.out.mono ?_
  rintro e w3 ⟨rfl, t3, k3⟩
  obtain ⟨o, ho⟩ : ∃ o, o = w1.heap.size := ⟨_, rfl⟩
  have n3 : w3.heap[o]? = some (.cells #[Value.int .i64 (a : Nat), .string i, .string d] 68 (0, 0)) := by
    rw [ho]; exact (k3.block (by simp) (.inr rfl)).trans (blk_alloc_new w1 _)
  have d0 : w3.cell? ⟨o, 0, none⟩ = some (Value.int .i64 (a : Nat)) := by simp [World.cell?, n3]
  have d1 : w3.cell? ⟨o, 1, none⟩ = some (Value.string i) := by simp [World.cell?, n3]
  have d2 : w3.cell? ⟨o, 2, none⟩ = some (Value.string d) := by simp [World.cell?, n3]
  have dl : o < w3.heap.size := World.block_lt_of_cell? _ _ d0
  have T3 := Lib.hid t3
  have K3 := Lib.hid k3
  rw [← ho]
  have HO := Lib.hid ho
  clear t3 k3 CS n3 ho
  go_wp2_with (fail)
  go_ret
  exact ⟨rfl, k, ((T3.out.mono fun j hj => .inl hj).later ((Below.refl _ _).alloc (Nat.le_refl _) _)).more (by omega), ((Kp.of_below B2.out).trans (K3.out.mono fun j hj => .inl hj)).trans (Kp.of_below ((Below.refl _ _).alloc (Nat.le_refl _) _))⟩
set_option maxRecDepth 100000 in
set_option maxHeartbeats 4000000 in
theorem undo_ok (x : ByteArray) (a : Nat) (d i z : ByteArray) (h : Bk K w b x.data.toList most k g) (hn : a + i.size ≤ x.size) (he : x.extract a (a + i.size) = i) (hz : z = x.extract 0 a ++ d ++ x.extract (a + i.size) x.size) (hb : z.size ≤ most) (hg : g ≤ 999980) (hi : i.size ≤ 140737488351232) (hd : d.size ≤ 140737488351232) :
    Calls Try.prog 47 #[.pointer (some ⟨b, 0, none⟩), .agg #[.int .i64 (a : Nat), .string d, .string i]] w fun e w' => e = .returned (.int .i64 0) ∧ UnPost K w b z.data.toList most g w' := by
  have H := Lib.hid h
  have HE := Lib.hid he
  have hf : (i.toList == i.toList) = true := by simp
  clear h he
  go_enter Try.func47, Try.ntmps47
  go_wp2_with (fail)
  refine (inverse_calls _ _ _ _).mono ?_
  rintro e w1 ⟨rfl, b1⟩
  obtain ⟨h2, hb2, hs⟩ := undo_start (w0 := w) H.out _ b1 #[.int .i64 (a : Nat), .string i, .string d]
  have B2 := Lib.hid hb2
  have CS := Lib.hid (ks_slice x h2 (by omega) a i.size hn)
  rw [HE.out] at CS
  clear h2 hb2 b1
  go_wp2_with (fail)
  refine CS.out.mono ?_
  rintro e w3 ⟨rfl, t3, k3⟩
  obtain ⟨o, ho⟩ : ∃ o, o = w1.heap.size := ⟨_, rfl⟩
  have n3 : w3.heap[o]? = some (.cells #[Value.int .i64 (a : Nat), .string i, .string d] 68 (0, 0)) := by
    rw [ho]; exact (k3.block (by simp) (.inr rfl)).trans (blk_alloc_new w1 _)
  have d0 : w3.cell? ⟨o, 0, none⟩ = some (Value.int .i64 (a : Nat)) := by simp [World.cell?, n3]
  have d1 : w3.cell? ⟨o, 1, none⟩ = some (Value.string i) := by simp [World.cell?, n3]
  have d2 : w3.cell? ⟨o, 2, none⟩ = some (Value.string d) := by simp [World.cell?, n3]
  have dl : o < w3.heap.size := World.block_lt_of_cell? _ _ d0
  have T3 := Lib.hid (t3.mono (L := K) fun j hj => .inl hj)
  have K3 := Lib.hid k3
  have CD := Lib.hid (fun obj => do_ok x a i.size d _ z (T3.out.later ((Below.refl _ _).alloc (Nat.le_refl _) obj)) hn rfl hz hb (by omega) hd)
  rw [← ho]
  have HO := Lib.hid ho
  clear t3 k3 CS n3 ho hz hb
  go_wp2_with (fail)
  refine (CD.out _).mono ?_
  rintro e w5 ⟨rfl, k5, t5, kp5⟩
  have T5 := Lib.hid t5
  have KP5 := Lib.hid kp5
  clear t5 kp5 CD
  go_wp2_with (fail)
  go_ret
  exact ⟨rfl, k5, T5.out, (((Kp.of_below B2.out).trans (K3.out.mono fun j hj => .inl hj)).trans (Kp.of_below ((Below.refl _ _).alloc (Nat.le_refl _) _))).trans KP5.out⟩
end
end Go.Proofs.Ytemcffihfeaniaa

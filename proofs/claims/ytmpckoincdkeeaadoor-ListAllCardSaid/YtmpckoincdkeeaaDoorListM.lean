/- list.Text: a byte into a builder; whether two lists are the same. -/
import Derived.Test.YtmpckoincdkeeaaDoorListI
import Derived.Test.YtmpckoincdkeeaaDoorBld
import Derived.Test.YtmpckoincdkeeaaDoorUBytes
namespace Go.Proofs.YtmpckoincdkeeaaDoor
open Go.RowKit Go.Deep Go.Own
set_option linter.unusedVariables false
set_option maxRecDepth 100000 in
set_option maxHeartbeats 2000000 in
theorem bl_byte (B b : Nat) (bs : List Value) (c : Nat) (hc : c < 256) (w : World) (h : Lib.IsBuilder 87 5 B b bs w) (hlen : bs.length ≤ 140737488355000) (hBw : B ≤ w.heap.size) :
    Calls Tryd.prog 38 #[.pointer (some ⟨b, 0, none⟩), .int .u8 (c : Nat)] w fun e w' => e = .returned .nilIface ∧ Lib.BuilderAt 87 5 B b (.pointer (some ⟨b, 0, none⟩)) (bs ++ [.int .u8 (c : Nat)]) w' ∧ Below B w w' ∧ (∀ (k : Nat) (c : Array Value) (t : TypeId) (fr : Nat × Nat), w.heap[k]? = some (.cells c t fr) → t ≠ 5 → k ≠ b → w'.heap[k]? = w.heap[k]?) := by
  obtain ⟨i0, hi, hz0, hz1, hz2⟩ := info_parts bl_info5
  have CC := Lib.hid (bl_copyCheck B b bs w h)
  clear h
  go_enter Tryd.func38, Tryd.ntmps38
  go_wp2_with (fail)
  refine CC.out.mono ?_
  rintro e w1 ⟨rfl, h1, hb1, hk1⟩
  have HK1 := Lib.hid hk1
  clear hk1
  obtain ⟨hB, v, hbk, hown, hne⟩ := h1
  have hvs : ∃ ao n cap, v = .slice ao n cap := by
    rcases hown.2 with ⟨hv, _⟩ | ⟨g, cap, cur, hv, _⟩
    · exact ⟨_, _, _, hv⟩
    · exact ⟨_, _, _, hv⟩
  obtain ⟨ao, n, cap, rfl⟩ := hvs
  obtain ⟨o, ho⟩ : ∃ o, o = Obj.cells #[Value.int .u8 (c : Nat)] 5 := ⟨_, rfl⟩
  have b4 : Below w1.heap.size w1 (w1.alloc o) := (Below.refl _ _).alloc (Nat.le_refl _) _
  have c0 : w1.cell? ⟨b, 0, none⟩ = some (.pointer (some ⟨b, 0, none⟩)) := by rw [Lib.cell_of_heap hbk]; rfl
  have c1 : w1.cell? ⟨b, 1, none⟩ = some (.slice ao n cap) := by rw [Lib.cell_of_heap hbk]; rfl
  have hlt : b < w1.heap.size := (Array.getElem?_eq_some_iff.1 hbk).1
  have hn : n = bs.length := by
    rcases hown.2 with ⟨hv, h0⟩ | ⟨g, cap2, cur, hv, _⟩
    · injection hv with _ e2 _; omega
    · injection hv
  subst hn
  have hbk4 : (w1.alloc o).heap[b]? = some (.cells #[.pointer (some ⟨b, 0, none⟩), .slice ao bs.length cap] 87 (0, 0)) := (b4.block _ hlt).trans hbk
  have O4 := Lib.hid (own_below hown b4)
  have S4 : Hid (Src Tryd.prog 1 46 (.slice (some ⟨w1.heap.size, 0, none⟩) 1 1) 1 [.int .u8 (c : Nat)] (w1.alloc o)) := Lib.hid (src_one Tryd.underlying46 rfl (by rw [ho]; exact cell_new1 _ _ _))
  have B1 := Lib.hid hb1
  have HB4 := Lib.hid hbk4
  have HNE := Lib.hid hne
  have HOW := Lib.hid hown
  have hB4 : B ≤ (w1.alloc o).heap.size := Nat.le_trans hBw (Nat.le_trans (hb1.size) b4.size)
  have HB0 := Lib.hid hB4
  have HBB := Lib.hid hB
  have HB4' := Lib.hid (hb1.alloc (Nat.le_trans hBw hb1.size) o)
  subst ho
  clear hown hbk hbk4 hne hb1 hB4 hB b4
  go_wp2_with (at_builtin; refine own_append (o := ⟨some 14, _, _, _, _, _⟩) rfl (.tmp 11) (.tmp 13) 46 46 rfl B 5 i0 _ 1 1 Tryd.underlying46 hi hz0 hz1 hz2 rfl (by decide) (.slice ao bs.length cap) bs.length _ rfl O4.out (.slice (some ⟨w1.heap.size, 0, none⟩) 1 1) rfl 1 _ S4.out (by unfold maxLen; omega) (by omega) HB0.out ?_; intro v5 w5 O5 G5 V5; obtain ⟨A5, c5, hv5⟩ := own_is O5; subst hv5; have hb5 : w5.heap[b]? = some (.cells #[.pointer (some ⟨b, 0, none⟩), .slice ao bs.length cap] 87 (0, 0)) := (G5.block b (Array.getElem?_eq_some_iff.1 HB4.out).1 (fun e => HNE.out e.symm)).trans HB4.out; have d0 : w5.cell? ⟨b, 0, none⟩ = some (.pointer (some ⟨b, 0, none⟩)) := (by rw [Lib.cell_of_heap hb5]; rfl); have d1 : w5.cell? ⟨b, 1, none⟩ = some (.slice ao bs.length cap) := (by rw [Lib.cell_of_heap hb5]; rfl); have f1 : w5.frozen? ⟨b, 1, none⟩ = false := Lib.frozen_of_heap hb5 1)
  go_ret
  refine ⟨rfl, ?_, ?_, ?_⟩
  · exact Lib.BuilderAt.put (T := 87) (e := 5) HBB.out hb5 (bs' := bs ++ [.int .u8 (c : Nat)]) (by rw [List.length_append]; exact O5) (by decide)
  · exact (HB4'.out.grown G5 HB0.out (fun k hk => (own_block_lt O4.out hk).1)).setCell (p := ⟨b, 1, none⟩) HBB.out _
  · intro k c' t fr hk ht hkb
    have e1 := HK1.out k hkb
    have e2 := e1.trans hk
    have hkl := (Array.getElem?_eq_some_iff.1 e2).1
    have e3 : (w1.alloc (Obj.cells #[Value.int .u8 (c : Nat)] 5)).heap[k]? = w1.heap[k]? := blk_alloc_lt _ _ _ hkl
    rw [setCell_other _ hkb, G5.block k (by rw [World.size_alloc]; omega) (fun e => by
      obtain ⟨cur, hc⟩ := own_row_type O4.out e.symm
      rw [e3, e2] at hc
      simp only [Option.some.injEq, Obj.cells.injEq] at hc
      exact ht hc.2.1), e3, e1]
theorem bd_byte {B b : Nat} {l : List UInt8} {w : World} (x : UInt8) (h : Bd B b l w) (hlen : l.length ≤ 140737488355000) (hBw : B ≤ w.heap.size) :
    Calls Tryd.prog 38 #[.pointer (some ⟨b, 0, none⟩), .int .u8 (x.toNat : Nat)] w fun e w' => e = .returned .nilIface ∧ Bd B b (l ++ [x]) w' ∧ Below B w w' ∧ (∀ (k : Nat) (c : Array Value) (t : TypeId) (fr : Nat × Nat), w.heap[k]? = some (.cells c t fr) → t ≠ 5 → k ≠ b → w'.heap[k]? = w.heap[k]?) :=
  (bl_byte B b (Lib.byteCells l) x.toNat x.toNat_lt w h (by simpa [Lib.byteCells] using hlen) hBw).mono fun e w' ⟨h1, h2, h3⟩ => by
    have e' : Lib.byteCells (l ++ [x]) = Lib.byteCells l ++ [.int .u8 (x.toNat : Nat)] := by simp [Lib.byteCells]
    exact ⟨h1, .inr (by rw [e']; exact h2), h3⟩
theorem equal_calls (A B : Option Addr) (c d : Nat) (xs ys : List Int) (w : World) (hA : Reads w A xs) (hB : Reads w B ys) (hx : xs.length ≤ 1000000) (hy : ys.length ≤ 1000000) :
    Calls Tryd.prog 42 #[.slice A xs.length c, .slice B ys.length d] w fun e w' => e = .returned (.bool (decide (xs = ys))) ∧ ∃ q, w' = w.drewN q := by
  by_cases hl : xs.length = ys.length
  · by_cases h0 : 0 < xs.length
    · obtain ⟨b1, o1, rfl, h1⟩ := hA h0
      obtain ⟨b2, o2, rfl, h2⟩ := hB (by omega)
      have := Tryd.slices_Equal_int b1 o1 xs.length c b2 o2 ys.length d xs ys w (Nat.le_refl _) (Nat.le_refl _) (by omega) (by omega) (fun j hj => h1 w (since_of_below (Below.refl _ _)) j hj) (fun j hj => h2 w (since_of_below (Below.refl _ _)) j hj)
      rw [List.take_length, List.take_length] at this
      have e : (xs == ys) = decide (xs = ys) := by
        by_cases h : xs = ys
        · rw [h]; simp
        · rw [decide_eq_false h, beq_eq_false_iff_ne.2 h]
      rw [e] at this
      exact this
    · have hx0 : xs = [] := List.length_eq_zero_iff.1 (by omega)
      have hy0 : ys = [] := List.length_eq_zero_iff.1 (by omega)
      subst hx0 hy0
      exact (Tryd.slices_Equal_int_empty A B c 0 d w (by omega)).mono fun e w' ⟨h1, h2⟩ => ⟨h1, 0, h2⟩
  · have hne : xs ≠ ys := fun h => hl (by rw [h])
    rw [decide_eq_false hne]
    exact (Tryd.slices_Equal_int_lens A B xs.length c ys.length d w hl).mono fun e w' ⟨h1, h2⟩ => ⟨h1, 0, h2⟩
set_option maxRecDepth 100000 in
theorem esame_calls (x y : Ent) (A B : Option Addr) (c d : Nat) (w : World) (hA : Reads w A x.2) (hB : Reads w B y.2) (hx : x.2.length ≤ 1000000) (hy : y.2.length ≤ 1000000) :
    Calls Tryd.prog 41 #[.agg #[.string x.1, .slice A x.2.length c], .agg #[.string y.1, .slice B y.2.length d]] w fun e w' => e = .returned (.bool (decide (x = y))) ∧ Below w.heap.size w w' := by
  obtain ⟨w2, hw2⟩ : ∃ w2, w2 = (w.alloc (.cells #[Value.string x.1, .slice A x.2.length c] 78)).alloc (.cells #[Value.string y.1, .slice B y.2.length d] 78) := ⟨_, rfl⟩
  have b2 : Below w.heap.size w w2 := by rw [hw2]; exact ((Below.refl _ _).alloc (Nat.le_refl _) _).alloc (by simp) _
  have C1 := Lib.hid (equal_calls A B c d x.2 y.2 w2 (hA.later b2) (hB.later b2) hx hy)
  have B2 := Lib.hid b2
  have HW := Lib.hid hw2
  clear hA hB b2 hw2
  by_cases hw : x.1 = y.1
  · have hd : decide (x = y) = decide (x.2 = y.2) := by
      by_cases h : x.2 = y.2
      · rw [decide_eq_true h, decide_eq_true (Prod.ext hw h)]
      · rw [decide_eq_false h, decide_eq_false (fun e => h (by rw [e]))]
    rw [hd]
    obtain ⟨r, hr⟩ : ∃ r, r = decide (x.2 = y.2) := ⟨_, rfl⟩
    rw [← hr] at C1 ⊢
    rw [← hw]
    rw [← hw] at HW
    obtain ⟨x1, x2⟩ := x
    obtain ⟨y1, y2⟩ := y
    simp only at *
    clear hd hr hw
    go_enter Tryd.func41, Tryd.ntmps41
    go_wp2_with (fail)
    rw [← HW.out]
    refine C1.out.mono ?_
    rintro e w3 ⟨rfl, n, rfl⟩
    go_wp2_with (fail)
    go_ret
    exact ⟨rfl, B2.out.trans ((belowN w2 n).mono B2.out.size)⟩
  · have hd : decide (x = y) = false := decide_eq_false fun e => hw (by rw [e])
    rw [hd]
    obtain ⟨x1, x2⟩ := x
    obtain ⟨y1, y2⟩ := y
    simp only at *
    have hne : ¬ x1.toList = y1.toList := fun h => hw (by
      rw [ByteArray.toList_eq, ByteArray.toList_eq] at h
      exact ByteArray.ext (Array.toList_inj.1 h))
    clear hd C1
    go_enter Tryd.func41, Tryd.ntmps41
    go_wp2_with (fail)
    go_ret
    exact ⟨rfl, by rw [← HW.out]; exact B2.out⟩
end Go.Proofs.YtmpckoincdkeeaaDoor

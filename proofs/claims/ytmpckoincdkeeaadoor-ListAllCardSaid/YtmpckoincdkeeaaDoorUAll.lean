/- Rows of units; runes.All. -/
import Derived.Test.YtmpckoincdkeeaaDoorUni
import Derived.Test.YtmpckoincdkeeaaDoorRow
import Derived.Test.YtmpckoincdkeeaaDoorRat
import Derived.Lib.OthersKept
import Derived.OwnWalk
namespace Go.Proofs.YtmpckoincdkeeaaDoor
open Go.RowKit Go.Deep Go.Own
set_option linter.unusedVariables false
def RowU (w : World) (base : Nat) (v : Value) (us : List (Nat × Nat × Int)) : Prop := w.ownsRow base 73 3 v us.length (us.flatMap unitCells)
theorem infoU : (Tryd.prog.info? 73).map (fun i => (i.zero, i.size, i.bytes)) = some (some (.agg #[.int .i64 0, .int .i64 0, .int .i64 0]), 3, 24) := by kernel_rfl
theorem src_unit {w : World} {M : Nat} {a n c : Int} (h : w.heap[M]? = some (.cells #[.int .i64 a, .int .i64 n, .int .i64 c] 73 (0, 0))) :
    Src Tryd.prog 3 70 (.slice (some ⟨M, 0, none⟩) 1 1) 1 [.int .i64 a, .int .i64 n, .int .i64 c] w := by
  refine Src.ofSlice w Tryd.underlying70 _ 1 1 _ rfl (fun j u hj => ?_) (fun u hu => ?_)
  · match j, hj with
    | 0, hj => simp at hj; subst hj; simp [Addr.add, World.cell?, h]
    | 1, hj => simp at hj; subst hj; simp [Addr.add, World.cell?, h]
    | 2, hj => simp at hj; subst hj; simp [Addr.add, World.cell?, h]
    | j + 3, hj => simp at hj
  · simp only [List.mem_cons, List.mem_nil_iff, or_false] at hu
    rcases hu with rfl | rfl | rfl <;> rfl
theorem RowU.below {w w' : World} {base : Nat} {v : Value} {us : List (Nat × Nat × Int)} (h : RowU w base v us) (hb : Below w.heap.size w w') : RowU w' base v us := own_below h hb
theorem RowU.iterAt {w : World} {base : Nat} {v : Value} {us : List (Nat × Nat × Int)} {k pos : Nat} {s : ByteArray} (h : RowU w base v us) (hk : w.heap[k]? = some (.stringIter s pos)) (p : Nat) : RowU (w.iterAt k s p) base v us :=
  own_keep h fun j hj => Lib.iterAt_other w k j s p (by
    rintro rfl
    obtain ⟨cur, hc⟩ := own_row_type h hj
    rw [hk] at hc; cases hc)
theorem RowU.ne_iter {w : World} {base : Nat} {v : Value} {us : List (Nat × Nat × Int)} {k pos : Nat} {s : ByteArray} (h : RowU w base v us) (hk : w.heap[k]? = some (.stringIter s pos)) : v.ownBlock ≠ some k := fun hj => by
  obtain ⟨cur, hc⟩ := own_row_type h hj
  rw [hk] at hc; cases hc
theorem RowU.nil (w : World) (base : Nat) : RowU w base (.slice none 0 0) [] := World.ownsRow_nil _ _ _ _
theorem RowU.push {w' : World} {base : Nat} {v' : Value} {us : List (Nat × Nat × Int)} {u : Nat × Nat × Int} (O : w'.ownsRow base 73 3 v' (us.length + 1) (us.flatMap unitCells ++ [.int .i64 (u.1 : Nat), .int .i64 (u.2.1 : Nat), .int .i64 u.2.2])) : RowU w' base v' (us ++ [u]) := by
  unfold RowU
  rw [List.length_append, List.flatMap_append, List.flatMap_singleton]
  exact O
set_option maxRecDepth 100000 in
set_option maxHeartbeats 4000000 in
theorem uall_calls (s : ByteArray) (w : World) (hs : s.size ≤ 1099511627776) (hT : Lib.Utf8Tabs 0 1 w) :
    Calls Tryd.prog 31 #[.string s] w fun e w' => ∃ v, e = .returned v ∧ RowU w' w.heap.size v (units s) ∧ Below w.heap.size w w' := by
  obtain ⟨iU, hiU, hzU, hsU, hbU⟩ := info_parts infoU
  have HT := Lib.hid hT
  clear hT
  go_enter Tryd.func31, Tryd.ntmps31
  go_wp2_with (fail)
  go_loopw [3] (fun lv wr => ∃ (pos fuel : Nat) (acc : List (Nat × Nat × Int)), RowU wr w.heap.size lv acc ∧ wr.heap[w.heap.size]? = some (.stringIter s pos) ∧ Below w.heap.size w wr ∧ acc ++ unitsFrom s fuel pos = units s ∧ s.size ≤ pos + fuel ∧ acc.length ≤ pos) (fun _ wr => s.size - wr.iterPos w.heap.size)
  case atStart =>
    exact ⟨0, s.size, [], RowU.nil _ _, World.iter_heap w s 0, (Below.refl _ w).alloc (Nat.le_refl _) _, rfl, by omega, Nat.le_refl _⟩
  case round =>
    obtain ⟨pos, fuel, acc, hR, hit, hbw, hacc, hfu, hal⟩ := hrel
    obtain ⟨A, cp, rfl⟩ := own_is hR
    by_cases hp : pos < s.size
    · have hnx : ∀ ty, (Instr.next (.pointer (some ⟨w.heap.size, 0, none⟩)) true ty).run Tryd.prog wr = _ := fun ty => Lib.run_next_any_at wr w.heap.size s pos ty hit hp
      obtain ⟨f, rfl⟩ : ∃ f, fuel = f + 1 := ⟨fuel - 1, by omega⟩
      have hl1 : 1 ≤ uLen s pos := u_len1 s pos
      have hl4 : uLen s pos ≤ 4 := u_len4 s pos
      have hnx2 : ∀ ty, (Instr.next (.pointer (some ⟨w.heap.size, 0, none⟩)) true ty).run Tryd.prog wr = .ok (.tuple #[.bool true, .int .i64 (pos : Nat), .int .i32 ((Utf8.decode s pos).1 : Nat)]) (wr.iterAt w.heap.size s (pos + uLen s pos)) := hnx
      clear hnx
      have hit2 := Lib.iterAt_heap wr w.heap.size s pos (pos + uLen s pos) hit
      have hb2 := Lib.below_iterAt hbw (k := w.heap.size) (Nat.le_refl _) s (pos + uLen s pos)
      have hR2 := hR.iterAt hit (pos + uLen s pos)
      obtain ⟨w2, hw2⟩ : ∃ w2, w2 = wr.iterAt w.heap.size s (pos + uLen s pos) := ⟨_, rfl⟩
      rw [← hw2] at hnx2 hit2 hb2 hR2
      have CA := Lib.hid (uat_in s pos w2 hp (by omega) (Utf8Tabs_below HT.out hb2))
      have HIT := Lib.hid hit
      have HIT2 := Lib.hid hit2
      have HB2 := Lib.hid hb2
      have HR2 := Lib.hid hR2
      have HACC := Lib.hid hacc
      obtain ⟨n, hn⟩ : ∃ n, uLen s pos = n := ⟨_, rfl⟩
      obtain ⟨c, hc⟩ : ∃ c, uCode s pos = c := ⟨_, rfl⟩
      rw [hn, hc] at CA
      rw [hn] at hl1 hl4
      have HN := Lib.hid hn
      have HC := Lib.hid hc
      clear hit hit2 hb2 hR2 hR hbw hw2 hacc hn hc
      go_wp2_with (fail)
      refine CA.out.mono ?_
      unfold unitV
      rintro e w3 ⟨rfl, b3⟩
      have B3 := Lib.hid b3
      clear b3 CA
      have hR3 := HR2.out.below B3.out
      obtain ⟨o, ho⟩ : ∃ o, o = Obj.cells #[Value.int .i64 (pos : Nat), .int .i64 (n : Nat), .int .i64 c] 73 := ⟨_, rfl⟩
      have b4 : Below w3.heap.size w3 ((w3.alloc o).alloc o) := ((Below.refl _ _).alloc (Nat.le_refl _) _).alloc (by simp) _
      have hb4 : Below w.heap.size w ((w3.alloc o).alloc o) := (HB2.out.trans (B3.out.mono HB2.out.size)).trans (b4.mono (Nat.le_trans HB2.out.size B3.out.size))
      have R4 := Lib.hid (hR3.below b4)
      have S4 : Hid (Src Tryd.prog 3 70 (.slice (some ⟨w3.heap.size + 1, 0, none⟩) 1 1) 1 [.int .i64 (pos : Nat), .int .i64 (n : Nat), .int .i64 c] ((w3.alloc o).alloc o)) := Lib.hid (src_unit (by
        have := blk_new (w3.alloc o) o
        rw [← ho]
        simpa using this))
      have I4 : Hid (((w3.alloc o).alloc o).heap[w.heap.size]? = some (.stringIter s (pos + n))) := Lib.hid (by
        have h2 := (Array.getElem?_eq_some_iff.1 HIT2.out).1
        have h3 := (B3.out.block _ h2).trans HIT2.out
        rw [b4.block _ (Array.getElem?_eq_some_iff.1 h3).1, h3, HN.out])
      have HB4 := Lib.hid hb4
      clear hR3 b4 hb4 B3
      subst ho
      go_wp2_with (at_builtin; refine own_append (o := ⟨some 21, _, _, _, _, _⟩) rfl (.tmp 18) (.tmp 20) 70 70 rfl w.heap.size 73 iU _ 3 24 Tryd.underlying70 hiU hzU hsU hbU rfl (by decide) (.slice A acc.length cp) acc.length _ rfl R4.out (.slice (some ⟨w3.heap.size + 1, 0, none⟩) 1 1) rfl 1 _ S4.out (by unfold maxLen; omega) (by omega) HB4.out.size ?_; intro v5 w5 O5 G5 V5)
      go_roundw
      case rel =>
        have hne := R4.out.ne_iter I4.out
        have i5 := (G5.block w.heap.size (Array.getElem?_eq_some_iff.1 I4.out).1 (fun e => hne e.symm)).trans I4.out
        refine ⟨pos + n, f, acc ++ [(pos, n, c)], RowU.push O5, i5, HB4.out.grown G5 HB4.out.size (fun q hq => (own_block_lt R4.out hq).1), ?_, by omega, by simp; omega⟩
        rw [← HACC.out]
        have : unitsFrom s (f + 1) pos = (pos, n, c) :: unitsFrom s f (pos + n) := by
          rw [unitsFrom, if_pos hp, HN.out, HC.out]
        rw [this, List.append_assoc]; rfl
      case measure =>
        have hne := R4.out.ne_iter I4.out
        have i5 := (G5.block w.heap.size (Array.getElem?_eq_some_iff.1 I4.out).1 (fun e => hne e.symm)).trans I4.out
        simp only [World.iterPos, i5, HIT.out]
        omega
    · have hnx : ∀ ty, (Instr.next (.pointer (some ⟨w.heap.size, 0, none⟩)) true ty).run Tryd.prog wr = .ok (.tuple #[.bool false]) wr := fun ty => Lib.run_next_end_at wr w.heap.size s pos ty hit hp
      have HR := Lib.hid hR
      have HB := Lib.hid hbw
      have HACC := Lib.hid hacc
      clear hR hit hbw hacc
      go_wp2_with (fail)
      go_ret
      have := HACC.out
      rw [unitsFrom_end s fuel pos hp, List.append_nil] at this
      subst this
      exact ⟨_, rfl, HR.out, HB.out⟩
end Go.Proofs.YtmpckoincdkeeaaDoor

/- The reference's All. -/
import Derived.Test.YtmpckoincdkeeaaDoorUAll
import Derived.Test.YtmpckoincdkeeaaDoorRon2
namespace Go.Proofs.YtmpckoincdkeeaaDoor
open Go.RowKit Go.Deep Go.Own
set_option linter.unusedVariables false
set_option maxRecDepth 100000 in
set_option maxHeartbeats 4000000 in
theorem rall_calls (s : ByteArray) (w : World) (hs : s.size ≤ 1099511627776) :
    Calls Tryd.prog 61 #[.string s] w fun e w' => ∃ v, e = .returned v ∧ RowU w' w.heap.size v (units s) ∧ Below w.heap.size w w' := by
  obtain ⟨iU, hiU, hzU, hsU, hbU⟩ := info_parts infoU
  go_enter Tryd.func61, Tryd.ntmps61
  go_wp2_with (fail)
  go_loopw [3, 4] (fun lv iv wr => ∃ (pos fuel : Nat) (acc : List (Nat × Nat × Int)), iv = .int .i64 (pos : Nat) ∧ RowU wr w.heap.size lv acc ∧ Below w.heap.size w wr ∧ acc ++ unitsFrom s fuel pos = units s ∧ s.size ≤ pos + fuel ∧ acc.length ≤ pos ∧ pos ≤ s.size) (fun _ iv wr => s.size - (intOf iv).toNat)
  case atStart =>
    exact ⟨0, s.size, [], rfl, RowU.nil _ _, Below.refl _ w, rfl, by omega, Nat.le_refl _, Nat.zero_le _⟩
  case round =>
    obtain ⟨pos, fuel, acc, rfl, hR, hbw, hacc, hfu, hal, hps⟩ := hrel
    obtain ⟨A, cp, rfl⟩ := own_is hR
    by_cases hp : pos < s.size
    · have g1 : decide (pos < s.size) = true := by simpa using hp
      obtain ⟨f, rfl⟩ : ∃ f, fuel = f + 1 := ⟨fuel - 1, by omega⟩
      have hl1 : 1 ≤ uLen s pos := u_len1 s pos
      have hl4 : uLen s pos ≤ 4 := u_len4 s pos
      have hfit : pos + uLen s pos ≤ s.size := u_fits s pos hp
      have CA := Lib.hid (rone_calls s pos wr hp (by omega))
      have HACC := Lib.hid hacc
      obtain ⟨n, hn⟩ : ∃ n, uLen s pos = n := ⟨_, rfl⟩
      obtain ⟨c, hc⟩ : ∃ c, uCode s pos = c := ⟨_, rfl⟩
      rw [hn, hc] at CA
      rw [hn] at hl1 hl4 hfit
      have HN := Lib.hid hn
      have HC := Lib.hid hc
      have HR2 := Lib.hid hR
      have HB2 := Lib.hid hbw
      clear hR hbw hacc hn hc
      go_wp2_with (fail)
      refine CA.out.mono ?_
      unfold unitV
      rintro e w3 ⟨rfl, b3⟩
      have B3 := Lib.hid b3
      clear b3 CA
      have hR3 := HR2.out.below B3.out
      obtain ⟨o, ho⟩ : ∃ o, o = Obj.cells #[Value.int .i64 (pos : Nat), .int .i64 (n : Nat), .int .i64 c] 73 := ⟨_, rfl⟩
      have b4 : Below w3.heap.size w3 ((w3.alloc o).alloc o) := ((Below.refl _ _).alloc (Nat.le_refl _) _).alloc (by simp) _
      have hb4 : Below w.heap.size w ((w3.alloc o).alloc o) := (HB2.out.trans (B3.out.mono HB2.out.size)).trans (b4.mono (Nat.le_trans HB2.out.size B3.out.size))
      have R4 := Lib.hid (hR3.below b4)
      have hS4 : Hid (Src Tryd.prog 3 70 (.slice (some ⟨w3.heap.size + 1, 0, none⟩) 1 1) 1 [.int .i64 (pos : Nat), .int .i64 (n : Nat), .int .i64 c] ((w3.alloc o).alloc o)) := Lib.hid (src_unit (by
        have := blk_new (w3.alloc o) o
        rw [← ho]
        simpa using this))
      have D4 : Hid (((w3.alloc o).alloc o).heap[w3.heap.size]? = some o) := Lib.hid (by
        have h1 := blk_new w3 o
        rw [blk_alloc_lt _ _ _ (by simp), h1])
      have R3 := Lib.hid hR3
      have HB4 := Lib.hid hb4
      clear hR3 b4 hb4 B3
      subst ho
      go_wp2_with (at_builtin; go_loud (refine own_append (o := ⟨some 16, _, _, _, _, _⟩) rfl (.tmp 13) (.tmp 15) 70 70 rfl w.heap.size 73 iU _ 3 24 Tryd.underlying70 hiU hzU hsU hbU rfl (by decide) (.slice A acc.length cp) acc.length _ rfl R4.out (.slice (some ⟨w3.heap.size + 1, 0, none⟩) 1 1) rfl 1 _ hS4.out (by unfold maxLen; omega) (by omega) HB4.out.size ?_; intro v5 w5 O5 G5 V5; have k5 := (G5.block w3.heap.size (Array.getElem?_eq_some_iff.1 D4.out).1 (fun e => absurd (own_block_lt R3.out e.symm).2 (Nat.lt_irrefl _))).trans D4.out; have c5 := (cell3_of k5).2.1; have HG5 := Lib.hid G5; have HO5 := Lib.hid O5; clear G5 O5 k5 V5))
      go_roundw
      case rel =>
        refine ⟨pos + n, f, acc ++ [(pos, n, c)], by go_num, RowU.push HO5.out, HB4.out.grown HG5.out HB4.out.size (fun q hq => (own_block_lt R4.out hq).1), ?_, by omega, by simp; omega, by omega⟩
        rw [← HACC.out]
        have : unitsFrom s (f + 1) pos = (pos, n, c) :: unitsFrom s f (pos + n) := by
          rw [unitsFrom, if_pos hp, HN.out, HC.out]
        rw [this, List.append_assoc]; rfl
      case measure => simp [intOf]; omega
    · have g1 : decide (pos < s.size) = false := by simpa using hp
      have HR := Lib.hid hR
      have HB := Lib.hid hbw
      have HACC := Lib.hid hacc
      clear hR hbw hacc
      go_wp2_with (fail)
      go_ret
      have := HACC.out
      rw [unitsFrom_end s fuel pos hp, List.append_nil] at this
      subst this
      exact ⟨_, rfl, HR.out, HB.out⟩
end Go.Proofs.YtmpckoincdkeeaaDoor

/- The document's Words, part, plain. -/
import Derived.Test.YtmpckoincdkeeaaDoorRLin
import Derived.Test.YtmpckoincdkeeaaDoorListP
namespace Go.Proofs.YtmpckoincdkeeaaDoor
open Go.RowKit Go.Deep Go.Own
set_option linter.unusedVariables false
set_option maxRecDepth 100000 in
set_option maxHeartbeats 8000000 in
theorem words_c (S : ByteArray) (w : World) (hs : S.size ≤ 1000000000) :
    Calls Tryd.prog 46 #[.string S] w fun e w' => (∃ v, e = .returned v ∧ RowS w' w.heap.size v (cutL 32 S.data.toList)) ∧ Below w.heap.size w w' := by
  obtain ⟨iS, hiS, hzS, hsS, hbS⟩ := info_parts infoS
  go_enter Tryd.func46, Tryd.ntmps46
  go_wp2_with (fail)
  go_loopw [3, 4, 5] (fun lv fv iv wr => ∃ (i fr : Nat) (acc : List (List UInt8)), iv = .int .i64 (i : Nat) ∧ fv = .int .i64 (fr : Nat) ∧ i ≤ S.size + 1 ∧ RowS wr w.heap.size lv acc ∧ Below w.heap.size w wr ∧ ((i ≤ S.size ∧ CutAt 32 S.data.toList acc fr i) ∨ (i = S.size + 1 ∧ acc = cutL 32 S.data.toList)) ∧ acc.length ≤ S.size + 1) (fun _ _ iv _ => S.size + 1 - (intOf iv).toNat)
  case atStart => exact ⟨0, 0, [], rfl, rfl, Nat.zero_le _, RowS.nil _ _, Below.refl _ _, .inl ⟨Nat.zero_le _, CutAt.start _ _⟩, Nat.zero_le _⟩
  case round =>
    obtain ⟨i, fr, acc, rfl, rfl, hi, hR, hb, hC, hal⟩ := hrel
    obtain ⟨A, cp, rfl⟩ := own_is hR
    rcases hC with ⟨hle, hC⟩ | ⟨hie, hac⟩
    · have g1 : decide (i ≤ S.size) = true := by simpa using hle
      have hfr := hC.le
      have hal2 := hC.len
      have hcut : (i = S.size ∨ (i < S.size ∧ uB S i = 32)) ∨ (i < S.size ∧ uB S i ≠ 32) := by omega
      rcases hcut with hcut | ⟨hlt, hne⟩
      · have FS : ∀ w : World, (Instr.slice 9 (.string S) (some (.int .i64 (fr : Nat))) (some (.int .i64 (i : Nat))) none).run Tryd.prog w = .ok (.string (mkB ((S.data.toList.drop fr).take (i - fr)))) w := fun w => by
          rw [run_slice_string (t := 9) (s := S) (k := .i64) (k' := .i64) (i := (fr : Nat)) (j := (i : Nat)) (h := Tryd.underlying9)]
          · show Result.ok (Value.string (S.extract (fr : Int).toNat (i : Int).toNat)) w = _
            rw [← extract_list]
            rfl
          all_goals omega
        have hnext : (i + 1 ≤ S.size ∧ CutAt 32 S.data.toList (acc ++ [(S.data.toList.drop fr).take (i - fr)]) (i + 1) (i + 1)) ∨ (i + 1 = S.size + 1 ∧ acc ++ [(S.data.toList.drop fr).take (i - fr)] = cutL 32 S.data.toList) := by
          rcases hcut with h | ⟨h, hu⟩
          · refine .inr ⟨by omega, ?_⟩
            rw [← hC.last (by simp; omega)]
            congr 2
            rw [List.take_of_length_le]
            rw [List.length_drop]; simp; omega
          · obtain ⟨x, hx, hxu⟩ := byte_at S h
            have h32 : x = 32 := UInt8.toNat_inj.1 (hxu.trans hu)
            subst h32
            exact .inl ⟨h, hC.cut hx⟩
        have HNX := Lib.hid hnext
        obtain ⟨P, hP⟩ : ∃ P, P = (S.data.toList.drop fr).take (i - fr) := ⟨_, rfl⟩
        rw [← hP] at FS HNX
        obtain ⟨o, ho⟩ : ∃ o, o = Obj.cells #[Value.string (mkB P)] 9 := ⟨_, rfl⟩
        have b4 : Below wr.heap.size wr (wr.alloc o) := (Below.refl _ _).alloc (Nat.le_refl _) _
        have R4 := Lib.hid (hR.below b4)
        have S4 : Hid (Src Tryd.prog 1 57 (.slice (some ⟨wr.heap.size, 0, none⟩) 1 1) 1 [.string (mkB P)] (wr.alloc o)) := Lib.hid (src_str (by rw [ho]; exact blk_alloc_new _ _))
        have HB4 := Lib.hid (hb.trans (b4.mono hb.size))
        have HLE := Lib.hid hle
        subst ho
        clear hC hR hb b4 hP hnext hle
        rcases hcut with h | ⟨h, hu⟩
        · have g2 : ((i : Int) == (S.size : Int)) = true := by simp; omega
          clear h
          go_wp2_with (at_builtin; refine own_append (o := ⟨some 28, _, _, _, _, _⟩) rfl (.tmp 22) (.tmp 27) 57 57 rfl w.heap.size 9 iS _ 1 16 Tryd.underlying57 hiS hzS hsS hbS rfl (by decide) (.slice A acc.length cp) acc.length _ rfl R4.out (.slice (some ⟨wr.heap.size, 0, none⟩) 1 1) rfl 1 _ S4.out (by unfold maxLen; omega) (by omega) HB4.out.size ?_; intro v5 w5 O5 G5 V5)
          go_roundw
          case rel => exact ⟨i + 1, i + 1, acc ++ [P], by go_num, by go_num, by have := HLE.out; omega, RowS.push O5, HB4.out.grown G5 HB4.out.size (fun q hq => (own_block_lt R4.out hq).1), HNX.out, by rw [List.length_append, List.length_singleton]; have := HLE.out; omega⟩
          case measure => (have := HLE.out; simp [intOf]; omega)
        · have g2 : ((i : Int) == (S.size : Int)) = false := by simp; omega
          have hix : ∀ w : World, (Instr.index 9 (.string S) (.int .i64 (i : Nat))).run Tryd.prog w = .ok (.int .u8 (uB S i : Nat)) w := fun w => s_index S i h w
          rw [hu] at hix
          clear h hu
          go_wp2_with (at_builtin; refine own_append (o := ⟨some 28, _, _, _, _, _⟩) rfl (.tmp 22) (.tmp 27) 57 57 rfl w.heap.size 9 iS _ 1 16 Tryd.underlying57 hiS hzS hsS hbS rfl (by decide) (.slice A acc.length cp) acc.length _ rfl R4.out (.slice (some ⟨wr.heap.size, 0, none⟩) 1 1) rfl 1 _ S4.out (by unfold maxLen; omega) (by omega) HB4.out.size ?_; intro v5 w5 O5 G5 V5)
          go_roundw
          case rel => exact ⟨i + 1, i + 1, acc ++ [P], by go_num, by go_num, by have := HLE.out; omega, RowS.push O5, HB4.out.grown G5 HB4.out.size (fun q hq => (own_block_lt R4.out hq).1), HNX.out, by rw [List.length_append, List.length_singleton]; have := HLE.out; omega⟩
          case measure => (have := HLE.out; simp [intOf]; omega)
      · have g2 : ((i : Int) == (S.size : Int)) = false := by simp; omega
        obtain ⟨x, hx, hxu⟩ := byte_at S hlt
        have hst := Lib.hid (hC.stay hx (fun e => hne (by rw [← hxu, e]; rfl)))
        have hix : ∀ w : World, (Instr.index 9 (.string S) (.int .i64 (i : Nat))).run Tryd.prog w = .ok (.int .u8 (uB S i : Nat)) w := fun w => s_index S i hlt w
        obtain ⟨u, hu2⟩ : ∃ u, u = uB S i := ⟨_, rfl⟩
        rw [← hu2] at hix hne
        have g5 : ((u : Int) == 32) = false := by simp; omega
        have HR := Lib.hid hR
        have HB := Lib.hid hb
        have HLT := Lib.hid hlt
        clear hx hxu hC hR hb hu2 hlt hne
        go_wp2_with (fail)
        go_roundw
        case rel => exact ⟨i + 1, fr, acc, by go_num, rfl, by have := HLT.out; omega, HR.out, HB.out, .inl ⟨HLT.out, hst.out⟩, hal⟩
        case measure => (have := HLT.out; simp [intOf]; omega)
    · have g1 : decide (i ≤ S.size) = false := by simp; omega
      have HR := Lib.hid hR
      have HB := Lib.hid hb
      have HAC := Lib.hid hac
      clear hR hb hac
      go_wp2_with (fail)
      go_ret
      exact ⟨⟨_, rfl, by rw [← HAC.out]; exact HR.out⟩, HB.out⟩
theorem list_ne {a b : ByteArray} (h : ¬ a = b) : ¬ a.toList = b.toList := fun e => h (by
  rw [ByteArray.toList_eq, ByteArray.toList_eq] at e
  exact ByteArray.ext (Array.toList_inj.1 e))
def PartPost (w : World) (e : Ending) (w' : World) : Prop := (∃ (t : ByteArray) (b : Bool), e = .returned (.tuple #[.string t, .bool b])) ∧ Below w.heap.size w w'
theorem part_calls (s : ByteArray) (w : World) (hs : s.size ≤ 1000000000) :
    Calls Tryd.prog 48 #[.string s] w (PartPost w) := by
  have CV := Lib.hid (rvalid_calls s w (by omega))
  by_cases h0 : s = ⟨#[48]⟩
  · subst h0
    go_enter Tryd.func48, Tryd.ntmps48
    go_wp2_with (fail)
    refine bodyPost_ret (v := .tuple #[.string ⟨#[]⟩, .bool true]) (by simp [results, Tryd.results48, go_sem]) rfl ?_
    exact ⟨⟨_, _, rfl⟩, Below.refl _ _⟩
  · have k0 := list_ne h0
    have k1 : (s.toList == [48]) = false := by
      rw [show (⟨#[48]⟩ : ByteArray).toList = [48] from by rw [ByteArray.toList_eq]] at k0
      simpa using k0
    by_cases h1 : s = ⟨#[]⟩
    · subst h1
      go_enter Tryd.func48, Tryd.ntmps48
      go_wp2_with (fail)
      refine bodyPost_ret (v := .tuple #[.string ⟨#[]⟩, .bool false]) (by simp [results, Tryd.results48, go_sem]) rfl ?_
      exact ⟨⟨_, _, rfl⟩, Below.refl _ _⟩
    · have k2 := isEmpty_not h1
      by_cases h2 : s.size ≤ 20
      · have g2 : decide ((s.size : Int) ≤ 20) = true := by simp; omega
        clear h0 h1
        go_enter Tryd.func48, Tryd.ntmps48
        go_wp2_with (fail)
        refine CV.out.mono ?_
        rintro e w1 ⟨rfl, b1⟩
        go_wp2_with (fail)
        refine bodyPost_ret (v := .tuple #[.string s, .bool (okU s)]) (by simp [results, Tryd.results48, go_sem]) rfl ?_
        exact ⟨⟨_, _, rfl⟩, b1⟩
      · have g2 : decide ((s.size : Int) ≤ 20) = false := by simp; omega
        clear h0 h1
        go_enter Tryd.func48, Tryd.ntmps48
        go_wp2_with (fail)
        refine bodyPost_ret (v := .tuple #[.string s, .bool false]) (by simp [results, Tryd.results48, go_sem]) rfl ?_
        exact ⟨⟨_, _, rfl⟩, Below.refl _ _⟩
theorem plain_calls (c : Int) (w : World) : Calls Tryd.prog 45 #[.int .i64 c] w fun e w' => e = .returned (.bool (letC c)) ∧ w' = w := by
  have hc : (97 ≤ c ∧ c ≤ 122) ∨ (65 ≤ c ∧ c ≤ 90) ∨ c < 65 ∨ (91 ≤ c ∧ c ≤ 96) ∨ 122 < c := by omega
  have E : letC c = (decide (97 ≤ c ∧ c ≤ 122) || decide (65 ≤ c ∧ c ≤ 90)) := rfl
  rcases hc with ⟨a, b⟩ | ⟨a, b⟩ | a | ⟨a, b⟩ | a
  · have E2 := Lib.hid (show letC c = true by rw [E, decide_eq_true (And.intro a b), Bool.true_or])
    have k1 : decide (65 ≤ c) = true := by simp; omega
    have k2 : decide (c ≤ 90) = false := by simp; omega
    have k3 : decide (97 ≤ c) = true := by simp; omega
    have k4 : decide (c ≤ 122) = true := by simp; omega
    clear E a b
    go_enter Tryd.func45, Tryd.ntmps45
    go_wp2_with (fail)
    go_ret
    exact ⟨by rw [E2.out]; rfl, rfl⟩
  · have E2 := Lib.hid (show letC c = true by rw [E, decide_eq_true (And.intro a b), Bool.or_true])
    have k1 : decide (65 ≤ c) = true := by simp; omega
    have k2 : decide (c ≤ 90) = true := by simp; omega
    clear E a b
    go_enter Tryd.func45, Tryd.ntmps45
    go_wp2_with (fail)
    go_ret
    exact ⟨by rw [E2.out]; rfl, rfl⟩
  · have E2 := Lib.hid (show letC c = false by rw [E, decide_eq_false (by omega), decide_eq_false (by omega)]; rfl)
    have k1 : decide (65 ≤ c) = false := by simp; omega
    have k3 : decide (97 ≤ c) = false := by simp; omega
    clear E a
    go_enter Tryd.func45, Tryd.ntmps45
    go_wp2_with (fail)
    go_ret
    exact ⟨by rw [E2.out]; rfl, rfl⟩
  · have E2 := Lib.hid (show letC c = false by rw [E, decide_eq_false (by omega), decide_eq_false (by omega)]; rfl)
    have k1 : decide (65 ≤ c) = true := by simp; omega
    have k2 : decide (c ≤ 90) = false := by simp; omega
    have k3 : decide (97 ≤ c) = false := by simp; omega
    clear E a b
    go_enter Tryd.func45, Tryd.ntmps45
    go_wp2_with (fail)
    go_ret
    exact ⟨by rw [E2.out]; rfl, rfl⟩
  · have E2 := Lib.hid (show letC c = false by rw [E, decide_eq_false (by omega), decide_eq_false (by omega)]; rfl)
    have k1 : decide (65 ≤ c) = true := by simp; omega
    have k2 : decide (c ≤ 90) = false := by simp; omega
    have k3 : decide (97 ≤ c) = true := by simp; omega
    have k4 : decide (c ≤ 122) = false := by simp; omega
    clear E a
    go_enter Tryd.func45, Tryd.ntmps45
    go_wp2_with (fail)
    go_ret
    exact ⟨by rw [E2.out]; rfl, rfl⟩
end Go.Proofs.YtmpckoincdkeeaaDoor

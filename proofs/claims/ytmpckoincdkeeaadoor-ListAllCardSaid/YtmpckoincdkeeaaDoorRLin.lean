/- The document's Lines, Words, Valid, Flag. -/
import Derived.Test.YtmpckoincdkeeaaDoorListP
import Derived.Test.YtmpckoincdkeeaaDoorRCodes
namespace Go.Proofs.YtmpckoincdkeeaaDoor
open Go.RowKit Go.Deep Go.Own
set_option linter.unusedVariables false
def RowS (w : World) (base : Nat) (v : Value) (ls : List (List UInt8)) : Prop := w.ownsRow base 9 1 v ls.length (ls.map fun l => Value.string (mkB l))
theorem RowS.nil (w : World) (base : Nat) : RowS w base (.slice none 0 0) [] := World.ownsRow_nil _ _ _ _
theorem RowS.below {w w' : World} {base : Nat} {v : Value} {ls : List (List UInt8)} (h : RowS w base v ls) (hb : Below w.heap.size w w') : RowS w' base v ls := own_below h hb
theorem RowS.push {w' : World} {base : Nat} {v' : Value} {ls : List (List UInt8)} {l : List UInt8} (O : w'.ownsRow base 9 1 v' (ls.length + 1) ((ls.map fun l => Value.string (mkB l)) ++ [.string (mkB l)])) : RowS w' base v' (ls ++ [l]) := by
  unfold RowS
  rw [List.length_append, List.map_append]
  exact O
theorem infoS : (Tryd.prog.info? 9).map (fun i => (i.zero, i.size, i.bytes)) = some (some (.string ⟨#[]⟩), 1, 16) := by kernel_rfl
theorem src_str {w : World} {M : Nat} {x : ByteArray} (h : w.heap[M]? = some (.cells #[.string x] 9 (0, 0))) :
    Src Tryd.prog 1 57 (.slice (some ⟨M, 0, none⟩) 1 1) 1 [.string x] w := by
  refine Src.ofSlice w Tryd.underlying57 _ 1 1 _ rfl (fun j u hj => ?_) (fun u hu => ?_)
  · match j, hj with
    | 0, hj => simp at hj; subst hj; simp [Addr.add, World.cell?, h]
    | j + 1, hj => simp at hj
  · simp only [List.mem_cons, List.mem_nil_iff, or_false] at hu
    subst hu; rfl
theorem extract_list (S : ByteArray) (a b : Nat) : S.extract a b = mkB ((S.data.toList.drop a).take (b - a)) := by
  apply ByteArray.ext
  rw [ByteArray.data_extract]
  apply Array.toList_inj.1
  rw [Array.toList_extract, List.extract_eq_take_drop]
  simp [mkB]
/-- the lines: cut at each end; a last one that is empty is none -/
def linesR (l : List UInt8) : List (List UInt8) := (cutL 10 l).dropLast ++ (if (cutL 10 l).getLast? = some [] then [] else (cutL 10 l).getLast?.toList)
def noC (c : UInt8) (l : List UInt8) : Prop := ∀ x ∈ l, x ≠ c
theorem cut_part (c : UInt8) : ∀ (l t : List UInt8), noC c l → cutL c (l ++ c :: t) = l :: cutL c t
  | [], t, h => by simp [cutL]
  | x :: l, t, h => by
    have ih := cut_part c l t (fun y hy => h y (List.mem_cons_of_mem _ hy))
    rw [List.cons_append, cutL, if_neg (h x List.mem_cons_self), ih]
    rfl
theorem cut_one (c : UInt8) : ∀ (l : List UInt8), noC c l → cutL c l = [l]
  | [], h => rfl
  | x :: l, h => by
    have ih := cut_one c l (fun y hy => h y (List.mem_cons_of_mem _ hy))
    rw [cutL, if_neg (h x List.mem_cons_self), ih]
    rfl
/-- where a cutting stands -/
structure CutAt (c : UInt8) (sl : List UInt8) (acc : List (List UInt8)) (fr i : Nat) : Prop where
  le : fr ≤ i
  sum : acc ++ cutL c (sl.drop fr) = cutL c sl
  no : noC c ((sl.drop fr).take (i - fr))
  len : acc.length ≤ fr
theorem CutAt.start (c : UInt8) (sl : List UInt8) : CutAt c sl [] 0 0 := ⟨Nat.le_refl _, rfl, fun x hx => by simp at hx, Nat.le_refl _⟩
theorem drop_split (sl : List UInt8) {fr i : Nat} (h : fr ≤ i) : sl.drop fr = (sl.drop fr).take (i - fr) ++ sl.drop i := by
  have := (List.take_append_drop (i - fr) (sl.drop fr)).symm
  rw [List.drop_drop, show fr + (i - fr) = i by omega] at this
  exact this
theorem CutAt.stay {c : UInt8} {sl : List UInt8} {acc : List (List UInt8)} {fr i : Nat} (h : CutAt c sl acc fr i) {x : UInt8} (hx : sl[i]? = some x) (hne : x ≠ c) : CutAt c sl acc fr (i + 1) := by
  refine ⟨Nat.le_succ_of_le h.le, h.sum, fun y hy => ?_, h.len⟩
  have hl := (List.getElem?_eq_some_iff.1 hx).1
  have e : (sl.drop fr).take (i + 1 - fr) = (sl.drop fr).take (i - fr) ++ [x] := by
    rw [show i + 1 - fr = (i - fr) + 1 by have := h.le; omega, List.take_add_one, List.getElem?_drop, show fr + (i - fr) = i by have := h.le; omega, hx]
    rfl
  rw [e] at hy
  rcases List.mem_append.1 hy with h1 | h1
  · exact h.no y h1
  · obtain rfl := List.mem_singleton.1 h1; exact hne
theorem CutAt.cut {c : UInt8} {sl : List UInt8} {acc : List (List UInt8)} {fr i : Nat} (h : CutAt c sl acc fr i) (hx : sl[i]? = some c) : CutAt c sl (acc ++ [(sl.drop fr).take (i - fr)]) (i + 1) (i + 1) := by
  have hl := (List.getElem?_eq_some_iff.1 hx).1
  refine ⟨Nat.le_refl _, ?_, fun y hy => by simp at hy, by rw [List.length_append, List.length_singleton]; have := h.len; have := h.le; omega⟩
  rw [← h.sum]
  have e : sl.drop i = c :: sl.drop (i + 1) := by
    rw [List.drop_eq_getElem_cons hl]
    congr 1
    exact (List.getElem?_eq_some_iff.1 hx).2
  conv => rhs; rw [drop_split sl h.le, e, cut_part c _ _ h.no]
  rw [List.append_assoc]
  rfl
theorem CutAt.last {c : UInt8} {sl : List UInt8} {acc : List (List UInt8)} {fr i : Nat} (h : CutAt c sl acc fr i) (hi : sl.length ≤ i) : acc ++ [sl.drop fr] = cutL c sl := by
  have e := drop_split sl h.le
  rw [List.drop_eq_nil_of_le hi, List.append_nil] at e
  have := h.sum
  rw [← this]
  congr 1
  have hno := h.no
  rw [← e] at hno
  rw [cut_one c _ hno]
theorem byte_at (S : ByteArray) {i : Nat} (h : i < S.size) : ∃ x : UInt8, S.data.toList[i]? = some x ∧ x.toNat = uB S i := by
  have hl : i < S.data.toList.length := by simpa using h
  refine ⟨S.data.toList[i], List.getElem?_eq_getElem hl, ?_⟩
  rw [uB_list, List.getD_eq_getElem?_getD, List.getElem?_eq_getElem hl]
  rfl
set_option maxRecDepth 100000 in
set_option maxHeartbeats 8000000 in
theorem lines_calls (S : ByteArray) (w : World) (hs : S.size ≤ 1000000000) :
    Calls Tryd.prog 26 #[.string S] w fun e w' => (∃ v, e = .returned v ∧ RowS w' w.heap.size v (linesR S.data.toList)) ∧ Below w.heap.size w w' := by
  obtain ⟨iS, hiS, hzS, hsS, hbS⟩ := info_parts infoS
  go_enter Tryd.func26, Tryd.ntmps26
  go_wp2_with (fail)
  go_loopw [3, 4, 5] (fun lv fv iv wr => ∃ (i fr : Nat) (acc : List (List UInt8)), iv = .int .i64 (i : Nat) ∧ fv = .int .i64 (fr : Nat) ∧ i ≤ S.size ∧ RowS wr w.heap.size lv acc ∧ Below w.heap.size w wr ∧ CutAt 10 S.data.toList acc fr i) (fun _ _ iv _ => S.size - (intOf iv).toNat)
  case atStart => exact ⟨0, 0, [], rfl, rfl, Nat.zero_le _, RowS.nil _ _, Below.refl _ _, CutAt.start _ _⟩
  case round =>
    obtain ⟨i, fr, acc, rfl, rfl, hi, hR, hb, hC⟩ := hrel
    obtain ⟨A, cp, rfl⟩ := own_is hR
    have hle := hC.le
    have hal := hC.len
    have HC := Lib.hid hC
    by_cases hlt : i < S.size
    · have g1 : decide (i < S.size) = true := by simpa using hlt
      obtain ⟨x, hx, hxu⟩ := byte_at S hlt
      have HLT := Lib.hid hlt
      have hix : ∀ w : World, (Instr.index 9 (.string S) (.int .i64 (i : Nat))).run Tryd.prog w = .ok (.int .u8 (uB S i : Nat)) w := fun w => s_index S i hlt w
      by_cases h10 : x = 10
      · subst h10
        have hu : uB S i = 10 := hxu.symm
        rw [hu] at hix
        have FS : ∀ w : World, (Instr.slice 9 (.string S) (some (.int .i64 (fr : Nat))) (some (.int .i64 (i : Nat))) none).run Tryd.prog w = .ok (.string (mkB ((S.data.toList.drop fr).take (i - fr)))) w := fun w => by
          rw [run_slice_string (t := 9) (s := S) (k := .i64) (k' := .i64) (i := (fr : Nat)) (j := (i : Nat)) (h := Tryd.underlying9)]
          · show Result.ok (Value.string (S.extract (fr : Int).toNat (i : Int).toNat)) w = _
            rw [← extract_list]
            rfl
          all_goals omega
        have hcut := Lib.hid (hC.cut hx)
        obtain ⟨P, hP⟩ : ∃ P, P = (S.data.toList.drop fr).take (i - fr) := ⟨_, rfl⟩
        rw [← hP] at FS hcut
        obtain ⟨o, ho⟩ : ∃ o, o = Obj.cells #[Value.string (mkB P)] 9 := ⟨_, rfl⟩
        have b4 : Below wr.heap.size wr (wr.alloc o) := (Below.refl _ _).alloc (Nat.le_refl _) _
        have R4 := Lib.hid (hR.below b4)
        have S4 : Hid (Src Tryd.prog 1 57 (.slice (some ⟨wr.heap.size, 0, none⟩) 1 1) 1 [.string (mkB P)] (wr.alloc o)) := Lib.hid (src_str (by rw [ho]; exact blk_alloc_new _ _))
        have HB4 := Lib.hid (hb.trans (b4.mono hb.size))
        subst ho
        clear hx hxu hu hC hR hb b4 hP hlt
        go_wp2_with (at_builtin; refine own_append (o := ⟨some 22, _, _, _, _, _⟩) rfl (.tmp 16) (.tmp 21) 57 57 rfl w.heap.size 9 iS _ 1 16 Tryd.underlying57 hiS hzS hsS hbS rfl (by decide) (.slice A acc.length cp) acc.length _ rfl R4.out (.slice (some ⟨wr.heap.size, 0, none⟩) 1 1) rfl 1 _ S4.out (by unfold maxLen; omega) (by omega) HB4.out.size ?_; intro v5 w5 O5 G5 V5)
        go_roundw
        case rel => exact ⟨i + 1, i + 1, acc ++ [P], by go_num, by go_num, HLT.out, RowS.push O5, HB4.out.grown G5 HB4.out.size (fun q hq => (own_block_lt R4.out hq).1), hcut.out⟩
        case measure => (have := HLT.out; simp [intOf]; omega)
      · have hst := Lib.hid (hC.stay hx h10)
        have hu : uB S i ≠ 10 := fun e => h10 (UInt8.toNat_inj.1 (hxu.trans e))
        obtain ⟨u, hu2⟩ : ∃ u, u = uB S i := ⟨_, rfl⟩
        rw [← hu2] at hix hu
        have g5 : ((u : Int) == 10) = false := by simp; omega
        have HR := Lib.hid hR
        have HB := Lib.hid hb
        clear hx hxu hu hC hR hb hu2 h10 hlt
        go_wp2_with (fail)
        go_roundw
        case rel => exact ⟨i + 1, fr, acc, by go_num, rfl, HLT.out, HR.out, HB.out, hst.out⟩
        case measure => (have := HLT.out; simp [intOf]; omega)
    · have hie : i = S.size := by omega
      have g1 : decide (i < S.size) = false := by simpa using hlt
      have hlast := hC.last (i := i) (by simp; omega)
      have hlin : linesR S.data.toList = acc ++ (if S.data.toList.drop fr = [] then [] else [S.data.toList.drop fr]) := by
        unfold linesR
        rw [← hlast]
        simp
      have HL := Lib.hid hlin
      by_cases hfr : fr < S.size
      · have g2 : decide (fr < S.size) = true := by simpa using hfr
        have hne : S.data.toList.drop fr ≠ [] := fun e => by
          have := congrArg List.length e
          rw [List.length_drop, List.length_nil] at this
          simp at this; omega
        have FS : ∀ w : World, (Instr.slice 9 (.string S) (some (.int .i64 (fr : Nat))) none none).run Tryd.prog w = .ok (.string (mkB (S.data.toList.drop fr))) w := fun w => by
          rw [run_slice_string_l (t := 9) (s := S) (ht := Tryd.underlying9) (kl := .i64) (l := (fr : Nat))]
          · show Result.ok (Value.string (S.extract (fr : Int).toNat S.size)) w = _
            rw [extract_list]
            congr 3
            rw [List.take_of_length_le]
            rfl
            rw [List.length_drop]; simp
          all_goals omega
        have HL2 := Lib.hid (show linesR S.data.toList = acc ++ [S.data.toList.drop fr] by rw [hlin, if_neg hne])
        obtain ⟨P, hP⟩ : ∃ P, P = S.data.toList.drop fr := ⟨_, rfl⟩
        rw [← hP] at FS HL2
        obtain ⟨o, ho⟩ : ∃ o, o = Obj.cells #[Value.string (mkB P)] 9 := ⟨_, rfl⟩
        have b4 : Below wr.heap.size wr (wr.alloc o) := (Below.refl _ _).alloc (Nat.le_refl _) _
        have R4 := Lib.hid (hR.below b4)
        have S4 : Hid (Src Tryd.prog 1 57 (.slice (some ⟨wr.heap.size, 0, none⟩) 1 1) 1 [.string (mkB P)] (wr.alloc o)) := Lib.hid (src_str (by rw [ho]; exact blk_alloc_new _ _))
        have HB4 := Lib.hid (hb.trans (b4.mono hb.size))
        subst ho
        clear hlast hlin hne hC hR hb b4 hP HL hlt hie
        go_wp2_with (at_builtin; refine own_append (o := ⟨some 34, _, _, _, _, _⟩) rfl (.tmp 29) (.tmp 33) 57 57 rfl w.heap.size 9 iS _ 1 16 Tryd.underlying57 hiS hzS hsS hbS rfl (by decide) (.slice A acc.length cp) acc.length _ rfl R4.out (.slice (some ⟨wr.heap.size, 0, none⟩) 1 1) rfl 1 _ S4.out (by unfold maxLen; omega) (by omega) HB4.out.size ?_; intro v5 w5 O5 G5 V5)
        go_ret
        exact ⟨⟨_, rfl, by rw [HL2.out]; exact RowS.push O5⟩, HB4.out.grown G5 HB4.out.size (fun q hq => (own_block_lt R4.out hq).1)⟩
      · have g2 : decide (fr < S.size) = false := by simpa using hfr
        have hne : S.data.toList.drop fr = [] := List.drop_eq_nil_of_le (by simp; omega)
        have HL2 := Lib.hid (show linesR S.data.toList = acc by rw [hlin, if_pos hne, List.append_nil])
        have HR := Lib.hid hR
        have HB := Lib.hid hb
        clear hlast hlin hne hC hR hb HL hlt hie
        go_wp2_with (fail)
        go_ret
        exact ⟨⟨_, rfl, by rw [HL2.out]; exact HR.out⟩, HB.out⟩
theorem rvalid_calls (s : ByteArray) (w : World) (hs : s.size ≤ 1099511627776) : Calls Tryd.prog 62 #[.string s] w fun e w' => e = .returned (.bool (okU s)) ∧ Below w.heap.size w w' := by
  have C1 := Lib.hid (rcodes_calls s w hs)
  unfold CodesPost at C1
  go_enter Tryd.func62, Tryd.ntmps62
  go_wp2_with (fail)
  refine C1.out.mono ?_
  rintro e w1 ⟨⟨v, rfl, o⟩, b1⟩
  obtain ⟨A, c, rfl⟩ := own_is o
  have B1 := Lib.hid b1
  clear C1 o b1
  go_wp2_with (fail)
  go_ret
  exact ⟨rfl, B1.out⟩
def letB (u : Nat) : Bool := decide (97 ≤ u ∧ u ≤ 122) || decide (65 ≤ u ∧ u ≤ 90)
def flagR (s : ByteArray) : Nat := if s.size = 1 ∧ letB (uB s 0) = true then uB s 0 else 0
set_option maxRecDepth 100000 in
theorem flag_calls (s : ByteArray) (w : World) : Calls Tryd.prog 47 #[.string s] w fun e w' => e = .returned (.int .i64 (flagR s : Nat)) ∧ w = w' := by
  by_cases h1 : s.size = 1
  · have g1 : ((s.size : Int) == 1) = true := by simp; omega
    have hix : ∀ w : World, (Instr.index 9 (.string s) (.int .i64 0)).run Tryd.prog w = .ok (.int .u8 (uB s 0 : Nat)) w := fun w => s_index s 0 (by omega) w
    have hlt := uB_lt s 0
    obtain ⟨u, hu⟩ : ∃ u, u = uB s 0 := ⟨_, rfl⟩
    rw [← hu] at hix hlt
    have hf : flagR s = if letB u = true then u else 0 := by
      unfold flagR
      rw [← hu]
      by_cases h : letB u = true
      · rw [if_pos ⟨h1, h⟩, if_pos h]
      · rw [if_neg (fun x => h x.2), if_neg h]
    have hc : (97 ≤ u ∧ u ≤ 122) ∨ (65 ≤ u ∧ u ≤ 90) ∨ u < 65 ∨ (91 ≤ u ∧ u ≤ 96) ∨ 122 < u := by omega
    rcases hc with ⟨a, b⟩ | ⟨a, b⟩ | a | ⟨a, b⟩ | a
    · have E := Lib.hid (show flagR s = u by rw [hf, if_pos (by unfold letB; rw [decide_eq_true (And.intro a b), Bool.true_or])])
      have k1 : decide ((u : Int) ≥ 97) = true := by simp; omega
      have k2 : decide ((97 : Int) ≤ (u : Int)) = true := by simp; omega
      have k3 : decide ((u : Int) ≤ 122) = true := by simp; omega
      clear hf hu h1 a b
      go_enter Tryd.func47, Tryd.ntmps47
      go_wp2_with (fail)
      go_ret
      exact ⟨by rw [E.out]; rfl, rfl⟩
    · have E := Lib.hid (show flagR s = u by rw [hf, if_pos (by unfold letB; rw [decide_eq_true (And.intro a b), Bool.or_true])])
      have k1 : decide ((97 : Int) ≤ (u : Int)) = false := by simp; omega
      have k3 : decide ((65 : Int) ≤ (u : Int)) = true := by simp; omega
      have k4 : decide ((u : Int) ≤ 90) = true := by simp; omega
      clear hf hu h1 a b
      go_enter Tryd.func47, Tryd.ntmps47
      go_wp2_with (fail)
      go_ret
      exact ⟨by rw [E.out]; rfl, rfl⟩
    · have E := Lib.hid (show flagR s = 0 by rw [hf, if_neg (by unfold letB; rw [decide_eq_false (by omega), decide_eq_false (by omega)]; decide)])
      have k1 : decide ((97 : Int) ≤ (u : Int)) = false := by simp; omega
      have k3 : decide ((65 : Int) ≤ (u : Int)) = false := by simp; omega
      clear hf hu h1 a
      go_enter Tryd.func47, Tryd.ntmps47
      go_wp2_with (fail)
      go_ret
      exact ⟨by rw [E.out]; rfl, rfl⟩
    · have E := Lib.hid (show flagR s = 0 by rw [hf, if_neg (by unfold letB; rw [decide_eq_false (by omega), decide_eq_false (by omega)]; decide)])
      have k1 : decide ((97 : Int) ≤ (u : Int)) = false := by simp; omega
      have k3 : decide ((65 : Int) ≤ (u : Int)) = true := by simp; omega
      have k4 : decide ((u : Int) ≤ 90) = false := by simp; omega
      clear hf hu h1 a b
      go_enter Tryd.func47, Tryd.ntmps47
      go_wp2_with (fail)
      go_ret
      exact ⟨by rw [E.out]; rfl, rfl⟩
    · have E := Lib.hid (show flagR s = 0 by rw [hf, if_neg (by unfold letB; rw [decide_eq_false (by omega), decide_eq_false (by omega)]; decide)])
      have k1 : decide ((97 : Int) ≤ (u : Int)) = true := by simp; omega
      have k2 : decide ((u : Int) ≤ 122) = false := by simp; omega
      have k3 : decide ((65 : Int) ≤ (u : Int)) = true := by simp; omega
      have k4 : decide ((u : Int) ≤ 90) = false := by simp; omega
      clear hf hu h1 a
      go_enter Tryd.func47, Tryd.ntmps47
      go_wp2_with (fail)
      go_ret
      exact ⟨by rw [E.out]; rfl, rfl⟩
  · have g1 : ((s.size : Int) == 1) = false := by simp; omega
    have E := Lib.hid (show flagR s = 0 by unfold flagR; rw [if_neg (fun x => h1 x.1)])
    clear h1
    go_enter Tryd.func47, Tryd.ntmps47
    go_wp2_with (fail)
    go_ret
    exact ⟨by rw [E.out]; rfl, rfl⟩
end Go.Proofs.YtmpckoincdkeeaaDoor

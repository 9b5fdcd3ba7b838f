/- list: flags; a text with no blank, no '#'. -/
import Derived.Test.YtmpckoincdkeeaaDoorUCodes
import Derived.Test.YtmpckoincdkeeaaDoorUCut
namespace Go.Proofs.YtmpckoincdkeeaaDoor
open Go.RowKit Go.Deep Go.Own
set_option linter.unusedVariables false
def letC (c : Int) : Bool := decide (97 ≤ c ∧ c ≤ 122) || decide (65 ≤ c ∧ c ≤ 90)
def flagsFrom : List Int → List Int → Option (List Int)
  | acc, [] => some acc
  | acc, c :: t => if (letC c && !acc.contains c) = true then flagsFrom (acc ++ [c]) t else none
def flagsV (s : ByteArray) : List Int × Bool := match flagsFrom [] (codes s) with | none => ([], false) | some l => (l, decide (0 < l.length))
theorem contains_calls {acc : List Int} {A : Option Addr} {cp base : Nat} {w : World} (x : Int) (h : OwnI w base 3 (.slice A acc.length cp) acc) (hl : acc.length ≤ 1099511627776) :
    Calls Tryd.prog 70 #[.slice A acc.length cp, .int .i64 x] w fun e w' => e = .returned (.bool (acc.contains x)) ∧ w' = w := by
  by_cases h0 : 0 < acc.length
  · obtain ⟨A', c', e, hc, hr⟩ := h.reads
    injection e with e1 e2 e3
    subst e1
    obtain ⟨b, o, rfl, hcell⟩ := hr h0
    have := Tryd.slices_Contains_int b o acc.length cp acc x w (Nat.le_refl _) (by omega) (fun j hj => hcell w (since_of_below (Below.refl _ _)) j hj)
    rw [List.take_length] at this
    exact this
  · have e0 : acc = [] := by cases acc with | nil => rfl | cons a t => exact absurd (by simp) h0
    subst e0
    exact Tryd.slices_Contains_int_empty A cp x w
theorem ownI_bound {w : World} {base : Nat} {v : Value} {l : List Int} (h : OwnI w base 3 v l) : l.length ≤ 9223372036854775807 := by
  obtain ⟨A, c, rfl, h1, h2⟩ := row_is h
  have : maxLen ≤ 9223372036854775807 := by decide
  omega
/-- what flags hands back -/
def FlagsPost (w : World) (s : ByteArray) (e : Ending) (w' : World) : Prop :=
  (∃ v, e = .returned (.tuple #[v, .bool (flagsV s).2]) ∧ OwnI w' w.heap.size 3 v (flagsV s).1) ∧ Below w.heap.size w w'
theorem letter_dec (s : ByteArray) (pos : Nat) : letC (uCode s pos) = letC ((Utf8.decode s pos).1 : Nat) := by
  by_cases h : BadU s pos
  · rw [uCode_bad h, h.1]
    unfold letC
    have : ¬ (97 ≤ -1 - (uB s pos : Int) ∧ -1 - (uB s pos : Int) ≤ 122) := by omega
    have h2 : ¬ (65 ≤ -1 - (uB s pos : Int) ∧ -1 - (uB s pos : Int) ≤ 90) := by omega
    rw [decide_eq_false this, decide_eq_false h2]
    decide
  · rw [uCode_good h]
set_option maxRecDepth 100000 in
set_option maxHeartbeats 8000000 in
theorem flags_calls (s : ByteArray) (w : World) (hs : s.size ≤ 1099511627776) :
    Calls Tryd.prog 57 #[.string s] w (FlagsPost w s) := by
  unfold FlagsPost
  obtain ⟨iI, hiI, hzI, hsI, hbI⟩ := info_parts infoI
  obtain ⟨N, hN⟩ : ∃ N, N = w.heap.size := ⟨_, rfl⟩
  have HN := Lib.hid hN
  clear hN
  go_enter Tryd.func57, Tryd.ntmps57
  go_wp2_with (fail)
  rw [← HN.out]
  go_loopw [4] (fun lv wr => ∃ (pos fuel : Nat) (acc : List Int), OwnI wr w.heap.size 3 lv acc ∧ wr.heap[N]? = some (.stringIter s pos) ∧ Below w.heap.size w wr ∧ flagsFrom acc ((unitsFrom s fuel pos).map fun u => u.2.2) = flagsFrom [] (codes s) ∧ s.size ≤ pos + fuel ∧ acc.length ≤ pos) (fun _ wr => s.size - wr.iterPos N)
  case atStart =>
    exact ⟨0, s.size, [], OwnI.nil _ _ _, by rw [HN.out]; exact World.iter_heap w s 0, (Below.refl _ _).alloc (Nat.le_refl _) _, rfl, by omega, Nat.le_refl _⟩
  case round =>
    obtain ⟨pos, fuel, acc, hR, hit, hbw, hacc, hfu, hal⟩ := hrel
    obtain ⟨A, cp, rfl⟩ := own_is hR
    have hN0 : w.heap.size ≤ N := by rw [HN.out]; exact Nat.le_refl _
    by_cases hp : pos < s.size
    · obtain ⟨f, rfl⟩ : ∃ f, fuel = f + 1 := ⟨fuel - 1, by omega⟩
      have hl1 : 1 ≤ uLen s pos := u_len1 s pos
      have hl4 : uLen s pos ≤ 4 := u_len4 s pos
      have hmax : (Utf8.decode s pos).1 ≤ 1114111 := u_max s pos
      have huf : unitsFrom s (f + 1) pos = (pos, uLen s pos, uCode s pos) :: unitsFrom s f (pos + uLen s pos) := by rw [unitsFrom, if_pos hp]
      rw [huf, List.map_cons] at hacc
      have hld := letter_dec s pos
      have hcd : letC ((Utf8.decode s pos).1 : Nat) = true → uCode s pos = ((Utf8.decode s pos).1 : Nat) := fun h => by
        by_cases hb : BadU s pos
        · rw [hb.1] at h; exact absurd h (by decide)
        · exact uCode_good hb
      have hnx : ∀ ty, (Instr.next (.pointer (some ⟨N, 0, none⟩)) true ty).run Tryd.prog wr = .ok (.tuple #[.bool true, .int .i64 (pos : Nat), .int .i32 ((Utf8.decode s pos).1 : Nat)]) (wr.iterAt N s (pos + uLen s pos)) := fun ty => Lib.run_next_any_at wr N s pos ty hit hp
      have hit2 := Lib.iterAt_heap wr N s pos (pos + uLen s pos) hit
      have hb2 := Lib.below_iterAt hbw (k := N) hN0 s (pos + uLen s pos)
      have hR2 := ownI_iterAt hR hit (pos + uLen s pos)
      obtain ⟨w2, hw2⟩ : ∃ w2, w2 = wr.iterAt N s (pos + uLen s pos) := ⟨_, rfl⟩
      rw [← hw2] at hnx hit2 hb2 hR2
      obtain ⟨n, hn⟩ : ∃ n, uLen s pos = n := ⟨_, rfl⟩
      obtain ⟨c, hc⟩ : ∃ c, (Utf8.decode s pos).1 = c := ⟨_, rfl⟩
      obtain ⟨uc, huc⟩ : ∃ uc, uCode s pos = uc := ⟨_, rfl⟩
      rw [hn] at hl1 hl4 hit2 hacc
      rw [hc] at hnx hmax hld hcd
      rw [huc] at hld hcd hacc
      have HIT := Lib.hid hit
      have HIT2 := Lib.hid hit2
      have HACC := Lib.hid hacc
      have HR2 := Lib.hid hR2
      have HB2 := Lib.hid hb2
      have HLD := Lib.hid hld
      have HCD := Lib.hid hcd
      clear hR hit hit2 hb2 hR2 hbw hw2 hacc huf hld hcd hn hc huc
      by_cases hL : letC (c : Int) = true
      · have CC := Lib.hid (contains_calls (c : Int) HR2.out (by omega))
        have hcases : ((97 ≤ c ∧ c ≤ 122) ∨ (65 ≤ c ∧ c ≤ 90)) := by
          have h := hL
          unfold letC at h
          simp only [Bool.or_eq_true, decide_eq_true_eq] at h
          omega
        have HL := Lib.hid hL
        have hcw : (Lit.int .i64 (c : Int)).wf = true := WalkArith.wf_i64 (by omega)
        cases hct : acc.contains (c : Int) with
        | true =>
          rw [hct] at CC
          have HCT := Lib.hid hct
          clear hct hL
          rcases hcases with ⟨c1, c2⟩ | ⟨c1, c2⟩
          · have g1 : decide ((c : Int) < 97) = false := by simp; omega
            have g2 : decide (122 < (c : Int)) = false := by simp; omega
            clear c1 c2
            go_wp2_with (fail)
            refine CC.out.mono ?_
            rintro e w3 ⟨rfl, rfl⟩
            clear CC
            go_wp2_with (fail)
            refine bodyPost_ret (v := .tuple #[.slice none 0 0, .bool false]) (by simp [results, Tryd.results57, go_sem]) rfl ?_
            have e0 : flagsFrom [] (codes s) = none := by
              rw [← HACC.out]; unfold flagsFrom
              rw [HCD.out HL.out, HCT.out, Bool.not_true, Bool.and_false, if_neg (by decide)]
            unfold flagsV
            rw [e0]
            exact ⟨⟨_, rfl, OwnI.nil _ _ _⟩, HB2.out⟩
          · have g1 : decide ((c : Int) < 97) = true := by simp; omega
            have g2 : decide ((c : Int) < 65) = false := by simp; omega
            have g3 : decide (90 < (c : Int)) = false := by simp; omega
            clear c1 c2
            go_wp2_with (fail)
            refine CC.out.mono ?_
            rintro e w3 ⟨rfl, rfl⟩
            clear CC
            go_wp2_with (fail)
            refine bodyPost_ret (v := .tuple #[.slice none 0 0, .bool false]) (by simp [results, Tryd.results57, go_sem]) rfl ?_
            have e0 : flagsFrom [] (codes s) = none := by
              rw [← HACC.out]; unfold flagsFrom
              rw [HCD.out HL.out, HCT.out, Bool.not_true, Bool.and_false, if_neg (by decide)]
            unfold flagsV
            rw [e0]
            exact ⟨⟨_, rfl, OwnI.nil _ _ _⟩, HB2.out⟩
        | false =>
          rw [hct] at CC
          have e0 : flagsFrom (acc ++ [(c : Int)]) ((unitsFrom s f (pos + n)).map fun u => u.2.2) = flagsFrom [] (codes s) := by
            rw [← HACC.out]
            show _ = if (letC uc && !acc.contains uc) = true then _ else _
            rw [HCD.out HL.out, HL.out, hct, Bool.not_false, Bool.and_true, if_pos rfl]
          have E0 := Lib.hid e0
          obtain ⟨o, ho⟩ : ∃ o, o = Obj.cells #[Value.int .i64 (c : Nat)] 3 := ⟨_, rfl⟩
          have b4 : Below w2.heap.size w2 (w2.alloc o) := (Below.refl _ _).alloc (Nat.le_refl _) _
          have R4 := Lib.hid (HR2.out.later b4)
          have hS4 : Hid (Src Tryd.prog 1 48 (.slice (some ⟨w2.heap.size, 0, none⟩) 1 1) 1 [.int .i64 (c : Nat)] (w2.alloc o)) := Lib.hid (src_one Tryd.underlying48 rfl (by rw [ho]; exact cell_new1 _ _ _))
          have I4 : Hid ((w2.alloc o).heap[N]? = some (.stringIter s (pos + n))) := Lib.hid (by
            rw [b4.block _ (Array.getElem?_eq_some_iff.1 HIT2.out).1, HIT2.out])
          have HB4 := Lib.hid (HB2.out.alloc HB2.out.size o)
          clear hct hL b4 e0 HB2 HR2
          subst ho
          rcases hcases with ⟨c1, c2⟩ | ⟨c1, c2⟩
          · have g1 : decide ((c : Int) < 97) = false := by simp; omega
            have g2 : decide (122 < (c : Int)) = false := by simp; omega
            clear c1 c2
            go_wp2_with (fail)
            refine CC.out.mono ?_
            rintro e w3 ⟨rfl, rfl⟩
            clear CC
            go_wp2_with (at_builtin; refine own_append (o := ⟨some 36, _, _, _, _, _⟩) rfl (.tmp 32) (.tmp 35) 48 48 rfl w.heap.size 3 iI _ 1 8 Tryd.underlying48 hiI hzI hsI hbI rfl (by decide) (.slice A acc.length cp) acc.length _ rfl R4.out (.slice (some ⟨w3.heap.size, 0, none⟩) 1 1) rfl 1 _ hS4.out (by unfold maxLen; omega) (by omega) HB4.out.size ?_; intro v5 w5 O5 G5 V5)
            go_roundw
            case rel =>
              have hne := ownI_ne_iter R4.out I4.out
              have i5 := (G5.block N (Array.getElem?_eq_some_iff.1 I4.out).1 (fun e => hne e.symm)).trans I4.out
              exact ⟨pos + n, f, acc ++ [(c : Int)], ownI_push O5, i5, HB4.out.grown G5 HB4.out.size (fun q hq => (own_block_lt R4.out hq).1), E0.out, by omega, by simp; omega⟩
            case measure =>
              have hne := ownI_ne_iter R4.out I4.out
              have i5 := (G5.block N (Array.getElem?_eq_some_iff.1 I4.out).1 (fun e => hne e.symm)).trans I4.out
              simp only [World.iterPos, i5, HIT.out]
              omega
          · have g1 : decide ((c : Int) < 97) = true := by simp; omega
            have g2 : decide ((c : Int) < 65) = false := by simp; omega
            have g3 : decide (90 < (c : Int)) = false := by simp; omega
            clear c1 c2
            go_wp2_with (fail)
            refine CC.out.mono ?_
            rintro e w3 ⟨rfl, rfl⟩
            clear CC
            go_wp2_with (at_builtin; refine own_append (o := ⟨some 36, _, _, _, _, _⟩) rfl (.tmp 32) (.tmp 35) 48 48 rfl w.heap.size 3 iI _ 1 8 Tryd.underlying48 hiI hzI hsI hbI rfl (by decide) (.slice A acc.length cp) acc.length _ rfl R4.out (.slice (some ⟨w3.heap.size, 0, none⟩) 1 1) rfl 1 _ hS4.out (by unfold maxLen; omega) (by omega) HB4.out.size ?_; intro v5 w5 O5 G5 V5)
            go_roundw
            case rel =>
              have hne := ownI_ne_iter R4.out I4.out
              have i5 := (G5.block N (Array.getElem?_eq_some_iff.1 I4.out).1 (fun e => hne e.symm)).trans I4.out
              exact ⟨pos + n, f, acc ++ [(c : Int)], ownI_push O5, i5, HB4.out.grown G5 HB4.out.size (fun q hq => (own_block_lt R4.out hq).1), E0.out, by omega, by simp; omega⟩
            case measure =>
              have hne := ownI_ne_iter R4.out I4.out
              have i5 := (G5.block N (Array.getElem?_eq_some_iff.1 I4.out).1 (fun e => hne e.symm)).trans I4.out
              simp only [World.iterPos, i5, HIT.out]
              omega
      · have hcases : c < 65 ∨ (91 ≤ c ∧ c ≤ 96) ∨ 122 < c := by
          have h := hL
          unfold letC at h
          simp only [Bool.or_eq_true, decide_eq_true_eq] at h
          omega
        have e0 : flagsFrom [] (codes s) = none := by
          rw [← HACC.out]; unfold flagsFrom
          rw [HLD.out, (Bool.not_eq_true _).mp hL, Bool.false_and, if_neg (by decide)]
        have E0 := Lib.hid e0
        clear hL e0
        rcases hcases with h | h | h
        · have g1 : decide ((c : Int) < 97) = true := by simp; omega
          have g2 : decide ((c : Int) < 65) = true := by simp; omega
          clear h
          go_wp2_with (fail)
          refine bodyPost_ret (v := .tuple #[.slice none 0 0, .bool false]) (by simp [results, Tryd.results57, go_sem]) rfl ?_
          unfold flagsV
          rw [E0.out]
          exact ⟨⟨_, rfl, OwnI.nil _ _ _⟩, HB2.out⟩
        · have g1 : decide ((c : Int) < 97) = true := by simp; omega
          have g2 : decide ((c : Int) < 65) = false := by simp; omega
          have g3 : decide (90 < (c : Int)) = true := by simp; omega
          clear h
          go_wp2_with (fail)
          refine bodyPost_ret (v := .tuple #[.slice none 0 0, .bool false]) (by simp [results, Tryd.results57, go_sem]) rfl ?_
          unfold flagsV
          rw [E0.out]
          exact ⟨⟨_, rfl, OwnI.nil _ _ _⟩, HB2.out⟩
        · have g1 : decide ((c : Int) < 97) = false := by simp; omega
          have g2 : decide (122 < (c : Int)) = true := by simp; omega
          have g3 : decide ((c : Int) < 65) = false := by simp; omega
          have g4 : decide (90 < (c : Int)) = true := by simp; omega
          clear h
          go_wp2_with (fail)
          refine bodyPost_ret (v := .tuple #[.slice none 0 0, .bool false]) (by simp [results, Tryd.results57, go_sem]) rfl ?_
          unfold flagsV
          rw [E0.out]
          exact ⟨⟨_, rfl, OwnI.nil _ _ _⟩, HB2.out⟩
    · have hnx : ∀ ty, (Instr.next (.pointer (some ⟨N, 0, none⟩)) true ty).run Tryd.prog wr = .ok (.tuple #[.bool false]) wr := fun ty => Lib.run_next_end_at wr N s pos ty hit hp
      have HR := Lib.hid hR
      have HB := Lib.hid hbw
      have e0 : flagsV s = (acc, decide (0 < acc.length)) := by
        unfold flagsV
        rw [← hacc, unitsFrom_end s fuel pos hp]
        rfl
      have E0 := Lib.hid e0
      have hbd := ownI_bound hR
      clear hR hit hbw hacc e0
      go_wp2_with (fail)
      refine bodyPost_ret (v := .tuple #[.slice A acc.length cp, .bool (decide (0 < acc.length))]) (by simp [results, Tryd.results57, go_sem]) rfl ?_
      rw [E0.out]
      exact ⟨⟨_, rfl, HR.out⟩, HB.out⟩
end Go.Proofs.YtmpckoincdkeeaaDoor

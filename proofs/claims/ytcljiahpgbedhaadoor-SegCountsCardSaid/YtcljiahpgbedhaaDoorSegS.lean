/- SegCounts. -/
import Derived.Test.YtcljiahpgbedhaaDoorSegR
import Derived.Test.YtcljiahpgbedhaaDoorText
namespace Go.Proofs.YtcljiahpgbedhaaDoor
open Go.RowKit Go.Deep Go.Own
set_option linter.unusedVariables false
def gapA : Array Value := #[.string ⟨#[32]⟩, .string ⟨#[44, 32]⟩, .string ⟨#[45]⟩, .string ⟨#[255]⟩, .string ⟨#[32, 39, 32]⟩]
set_option maxRecDepth 100000 in
theorem gap_index (i : Nat) (h1 : i < 5) : ∀ w : World, (Instr.index 51 (.agg gapA) (.int .i64 (i : Nat))).run Tryd.prog w = .ok (.string (gapB i)) w := by
  have h : i = 0 ∨ i = 1 ∨ i = 2 ∨ i = 3 ∨ i = 4 := by omega
  rcases h with rfl | rfl | rfl | rfl | rfl <;> exact fun w => by kernel_rfl
theorem gap_size : ∀ g, g < 5 → (gapB g).size ≤ 3 := by decide
set_option maxRecDepth 100000 in
set_option maxHeartbeats 8000000 in
theorem segCounts_walk (A : Option Addr) (cap : Nat) (l : List Int) (gap : Int) (w : World) (hA : Reads w A l) (hl : l.length ≤ 9223372036854775807) (hg : (Lit.int .i64 gap).wf = true) (hT : Tabs w) :
    Calls Tryd.prog 9 #[.slice A l.length cap, .int .i64 gap] w fun e w' => e = .returned (.bool true) ∧ Below w.heap.size w w' := by
  obtain ⟨iI, hiI, hzI, hsI, hbI⟩ := info_parts infoI
  obtain ⟨g, hg5, _, cp⟩ := place_nat gap 5 (by decide) (by decide)
  have hgz := gap_size g hg5
  have CP := Lib.hid cp
  have HIH := Lib.hid (gap_index g hg5)
  have HA := Lib.hid hA
  have HT := Lib.hid hT
  clear cp hA hT hg
  go_enter Tryd.func9, Tryd.ntmps9
  go_wp2_with (fail)
  refine (CP.out _).mono ?_
  rintro e w0 ⟨rfl, rfl⟩
  have HI := HIH.out
  unfold gapA at HI
  generalize hag : Value.agg _ = ag at HI
  clear HIH CP
  go_wp2_with (fail)
  clear HI hag
  go_loopw [6, 7, 8] (fun sv ev iv wr => ∃ (j : Nat) (s : ByteArray) (es : List Int), sv = .string s ∧ iv = .int .i64 (j : Nat) ∧ j ≤ l.length ∧ j ≤ 50 ∧ WordsI g (l.take j) s es ∧ OwnI wr w.heap.size 3 ev es ∧ Below w.heap.size w wr) (fun _ _ iv _ => 50 - (intOf iv).toNat)
  case atStart => exact ⟨0, _, [], rfl, rfl, Nat.zero_le _, Nat.zero_le _, WordsI.nil g, OwnI.nil _ _ _, Below.refl _ _⟩
  case round =>
    obtain ⟨j, s, es, rfl, rfl, hj, hj5, hW, hK, hb⟩ := hrel
    obtain ⟨A2, cp2, rfl⟩ := own_is hK
    have hjt : (l.take j).length = j := by rw [List.length_take]; omega
    have hsz : s.size ≤ 600 := by have := hW.size; omega
    have hel : es.length = j := by rw [hW.len, hjt]
    have HEL := Lib.hid hel
    clear hel
    have HW := Lib.hid hW
    have HK := Lib.hid hK
    have HB := Lib.hid hb
    by_cases hgo : j < l.length ∧ j < 50
    · obtain ⟨h1, h2⟩ := hgo
      have g2 : decide (j < 50) = true := by simpa using h2
      obtain ⟨v, hv⟩ : ∃ v, l[j]? = some v := ⟨_, List.getElem?_eq_getElem h1⟩
      have htk : l.take (j + 1) = l.take j ++ [v] := by
        obtain ⟨_, hx⟩ := List.getElem?_eq_some_iff.1 hv
        rw [List.take_succ_eq_append_getElem h1, hx]
      obtain ⟨b, o, rfl, hbl, hc⟩ := reads_cell HA.out hb h1
      rw [show l.getD j 0 = v by rw [List.getD_eq_getElem?_getD, hv]; rfl] at hc
      obtain ⟨k, hk, ek, CP⟩ := place_nat v 9 (by omega) (by omega)
      have hkv : kOf v = 1 + k := by unfold kOf; omega
      have CP := Lib.hid CP
      have FS : ∀ w : World, (Instr.slice 9 (.string ⟨#[97, 98, 99, 100, 101, 102, 103, 104, 105]⟩) none (some (.int .i64 (1 + (k : Int)))) none).run Tryd.prog w = .ok (.string (abcS.extract 0 (1 + k))) w := fun w => by
        rw [run_slice_string_h (t := 9) (s := ⟨#[97, 98, 99, 100, 101, 102, 103, 104, 105]⟩) (ht := Tryd.underlying9) (kh := .i64) (h := 1 + (k : Int))]
        · show Result.ok (Value.string (abcS.extract 0 (1 + (k : Int)).toNat)) w = _
          rw [show (1 + (k : Int)).toNat = 1 + k by omega]
        · omega
        · show 1 + (k : Int) ≤ 9; omega
      obtain ⟨P, hP⟩ : ∃ P, P = abcS.extract 0 (1 + k) := ⟨_, rfl⟩
      rw [← hP] at FS
      have hPz : P.size ≤ 9 := by rw [hP, ByteArray.size_extract]; show min (1 + k) 9 - 0 ≤ 9; omega
      obtain ⟨S2, hS2⟩ : ∃ S2, S2 = s ++ P := ⟨_, rfl⟩
      have hsn := hW.snoc hg5 v
      rw [hkv, ← hP, ← hS2, ← htk] at hsn
      have hz2 : S2.size ≤ 612 := by have := hsn.size; rw [ByteArray.size_append, List.length_take] at this; omega
      have HSN := Lib.hid hsn
      have HS2 := Lib.hid hS2
      clear hW hK hb hv htk hkv ek hsn hS2 hP hbl HW
      go_upto_region 7 with (fail)
      go_wp2_with (fail)
      refine (CP.out _).mono ?_
      rintro e w1 ⟨rfl, rfl⟩
      clear hc CP
      go_upto_region 9 with (fail)
      rw [← HS2.out]
      obtain ⟨o1, ho1⟩ : ∃ o, o = Obj.cells #[Value.int .i64 (S2.size : Nat)] 3 := ⟨_, rfl⟩
      have b4 : Below wr.heap.size wr (wr.alloc o1) := (Below.refl _ _).alloc (Nat.le_refl _) _
      have K4 := Lib.hid (HK.out.later b4)
      have hS4 : Hid (Src Tryd.prog 1 27 (.slice (some ⟨wr.heap.size, 0, none⟩) 1 1) 1 [.int .i64 (S2.size : Nat)] (wr.alloc o1)) := Lib.hid (src_one Tryd.underlying27 rfl (by rw [ho1]; exact cell_new1 _ _ _))
      have HB4 := Lib.hid (HB.out.trans (b4.mono HB.out.size))
      clear b4 HK
      subst ho1
      go_wp2_with (at_builtin; refine own_append (o := ⟨some 40, _, _, _, _, _⟩) rfl (.tmp 36) (.tmp 39) 27 27 rfl w.heap.size 3 iI _ 1 8 Tryd.underlying27 hiI hzI hsI hbI rfl (by decide) (.slice A2 es.length cp2) es.length _ rfl K4.out (.slice (some ⟨wr.heap.size, 0, none⟩) 1 1) rfl 1 _ hS4.out (by have := HEL.out; unfold maxLen; omega) (by have := HEL.out; omega) HB4.out.size ?_; intro v5 w5 O5 G5 V5)
      go_roundw
      case rel =>
        have h5 := ownI_push O5
        exact ⟨j + 1, _, _, rfl, by go_num, h1, h2, HSN.out, h5, HB4.out.grown G5 HB4.out.size (fun q hq => (own_block_lt K4.out hq).1)⟩
      case measure => simp [intOf]; omega
    · have CT := Lib.hid (table_calls wr)
      clear hW hK hb
      by_cases h1 : j < l.length
      · have g1 : decide (j < l.length) = true := by simpa using h1
        have g2 : decide (j < 50) = false := by simp; omega
        have g3 : decide ((j : Int) < 50) = false := by simp; omega
        clear hgo
        go_wp2_with (fail)
        refine CT.out.mono ?_
        rintro e w2 ⟨⟨A2, rfl, r2⟩, b2⟩
        have B2 := Lib.hid (HB.out.trans (b2.mono HB.out.size))
        have CA := Lib.hid (all_calls tableL s A2 5 w2 (HT.out.below B2.out) r2 (by decide) (by decide) (by omega))
        have K2 := Lib.hid (HK.out.later b2)
        clear r2 b2 CT HB HK
        go_wp2_with (fail)
        refine CA.out.mono ?_
        rintro e w3 ⟨⟨A3, c3, rfl, r3⟩, b3⟩
        have B3 := Lib.hid (B2.out.trans (b3.mono B2.out.size))
        have K3 := Lib.hid (own_reads (K2.out.later b3)).2
        have R3 := Lib.hid r3
        have hlen := HW.out.len
        have htl := HW.out.tl
        rw [htl, hjt]
        rw [hjt] at hlen
        rw [hlen]
        have HLEN := Lib.hid hlen
        have HTL := Lib.hid htl
        clear r3 b3 CA B2 K2 hlen htl
        go_wp2_with (fail)
        go_loopw [11] (fun iv wz => ∃ i nk : Nat, i ≤ j ∧ iv = .int .i64 (i : Nat) ∧ wz = w3.drewN nk) (fun iv _ => j - (intOf iv).toNat)
        case atStart => exact ⟨0, 0, Nat.zero_le _, rfl, rfl⟩
        case round =>
          obtain ⟨i, nk, hi, rfl, rfl⟩ := hrel
          by_cases hil : i < j
          · have g2 : decide (i < j) = true := by simpa using hil
            have hil2 : i < l.length := by omega
            obtain ⟨v, hv⟩ : ∃ v, l[i]? = some v := ⟨_, List.getElem?_eq_getElem hil2⟩
            obtain ⟨f, hf, he⟩ := HW.out.each i v (by rw [List.getElem?_take, if_pos hil]; exact hv)
            obtain ⟨k, hk, ek, CP⟩ := place_nat v 9 (by omega) (by omega)
            have hkv : kOf v = 1 + k := by unfold kOf; omega
            have hfs : f + kOf v ≤ s.size := ((toksOf_good tableL s).1 _ (List.mem_of_getElem? hf)).lt.2
            rw [hkv] at hf he hfs
            obtain ⟨q3, rfl, hq3, d0, d1, d2⟩ := R3.out.at hf
            obtain ⟨be, oe, rfl, _, hce⟩ := reads_cell K3.out (Below.refl _ _) (i := i) (by rw [HLEN.out]; exact hil)
            obtain ⟨bl, ol, rfl, _, hcl⟩ := reads_cell HA.out B3.out hil2
            rw [show es.getD i 0 = (f : Int) + (1 + (k : Int)) by rw [List.getD_eq_getElem?_getD, he]; simp] at hce
            rw [show l.getD i 0 = v by rw [List.getD_eq_getElem?_getD, hv]; rfl] at hcl
            push_cast at d1
            have CQ : Hid (∀ z : Nat, Calls Tryd.prog 23 #[.int .i64 v, .int .i64 9] (w3.drewN z) fun e w' => e = .returned (.int .i64 (k : Nat)) ∧ w' = w3.drewN z) := Lib.hid (fun z => (CP _).mono (by rintro e w' ⟨h1, h2⟩; exact ⟨h1, h2.symm⟩))
            clear hf he hv ek hkv CP
            go_wp2_with (fail)
            refine Own.region_all (fun w' => ∃ n, w' = World.drewN w3 n) (by kernel_rfl) (by kernel_rfl) ⟨nk + 1, by first | rfl | simp | trace_state⟩ ?_
            repeat (go_big_quiet_step (with_reducible exact Calls.quiet_of_same (CQ.out _)))
            refine wpQuiet_nil ?_
            rintro _ ⟨nq, rfl⟩
            go_wp2_with (fail)
            go_roundw
            case rel => exact ⟨i + 1, _, by omega, by go_num, rfl⟩
            case measure => simp [intOf]; omega
          · have g2 : decide (i < j) = false := by simpa using hil
            have CW := Lib.hid (sawake_calls (w3.drewN nk) (HT.out.below (B3.out.trans ((below_drewN w3 nk).mono B3.out.size))))
            go_wp2_with (fail)
            refine CW.out.mono ?_
            rintro e w5 ⟨rfl, b5⟩
            go_wp2_with (fail)
            go_ret
            exact ⟨rfl, B3.out.trans (((below_drewN w3 nk).trans b5).mono B3.out.size)⟩
      · have g1 : decide (j < l.length) = false := by simpa using h1
        clear hgo
        go_wp2_with (fail)
        refine CT.out.mono ?_
        rintro e w2 ⟨⟨A2, rfl, r2⟩, b2⟩
        have B2 := Lib.hid (HB.out.trans (b2.mono HB.out.size))
        have CA := Lib.hid (all_calls tableL s A2 5 w2 (HT.out.below B2.out) r2 (by decide) (by decide) (by omega))
        have K2 := Lib.hid (HK.out.later b2)
        clear r2 b2 CT HB HK
        go_wp2_with (fail)
        refine CA.out.mono ?_
        rintro e w3 ⟨⟨A3, c3, rfl, r3⟩, b3⟩
        have B3 := Lib.hid (B2.out.trans (b3.mono B2.out.size))
        have K3 := Lib.hid (own_reads (K2.out.later b3)).2
        have R3 := Lib.hid r3
        have hlen := HW.out.len
        have htl := HW.out.tl
        rw [htl, hjt]
        rw [hjt] at hlen
        rw [hlen]
        have HLEN := Lib.hid hlen
        have HTL := Lib.hid htl
        clear r3 b3 CA B2 K2 hlen htl
        go_wp2_with (fail)
        go_loopw [11] (fun iv wz => ∃ i nk : Nat, i ≤ j ∧ iv = .int .i64 (i : Nat) ∧ wz = w3.drewN nk) (fun iv _ => j - (intOf iv).toNat)
        case atStart => exact ⟨0, 0, Nat.zero_le _, rfl, rfl⟩
        case round =>
          obtain ⟨i, nk, hi, rfl, rfl⟩ := hrel
          by_cases hil : i < j
          · have g2 : decide (i < j) = true := by simpa using hil
            have hil2 : i < l.length := by omega
            obtain ⟨v, hv⟩ : ∃ v, l[i]? = some v := ⟨_, List.getElem?_eq_getElem hil2⟩
            obtain ⟨f, hf, he⟩ := HW.out.each i v (by rw [List.getElem?_take, if_pos hil]; exact hv)
            obtain ⟨k, hk, ek, CP⟩ := place_nat v 9 (by omega) (by omega)
            have hkv : kOf v = 1 + k := by unfold kOf; omega
            have hfs : f + kOf v ≤ s.size := ((toksOf_good tableL s).1 _ (List.mem_of_getElem? hf)).lt.2
            rw [hkv] at hf he hfs
            obtain ⟨q3, rfl, hq3, d0, d1, d2⟩ := R3.out.at hf
            obtain ⟨be, oe, rfl, _, hce⟩ := reads_cell K3.out (Below.refl _ _) (i := i) (by rw [HLEN.out]; exact hil)
            obtain ⟨bl, ol, rfl, _, hcl⟩ := reads_cell HA.out B3.out hil2
            rw [show es.getD i 0 = (f : Int) + (1 + (k : Int)) by rw [List.getD_eq_getElem?_getD, he]; simp] at hce
            rw [show l.getD i 0 = v by rw [List.getD_eq_getElem?_getD, hv]; rfl] at hcl
            push_cast at d1
            have CQ : Hid (∀ z : Nat, Calls Tryd.prog 23 #[.int .i64 v, .int .i64 9] (w3.drewN z) fun e w' => e = .returned (.int .i64 (k : Nat)) ∧ w' = w3.drewN z) := Lib.hid (fun z => (CP _).mono (by rintro e w' ⟨h1, h2⟩; exact ⟨h1, h2.symm⟩))
            clear hf he hv ek hkv CP
            go_wp2_with (fail)
            refine Own.region_all (fun w' => ∃ n, w' = World.drewN w3 n) (by kernel_rfl) (by kernel_rfl) ⟨nk + 1, by first | rfl | simp | trace_state⟩ ?_
            repeat (go_big_quiet_step (with_reducible exact Calls.quiet_of_same (CQ.out _)))
            refine wpQuiet_nil ?_
            rintro _ ⟨nq, rfl⟩
            go_wp2_with (fail)
            go_roundw
            case rel => exact ⟨i + 1, _, by omega, by go_num, rfl⟩
            case measure => simp [intOf]; omega
          · have g2 : decide (i < j) = false := by simpa using hil
            have CW := Lib.hid (sawake_calls (w3.drewN nk) (HT.out.below (B3.out.trans ((below_drewN w3 nk).mono B3.out.size))))
            go_wp2_with (fail)
            refine CW.out.mono ?_
            rintro e w5 ⟨rfl, b5⟩
            go_wp2_with (fail)
            go_ret
            exact ⟨rfl, B3.out.trans (((below_drewN w3 nk).trans b5).mono B3.out.size)⟩
end Go.Proofs.YtcljiahpgbedhaaDoor

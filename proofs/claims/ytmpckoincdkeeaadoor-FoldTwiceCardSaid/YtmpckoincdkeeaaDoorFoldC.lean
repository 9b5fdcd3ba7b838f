/- fold.turned. -/
import Derived.Test.YtmpckoincdkeeaaDoorFoldB
import Derived.Test.YtmpckoincdkeeaaDoorBld
import Derived.Test.YtmpckoincdkeeaaDoorUBytes
namespace Go.Proofs.YtmpckoincdkeeaaDoor
open Go.RowKit Go.Deep Go.Own Go.Maps
set_option linter.unusedVariables false
theorem ReadsU.at' {w : World} {A : Option Addr} {us : List (Nat × Nat × Int)} (h : ReadsU w A us) {i : Nat} {a n : Nat} {c : Int} (hu : us[i]? = some (a, n, c)) : ∃ q, A = some ⟨q, 0, none⟩ ∧ q < w.heap.size ∧ w.cell? ⟨q, i * 3, none⟩ = some (.int .i64 (a : Nat)) ∧ w.cell? ⟨q, i * 3 + 1, none⟩ = some (.int .i64 (n : Nat)) ∧ w.cell? ⟨q, i * 3 + 2, none⟩ = some (.int .i64 c) := by
  have hl := (List.getElem?_eq_some_iff.1 hu).1
  obtain ⟨q, e, hq, hc⟩ := h (by omega)
  exact ⟨q, e, hq, hc i _ hu⟩
theorem turnL_at (f : Int → Option Int) (s : ByteArray) (most : Nat) : ∀ (us : List (Nat × Nat × Int)) (i j : Nat) (u : Nat × Nat × Int), us[j]? = some u →
    turnL f s most i (us.take (j + 1)) = turnL f s most i (us.take j) ++ pieceB f s most (i + j) u
  | [], i, j, u, h => by simp at h
  | v :: t, i, 0, u, h => by
    obtain rfl : v = u := by simpa using h
    show pieceB f s most i v ++ turnL f s most (i + 1) [] = turnL f s most i [] ++ pieceB f s most (i + 0) v
    show pieceB f s most i v ++ ⟨#[]⟩ = ⟨#[]⟩ ++ pieceB f s most i v
    apply ByteArray.ext
    simp [ByteArray.data_append]
  | v :: t, i, j + 1, u, h => by
    have ih := turnL_at f s most t (i + 1) j u (by simpa using h)
    show pieceB f s most i v ++ turnL f s most (i + 1) (t.take (j + 1)) = (pieceB f s most i v ++ turnL f s most (i + 1) (t.take j)) ++ _
    rw [ih, ByteArray.append_assoc, show i + 1 + j = i + (j + 1) by omega]
theorem enc_size4 {c : Int} (h : ValidC c) : (enc c).size ≤ 4 := by
  obtain ⟨n, rfl⟩ : ∃ n : Nat, c = (n : Int) := ⟨c.toNat, by rcases h with h | h <;> omega⟩
  exact (dec_enc n (by rcases h with h | h <;> omega)).2.2
theorem turnL_size (f : Int → Option Int) (s : ByteArray) (most : Nat) (hf : ∀ c d, f c = some d → ValidC d) : ∀ (us : List (Nat × Nat × Int)) (p i : Nat), ChainU s p us s.size → ∀ j, (turnL f s most i (us.take j)).size ≤ j * (s.size + 4)
  | us, p, i, hc, 0 => by rw [List.take_zero]; show 0 ≤ _; omega
  | [], p, i, hc, j + 1 => Nat.zero_le _
  | u :: us, p, i, hc, j + 1 => by
    obtain ⟨hu, hp, hc2⟩ := hc
    have ih := turnL_size f s most hf us _ (i + 1) hc2 j
    show (pieceB f s most i u ++ turnL f s most (i + 1) (us.take j)).size ≤ _
    rw [ByteArray.size_append]
    have hpz : (pieceB f s most i u).size ≤ s.size + 4 := by
      unfold pieceB
      cases ht : isT f most i u.2.2 with
      | some c =>
        have := enc_size4 (show ValidC c by unfold isT at ht; split at ht; exact hf _ _ ht; cases ht)
        simp only
        omega
      | none => simp only; unfold rawB; rw [ByteArray.size_extract]; omega
    rw [Nat.succ_mul]
    omega
theorem code_range (s : ByteArray) : ∀ (f i : Nat) (u : Nat × Nat × Int), u ∈ unitsFrom s f i → -256 ≤ u.2.2 ∧ u.2.2 ≤ 1114111
  | 0, i, u, h => by cases h
  | f + 1, i, u, h => by
    unfold unitsFrom at h
    split at h
    · rcases List.mem_cons.1 h with rfl | h
      · show -256 ≤ uCode s i ∧ uCode s i ≤ 1114111
        unfold uCode
        have h1 := uB_lt s i
        have h2 := dec_valid s i
        split <;> omega
      · exact code_range s f (i + uLen s i) u h
    · cases h
theorem unitsFrom_fit (s : ByteArray) : ∀ (f i : Nat) (u : Nat × Nat × Int), u ∈ unitsFrom s f i → i ≤ u.1 ∧ u.1 + u.2.1 ≤ s.size ∧ 1 ≤ u.2.1
  | 0, i, u, h => by cases h
  | f + 1, i, u, h => by
    unfold unitsFrom at h
    split at h
    · rename_i hi
      rcases List.mem_cons.1 h with rfl | h
      · exact ⟨Nat.le_refl _, u_fits s i hi, u_len1 s i⟩
      · have := unitsFrom_fit s f (i + uLen s i) u h
        exact ⟨by omega, this.2⟩
    · cases h
set_option maxRecDepth 100000 in
set_option maxHeartbeats 8000000 in
theorem turned_calls (s : ByteArray) (f : Int → Option Int) (most b n : Nat) (w : World) (hs : s.size ≤ 1000000) (hm : most ≤ 1000000) (hT : Lib.Utf8Tabs 0 1 w) (hM : MapF Tryd.prog w b f n) (hf : ∀ c d, f c = some d → ValidC d) :
    Calls Tryd.prog 30 #[.string s, .map (some b), .int .i64 (most : Nat)] w fun e w' => e = .returned (.string (turnS f s most)) ∧ Below w.heap.size w w' := by
  have hul : (units s).length ≤ s.size := unitsFrom_len s s.size 0
  obtain ⟨N, hN⟩ : ∃ N, N = w.heap.size := ⟨_, rfl⟩
  obtain ⟨w1, hw1⟩ : ∃ w1, w1 = w.alloc (.cells #[.pointer none, .slice none 0 0] 87) := ⟨_, rfl⟩
  have b1 : Below w.heap.size w w1 := by rw [hw1]; exact (Below.refl _ _).alloc (Nat.le_refl _) _
  have d1 : Bd N N [] w1 := by rw [hw1, hN]; exact Bd.new w
  have CA := Lib.hid (uall_calls s w1 (by omega) (Utf8Tabs_below hT b1))
  have D1 := Lib.hid d1
  have B1 := Lib.hid b1
  have HM := Lib.hid hM
  have HW1 := Lib.hid hw1
  have HN1 := Lib.hid (show N < w1.heap.size by rw [hw1, hN]; simp)
  have HN := Lib.hid hN
  have HF := Lib.hid hf
  clear b1 d1 hw1 hT hM hN hf
  go_enter Tryd.func30, Tryd.ntmps30
  go_wp2_with (fail)
  rw [← HW1.out, ← HN.out]
  refine CA.out.mono ?_
  rintro e w2 ⟨v, rfl, hR, b2⟩
  obtain ⟨A, cp, rfl⟩ := own_is hR
  have R2 := Lib.hid hR
  have D2 := Lib.hid (D1.out.later b2)
  have B2 := Lib.hid (B1.out.trans (b2.mono B1.out.size))
  clear hR b2 CA D1 B1 HW1
  obtain ⟨us, hus⟩ : ∃ us, us = units s := ⟨_, rfl⟩
  have hch := chain_units s
  rw [← hus] at R2 hul hch ⊢
  have HCH := Lib.hid hch
  have HUS := Lib.hid hus
  clear hch hus
  go_wp2_with (fail)
  go_loopw [15] (fun iv wr => ∃ j : Nat, iv = .int .i64 (j : Nat) ∧ j ≤ us.length ∧ Bd N N (turnL f s most 0 (us.take j)).data.toList wr ∧ Below w.heap.size w wr ∧ RowU wr w1.heap.size (.slice A us.length cp) us) (fun iv _ => us.length - (intOf iv).toNat)
  case atStart => exact ⟨0, rfl, Nat.zero_le _, D2.out, B2.out, R2.out⟩
  case round =>
    obtain ⟨j, rfl, hj, hD, hb, hb2⟩ := hrel
    clear D2
    by_cases hjl : j < us.length
    · have g1 : decide (j < us.length) = true := by simpa using hjl
      obtain ⟨⟨a, n', c⟩, hu⟩ : ∃ u, us[j]? = some u := ⟨_, List.getElem?_eq_getElem hjl⟩
      obtain ⟨nn, hnn⟩ : ∃ nn, n' = nn := ⟨_, rfl⟩
      rw [hnn] at hu
      clear hnn n'
      have hfit : 0 ≤ a ∧ a + nn ≤ s.size ∧ 1 ≤ nn := unitsFrom_fit s s.size 0 (a, nn, c) (by have := List.mem_of_getElem? hu; rw [HUS.out] at this; exact this)
      have hrb : (rawB s (a, nn, c)).size ≤ s.size := by unfold rawB; rw [ByteArray.size_extract]; show min (a + nn) s.size - a ≤ s.size; omega
      have hts : (turnL f s most 0 (us.take j)).size ≤ 1000004 * 1000000 := by
        have h1 := turnL_size f s most HF.out us 0 0 (by rw [HUS.out] at *; exact chain_units s) j
        have h2 : j * (s.size + 4) ≤ 1000000 * 1000004 := Nat.mul_le_mul (by omega) (by omega)
        omega
      have HTS := Lib.hid hts
      obtain ⟨q, rfl, hq, d0, d1, d2⟩ := hb2.reads.2.at' hu
      obtain ⟨w3, hw3⟩ : ∃ w3, w3 = wr.alloc (.cells #[Value.int .i64 (a : Nat), .int .i64 (nn : Nat), .int .i64 c] 73) := ⟨_, rfl⟩
      obtain ⟨M, hM3⟩ : ∃ M, M = wr.heap.size := ⟨_, rfl⟩
      have b3 : Below wr.heap.size wr w3 := by rw [hw3]; exact (Below.refl _ _).alloc (Nat.le_refl _) _
      have n3 : w3.heap[M]? = some (.cells #[.int .i64 (a : Nat), .int .i64 (nn : Nat), .int .i64 c] 73 (0, 0)) := by rw [hw3, hM3]; exact blk_new wr _
      obtain ⟨m0, m1, m2⟩ := cell3_of n3
      have B3 := Lib.hid (hb.trans (b3.mono hb.size))
      have C3 := Lib.hid (hb2.below b3)
      have D3 := Lib.hid (hD.later b3)
      have M3 := Lib.hid (HM.out.keep (B3.out.block b HM.out.lt))
      have HU := Lib.hid hu
      have HW3 := Lib.hid hw3
      have HM3 := Lib.hid hM3
      obtain ⟨D, hDD, hDF⟩ := M3.out
      have HD := Lib.hid hDD
      have HDF := Lib.hid hDF
      have hcw : (Lit.int .i64 c).wf = true := by
        obtain ⟨hi, hx⟩ := code_range s s.size 0 (a, nn, c) (by have := List.mem_of_getElem? HU.out; rw [HUS.out] at this; exact this)
        exact WalkArith.wf_i64 (by simp only at hi hx; omega)
      have FS : ∀ w : World, (Instr.slice 9 (.string s) (some (.int .i64 (a : Nat))) (some (.int .i64 ((a : Int) + (nn : Nat)))) none).run Tryd.prog w = .ok (.string (rawB s (a, nn, c))) w := fun w => by
        rw [run_slice_string (t := 9) (s := s) (k := .i64) (k' := .i64) (i := (a : Nat)) (j := (a : Int) + (nn : Nat)) (h := Tryd.underlying9)]
        · show Result.ok (Value.string (s.extract (a : Int).toNat ((a : Int) + (nn : Int)).toNat)) w = _
          rw [show ((a : Int) + (nn : Int)).toNat = a + nn by omega]
          rfl
        all_goals omega
      clear hD hb hb2 hu hw3 hM3 b3 n3 hDD hDF hts
      go_upto_region 5 with (fail)
      rw [← HW3.out, ← HM3.out]
      go_upto_region 6 with (at_lookup; refine wpList_lookup_own_ok_int _ rfl _ _ 66 rfl 3 3 .i64 int_law Tryd.underlying66 Tryd.underlying3 (zero3 _) b n D rfl HD.out _ (.int .i64 c) rfl (keyOf_int_mk Tryd.underlying3 hcw) ?_; intro cc hat hwc)
      obtain ⟨hcc, hh⟩ := HDF.out.look hat
      rw [hh]
      clear hat hwc hh
      by_cases hjm : j < most
      · have g2 : decide (j < most) = true := by simpa using hjm
        cases hfc : f c with
        | some d =>
          have hv := HF.out c d hfc
          have hz4 := enc_size4 hv
          rw [hfc] at hcc
          simp only [Option.getD_some] at hcc
          subst hcc
          simp only [Option.isSome_some]
          have HPC := Lib.hid (show pieceB f s most j (a, nn, c) = enc cc by unfold pieceB isT; simp only [hjm, hfc, if_true])
          have CB := Lib.hid (ubytes_calls cc w3)
          clear hfc hv
          go_wp2_with (fail)
          refine CB.out.mono ?_
          rintro e w5 ⟨rfl, rfl⟩
          clear CB
          go_wp2_with (fail)
          have BDX := Lib.hid D3.out
          refine (bd_write (enc cc) BDX.out (by have h9 := HTS.out; rw [← size_list] at h9; omega) (by have := B3.out.size; have := HN.out; omega)).mono ?_
          rintro e w4 ⟨rfl, hd4, hb4, hfr⟩
          have D4 := Lib.hid hd4
          have B4 := Lib.hid (show Below w.heap.size w w4 from B3.out.trans (by rw [← HN.out]; exact hb4))
          have C4 := Lib.hid (show RowU w4 w1.heap.size (.slice _ us.length cp) us from own_keep C3.out fun k hk => by
            obtain ⟨cur, hc⟩ := own_row_type C3.out hk
            exact hfr k _ _ _ hc (by decide) (by have := (own_block_lt C3.out hk).1; have := HN1.out; omega))
          clear hd4 hb4 hfr
          go_wp2_with (fail)
          go_roundw
          case rel =>
            refine ⟨j + 1, by go_num, hjl, ?_, B4.out, C4.out⟩
            rw [turnL_at f s most us 0 j _ HU.out, Nat.zero_add, ByteArray.data_append, Array.toList_append, HPC.out]
            exact D4.out
          case measure => simp [intOf]; omega
        | none =>
          simp only [Option.isSome_none]
          have HPC := Lib.hid (show pieceB f s most j (a, nn, c) = rawB s (a, nn, c) by unfold pieceB isT; simp only [hfc, ite_self])
          clear hfc hcc
          go_wp2_with (fail)
          have BDX := Lib.hid D3.out
          refine (bd_write (rawB s (a, nn, c)) BDX.out (by have h9 := HTS.out; rw [← size_list] at h9; omega) (by have := B3.out.size; have := HN.out; omega)).mono ?_
          rintro e w4 ⟨rfl, hd4, hb4, hfr⟩
          have D4 := Lib.hid hd4
          have B4 := Lib.hid (show Below w.heap.size w w4 from B3.out.trans (by rw [← HN.out]; exact hb4))
          have C4 := Lib.hid (show RowU w4 w1.heap.size (.slice _ us.length cp) us from own_keep C3.out fun k hk => by
            obtain ⟨cur, hc⟩ := own_row_type C3.out hk
            exact hfr k _ _ _ hc (by decide) (by have := (own_block_lt C3.out hk).1; have := HN1.out; omega))
          clear hd4 hb4 hfr
          go_wp2_with (fail)
          go_roundw
          case rel =>
            refine ⟨j + 1, by go_num, hjl, ?_, B4.out, C4.out⟩
            rw [turnL_at f s most us 0 j _ HU.out, Nat.zero_add, ByteArray.data_append, Array.toList_append, HPC.out]
            exact D4.out
          case measure => simp [intOf]; omega
      · have g2 : decide (j < most) = false := by simpa using hjm
        have HPC := Lib.hid (show pieceB f s most j (a, nn, c) = rawB s (a, nn, c) by unfold pieceB isT; simp only [hjm, if_false])
        clear hcc
        cases hfc : f c with
        | some d =>
          simp only [Option.isSome_some]
          clear hfc
          go_wp2_with (fail)
          have BDX := Lib.hid D3.out
          refine (bd_write (rawB s (a, nn, c)) BDX.out (by have h9 := HTS.out; rw [← size_list] at h9; omega) (by have := B3.out.size; have := HN.out; omega)).mono ?_
          rintro e w4 ⟨rfl, hd4, hb4, hfr⟩
          have D4 := Lib.hid hd4
          have B4 := Lib.hid (show Below w.heap.size w w4 from B3.out.trans (by rw [← HN.out]; exact hb4))
          have C4 := Lib.hid (show RowU w4 w1.heap.size (.slice _ us.length cp) us from own_keep C3.out fun k hk => by
            obtain ⟨cur, hc⟩ := own_row_type C3.out hk
            exact hfr k _ _ _ hc (by decide) (by have := (own_block_lt C3.out hk).1; have := HN1.out; omega))
          clear hd4 hb4 hfr
          go_wp2_with (fail)
          go_roundw
          case rel =>
            refine ⟨j + 1, by go_num, hjl, ?_, B4.out, C4.out⟩
            rw [turnL_at f s most us 0 j _ HU.out, Nat.zero_add, ByteArray.data_append, Array.toList_append, HPC.out]
            exact D4.out
          case measure => simp [intOf]; omega
        | none =>
          simp only [Option.isSome_none]
          clear hfc
          go_wp2_with (fail)
          have BDX := Lib.hid D3.out
          refine (bd_write (rawB s (a, nn, c)) BDX.out (by have h9 := HTS.out; rw [← size_list] at h9; omega) (by have := B3.out.size; have := HN.out; omega)).mono ?_
          rintro e w4 ⟨rfl, hd4, hb4, hfr⟩
          have D4 := Lib.hid hd4
          have B4 := Lib.hid (show Below w.heap.size w w4 from B3.out.trans (by rw [← HN.out]; exact hb4))
          have C4 := Lib.hid (show RowU w4 w1.heap.size (.slice _ us.length cp) us from own_keep C3.out fun k hk => by
            obtain ⟨cur, hc⟩ := own_row_type C3.out hk
            exact hfr k _ _ _ hc (by decide) (by have := (own_block_lt C3.out hk).1; have := HN1.out; omega))
          clear hd4 hb4 hfr
          go_wp2_with (fail)
          go_roundw
          case rel =>
            refine ⟨j + 1, by go_num, hjl, ?_, B4.out, C4.out⟩
            rw [turnL_at f s most us 0 j _ HU.out, Nat.zero_add, ByteArray.data_append, Array.toList_append, HPC.out]
            exact D4.out
          case measure => simp [intOf]; omega
    · have g1 : decide (j < us.length) = false := by simpa using hjl
      have hjt : us.take j = us := List.take_of_length_le (by omega)
      rw [hjt] at hD
      have hBw : N ≤ wr.heap.size := by have := hb.size; have := HN.out; omega
      have CS := Lib.hid (bd_string hD hBw)
      have HB := Lib.hid hb
      clear hD hb hb2 hjt
      go_wp2_with (fail)
      refine CS.out.mono ?_
      rintro e w5 ⟨rfl, b5⟩
      have B5 := Lib.hid (show Below w.heap.size w w5 from HB.out.trans (by rw [← HN.out]; exact b5))
      clear b5 CS
      go_wp2_with (fail)
      go_ret
      refine ⟨?_, B5.out⟩
      rw [HUS.out]
      rfl
end Go.Proofs.YtmpckoincdkeeaaDoor

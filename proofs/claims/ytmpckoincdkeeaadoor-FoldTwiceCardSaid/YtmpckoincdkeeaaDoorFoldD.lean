/- fold.Small, Title, Shape. -/
import Derived.Test.YtmpckoincdkeeaaDoorFoldC
namespace Go.Proofs.YtmpckoincdkeeaaDoor
open Go.RowKit Go.Deep Go.Own Go.Maps
set_option linter.unusedVariables false
def Tabs2 (w : World) : Prop := Lib.Utf8Tabs 0 1 w
/-- pairs of code points -/
def PairsV (ps : List (Int × Int)) : Prop := ∀ p ∈ ps, ValidC p.1 ∧ ValidC p.2
theorem PairsV.wf {ps : List (Int × Int)} (h : PairsV ps) : ∀ p ∈ ps, (Lit.int .i64 p.1).wf = true ∧ (Lit.int .i64 p.2).wf = true := fun p hp => by
  obtain ⟨a, b⟩ := h p hp
  exact ⟨WalkArith.wf_i64 (by rcases a with a | a <;> omega), WalkArith.wf_i64 (by rcases b with b | b <;> omega)⟩
theorem firstF_mem {l : List (Int × Int)} {c d : Int} (h : firstF l c = some d) : (c, d) ∈ l := by
  unfold firstF at h
  obtain ⟨p, hp, rfl⟩ := Option.map_eq_some_iff.1 h
  have h1 := List.find?_some hp
  have h2 := List.mem_of_find?_eq_some hp
  simp only [decide_eq_true_eq] at h1
  subst h1
  exact h2
theorem letters_v : PairsV lettersL := fun p hp => by
  unfold lettersL at hp
  obtain ⟨i, hi, rfl⟩ := List.mem_map.1 hp
  have := List.mem_range.1 hi
  exact ⟨.inl (by show 0 ≤ 65 + (i : Int) ∧ 65 + (i : Int) < 55296; omega), .inl (by show 0 ≤ 97 + (i : Int) ∧ 97 + (i : Int) < 55296; omega)⟩
theorem small_v {ps : List (Int × Int)} (h : PairsV ps) : ∀ c d, smallF ps c = some d → ValidC d := fun c d hd => by
  rcases List.mem_append.1 (firstF_mem hd) with hm | hm
  · exact (h _ hm).2
  · exact (letters_v _ hm).2
theorem great_v {ps : List (Int × Int)} (h : PairsV ps) : ∀ c d, greatF ps c = some d → ValidC d := fun c d hd => by
  have := firstF_mem hd
  unfold swapL at this
  obtain ⟨p, hp, he⟩ := List.mem_map.1 this
  simp only [Prod.mk.injEq] at he
  rcases List.mem_append.1 hp with hm | hm
  · rw [← he.2]; exact (h _ hm).1
  · rw [← he.2]; exact (letters_v _ hm).1
set_option maxRecDepth 100000 in
set_option maxHeartbeats 4000000 in
theorem small_calls (ps : List (Int × Int)) (s : ByteArray) (A : Option Addr) (cp : Nat) (w : World) (hA : ReadsP w A ps) (hl : ps.length ≤ 1000000) (hv : PairsV ps) (hs : s.size ≤ 1000000) (hT : Tabs2 w) :
    Calls Tryd.prog 14 #[.slice A ps.length cp, .string s] w fun e w' => e = .returned (.string (turnS (smallF ps) s s.size)) ∧ Below w.heap.size w w' := by
  have CB := Lib.hid (both_calls ps A cp w hA hl hv.wf)
  have HT := Lib.hid hT
  have HV := Lib.hid hv
  clear hA hT hv
  go_enter Tryd.func14, Tryd.ntmps14
  go_wp2_with (fail)
  refine CB.out.mono ?_
  rintro e w1 ⟨⟨bS, bG, n, rfl, mS, mG⟩, b1⟩
  have CT := Lib.hid (turned_calls s (smallF ps) s.size bS n w1 hs hs (Utf8Tabs_below HT.out b1) mS (small_v HV.out))
  have B1 := Lib.hid b1
  clear mS mG b1 CB
  go_wp2_with (fail)
  refine CT.out.mono ?_
  rintro e w2 ⟨rfl, b2⟩
  have B2 := Lib.hid (B1.out.trans (b2.mono B1.out.size))
  clear b2 CT
  go_wp2_with (fail)
  go_ret
  exact ⟨rfl, B2.out⟩
set_option maxRecDepth 100000 in
set_option maxHeartbeats 4000000 in
theorem title_calls (ps : List (Int × Int)) (s : ByteArray) (A : Option Addr) (cp : Nat) (w : World) (hA : ReadsP w A ps) (hl : ps.length ≤ 1000000) (hv : PairsV ps) (hs : s.size ≤ 1000000) (hT : Tabs2 w) :
    Calls Tryd.prog 16 #[.slice A ps.length cp, .string s] w fun e w' => e = .returned (.string (turnS (greatF ps) s 1)) ∧ Below w.heap.size w w' := by
  have CB := Lib.hid (both_calls ps A cp w hA hl hv.wf)
  have HT := Lib.hid hT
  have HV := Lib.hid hv
  clear hA hT hv
  go_enter Tryd.func16, Tryd.ntmps16
  go_wp2_with (fail)
  refine CB.out.mono ?_
  rintro e w1 ⟨⟨bS, bG, n, rfl, mS, mG⟩, b1⟩
  have CT := Lib.hid (turned_calls s (greatF ps) 1 bG n w1 hs (by omega) (Utf8Tabs_below HT.out b1) mG (great_v HV.out))
  have B1 := Lib.hid b1
  clear mS mG b1 CB
  go_wp2_with (fail)
  refine CT.out.mono ?_
  rintro e w2 ⟨rfl, b2⟩
  have B2 := Lib.hid (B1.out.trans (b2.mono B1.out.size))
  clear b2 CT
  go_wp2_with (fail)
  go_ret
  exact ⟨rfl, B2.out⟩
def cntF (f : Int → Option Int) (cs : List Int) : Nat := cs.countP fun c => (f c).isSome
def fstF (f : Int → Option Int) : List Int → Bool
  | [] => false
  | c :: _ => (f c).isSome
def shapeOf (f g : Int → Option Int) (cs : List Int) : Int :=
  if cntF f cs = 0 then 0 else if cntF f cs = 1 ∧ fstF f cs = true then 1 else if 2 ≤ cs.length ∧ 2 ≤ cntF f cs ∧ cntF g cs = 0 then 2 else 3
theorem cntF_snoc (f : Int → Option Int) (cs : List Int) (c : Int) : cntF f (cs ++ [c]) = cntF f cs + (if (f c).isSome = true then 1 else 0) := by
  unfold cntF
  rw [List.countP_append, List.countP_singleton]
theorem cntF_le (f : Int → Option Int) (cs : List Int) : cntF f cs ≤ cs.length := List.countP_le_length
theorem fstF_snoc (f : Int → Option Int) (cs : List Int) (c : Int) : fstF f (cs ++ [c]) = (fstF f cs || (decide (cs.length = 0) && (f c).isSome)) := by
  cases cs with
  | nil => rfl
  | cons x l => simp [fstF]
set_option maxRecDepth 100000 in
set_option maxHeartbeats 8000000 in
theorem shape_calls (ps : List (Int × Int)) (s : ByteArray) (A : Option Addr) (cp : Nat) (w : World) (hA : ReadsP w A ps) (hl : ps.length ≤ 1000000) (hv : PairsV ps) (hs : s.size ≤ 1000000) (hT : Tabs2 w) :
    Calls Tryd.prog 15 #[.slice A ps.length cp, .string s] w fun e w' => e = .returned (.int .i64 (shapeOf (smallF ps) (greatF ps) (codes s))) ∧ Below w.heap.size w w' := by
  have hul : (units s).length ≤ s.size := unitsFrom_len s s.size 0
  have CB := Lib.hid (both_calls ps A cp w hA hl hv.wf)
  have HT := Lib.hid hT
  clear hA hT hv
  go_enter Tryd.func15, Tryd.ntmps15
  go_wp2_with (fail)
  refine CB.out.mono ?_
  rintro e w1 ⟨⟨bS, bG, n, rfl, mS, mG⟩, b1⟩
  obtain ⟨f, hf⟩ : ∃ f, f = smallF ps := ⟨_, rfl⟩
  obtain ⟨g, hg⟩ : ∃ g, g = greatF ps := ⟨_, rfl⟩
  rw [← hf] at mS
  rw [← hg] at mG
  have HFF := Lib.hid hf
  have HGG := Lib.hid hg
  have CA := Lib.hid (uall_calls s w1 (by omega) (Utf8Tabs_below HT.out b1))
  have B1 := Lib.hid b1
  have MS := Lib.hid mS
  have MG := Lib.hid mG
  clear mS mG b1 CB hf hg
  go_wp2_with (fail)
  refine CA.out.mono ?_
  rintro e w2 ⟨v, rfl, hR, b2⟩
  obtain ⟨A2, cp2, rfl⟩ := own_is hR
  have R2 := Lib.hid hR.reads.2
  have B2 := Lib.hid (B1.out.trans (b2.mono B1.out.size))
  have C2 := Lib.hid b2
  obtain ⟨us, hus⟩ : ∃ us, us = units s := ⟨_, rfl⟩
  rw [← hus] at R2 hul ⊢
  have HUS := Lib.hid hus
  obtain ⟨cs, hcs⟩ : ∃ cs, cs = codes s := ⟨_, rfl⟩
  have hcu : cs = us.map fun u => u.2.2 := by rw [hcs, hus]; rfl
  have hcl : cs.length = us.length := by rw [hcu, List.length_map]
  have HCS := Lib.hid hcs
  have HCU := Lib.hid hcu
  have HCL := Lib.hid hcl
  clear hR b2 CA B1 hus hcs hcu hcl
  go_wp2_with (fail)
  go_loopw [8, 9, 10, 26] (fun gv sv fv iv wr => ∃ j : Nat, iv = .int .i64 (j : Nat) ∧ j ≤ us.length ∧ gv = .int .i64 (cntF f (cs.take j) : Nat) ∧ sv = .int .i64 (cntF g (cs.take j) : Nat) ∧ fv = .bool (fstF f (cs.take j)) ∧ Below w.heap.size w wr ∧ Below w2.heap.size w2 wr) (fun _ _ _ iv _ => us.length - (intOf iv).toNat)
  case atStart => exact ⟨0, rfl, Nat.zero_le _, rfl, rfl, rfl, B2.out, Below.refl _ _⟩
  case round =>
    obtain ⟨j, rfl, hj, rfl, rfl, rfl, hb, hb2⟩ := hrel
    have hc1 := cntF_le f (cs.take j)
    have hc2 := cntF_le g (cs.take j)
    have hjt : (cs.take j).length = j := by rw [List.length_take]; have := HCL.out; omega
    rw [hjt] at hc1 hc2
    obtain ⟨G, hG⟩ : ∃ G, G = cntF f (cs.take j) := ⟨_, rfl⟩
    obtain ⟨Sm, hSm⟩ : ∃ S, S = cntF g (cs.take j) := ⟨_, rfl⟩
    obtain ⟨fb, hfb⟩ : ∃ b, b = fstF f (cs.take j) := ⟨_, rfl⟩
    rw [← hG, ← hSm, ← hfb]
    rw [← hG] at hc1
    rw [← hSm] at hc2
    have HG := Lib.hid hG
    have HSm := Lib.hid hSm
    have Hfb := Lib.hid hfb
    have HJT := Lib.hid hjt
    clear hG hSm hfb hjt
    by_cases hjl : j < us.length
    · skip
      have g1 : decide (j < us.length) = true := by simpa using hjl
      obtain ⟨⟨a, n', c⟩, hu⟩ : ∃ u, us[j]? = some u := ⟨_, List.getElem?_eq_getElem hjl⟩
      obtain ⟨nn, hnn⟩ : ∃ nn, n' = nn := ⟨_, rfl⟩
      rw [hnn] at hu
      clear hnn n'
      have hcj : cs[j]? = some c := by rw [HCU.out, List.getElem?_map, hu]; rfl
      have htk : cs.take (j + 1) = cs.take j ++ [c] := by
        obtain ⟨hjl2, hx⟩ := List.getElem?_eq_some_iff.1 hcj
        rw [List.take_succ_eq_append_getElem hjl2, hx]
      have hcw : (Lit.int .i64 c).wf = true := by
        obtain ⟨hi, hx⟩ := code_range s s.size 0 (a, nn, c) (by have := List.mem_of_getElem? hu; rw [HUS.out] at this; exact this)
        exact WalkArith.wf_i64 (by simp only at hi hx; omega)
      obtain ⟨q, rfl, hq, d0, d1, d2⟩ := (R2.out.below hb2).at' hu
      obtain ⟨w3, hw3⟩ : ∃ w3, w3 = wr.alloc (.cells #[Value.int .i64 (a : Nat), .int .i64 (nn : Nat), .int .i64 c] 73) := ⟨_, rfl⟩
      obtain ⟨M, hM3⟩ : ∃ M, M = wr.heap.size := ⟨_, rfl⟩
      have b3 : Below wr.heap.size wr w3 := by rw [hw3]; exact (Below.refl _ _).alloc (Nat.le_refl _) _
      have n3 : w3.heap[M]? = some (.cells #[.int .i64 (a : Nat), .int .i64 (nn : Nat), .int .i64 c] 73 (0, 0)) := by rw [hw3, hM3]; exact blk_new wr _
      obtain ⟨m0, m1, m2⟩ := cell3_of n3
      have B3 := Lib.hid (hb.trans (b3.mono hb.size))
      have R3 := Lib.hid (hb2.trans (b3.mono hb2.size))
      have W13 := Lib.hid (C2.out.trans (R3.out.mono C2.out.size))
      obtain ⟨D, hDD, hDF⟩ := MS.out.keep (W13.out.block bS MS.out.lt)
      obtain ⟨E, hEE, hEF⟩ := MG.out.keep (W13.out.block bG MG.out.lt)
      have HD := Lib.hid hDD
      have HDF := Lib.hid hDF
      have HE := Lib.hid hEE
      have HEF := Lib.hid hEF
      have HTK := Lib.hid htk
      have HW3 := Lib.hid hw3
      have HM3 := Lib.hid hM3
      clear hb hb2 hu hcj htk hw3 hM3 b3 n3 hDD hDF hEE hEF
      go_upto_region 8 with (fail)
      rw [← HW3.out, ← HM3.out]
      go_upto_region 9 with (at_lookup; refine wpList_lookup_own_ok_int _ rfl _ _ 66 rfl 3 3 .i64 int_law Tryd.underlying66 Tryd.underlying3 (zero3 _) bS n D rfl HD.out _ (.int .i64 c) rfl (keyOf_int_mk Tryd.underlying3 hcw) ?_; intro c4 hat hwc)
      obtain ⟨hcc, hh⟩ := HDF.out.look hat
      rw [hh]
      clear hat hwc hh hcc
      cases hfc : f c with
      | some x =>
        have HF1 := Lib.hid (show (f c).isSome = true by rw [hfc]; rfl)
        simp only [Option.isSome_some]
        clear hfc
        cases fb with
        | true =>
          go_upto_region 13 with (at_lookup; refine wpList_lookup_own_ok_int _ rfl _ _ 66 rfl 3 3 .i64 int_law Tryd.underlying66 Tryd.underlying3 (zero3 _) bG n E rfl HE.out _ (.int .i64 c) rfl (keyOf_int_mk Tryd.underlying3 hcw) ?_; intro c5 hat2 hwc2)
          obtain ⟨hcc2, hh2⟩ := HEF.out.look hat2
          rw [hh2]
          clear hat2 hwc2 hh2 hcc2
          cases hgc : g c with
          | some y =>
            have HF2 := Lib.hid (show (g c).isSome = true by rw [hgc]; rfl)
            simp only [Option.isSome_some]
            clear hgc
            go_wp2_with (fail)
            go_roundw
            case rel =>
              refine ⟨j + 1, by go_num, hjl, ?_, ?_, ?_, B3.out, R3.out⟩
              · rw [HTK.out, cntF_snoc, HF1.out, ← HG.out]; first | rfl | go_num
              · rw [HTK.out, cntF_snoc, HF2.out, ← HSm.out]; first | rfl | go_num
              · rw [HTK.out, fstF_snoc, HF1.out, HJT.out, ← Hfb.out]; first | rfl | (simp [hj0]; done) | (cases fb <;> simp; done)
            case measure => simp [intOf]; omega
          | none =>
            have HF2 := Lib.hid (show (g c).isSome = false by rw [hgc]; rfl)
            simp only [Option.isSome_none]
            clear hgc
            go_wp2_with (fail)
            go_roundw
            case rel =>
              refine ⟨j + 1, by go_num, hjl, ?_, ?_, ?_, B3.out, R3.out⟩
              · rw [HTK.out, cntF_snoc, HF1.out, ← HG.out]; first | rfl | go_num
              · rw [HTK.out, cntF_snoc, HF2.out, ← HSm.out]; first | rfl | go_num
              · rw [HTK.out, fstF_snoc, HF1.out, HJT.out, ← Hfb.out]; first | rfl | (simp [hj0]; done) | (cases fb <;> simp; done)
            case measure => simp [intOf]; omega
        | false =>
          by_cases hj0 : j = 0
          · have g5 : ((j : Int) == 0) = true := by simp; omega
            have g6 : decide ((j : Int) = 0) = true := by simp; omega
            go_upto_region 13 with (at_lookup; refine wpList_lookup_own_ok_int _ rfl _ _ 66 rfl 3 3 .i64 int_law Tryd.underlying66 Tryd.underlying3 (zero3 _) bG n E rfl HE.out _ (.int .i64 c) rfl (keyOf_int_mk Tryd.underlying3 hcw) ?_; intro c5 hat2 hwc2)
            obtain ⟨hcc2, hh2⟩ := HEF.out.look hat2
            rw [hh2]
            clear hat2 hwc2 hh2 hcc2
            cases hgc : g c with
            | some y =>
              have HF2 := Lib.hid (show (g c).isSome = true by rw [hgc]; rfl)
              simp only [Option.isSome_some]
              clear hgc
              go_wp2_with (fail)
              go_roundw
              case rel =>
                refine ⟨j + 1, by go_num, hjl, ?_, ?_, ?_, B3.out, R3.out⟩
                · rw [HTK.out, cntF_snoc, HF1.out, ← HG.out]; first | rfl | go_num
                · rw [HTK.out, cntF_snoc, HF2.out, ← HSm.out]; first | rfl | go_num
                · rw [HTK.out, fstF_snoc, HF1.out, HJT.out, ← Hfb.out]; first | rfl | (simp [hj0]; done) | (cases fb <;> simp; done)
              case measure => simp [intOf]; omega
            | none =>
              have HF2 := Lib.hid (show (g c).isSome = false by rw [hgc]; rfl)
              simp only [Option.isSome_none]
              clear hgc
              go_wp2_with (fail)
              go_roundw
              case rel =>
                refine ⟨j + 1, by go_num, hjl, ?_, ?_, ?_, B3.out, R3.out⟩
                · rw [HTK.out, cntF_snoc, HF1.out, ← HG.out]; first | rfl | go_num
                · rw [HTK.out, cntF_snoc, HF2.out, ← HSm.out]; first | rfl | go_num
                · rw [HTK.out, fstF_snoc, HF1.out, HJT.out, ← Hfb.out]; first | rfl | (simp [hj0]; done) | (cases fb <;> simp; done)
              case measure => simp [intOf]; omega
          · have g5 : ((j : Int) == 0) = false := by simp; omega
            have g6 : decide ((j : Int) = 0) = false := by simp; omega
            go_upto_region 13 with (at_lookup; refine wpList_lookup_own_ok_int _ rfl _ _ 66 rfl 3 3 .i64 int_law Tryd.underlying66 Tryd.underlying3 (zero3 _) bG n E rfl HE.out _ (.int .i64 c) rfl (keyOf_int_mk Tryd.underlying3 hcw) ?_; intro c5 hat2 hwc2)
            obtain ⟨hcc2, hh2⟩ := HEF.out.look hat2
            rw [hh2]
            clear hat2 hwc2 hh2 hcc2
            cases hgc : g c with
            | some y =>
              have HF2 := Lib.hid (show (g c).isSome = true by rw [hgc]; rfl)
              simp only [Option.isSome_some]
              clear hgc
              go_wp2_with (fail)
              go_roundw
              case rel =>
                refine ⟨j + 1, by go_num, hjl, ?_, ?_, ?_, B3.out, R3.out⟩
                · rw [HTK.out, cntF_snoc, HF1.out, ← HG.out]; first | rfl | go_num
                · rw [HTK.out, cntF_snoc, HF2.out, ← HSm.out]; first | rfl | go_num
                · rw [HTK.out, fstF_snoc, HF1.out, HJT.out, ← Hfb.out]; first | rfl | (simp [hj0]; done) | (cases fb <;> simp; done)
              case measure => simp [intOf]; omega
            | none =>
              have HF2 := Lib.hid (show (g c).isSome = false by rw [hgc]; rfl)
              simp only [Option.isSome_none]
              clear hgc
              go_wp2_with (fail)
              go_roundw
              case rel =>
                refine ⟨j + 1, by go_num, hjl, ?_, ?_, ?_, B3.out, R3.out⟩
                · rw [HTK.out, cntF_snoc, HF1.out, ← HG.out]; first | rfl | go_num
                · rw [HTK.out, cntF_snoc, HF2.out, ← HSm.out]; first | rfl | go_num
                · rw [HTK.out, fstF_snoc, HF1.out, HJT.out, ← Hfb.out]; first | rfl | (simp [hj0]; done) | (cases fb <;> simp; done)
              case measure => simp [intOf]; omega
      | none =>
        have HF1 := Lib.hid (show (f c).isSome = false by rw [hfc]; rfl)
        simp only [Option.isSome_none]
        clear hfc
        go_upto_region 13 with (at_lookup; refine wpList_lookup_own_ok_int _ rfl _ _ 66 rfl 3 3 .i64 int_law Tryd.underlying66 Tryd.underlying3 (zero3 _) bG n E rfl HE.out _ (.int .i64 c) rfl (keyOf_int_mk Tryd.underlying3 hcw) ?_; intro c5 hat2 hwc2)
        obtain ⟨hcc2, hh2⟩ := HEF.out.look hat2
        rw [hh2]
        clear hat2 hwc2 hh2 hcc2
        cases hgc : g c with
        | some y =>
          have HF2 := Lib.hid (show (g c).isSome = true by rw [hgc]; rfl)
          simp only [Option.isSome_some]
          clear hgc
          go_wp2_with (fail)
          go_roundw
          case rel =>
            refine ⟨j + 1, by go_num, hjl, ?_, ?_, ?_, B3.out, R3.out⟩
            · rw [HTK.out, cntF_snoc, HF1.out, ← HG.out]; first | rfl | go_num
            · rw [HTK.out, cntF_snoc, HF2.out, ← HSm.out]; first | rfl | go_num
            · rw [HTK.out, fstF_snoc, HF1.out, HJT.out, ← Hfb.out]; first | rfl | (simp [hj0]; done) | (cases fb <;> simp; done)
          case measure => simp [intOf]; omega
        | none =>
          have HF2 := Lib.hid (show (g c).isSome = false by rw [hgc]; rfl)
          simp only [Option.isSome_none]
          clear hgc
          go_wp2_with (fail)
          go_roundw
          case rel =>
            refine ⟨j + 1, by go_num, hjl, ?_, ?_, ?_, B3.out, R3.out⟩
            · rw [HTK.out, cntF_snoc, HF1.out, ← HG.out]; first | rfl | go_num
            · rw [HTK.out, cntF_snoc, HF2.out, ← HSm.out]; first | rfl | go_num
            · rw [HTK.out, fstF_snoc, HF1.out, HJT.out, ← Hfb.out]; first | rfl | (simp [hj0]; done) | (cases fb <;> simp; done)
          case measure => simp [intOf]; omega
    · have g1 : decide (j < us.length) = false := by simpa using hjl
      obtain rfl : j = us.length := by omega
      have hjt : cs.take us.length = cs := List.take_of_length_le (by rw [HCL.out]; omega)
      rw [hjt] at HG HSm Hfb
      have HB := Lib.hid hb
      clear hb hb2 hjt
      by_cases h0 : G = 0
      · have k0 : ((G : Int) == 0) = true := by simp; omega
        have k1 : decide ((G : Int) = 0) = true := by simp; omega
        go_wp2_with (fail)
        go_ret
        refine ⟨?_, HB.out⟩
        rw [show shapeOf (smallF ps) (greatF ps) (codes s) = 0 from by
          rw [← HFF.out, ← HGG.out, ← HCS.out]
          unfold shapeOf
          rw [← HG.out, ← HSm.out, ← Hfb.out]
          rw [if_pos h0]]
        rfl
      · have k0 : ((G : Int) == 0) = false := by simp; omega
        have k1 : decide ((G : Int) = 0) = false := by simp; omega
        by_cases h1 : G = 1
        · have k2 : ((G : Int) == 1) = true := by simp; omega
          have k3 : decide ((G : Int) = 1) = true := by simp; omega
          have k4 : decide (2 ≤ G) = false := by simp; omega
          have k5 : decide ((2 : Int) ≤ (G : Int)) = false := by simp; omega
          cases fb with
          | true =>
            go_wp2_with (fail)
            go_ret
            refine ⟨?_, HB.out⟩
            rw [show shapeOf (smallF ps) (greatF ps) (codes s) = 1 from by
              rw [← HFF.out, ← HGG.out, ← HCS.out]
              unfold shapeOf
              rw [← HG.out, ← HSm.out, ← Hfb.out]
              rw [if_neg h0, if_pos ⟨h1, rfl⟩]]
            rfl
          | false =>
            by_cases h2 : 2 ≤ us.length
            · have k6 : decide (2 ≤ us.length) = true := by simpa using h2
              go_wp2_with (fail)
              go_ret
              refine ⟨?_, HB.out⟩
              rw [show shapeOf (smallF ps) (greatF ps) (codes s) = 3 from by
                rw [← HFF.out, ← HGG.out, ← HCS.out]
                unfold shapeOf
                rw [← HG.out, ← HSm.out, ← Hfb.out]
                rw [if_neg h0, if_neg (by simp), if_neg (by omega)]]
              rfl
            · have k6 : decide (2 ≤ us.length) = false := by simpa using h2
              go_wp2_with (fail)
              go_ret
              refine ⟨?_, HB.out⟩
              rw [show shapeOf (smallF ps) (greatF ps) (codes s) = 3 from by
                rw [← HFF.out, ← HGG.out, ← HCS.out]
                unfold shapeOf
                rw [← HG.out, ← HSm.out, ← Hfb.out]
                rw [if_neg h0, if_neg (by simp), if_neg (by omega)]]
              rfl
        · have k2 : ((G : Int) == 1) = false := by simp; omega
          have k3 : decide ((G : Int) = 1) = false := by simp; omega
          have k4 : decide (2 ≤ G) = true := by simp; omega
          have k5 : decide ((2 : Int) ≤ (G : Int)) = true := by simp; omega
          have h2 : 2 ≤ us.length := by omega
          have k6 : decide (2 ≤ us.length) = true := by simpa using h2
          by_cases h3 : Sm = 0
          · have k7 : ((Sm : Int) == 0) = true := by simp; omega
            have k8 : decide ((Sm : Int) = 0) = true := by simp; omega
            go_wp2_with (fail)
            go_ret
            refine ⟨?_, HB.out⟩
            rw [show shapeOf (smallF ps) (greatF ps) (codes s) = 2 from by
              rw [← HFF.out, ← HGG.out, ← HCS.out]
              unfold shapeOf
              rw [← HG.out, ← HSm.out, ← Hfb.out]
              rw [if_neg h0, if_neg (by omega), if_pos ⟨by rw [HCL.out]; exact h2, by omega, h3⟩]]
            rfl
          · have k7 : ((Sm : Int) == 0) = false := by simp; omega
            have k8 : decide ((Sm : Int) = 0) = false := by simp; omega
            go_wp2_with (fail)
            go_ret
            refine ⟨?_, HB.out⟩
            rw [show shapeOf (smallF ps) (greatF ps) (codes s) = 3 from by
              rw [← HFF.out, ← HGG.out, ← HCS.out]
              unfold shapeOf
              rw [← HG.out, ← HSm.out, ← Hfb.out]
              rw [if_neg h0, if_neg (by omega), if_neg (by omega)]]
            rfl
end Go.Proofs.YtmpckoincdkeeaaDoor

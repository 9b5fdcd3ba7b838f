/- ListLines: the walk. -/
import Derived.Test.YtmpckoincdkeeaaDoorListK
namespace Go.Proofs.YtmpckoincdkeeaaDoor
open Go.RowKit Go.Deep Go.Own
set_option linter.unusedVariables false
def gpA : Array Value := #[.string ⟨#[]⟩, .string ⟨#[10]⟩, .string ⟨#[35, 32, 97, 32, 98, 47, 99, 10]⟩, .string ⟨#[10, 10, 35, 10]⟩]
set_option maxRecDepth 100000 in
theorem gp_index (i : Nat) (h : i < 4) : ∀ w : World, (Instr.index 50 (.agg gpA) (.int .i64 (i : Nat))).run Tryd.prog w = .ok (.string (mkB (linesT (gapL i)))) w := by
  have h2 : i = 0 ∨ i = 1 ∨ i = 2 ∨ i = 3 := by omega
  rcases h2 with rfl | rfl | rfl | rfl <;> exact fun w => by kernel_rfl
theorem gapL_size (k : Nat) : (linesT (gapL k)).length ≤ 8 := by unfold gapL; (repeat' split) <;> decide
def stB (S : ByteArray) (i : Nat) : Bool := decide (i = 0) || (uB S (i - 1) == 10)
theorem drop_byte (S : ByteArray) (i : Nat) (h : i < S.size) : ∃ c : UInt8, S.data.toList.drop i = c :: S.data.toList.drop (i + 1) ∧ S.extract i (i + 1) = mkB [c] ∧ c.toNat = uB S i := by
  have hl : i < S.data.toList.length := by simpa using h
  refine ⟨S.data.toList[i], List.drop_eq_getElem_cons hl, ?_, ?_⟩
  · apply ByteArray.ext
    rw [ByteArray.data_extract]
    apply Array.toList_inj.1
    rw [Array.toList_extract]
    simp only [mkB, List.extract_eq_take_drop]
    rw [show i + 1 - i = 1 by omega, List.drop_eq_getElem_cons hl]
    rfl
  · rw [uB_list, List.getD_eq_getElem?_getD, List.getElem?_eq_getElem hl]
    rfl
theorem ten_is (c : UInt8) {u : Nat} (h : c.toNat = u) : (c == 10) = (u == 10) := by
  subst h
  by_cases e : c = 10
  · subst e; rfl
  · have : ¬ c.toNat = 10 := fun h => e (UInt8.toNat_inj.1 h)
    rw [beq_eq_false_iff_ne.2 e, beq_eq_false_iff_ne.2 this]
theorem list_nil {l : List Int} (h : listT l = ⟨#[]⟩) : listE l = [] := by
  rw [← listE_is]
  cases hl : listL l with
  | nil => rfl
  | cons a t =>
    have e := congrArg ByteArray.size h
    unfold listT at e
    rw [hl, mk_size, linesT, List.length_append, List.length_cons] at e
    have : (⟨#[]⟩ : ByteArray).size = 0 := rfl
    omega
theorem isEmpty_of {S : ByteArray} (h : S = ⟨#[]⟩) : S.toList.isEmpty = true := by rw [h, ByteArray.toList_eq]; rfl
theorem isEmpty_not {S : ByteArray} (h : S ≠ ⟨#[]⟩) : S.toList.isEmpty = false := by
  rw [ByteArray.toList_eq]
  cases hh : S.data.toList with
  | nil => exact absurd (ByteArray.ext (by rw [← Array.toList_inj, hh])) h
  | cons x t => rfl
theorem listE_fl (l : List Int) : ∀ e ∈ listE l, e.2.length ≤ 1000000 := fun e he => by
  unfold listE at he
  obtain ⟨v, _, rfl⟩ := List.mem_map.1 he
  have := (line_ok (kOfV v)).fl2
  omega
set_option maxRecDepth 100000 in
set_option maxHeartbeats 16000000 in
theorem listLines_walk (A : Option Addr) (cap : Nat) (l : List Int) (A2 : Option Addr) (cap2 : Nat) (gap : List Int) (w : World) (hA : Reads w A l) (hl : l.length ≤ 9223372036854775807) (hA2 : Reads w A2 gap) (hl2 : gap.length ≤ 9223372036854775807) (hT : TabsL w) :
    Calls Tryd.prog 9 #[.slice A l.length cap, .slice A2 gap.length cap2] w fun e w' => e = .returned (.bool true) ∧ Below w.heap.size w w' := by
  have CL := Lib.hid (list_calls A cap l w hA hl)
  have HG := Lib.hid hA2
  have HT := Lib.hid hT
  have hSz := listT_size l
  obtain ⟨S, hS⟩ : ∃ S, S = listT l := ⟨_, rfl⟩
  rw [← hS] at CL hSz
  have HS := Lib.hid hS
  have hb0 : buildT gap 0 true S.data.toList = linesT (inter gap 0 (listL l)) := by
    rw [hS, ← build_lines gap _ 0 (list_nl l)]
    unfold listT
    rw [mk_list]
  have HB0 := Lib.hid hb0
  clear hA hA2 hT hS hb0
  go_enter Tryd.func9, Tryd.ntmps9
  go_wp2_with (fail)
  refine CL.out.mono ?_
  rintro e w1 ⟨rfl, b1⟩
  have B1 := Lib.hid b1
  clear b1 CL
  go_wp2_with (fail)
  go_loopw [6, 7, 8] (fun tv nv iv wr => ∃ (i n : Nat) (t : List UInt8), tv = .string (mkB t) ∧ nv = .int .i64 (n : Nat) ∧ iv = .int .i64 (i : Nat) ∧ i ≤ S.size ∧ n ≤ i ∧ t.length ≤ 9 * i ∧ t ++ buildT gap n (stB S i) (S.data.toList.drop i) = linesT (inter gap 0 (listL l)) ∧ w1 = wr) (fun _ _ iv _ => S.size - (intOf iv).toNat)
  case atStart => exact ⟨0, 0, [], rfl, rfl, rfl, Nat.zero_le _, Nat.le_refl _, Nat.le_refl _, HB0.out, by first | rfl | trivial⟩
  case round =>
    obtain ⟨i, n, t, rfl, rfl, rfl, hi, hn, ht, hbt, rfl⟩ := hrel
    by_cases hlt : i < S.size
    · have g1 : decide (i < S.size) = true := by simpa using hlt
      obtain ⟨c, hd, he, hcu⟩ := drop_byte S i hlt
      rw [hd, buildT, ten_is c hcu] at hbt
      have hst : (uB S i == 10) = stB S (i + 1) := by unfold stB; rw [decide_eq_false (by omega), Bool.false_or, Nat.add_sub_cancel]
      rw [hst] at hbt
      have FS : ∀ w : World, (Instr.slice 9 (.string S) (some (.int .i64 (i : Nat))) (some (.int .i64 ((i : Int) + 1))) none).run Tryd.prog w = .ok (.string (mkB [c])) w := fun w => by
        rw [run_slice_string (t := 9) (s := S) (k := .i64) (k' := .i64) (i := (i : Nat)) (j := (i : Int) + 1) (h := Tryd.underlying9)]
        · show Result.ok (Value.string (S.extract (i : Int).toNat ((i : Int) + 1).toNat)) w = _
          rw [show ((i : Int) + 1).toNat = i + 1 by omega, show (i : Int).toNat = i by omega, he]
        all_goals omega
      have hcz : (mkB [c]).size = 1 := rfl
      obtain ⟨C, hC⟩ : ∃ C, C = mkB [c] := ⟨_, rfl⟩
      rw [← hC] at FS hcz
      have htz : (mkB t).size ≤ 9 * i := by rw [mk_size]; exact ht
      obtain ⟨T, hTT⟩ : ∃ T, T = mkB t := ⟨_, rfl⟩
      rw [← hTT] at htz
      rw [← hTT]
      have HC := Lib.hid hC
      have HTT := Lib.hid hTT
      have HBT := Lib.hid hbt
      clear hd he hcu hst hC hTT hbt
      cases hsb : stB S i with
      | true =>
        have hbt := HBT.out
        rw [hsb, if_pos rfl, if_pos rfl] at hbt
        have HBT2 := Lib.hid hbt
        have hcs : i = 0 ∨ (0 < i ∧ uB S (i - 1) = 10) := by
          unfold stB at hsb
          by_cases h0 : i = 0
          · exact .inl h0
          · rw [decide_eq_false h0, Bool.false_or] at hsb
            exact .inr ⟨by omega, by simpa using hsb⟩
        clear hsb hbt
        have HX : 0 < i → ∀ w : World, (Instr.index 9 (.string S) (.int .i64 ((i : Int) - 1))).run Tryd.prog w = .ok (.int .u8 (uB S (i - 1) : Nat)) w := fun h0 w => by
          rw [show ((i : Int) - 1) = ((i - 1 : Nat) : Int) by omega]
          exact s_index S (i - 1) (by omega) w
        have HXH := Lib.hid HX
        clear HX
        by_cases hng : n < gap.length
        · have g3 : decide (n < gap.length) = true := by simpa using hng
          obtain ⟨v, hv⟩ : ∃ v, gap[n]? = some v := ⟨_, List.getElem?_eq_getElem hng⟩
          obtain ⟨q, o, rfl, hcell⟩ := reads_at HG.out B1.out hv
          obtain ⟨k, hk, ek, cp⟩ := place_nat v 4 (by omega) (by omega)
          have hgn : gapN gap n = gapL k := by unfold gapN; rw [hv]; show gapL (v % 4).toNat = _; rw [show (v % 4).toNat = k by omega]
          have CP := Lib.hid cp
          have FI := gp_index k hk
          unfold gpA at FI
          generalize hag : Value.agg _ = ag at FI
          have hgz := gapL_size k
          obtain ⟨G, hG⟩ : ∃ G, G = mkB (linesT (gapL k)) := ⟨_, rfl⟩
          have hGz : G.size ≤ 8 := by rw [hG, mk_size]; exact hgz
          rw [← hG] at FI
          have E := Lib.hid (show T ++ G ++ C = mkB (t ++ linesT (gapN gap n) ++ [c]) by rw [mk_app, mk_app, hgn, ← hG, ← HC.out, ← HTT.out])
          have E2 := Lib.hid (show (t ++ linesT (gapN gap n) ++ [c]).length ≤ 9 * (i + 1) by rw [hgn, List.length_append, List.length_append]; show _ + 1 ≤ _; omega)
          have E3 := Lib.hid (show (t ++ linesT (gapN gap n) ++ [c]) ++ buildT gap (n + 1) (stB S (i + 1)) (S.data.toList.drop (i + 1)) = linesT (inter gap 0 (listL l)) by rw [← HBT2.out]; simp)
          clear hv cp ek hgn hG hgz HBT HBT2
          rcases hcs with h0 | ⟨h0, hu⟩
          · subst h0
            have FS0 : ∀ w : World, (Instr.slice 9 (.string S) (some (.int .i64 0)) (some (.int .i64 1)) none).run Tryd.prog w = .ok (.string C) w := fun w => FS w
            clear HXH FS
            go_wp2_with (fail)
            refine (CP.out _).mono ?_
            rintro e wq ⟨rfl, rfl⟩
            clear CP hcell
            go_wp2_with (fail)
            go_roundw
            case rel => exact ⟨1, n + 1, _, by rw [E.out], by go_num, by first | rfl | go_num, hlt, by omega, E2.out, E3.out, by first | rfl | trivial⟩
            case measure => simp [intOf]; omega
          · have HX := HXH.out h0
            rw [hu] at HX
            have g4 : ((i : Int) == 0) = false := by simp; omega
            clear HXH hu h0
            go_wp2_with (fail)
            refine (CP.out _).mono ?_
            rintro e wq ⟨rfl, rfl⟩
            clear CP hcell
            go_wp2_with (fail)
            go_roundw
            case rel => exact ⟨i + 1, n + 1, _, by rw [E.out], by go_num, by go_num, hlt, by omega, E2.out, E3.out, by first | rfl | trivial⟩
            case measure => simp [intOf]; omega
        · have g3 : decide (n < gap.length) = false := by simpa using hng
          have hgn : gapN gap n = [] := by unfold gapN; rw [List.getElem?_eq_none (by omega)]
          have E := Lib.hid (show T ++ C = mkB (t ++ [c]) by rw [mk_app, ← HC.out, ← HTT.out])
          have E2 := Lib.hid (show (t ++ [c]).length ≤ 9 * (i + 1) by rw [List.length_append]; show _ + 1 ≤ _; omega)
          have E3 := Lib.hid (show (t ++ [c]) ++ buildT gap (n + 1) (stB S (i + 1)) (S.data.toList.drop (i + 1)) = linesT (inter gap 0 (listL l)) by rw [← HBT2.out, hgn]; simp [linesT])
          clear hgn HBT HBT2
          rcases hcs with h0 | ⟨h0, hu⟩
          · subst h0
            have FS0 : ∀ w : World, (Instr.slice 9 (.string S) (some (.int .i64 0)) (some (.int .i64 1)) none).run Tryd.prog w = .ok (.string C) w := fun w => FS w
            clear HXH FS
            go_wp2_with (fail)
            go_roundw
            case rel => exact ⟨1, n + 1, _, by rw [E.out], by go_num, by first | rfl | go_num, hlt, by omega, E2.out, E3.out, by first | rfl | trivial⟩
            case measure => simp [intOf]; omega
          · have HX := HXH.out h0
            rw [hu] at HX
            have g4 : ((i : Int) == 0) = false := by simp; omega
            clear HXH hu h0
            go_wp2_with (fail)
            go_roundw
            case rel => exact ⟨i + 1, n + 1, _, by rw [E.out], by go_num, by go_num, hlt, by omega, E2.out, E3.out, by first | rfl | trivial⟩
            case measure => simp [intOf]; omega
      | false =>
        have hbt := HBT.out
        rw [hsb, if_neg (by decide), if_neg (by decide), List.nil_append] at hbt
        have h0 : 0 < i := by
          by_cases h : i = 0
          · unfold stB at hsb; rw [decide_eq_true h, Bool.true_or] at hsb; cases hsb
          · omega
        have hu : uB S (i - 1) ≠ 10 := by
          unfold stB at hsb
          rw [decide_eq_false (by omega), Bool.false_or] at hsb
          simpa using hsb
        have HX : ∀ w : World, (Instr.index 9 (.string S) (.int .i64 ((i : Int) - 1))).run Tryd.prog w = .ok (.int .u8 (uB S (i - 1) : Nat)) w := fun w => by
          rw [show ((i : Int) - 1) = ((i - 1 : Nat) : Int) by omega]
          exact s_index S (i - 1) (by omega) w
        obtain ⟨u, hu2⟩ : ∃ u, u = uB S (i - 1) := ⟨_, rfl⟩
        rw [← hu2] at HX hu
        have g4 : ((i : Int) == 0) = false := by simp; omega
        have g5 : ((u : Int) == 10) = false := by simp; omega
        have E := Lib.hid (show T ++ C = mkB (t ++ [c]) by rw [mk_app, ← HC.out, ← HTT.out])
        have E2 := Lib.hid (show (t ++ [c]).length ≤ 9 * (i + 1) by rw [List.length_append]; show _ + 1 ≤ _; omega)
        have E3 := Lib.hid (show (t ++ [c]) ++ buildT gap n (stB S (i + 1)) (S.data.toList.drop (i + 1)) = linesT (inter gap 0 (listL l)) by rw [← hbt]; simp)
        clear hbt HBT hsb hu2 hu h0
        go_wp2_with (fail)
        go_roundw
        case rel => exact ⟨i + 1, n, _, by rw [E.out], rfl, by go_num, hlt, by omega, E2.out, E3.out, by first | rfl | trivial⟩
        case measure => simp [intOf]; omega
    · obtain rfl : i = S.size := by omega
      have g1 : decide (S.size < S.size) = false := by simp
      rw [List.drop_eq_nil_of_le (by simp), buildT, List.append_nil] at hbt
      have hTe : mkB t = interT l gap := by unfold interT; rw [← hbt]
      have htz : (mkB t).size ≤ 2430 := by rw [mk_size]; omega
      obtain ⟨T, hTT⟩ : ∃ T, T = mkB t := ⟨_, rfl⟩
      rw [← hTT] at hTe htz
      rw [← hTT]
      obtain ⟨es, hes⟩ : ∃ es, es = listE l := ⟨_, rfl⟩
      have p1 := parse_list l
      rw [← hes, ← HS.out] at p1
      have p2 := parse_inter l gap (by rw [← hTe]; omega)
      rw [← hes, ← hTe] at p2
      have p3 := parse_hash l gap (by rw [← hTe]; omega)
      rw [← hes, ← hTe] at p3
      have hel : es.length ≤ 30 := by rw [hes, listE_len]; omega
      have hef : ∀ e ∈ es, e.2.length ≤ 1000000 := by rw [hes]; exact listE_fl l
      have pg : ∀ (Z : ByteArray) (hz : Z.size ≤ 3000) (hp : parseV Z = (es, 0, 0)) (w3 : World), Below w1.heap.size w1 w3 → Calls Tryd.prog 18 #[.string Z] w3 fun e w' => (∃ A c, e = .returned (.tuple #[.slice A es.length c, .int .i64 0, .int .i64 0]) ∧ Got w' (.slice A es.length c) es) ∧ Below w3.heap.size w3 w' := fun Z hz hp w3 hb => by
        have := parse_got Z w3 (by omega) (HT.out.below (B1.out.trans (hb.mono B1.out.size)))
        unfold PPost at this
        rw [hp] at this
        refine this.mono ?_
        rintro e w' ⟨⟨v, h1, h2⟩, h3⟩
        obtain ⟨A, c, rfl, _, _⟩ := h2.out
        exact ⟨⟨A, c, h1, h2⟩, h3⟩
      have C1 := Lib.hid (pg S (by omega) p1)
      have C2 := Lib.hid (pg T (by omega) p2)
      have C3 := Lib.hid (pg (T ++ ⟨#[35]⟩) (by rw [ByteArray.size_append]; show _ + 1 ≤ _; omega) p3)
      have PG := Lib.hid pg
      have HEF := Lib.hid hef
      have HES := Lib.hid hes
      clear hbt hTe hTT hes p1 p2 p3 pg hef
      go_wp2_with (fail)
      refine (C1.out _ (Below.refl _ _)).mono ?_
      rintro e x1 ⟨⟨Aa, ca, rfl, ga⟩, bx⟩
      have X1 := Lib.hid bx
      have GA := Lib.hid ga
      clear C1 bx ga
      go_wp2_with (fail)
      refine (C2.out _ X1.out).mono ?_
      rintro e x2 ⟨⟨Ab, cb, rfl, gb⟩, bx⟩
      have X2 := Lib.hid (X1.out.trans (bx.mono X1.out.size))
      have GA2 := Lib.hid (GA.out.below bx)
      have GB := Lib.hid gb
      clear C2 bx gb GA X1
      go_wp2_with (fail)
      refine (C3.out _ X2.out).mono ?_
      rintro e x3 ⟨⟨Ac, cc, rfl, gc⟩, bx⟩
      have X3 := Lib.hid (X2.out.trans (bx.mono X2.out.size))
      have GA3 := Lib.hid (GA2.out.below bx)
      have GB3 := Lib.hid (GB.out.below bx)
      have GC := Lib.hid gc
      clear C3 bx gc GA2 GB X2
      have S1 := Lib.hid (lsame_calls es _ _ x3 GA3.out GB3.out (by omega) HEF.out)
      go_wp2_with (fail)
      refine S1.out.mono ?_
      rintro e x4 ⟨rfl, n1, rfl⟩
      have S2 := Lib.hid (lsame_calls es _ _ (x3.drewN n1) (GA3.out.below (belowN _ _)) (GC.out.below (belowN _ _)) (by omega) HEF.out)
      clear S1 GB3
      go_wp2_with (fail)
      refine S2.out.mono ?_
      rintro e x5 ⟨rfl, n2, rfl⟩
      clear S2 GC
      have X5 := Lib.hid (X3.out.trans ((belowN x3 (n1 + n2)).mono X3.out.size))
      have GA5 := Lib.hid (GA3.out.below (belowN x3 (n1 + n2)))
      clear GA3
      by_cases hse : S = ⟨#[]⟩
      · have g2 := isEmpty_of hse
        have hnil : es = [] := by rw [HES.out]; exact list_nil (by rw [← HS.out, hse])
        have CA := Lib.hid (lawake_calls (x3.drewN (n1 + n2)) (HT.out.below (B1.out.trans (X5.out.mono B1.out.size))))
        have hlen : es.length = 0 := by rw [hnil]; rfl
        rw [hlen]
        clear hse hnil hlen GA5
        go_wp2_with (fail)
        refine CA.out.mono ?_
        rintro e x6 ⟨rfl, b6⟩
        have X6 := Lib.hid (X5.out.trans (b6.mono X5.out.size))
        clear CA b6
        go_wp2_with (fail)
        go_ret
        exact ⟨rfl, B1.out.trans (X6.out.mono B1.out.size)⟩
      · have g2 := isEmpty_not hse
        have hS0 : 0 < S.size := by
          rcases Nat.eq_zero_or_pos S.size with h | h
          · exact absurd (ByteArray.ext (by have e : S.data.size = 0 := h; exact Array.eq_empty_of_size_eq_zero e)) hse
          · exact h
        have p4 := parse_short l (by rw [← HS.out]; exact hse)
        rw [← HS.out, ← HES.out] at p4
        have FD : ∀ w : World, (Instr.slice 9 (.string S) none (some (.int .i64 ((S.size : Int) - 1))) none).run Tryd.prog w = .ok (.string (S.extract 0 (S.size - 1))) w := fun w => by
          rw [run_slice_string_h (t := 9) (s := S) (ht := Tryd.underlying9) (kh := .i64) (h := (S.size : Int) - 1)]
          · show Result.ok (Value.string (S.extract 0 ((S.size : Int) - 1).toNat)) w = _
            rw [show ((S.size : Int) - 1).toNat = S.size - 1 by omega]
          all_goals omega
        obtain ⟨D, hD⟩ : ∃ D, D = S.extract 0 (S.size - 1) := ⟨_, rfl⟩
        rw [← hD] at p4 FD
        have hDz : D.size ≤ 270 := by rw [hD, ByteArray.size_extract]; omega
        have C4 := Lib.hid (PG.out D (by omega) p4 _ X5.out)
        clear p4 hD hse PG
        go_wp2_with (fail)
        refine C4.out.mono ?_
        rintro e x6 ⟨⟨Ad, cd, rfl, gd⟩, bx⟩
        have X6 := Lib.hid (X5.out.trans (bx.mono X5.out.size))
        have S3 := Lib.hid (lsame_calls es _ _ x6 (GA5.out.below bx) gd (by omega) HEF.out)
        clear C4 bx gd GA5 X5
        go_wp2_with (fail)
        refine S3.out.mono ?_
        rintro e x7 ⟨rfl, n3, rfl⟩
        have X7 := Lib.hid (X6.out.trans ((belowN x6 n3).mono X6.out.size))
        have CA := Lib.hid (lawake_calls (x6.drewN n3) (HT.out.below (B1.out.trans (X7.out.mono B1.out.size))))
        clear S3
        go_wp2_with (fail)
        refine CA.out.mono ?_
        rintro e x8 ⟨rfl, b8⟩
        have X8 := Lib.hid (X7.out.trans (b8.mono X7.out.size))
        clear CA b8
        go_wp2_with (fail)
        go_ret
        exact ⟨rfl, B1.out.trans (X8.out.mono B1.out.size)⟩
end Go.Proofs.YtmpckoincdkeeaaDoor

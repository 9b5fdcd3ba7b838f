/- ListBack. -/
import Derived.Test.YtmpckoincdkeeaaDoorListO
import Derived.Test.YtmpckoincdkeeaaDoorListL
namespace Go.Proofs.YtmpckoincdkeeaaDoor
open Go.RowKit Go.Deep Go.Own
set_option linter.unusedVariables false
theorem enc_asc : ∀ x : Fin 128, (enc (x.val : Int)).data.toList = [x.val.toUInt8] := by decide +kernel
theorem enc_as {c : Int} (h : 0 ≤ c ∧ c < 128) : (enc c).data.toList = [c.toNat.toUInt8] := by
  have := enc_asc ⟨c.toNat, by omega⟩
  simp only at this
  rw [show ((c.toNat : Nat) : Int) = c by omega] at this
  exact this
theorem flags_asc : ∀ (f : List Int), (∀ x ∈ f, 0 ≤ x ∧ x < 128) → f.flatMap (fun c => (enc c).data.toList) = flagsT f
  | [], h => rfl
  | c :: t, h => by
    rw [List.flatMap_cons, enc_as (h c List.mem_cons_self), flags_asc t fun x hx => h x (List.mem_cons_of_mem _ hx)]
    rfl
theorem ent_line (k : Nat) : entL (eOf (mkB (lineK k))) = lineK k ++ [10] := by
  have hk := line_ok k
  unfold entL flT
  rw [flags_asc _ hk.asc]
  have := hk.txt
  unfold entT at this
  obtain ⟨e, he⟩ : ∃ e, e = eOf (mkB (lineK k)) := ⟨_, rfl⟩
  rw [← he] at this ⊢
  rw [← this]
  by_cases h : e.2 = []
  · rw [if_pos h, if_pos h, h]; rfl
  · rw [if_neg h, if_neg h]; rfl
theorem text_good : ∀ (ls : List (List UInt8)), goodL ls → textL (ls.map fun x => eOf (mkB x)) = linesT ls
  | [], h => rfl
  | x :: t, h => by
    obtain ⟨k, rfl⟩ := h x List.mem_cons_self
    have ih := text_good t fun y hy => h y (List.mem_cons_of_mem _ hy)
    unfold textL at ih ⊢
    rw [List.map_cons, List.flatMap_cons, ih, ent_line, linesT, List.append_assoc]
    rfl
theorem text_list (l : List Int) : mkB (textL (listE l)) = listT l := by
  rw [← listE_is, text_good _ (list_good l)]
  rfl
theorem textV_list (l : List Int) : textV (listE l) = listT l := by
  unfold textV
  rw [text_list, parse_list, if_pos ⟨rfl, rfl⟩]
theorem listE_small (l : List Int) : smallE (listE l) := ⟨by rw [listE_len]; omega, listE_fl l⟩
theorem cut_more : ∀ (ls : List (List UInt8)) (w : List UInt8), (∀ l ∈ ls, lnOk l) → cutL 10 (linesT ls ++ w) = ls ++ cutL 10 w
  | [], w, h => rfl
  | l :: t, w, h => by
    have ih := cut_more t w fun y hy => h y (List.mem_cons_of_mem _ hy)
    rw [linesT, List.append_assoc, List.cons_append, cut_line l _ (h l List.mem_cons_self), ih]
    rfl
theorem trim_more (a b : List UInt8) (hb : b ≠ []) : Lib.trimSuffix (a ++ b) [10] = a ++ Lib.trimSuffix b [10] := by
  obtain ⟨c, x, rfl⟩ : ∃ c x, b = c ++ [x] := ⟨b.dropLast, b.getLast hb, (List.dropLast_concat_getLast hb).symm⟩
  by_cases h : x = 10
  · subst h
    rw [← List.append_assoc, trim_one, trim_one]
  · rw [trim_none (by rw [← List.append_assoc, List.getLast?_concat]; simpa using h), trim_none (by rw [List.getLast?_concat]; simpa using h)]
theorem go_bad : ∀ (rows : List ByteArray) (i : Nat) (es : List Ent) (bad : Nat), (bad = 0 ∨ i < bad → (goR i es bad rows).2 = 0 ∨ i < (goR i es bad rows).2) ∧ (∀ b0, b0 < bad → b0 < (goR i es bad rows).2)
  | [], i, es, bad => ⟨fun h => h, fun b0 h => h⟩
  | r :: t, i, es, bad => by
    have key : ∀ (es : List Ent) (b2 : Nat), (b2 = bad ∨ (bad = 0 ∧ b2 = i + 1)) → ((bad = 0 ∨ i < bad → (goR (i + 1) es b2 t).2 = 0 ∨ i < (goR (i + 1) es b2 t).2) ∧ (∀ b0, b0 < bad → b0 < (goR (i + 1) es b2 t).2)) := fun es b2 hb => by
      obtain ⟨h1, h2⟩ := go_bad t (i + 1) es b2
      refine ⟨fun h => ?_, fun b0 h => h2 b0 (by omega)⟩
      by_cases hz : b2 = 0
      · rcases h1 (.inl hz) with h | h
        · exact .inl h
        · exact .inr (by omega)
      · have := h2 i (by omega)
        exact .inr this
    rw [goR]
    split
    · exact key es bad (.inl rfl)
    · split
      · exact key _ bad (.inl rfl)
      · by_cases hb : bad = 0
        · rw [if_pos hb]; exact key es (i + 1) (.inr ⟨hb, rfl⟩)
        · rw [if_neg hb]; exact key es bad (.inl rfl)
theorem parse_more (l : List Int) (s : ByteArray) (hz : s.size ≤ 100) : (parseV (listT l ++ s)).2.2 = 0 ∨ (((parseV (listT l ++ s)).2.2 = 5) ∧ (listE l).length < (parseV (listT l ++ s)).2.1 ∧ (parseV (listT l ++ s)).1 = []) := by
  by_cases hs : s.data.toList = []
  · have e : listT l ++ s = listT l := by
      have : s = ⟨#[]⟩ := ByteArray.ext (by rw [← Array.toList_inj, hs])
      rw [this]; apply ByteArray.ext; rw [ByteArray.data_append]; simp
    rw [e, parse_list]
    exact .inl rfl
  · have hr : rowsB (listT l ++ s) = (listL l).map mkB ++ (cutL 10 (Lib.trimSuffix s.data.toList [10])).map mkB := by
      unfold rowsB cutB trimN
      rw [mk_list, ByteArray.data_append, Array.toList_append]
      unfold listT
      rw [mk_list, trim_more _ _ hs, cut_more _ _ (list_nl l), List.map_append]
    obtain ⟨rest, hrest⟩ : ∃ rest, rest = (cutL 10 (Lib.trimSuffix s.data.toList [10])).map mkB := ⟨_, rfl⟩
    rw [← hrest] at hr
    have hrl : rest.length ≤ 101 := by
      rw [hrest, List.length_map]
      have h1 := cutL_len 10 (Lib.trimSuffix s.data.toList [10])
      have h2 := trimN_size s
      unfold trimN at h2
      rw [mk_size] at h2
      omega
    have hsz : (listT l ++ s).size ≤ 65536 := by rw [ByteArray.size_append]; have := listT_size l; omega
    have hg : goR 0 [] 0 (rowsB (listT l ++ s)) = goR (listL l).length (listE l) 0 rest := by
      rw [hr, goR_app, go_good _ 0 [] 0 (list_good l), List.nil_append, listE_is, List.length_map, Nat.zero_add]
    have hll : (listL l).length = (listE l).length := by rw [← listE_is, List.length_map]
    rw [hll] at hg
    rcases hgg : goR (listE l).length (listE l) 0 rest with ⟨es2, b2⟩
    have hlen := goR_len rest (listE l).length (listE l) 0
    have hbad := (go_bad rest (listE l).length (listE l) 0).1 (.inl rfl)
    rw [hgg] at hg hlen hbad
    simp only at hlen hbad
    rw [parse_of hsz hg (by rw [listE_len] at hlen; omega)]
    rcases hbad with h | h
    · subst h; rw [if_neg (by omega)]; exact .inl rfl
    · rw [if_pos (by omega)]; exact .inr ⟨rfl, h, rfl⟩
set_option maxRecDepth 100000 in
set_option maxHeartbeats 16000000 in
theorem listBack_walk (A : Option Addr) (cap : Nat) (l : List Int) (line : ByteArray) (w : World) (hA : Reads w A l) (hl : l.length ≤ 9223372036854775807) (hz : line.size ≤ 140737488351232) (hT : TabsL w) :
    Calls Tryd.prog 11 #[.slice A l.length cap, .string line] w fun e w' => e = .returned (.bool true) ∧ Below w.heap.size w w' := by
  have HT := Lib.hid hT
  by_cases h1 : 100 < line.size
  · have g1 : decide (100 < (line.size : Int)) = true := by simp; omega
    have CA := Lib.hid (lawake_calls w hT)
    clear h1 hA hT
    go_enter Tryd.func11, Tryd.ntmps11
    go_wp2_with (fail)
    refine CA.out.mono ?_
    rintro e w1 ⟨rfl, b1⟩
    go_wp2_with (fail)
    go_ret
    exact ⟨rfl, b1⟩
  · have g1 : decide (100 < (line.size : Int)) = false := by simp; omega
    have hz1 : line.size ≤ 100 := by omega
    have hlt := listT_size l
    have p1 := parse_list l
    have p2 := textV_list l
    have p3 := text_list l
    have p4 := parse_more l line hz1
    have p5 := listE_small l
    have p6 := listE_len l
    obtain ⟨S, hS⟩ : ∃ S, S = listT l := ⟨_, rfl⟩
    obtain ⟨es, hes⟩ : ∃ es, es = listE l := ⟨_, rfl⟩
    rw [← hS] at hlt p1 p2 p3 p4
    rw [← hes] at p1 p2 p3 p4 p5 p6
    have CL := Lib.hid (list_calls A cap l w hA hl)
    have CL2 : Hid (∀ w3, Below w.heap.size w w3 → Calls Tryd.prog 20 #[.slice A l.length cap] w3 fun e w' => e = .returned (.string S) ∧ Below w3.heap.size w3 w') := Lib.hid (fun w3 hb => by rw [hS]; exact list_calls A cap l w3 (hA.later hb) hl)
    rw [← hS] at CL
    have CP : Hid (∀ w3, Below w.heap.size w w3 → Calls Tryd.prog 18 #[.string S] w3 fun e w' => (∃ A c, e = .returned (.tuple #[.slice A es.length c, .int .i64 0, .int .i64 0]) ∧ Got w' (.slice A es.length c) es) ∧ Below w3.heap.size w3 w') := Lib.hid (fun w3 hb => by
      have := parse_got S w3 (by omega) (HT.out.below hb)
      unfold PPost at this
      rw [p1] at this
      refine this.mono ?_
      rintro e w' ⟨⟨v, h1, h2⟩, h3⟩
      obtain ⟨A, c, rfl, _, _⟩ := h2.out
      exact ⟨⟨A, c, h1, h2⟩, h3⟩)
    have CT : Hid (∀ (va : Value) (w3 : World), Got w3 va es → Below w.heap.size w w3 → Calls Tryd.prog 24 #[va] w3 fun e w' => e = .returned (.string S) ∧ Below w3.heap.size w3 w') := Lib.hid (fun va w3 hg hb => by
      have hlen : (textL es).length = S.size := by have := congrArg ByteArray.size p3; rw [mk_size] at this; exact this
      have := text_c es va w3 hg p5 (by omega) (HT.out.below hb) (by rw [p3, p1]; exact p5)
      rw [p2] at this; exact this)
    have HP4 := Lib.hid p4
    have HP5 := Lib.hid p5
    have hSL : (S ++ line).size ≤ 1000 := by rw [ByteArray.size_append]; omega
    have HSL := Lib.hid hSL
    have hes30 : es.length ≤ 30 := by omega
    have gm : ((es.length : Int) != min (l.length : Int) 30) = false := by
      rw [p6]
      simp
      omega
    have HP6 := Lib.hid p6
    clear p1 p2 p3 p4 p5 p6 hS hes hA hT hSL h1
    go_enter Tryd.func11, Tryd.ntmps11
    go_wp2_with (fail)
    refine CL.out.mono ?_
    rintro e w1 ⟨rfl, b1⟩
    have B1 := Lib.hid b1
    clear b1 CL
    go_wp2_with (fail)
    refine (CP.out _ B1.out).mono ?_
    rintro e w2 ⟨⟨A2, c2, rfl, ga⟩, b2⟩
    have B2 := Lib.hid (B1.out.trans (b2.mono B1.out.size))
    have GA := Lib.hid ga
    have C1 := Lib.hid (CT.out _ w2 ga B2.out)
    clear b2 ga CT
    go_wp2_with (fail)
    refine C1.out.mono ?_
    rintro e w3 ⟨rfl, b3⟩
    have B3 := Lib.hid (B2.out.trans (b3.mono B2.out.size))
    have GA3 := Lib.hid (GA.out.below b3)
    clear b3 C1 GA gm
    go_wp2_with (fail)
    refine (CP.out _ B3.out).mono ?_
    rintro e w4 ⟨⟨A4, c4, rfl, gb⟩, b4⟩
    have B4 := Lib.hid (B3.out.trans (b4.mono B3.out.size))
    have CS := Lib.hid (lsame_calls es _ _ w4 (GA3.out.below b4) gb (by omega) HP5.out.2)
    clear b4 gb CP GA3
    go_wp2_with (fail)
    refine CS.out.mono ?_
    rintro e w5 ⟨rfl, n5, rfl⟩
    have B5 := Lib.hid (B4.out.trans ((belowN w4 n5).mono B4.out.size))
    clear CS
    go_wp2_with (fail)
    refine (CL2.out _ B5.out).mono ?_
    rintro e w6 ⟨rfl, b6⟩
    have B6 := Lib.hid (B5.out.trans (b6.mono B5.out.size))
    have CQ := Lib.hid (parse_got (S ++ line) w6 (by have := HSL.out; omega) (HT.out.below B6.out))
    unfold PPost at CQ
    obtain ⟨fs, hfs⟩ : ∃ fs, fs = (parseV (S ++ line)).1 := ⟨_, rfl⟩
    obtain ⟨er, her⟩ : ∃ er, er = (parseV (S ++ line)).2.2 := ⟨_, rfl⟩
    obtain ⟨ln, hln⟩ : ∃ ln, ln = (parseV (S ++ line)).2.1 := ⟨_, rfl⟩
    have p4 := HP4.out
    rw [← hfs, ← her, ← hln] at CQ
    rw [← hfs, ← her, ← hln] at p4
    have P4 := Lib.hid p4
    have hsl := HSL.out
    rw [ByteArray.size_append] at hsl
    clear b6 CL2 hfs her hln p4 HP4
    go_wp2_with (fail)
    refine CQ.out.mono ?_
    rintro e w7 ⟨⟨v7, rfl, g7⟩, b7⟩
    have B7 := Lib.hid (B6.out.trans (b7.mono B6.out.size))
    have CA := Lib.hid (lawake_calls w7 (HT.out.below B7.out))
    obtain ⟨A7, c7, hv7, _, _⟩ := g7.out
    subst hv7
    clear CQ b7 g7
    rcases P4.out with h0 | ⟨h0, h2, h3⟩
    · subst h0
      clear P4
      go_wp2_with (fail)
      refine CA.out.mono ?_
      rintro e w8 ⟨rfl, b8⟩
      have B8 := Lib.hid (B7.out.trans (b8.mono B7.out.size))
      clear CA b8
      go_wp2_with (fail)
      go_ret
      exact ⟨rfl, B8.out⟩
    · subst h0 h3
      have g2 : decide (es.length < ln) = true := by simpa using h2
      clear P4 h2
      go_wp2_with (fail)
      refine CA.out.mono ?_
      rintro e w8 ⟨rfl, b8⟩
      have B8 := Lib.hid (B7.out.trans (b8.mono B7.out.size))
      clear CA b8
      go_wp2_with (fail)
      go_ret
      exact ⟨rfl, B8.out⟩
end Go.Proofs.YtmpckoincdkeeaaDoor

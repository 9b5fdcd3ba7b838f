/- list.Parse. -/
import Derived.Test.YtmpckoincdkeeaaDoorListP
namespace Go.Proofs.YtmpckoincdkeeaaDoor
open Go.RowKit Go.Deep Go.Own
set_option linter.unusedVariables false
/-- the tables of unicode/utf8, and bytealg.MaxLen holds some number -/
def TabsL (w : World) : Prop := Lib.Utf8Tabs 0 1 w ∧ ∃ m : Int, w.cell? ⟨2, 0, none⟩ = some (.int .i64 m)
theorem TabsL.below {w w' : World} (h : TabsL w) (hb : Below w.heap.size w w') : TabsL w' := by
  obtain ⟨h1, m, hm⟩ := h
  exact ⟨Utf8Tabs_below h1 hb, m, (hb.cell (p := ⟨2, 0, none⟩) (World.block_lt_of_cell? _ _ hm)).trans hm⟩
/-- an entry as it lies -/
structure EnS where
  w : ByteArray
  A : Option Addr
  c : Nat
  f : List Int
def EnS.ent (x : EnS) : Ent := (x.w, x.f)
def EnS.v (x : EnS) : Value := .slice x.A x.f.length x.c
def entCells (x : EnS) : List Value := [.string x.w, x.v]
def RowE (w : World) (base : Nat) (v : Value) (xs : List EnS) : Prop := w.ownsRow base 78 2 v xs.length (xs.flatMap entCells)
def FlE (w : World) (base : Nat) (xs : List EnS) : Prop := ∀ x ∈ xs, OwnI w base 3 x.v x.f
theorem RowE.nil (w : World) (base : Nat) : RowE w base (.slice none 0 0) [] := World.ownsRow_nil _ _ _ _
theorem RowE.below {w w' : World} {base : Nat} {v : Value} {xs : List EnS} (h : RowE w base v xs) (hb : Below w.heap.size w w') : RowE w' base v xs := own_below h hb
theorem FlE.below {w w' : World} {base : Nat} {xs : List EnS} (h : FlE w base xs) (hb : Below w.heap.size w w') : FlE w' base xs := fun x hx => (h x hx).later hb
theorem RowE.push {w' : World} {base : Nat} {v' : Value} {xs : List EnS} {x : EnS} (O : w'.ownsRow base 78 2 v' (xs.length + 1) (xs.flatMap entCells ++ [.string x.w, x.v])) : RowE w' base v' (xs ++ [x]) := by
  unfold RowE
  rw [List.length_append, List.flatMap_append, List.flatMap_singleton]
  exact O
/-- flags are of another type than entries: growing the row keeps them -/
theorem FlE.grown {w w' : World} {base : Nat} {v : Value} {xs ys : List EnS} (h : FlE w base ys) (hR : RowE w base v xs) (hg : w.grownBy w' v.ownBlock) : FlE w' base ys := fun x hx => by
  refine OwnI.grown (h x hx) hg fun k hk e => ?_
  obtain ⟨c1, h1⟩ := own_row_type (h x hx) hk
  obtain ⟨c2, h2⟩ := own_row_type hR e
  rw [h1] at h2
  injection h2 with h2
  injection h2 with _ h3 _
  exact absurd h3 (by decide)
theorem infoE : (Tryd.prog.info? 78).map (fun i => (i.zero, i.size, i.bytes)) = some (some (.agg #[.string ⟨#[]⟩, .slice none 0 0]), 2, 40) := by kernel_rfl
theorem src_entry {w : World} {M : Nat} {a : ByteArray} {B : Option Addr} {n c : Nat} (h : w.heap[M]? = some (.cells #[.string a, .slice B n c] 78 (0, 0))) :
    Src Tryd.prog 2 42 (.slice (some ⟨M, 0, none⟩) 1 1) 1 [.string a, .slice B n c] w := by
  refine Src.ofSlice w Tryd.underlying42 _ 1 1 _ rfl (fun j u hj => ?_) (fun u hu => ?_)
  · match j, hj with
    | 0, hj => simp at hj; subst hj; simp [Addr.add, World.cell?, h]
    | 1, hj => simp at hj; subst hj; simp [Addr.add, World.cell?, h]
    | j + 2, hj => simp at hj
  · simp only [List.mem_cons, List.mem_nil_iff, or_false] at hu
    rcases hu with rfl | rfl <;> rfl
theorem split_calls (c : UInt8) (s : ByteArray) (w : World) (hs : s.size ≤ 1000000000) (hT : TabsL w) :
    Calls Tryd.prog 32 #[.string s, .string ⟨#[c]⟩] w fun e w' => e = .returned (.slice (some ⟨w.heap.size, 0, none⟩) (cutB c s).length (cutB c s).length) ∧ w' = w.alloc (.cells ((cutB c s).map Value.string).toArray 9) := by
  obtain ⟨_, m, hm⟩ := hT
  have := Tryd.strings_Split s ⟨#[c]⟩ m w (by omega) hm (Nat.le_refl 1)
  rw [split_is, split_len] at this
  exact this
theorem rows_len (s : ByteArray) : (rowsB s).length ≤ s.size + 1 := Nat.le_trans (cutB_len 10 (trimN s)) (by have := trimN_size s; omega)
theorem rows_size {s x : ByteArray} (h : x ∈ rowsB s) : x.size ≤ s.size := Nat.le_trans (cutB_size h) (trimN_size s)
def ParsePost (w : World) (s : ByteArray) (e : Ending) (w' : World) : Prop :=
  (∃ (v : Value) (xs : List EnS), e = .returned (.tuple #[v, .int .i64 ((parseV s).2.1 : Nat), .int .i64 ((parseV s).2.2 : Nat)]) ∧ RowE w' w.heap.size v xs ∧ FlE w' w.heap.size xs ∧ xs.map EnS.ent = (parseV s).1) ∧ Below w.heap.size w w'
set_option maxRecDepth 100000 in
set_option maxHeartbeats 16000000 in
theorem parse_calls (s : ByteArray) (w : World) (hs : s.size ≤ 140737488351232) (hT : TabsL w) :
    Calls Tryd.prog 18 #[.string s] w (ParsePost w s) := by
  unfold ParsePost
  obtain ⟨iE, hiE, hzE, hsE, hbE⟩ := info_parts infoE
  have hbig : 65536 < s.size ∨ s.size ≤ 65536 := by omega
  rcases hbig with hbig | hz
  · have e0 : parseV s = ([], 0, 3) := if_pos hbig
    have HBIG := Lib.hid hbig
    rw [e0]
    clear e0 hT
    go_enter Tryd.func18, Tryd.ntmps18
    go_wp2_with (fail)
    try (any_goals (exfalso; omega))
    refine bodyPost_ret (v := .tuple #[.slice none 0 0, .int .i64 0, .int .i64 3]) (by simp [results, Tryd.results18, go_sem]) rfl ?_
    exact ⟨⟨_, [], rfl, RowE.nil _ _, fun x hx => absurd hx List.not_mem_nil, rfl⟩, Below.refl _ _⟩
  · have hpv : parseV s = if 2000 < (goR 0 [] 0 (rowsB s)).1.length then ([], 0, 3) else if 0 < (goR 0 [] 0 (rowsB s)).2 then ([], (goR 0 [] 0 (rowsB s)).2, 5) else ((goR 0 [] 0 (rowsB s)).1, 0, 0) := if_neg (by omega)
    have HPV := Lib.hid hpv
    have CT : Hid (Calls Tryd.prog 33 #[.string s, .string ⟨#[10]⟩] w fun e w' => e = .returned (.string (trimN s)) ∧ w = w') := Lib.hid ((Tryd.strings_TrimSuffix s ⟨#[10]⟩ w (by omega)).mono fun e w' h => ⟨h.1, h.2.symm⟩)
    have CS := Lib.hid (split_calls 10 (trimN s) w (by have := trimN_size s; omega) hT)
    obtain ⟨T, hTr⟩ : ∃ T, T = trimN s := ⟨_, rfl⟩
    rw [← hTr] at CT CS
    obtain ⟨rows, hrows⟩ : ∃ rows, rows = rowsB s := ⟨_, rfl⟩
    have hcr : cutB 10 T = rows := by rw [hTr, hrows]; rfl
    rw [hcr] at CS
    rw [← hrows] at HPV
    have hrl : rows.length ≤ 65537 := by rw [hrows]; have := rows_len s; omega
    have hrz : ∀ x ∈ rows, x.size ≤ 65536 := fun x hx => by rw [hrows] at hx; have := rows_size hx; omega
    have HRZ := Lib.hid hrz
    obtain ⟨w1, hw1⟩ : ∃ w1, w1 = w.alloc (.cells (rows.map Value.string).toArray 9) := ⟨_, rfl⟩
    obtain ⟨Q, hQ⟩ : ∃ Q, Q = w.heap.size := ⟨_, rfl⟩
    have b1 : Below w.heap.size w w1 := by rw [hw1]; exact (Below.refl _ _).alloc (Nat.le_refl _) _
    have q1 : BlkS w1 Q rows := by rw [hw1, hQ]; exact blk_alloc_new _ _
    rw [← hw1, ← hQ] at CS
    obtain ⟨n, hn⟩ : ∃ n, n = rows.length := ⟨_, rfl⟩
    rw [← hn] at CS hrl
    have HNN := Lib.hid hn
    have HT := Lib.hid hT
    have B1 := Lib.hid b1
    have Q1 := Lib.hid q1
    clear hTr hrows hcr hrz hw1 hQ b1 q1 hn hT hpv
    go_enter Tryd.func18, Tryd.ntmps18
    go_wp2_with (fail)
    try (any_goals (exfalso; omega))
    refine CT.out.mono ?_
    rintro e w0 ⟨rfl, rfl⟩
    go_wp2_with (fail)
    refine CS.out.mono ?_
    rintro e w0 ⟨rfl, rfl⟩
    clear CT CS
    go_wp2_with (fail)
    go_loopw [2, 5, 17] (fun lv bv iv wr => ∃ (j bad : Nat) (xs : List EnS), iv = .int .i64 (j : Nat) ∧ j ≤ n ∧ bv = .int .i64 (bad : Nat) ∧ bad ≤ j ∧ RowE wr w.heap.size lv xs ∧ FlE wr w.heap.size xs ∧ Below w.heap.size w wr ∧ BlkS wr Q rows ∧ goR j (xs.map EnS.ent) bad (rows.drop j) = goR 0 [] 0 rows ∧ xs.length ≤ j) (fun _ _ iv _ => n - (intOf iv).toNat)
    case atStart => exact ⟨0, 0, [], rfl, Nat.zero_le _, rfl, Nat.le_refl _, RowE.nil _ _, fun x hx => absurd hx List.not_mem_nil, B1.out, Q1.out, rfl, Nat.le_refl _⟩
    case round =>
      obtain ⟨j, bad, xs, rfl, hj, rfl, hbj, hR, hF, hb, hq, hgo, hxl⟩ := hrel
      obtain ⟨A, cp, rfl⟩ := own_is hR
      by_cases hlt : j < n
      · have g1 : decide (j < n) = true := by simpa using hlt
        obtain ⟨r, hr⟩ : ∃ r, rows[j]? = some r := ⟨_, List.getElem?_eq_getElem (by have := HNN.out; omega)⟩
        have hc := hq.cell hr
        have hrd : rows.drop j = r :: rows.drop (j + 1) := by
          obtain ⟨h1, h2⟩ := List.getElem?_eq_some_iff.1 hr
          rw [List.drop_eq_getElem_cons h1, h2]
        rw [hrd] at hgo
        have hrz : r.size ≤ 65536 := HRZ.out r (List.mem_of_getElem? hr)
        have HGO := Lib.hid hgo
        have HR := Lib.hid hR
        have HF := Lib.hid hF
        have HB := Lib.hid hb
        have HQ := Lib.hid hq
        clear hgo hR hF hb hq hr hrd
        by_cases hsk : skipR r = true
        · have e1 : goR (j + 1) (xs.map EnS.ent) bad (rows.drop (j + 1)) = goR 0 [] 0 rows := by
            rw [← HGO.out, goR, if_pos hsk]
          have E1 := Lib.hid e1
          have hcs : r.toList.isEmpty = true ∨ (r.toList.isEmpty = false ∧ uB r 0 = 35) := by
            unfold skipR at hsk
            cases h : r.toList.isEmpty with
            | true => exact .inl rfl
            | false => rw [h, Bool.false_or] at hsk; exact .inr ⟨rfl, by simpa using hsk⟩
          clear hsk e1
          rcases hcs with k1 | ⟨k1, k2⟩
          · go_wp2_with (fail)
            go_roundw
            case rel => exact ⟨j + 1, bad, xs, by go_num, hlt, rfl, by omega, HR.out, HF.out, HB.out, HQ.out, E1.out, by omega⟩
            case measure => simp [intOf]; omega
          · have hr0 : 0 < r.size := by
              by_cases h : r.size = 0
              · have : r.toList.isEmpty = true := by rw [ByteArray.toList_eq]; have e : r.data.toList.length = r.size := by simp
                                                     rw [h] at e; rw [List.length_eq_zero_iff.1 e]; rfl
                rw [k1] at this; cases this
              · omega
            have hix : ∀ w : World, (Instr.index 9 (.string r) (.int .i64 0)).run Tryd.prog w = .ok (.int .u8 (uB r 0 : Nat)) w := fun w => s_index r 0 hr0 w
            rw [k2] at hix
            clear k2 hr0
            go_wp2_with (fail)
            go_roundw
            case rel => exact ⟨j + 1, bad, xs, by go_num, hlt, rfl, by omega, HR.out, HF.out, HB.out, HQ.out, E1.out, by omega⟩
            case measure => simp [intOf]; omega
        · have hcs : r.toList.isEmpty = false ∧ uB r 0 ≠ 35 := by
            unfold skipR at hsk
            simp only [Bool.or_eq_true, not_or, Bool.not_eq_true, beq_iff_eq] at hsk
            exact hsk
          obtain ⟨k1, k2⟩ := hcs
          have hr0 : 0 < r.size := by
            by_cases h : r.size = 0
            · have : r.toList.isEmpty = true := by rw [ByteArray.toList_eq]; have e : r.data.toList.length = r.size := by simp
                                                   rw [h] at e; rw [List.length_eq_zero_iff.1 e]; rfl
              rw [k1] at this; cases this
            · omega
          have hix : ∀ w : World, (Instr.index 9 (.string r) (.int .i64 0)).run Tryd.prog w = .ok (.int .u8 (uB r 0 : Nat)) w := fun w => s_index r 0 hr0 w
          obtain ⟨u, hu⟩ : ∃ u, u = uB r 0 := ⟨_, rfl⟩
          rw [← hu] at hix k2
          have g2 : ((u : Int) == 35) = false := by simp; omega
          have g3 : (u == 35) = false := by simpa using k2
          clear hr0
          have CS := Lib.hid (split_calls 47 r wr (by omega) (HT.out.below HB.out))
          obtain ⟨p0, pt, hpe⟩ := cutB_ne 47 r
          have hpz : ∀ x ∈ p0 :: pt, x.size ≤ 65536 := fun x hx => by rw [← hpe] at hx; have := cutB_size hx; omega
          have hpl : (p0 :: pt).length ≤ 65537 := by rw [← hpe]; have := cutB_len 47 r; omega
          obtain ⟨ov, hov⟩ : ∃ ov, ov = oneV (p0 :: pt) := ⟨_, rfl⟩
          have her : entR r = ov := by rw [hov, ← hpe]; rfl
          rw [hpe] at CS
          obtain ⟨w2, hw2⟩ : ∃ w2, w2 = wr.alloc (.cells ((p0 :: pt).map Value.string).toArray 9) := ⟨_, rfl⟩
          obtain ⟨q2, hq2⟩ : ∃ q2, q2 = wr.heap.size := ⟨_, rfl⟩
          have b2 : Below wr.heap.size wr w2 := by rw [hw2]; exact (Below.refl _ _).alloc (Nat.le_refl _) _
          have B2 := Lib.hid (HB.out.trans (b2.mono HB.out.size))
          have R2 := Lib.hid (HR.out.below b2)
          have F2 := Lib.hid (HF.out.below b2)
          have Q2 := Lib.hid (HQ.out.below b2)
          have CO := Lib.hid (one_calls p0 pt q2 w2 (by have := hpz p0 List.mem_cons_self; omega) (fun b hb => by have := hpz b (List.mem_cons_of_mem _ hb); omega) (by rw [List.length_cons] at hpl; omega) (by rw [hw2, hq2]; exact blk_alloc_new _ _) (HT.out.below B2.out).1)
          unfold OnePost at CO
          rw [← hov] at CO
          rw [← hw2, ← hq2] at CS
          obtain ⟨pl, hpl2⟩ : ∃ pl, pl = (p0 :: pt).length := ⟨_, rfl⟩
          rw [← hpl2] at CS CO
          have HER := Lib.hid her
          have HSK := Lib.hid hsk
          clear hu hpe hpz hpl hov her hw2 hq2 hpl2 HR HF HB HQ b2 hsk
          go_wp2_with (fail)
          refine CS.out.mono ?_
          rintro e w0 ⟨rfl, rfl⟩
          clear CS hc hix
          go_wp2_with (fail)
          refine CO.out.mono ?_
          rintro e w3 ⟨⟨v3, rfl, o3⟩, b3⟩
          obtain ⟨A3, c3, rfl⟩ := own_is o3
          have B3 := Lib.hid (B2.out.trans (b3.mono B2.out.size))
          have R3 := Lib.hid (R2.out.below b3)
          have F3 := Lib.hid (F2.out.below b3)
          have Q3 := Lib.hid (Q2.out.below b3)
          have O3 := Lib.hid (own_base o3 B2.out.size)
          obtain ⟨ow, of, ok⟩ := ov
          simp only at O3 HER ⊢
          obtain ⟨w4, hw4⟩ : ∃ w4, w4 = w3.alloc (.cells #[Value.string ow, .slice A3 of.length c3] 78) := ⟨_, rfl⟩
          obtain ⟨K4, hK4⟩ : ∃ K4, K4 = w3.heap.size := ⟨_, rfl⟩
          have b4 : Below w3.heap.size w3 w4 := by rw [hw4]; exact (Below.refl _ _).alloc (Nat.le_refl _) _
          have n4 : w4.heap[K4]? = some (.cells #[.string ow, .slice A3 of.length c3] 78 (0, 0)) := by rw [hw4, hK4]; exact blk_alloc_new _ _
          obtain ⟨n0, n1⟩ := cell2_of n4
          have B4 := Lib.hid (B3.out.trans (b4.mono B3.out.size))
          have R4 := Lib.hid (R3.out.below b4)
          have F4 := Lib.hid (F3.out.below b4)
          have Q4 := Lib.hid (Q3.out.below b4)
          have O4 := Lib.hid (OwnI.later O3.out b4)
          have HW4 := Lib.hid hw4
          have HK4 := Lib.hid hK4
          clear o3 b3 CO hw4 hK4 b4 n4 B2 B3 R2 R3 F2 F3 Q2 Q3 O3
          go_upto_region 9 with (fail)
          rw [← HW4.out, ← HK4.out]
          cases ok with
          | true =>
            have e1 : goR (j + 1) (xs.map EnS.ent ++ [(ow, of)]) bad (rows.drop (j + 1)) = goR 0 [] 0 rows := by
              rw [← HGO.out, goR, if_neg HSK.out, HER.out]
              exact (if_pos rfl).symm
            have E1 := Lib.hid e1
            obtain ⟨o, ho⟩ : ∃ o, o = Obj.cells #[Value.string ow, .slice A3 of.length c3] 78 := ⟨_, rfl⟩
            have b5 : Below w4.heap.size w4 (w4.alloc o) := (Below.refl _ _).alloc (Nat.le_refl _) _
            have B5 := Lib.hid (B4.out.trans (b5.mono B4.out.size))
            have R5 := Lib.hid (R4.out.below b5)
            have F5 := Lib.hid (show FlE (w4.alloc o) w.heap.size (xs ++ [⟨ow, A3, c3, of⟩]) from fun x hx => by
              rcases List.mem_append.1 hx with h | h
              · exact (F4.out.below b5) x h
              · obtain rfl := List.mem_singleton.1 h
                exact OwnI.later O4.out b5)
            have Q5 := Lib.hid (Q4.out.below b5)
            have S5 : Hid (Src Tryd.prog 2 42 (.slice (some ⟨w4.heap.size, 0, none⟩) 1 1) 1 [.string ow, .slice A3 of.length c3] (w4.alloc o)) := Lib.hid (src_entry (by rw [ho]; exact blk_alloc_new _ _))
            clear e1 b5 B4 R4 F4 Q4 O4 HW4 HK4
            subst ho
            go_wp2_with (at_builtin; refine own_append (o := ⟨some 40, _, _, _, _, _⟩) rfl (.tmp 37) (.tmp 39) 42 42 rfl w.heap.size 78 iE _ 2 40 Tryd.underlying42 hiE hzE hsE hbE rfl (by decide) (.slice A xs.length cp) xs.length _ rfl R5.out (.slice (some ⟨w4.heap.size, 0, none⟩) 1 1) rfl 1 _ S5.out (by unfold maxLen; omega) (by omega) B5.out.size ?_; intro v5 w5 O5 G5 V5)
            go_roundw
            case rel =>
              have r6 : RowE w5 w.heap.size v5 (xs ++ [⟨ow, A3, c3, of⟩]) := RowE.push O5
              have hQ : (Value.slice A xs.length cp).ownBlock ≠ some Q := fun h => by
                obtain ⟨c2, h2⟩ := own_row_type R5.out h
                rw [show _ = _ from Q5.out] at h2
                injection h2 with h2
                injection h2 with _ h3 _
                exact absurd h3 (by decide)
              refine ⟨j + 1, bad, xs ++ [⟨ow, A3, c3, of⟩], by go_num, hlt, rfl, by omega, r6, F5.out.grown R5.out G5, B5.out.grown G5 B5.out.size (fun q hq => (own_block_lt R5.out hq).1), (G5.block Q (Array.getElem?_eq_some_iff.1 Q5.out).1 (fun e => hQ e.symm)).trans Q5.out, ?_, by simp; omega⟩
              rw [List.map_append]
              exact E1.out
            case measure => simp [intOf]; omega
          | false =>
            have e1 : goR (j + 1) (xs.map EnS.ent) (if bad = 0 then j + 1 else bad) (rows.drop (j + 1)) = goR 0 [] 0 rows := by
              rw [← HGO.out, goR, if_neg HSK.out, HER.out]
              exact (if_neg (show ¬ (false = true) by decide)).symm
            by_cases hbd : bad = 0
            · subst hbd
              rw [if_pos rfl] at e1
              have E1 := Lib.hid e1
              clear e1 HW4 HK4
              go_wp2_with (fail)
              go_roundw
              case rel => exact ⟨j + 1, j + 1, xs, by go_num, hlt, by go_num, by omega, R4.out, F4.out, B4.out, Q4.out, E1.out, by omega⟩
              case measure => simp [intOf]; omega
            · have g4 : ((bad : Int) == 0) = false := by simp; omega
              rw [if_neg hbd] at e1
              have E1 := Lib.hid e1
              clear e1 HW4 HK4
              go_wp2_with (fail)
              go_roundw
              case rel => exact ⟨j + 1, bad, xs, by go_num, hlt, rfl, by omega, R4.out, F4.out, B4.out, Q4.out, E1.out, by omega⟩
              case measure => simp [intOf]; omega
      · obtain rfl : j = n := by omega
        have g1 : decide (j < j) = false := by simp
        have hdr : rows.drop j = [] := List.drop_eq_nil_of_le (by have := HNN.out; omega)
        rw [hdr] at hgo
        have hgo' : goR 0 [] 0 rows = (xs.map EnS.ent, bad) := by rw [← hgo]; rfl
        have hpv := HPV.out
        rw [hgo'] at hpv
        simp only [List.length_map] at hpv
        have HP := Lib.hid hpv
        have HR := Lib.hid hR
        have HF := Lib.hid hF
        have HB := Lib.hid hb
        clear hgo hgo' hpv hR hF hb hq hdr HPV
        by_cases h2 : 2000 < xs.length
        · have g2 : decide (2000 < (xs.length : Int)) = true := by simp; omega
          have e0 := HP.out
          rw [if_pos h2] at e0
          have E0 := Lib.hid e0
          clear h2 e0 HP
          go_wp2_with (fail)
          refine bodyPost_ret (v := .tuple #[.slice none 0 0, .int .i64 0, .int .i64 3]) (by simp [results, Tryd.results18, go_sem]) rfl ?_
          rw [E0.out]
          exact ⟨⟨_, [], rfl, RowE.nil _ _, fun x hx => absurd hx List.not_mem_nil, rfl⟩, HB.out⟩
        · have g2 : decide (2000 < (xs.length : Int)) = false := by simp; omega
          by_cases h3 : 0 < bad
          · have g3 : decide (0 < bad) = true := by simpa using h3
            have g3' : decide (0 < (bad : Int)) = true := by simp; omega
            have e0 := HP.out
            rw [if_neg h2, if_pos h3] at e0
            have E0 := Lib.hid e0
            clear h2 h3 e0 HP
            go_wp2_with (fail)
            refine bodyPost_ret (v := .tuple #[.slice none 0 0, .int .i64 (bad : Nat), .int .i64 5]) (by simp [results, Tryd.results18, go_sem]) rfl ?_
            rw [E0.out]
            exact ⟨⟨_, [], rfl, RowE.nil _ _, fun x hx => absurd hx List.not_mem_nil, rfl⟩, HB.out⟩
          · have g3 : decide (0 < bad) = false := by simp; omega
            have g3' : decide (0 < (bad : Int)) = false := by simp; omega
            have e0 := HP.out
            rw [if_neg h2, if_neg h3] at e0
            have E0 := Lib.hid e0
            clear h2 h3 e0 HP
            go_wp2_with (fail)
            refine bodyPost_ret (v := .tuple #[.slice A xs.length cp, .int .i64 0, .int .i64 0]) (by simp [results, Tryd.results18, go_sem]) rfl ?_
            rw [E0.out]
            exact ⟨⟨_, xs, rfl, HR.out, HF.out, rfl⟩, HB.out⟩
end Go.Proofs.YtmpckoincdkeeaaDoor

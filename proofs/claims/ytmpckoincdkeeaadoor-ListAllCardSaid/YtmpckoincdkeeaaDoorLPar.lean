/- The document's Parse of a list. -/
import Derived.Test.YtmpckoincdkeeaaDoorLEnP
namespace Go.Proofs.YtmpckoincdkeeaaDoor
open Go.RowKit Go.Deep Go.Own
set_option linter.unusedVariables false
structure LpS (w wr : World) (lv sv : Value) (xs : List EnS) (ls : List (List UInt8)) : Prop where
  e : RowE wr w.heap.size lv xs
  f : FlE wr w.heap.size xs
  l : RowS wr w.heap.size sv ls
  bel : Below w.heap.size w wr
theorem LpS.below {w wr wx : World} {lv sv : Value} {xs : List EnS} {ls : List (List UInt8)} (h : LpS w wr lv sv xs ls) (hb : Below wr.heap.size wr wx) : LpS w wx lv sv xs ls :=
  ⟨h.e.below hb, h.f.below hb, RowS.below h.l hb, h.bel.trans (hb.mono h.bel.size)⟩
theorem lp_kept {w w5 : World} {base eb n m ex : Nat} {v u : Value} {xs ys : List Value} {e2 s2 : Nat} (h : w.ownsRow base e2 s2 u m ys) (hr : w.ownsRow base eb ex v n xs) (hne : e2 ≠ eb) (hg : w.grownBy w5 v.ownBlock) : w5.ownsRow base e2 s2 u m ys :=
  own_keep h fun i hi => by
    obtain ⟨c2, h2⟩ := own_row_type h hi
    exact hg.block i (Array.getElem?_eq_some_iff.1 h2).1 (fun e => by
      obtain ⟨c3, h3⟩ := own_row_type hr e.symm
      rw [h2] at h3
      injection h3 with h3
      injection h3 with _ h4 _
      exact hne h4)
theorem LpS.push {w wr w5 : World} {lv sv v5 : Value} {xs : List EnS} {ls : List (List UInt8)} {x : EnS} (h : LpS w wr lv sv xs ls) (hx : OwnI wr w.heap.size 3 x.v x.f) (hg : wr.grownBy w5 lv.ownBlock) (O5 : w5.ownsRow w.heap.size 78 2 v5 (xs.length + 1) (xs.flatMap entCells ++ [.string x.w, x.v])) : LpS w w5 v5 sv (xs ++ [x]) ls :=
  ⟨RowE.push O5, (show FlE wr w.heap.size (xs ++ [x]) from fun y hy => by
      rcases List.mem_append.1 hy with hy | hy
      · exact h.f y hy
      · obtain rfl := List.mem_singleton.1 hy
        exact hx).grown h.e hg, lp_kept h.l h.e (by decide) hg, h.bel.grown hg h.bel.size (fun q hq => (own_block_lt h.e hq).1)⟩
structure LpT (wr wx : World) (T B : Nat) (W : ByteArray) (A : Option Addr) (c : Nat) (f : List Int) : Prop where
  cell : wx.heap[T]? = some (.cells #[.string W, .slice A f.length c] 78 (0, 0))
  ow : OwnI wx B 3 (.slice A f.length c) f
  bel : Below wr.heap.size wr wx
theorem LpT.drew {wr wx : World} {T B : Nat} {W : ByteArray} {A : Option Addr} {c : Nat} {f : List Int} (h : LpT wr wx T B W A c f) : LpT wr wx.drew T B W A c f := ⟨h.cell, h.ow.later (belowN wx 1), h.bel.drew⟩
theorem lpt_set {wr u wf : World} {T B : Nat} {W : ByteArray} {A : Option Addr} {c : Nat} {f : List Int} {x0 x1 : Value} (hc : u.heap[T]? = some (.cells #[x0, x1] 78 (0, 0))) (hO : OwnI u B 3 (.slice A f.length c) f)
    (hw : wf = (u.setCell ⟨T, 0, none⟩ (.string W)).setCell ⟨T, 1, none⟩ (.slice A f.length c)) (hb : Below wr.heap.size wr u) (hT : wr.heap.size ≤ T) : LpT wr wf T B W A c f := by
  subst hw
  have h1 : (u.setCell ⟨T, 0, none⟩ (.string W)).heap[T]? = some (.cells #[.string W, x1] 78 (0, 0)) := setCell_same (j := 0) hc (.string W)
  refine ⟨?_, own_set (own_set hO hc (by decide)) h1 (by decide), (hb.setCell (p := ⟨T, 0, none⟩) hT _).setCell (p := ⟨T, 1, none⟩) hT _⟩
  rw [setCell_same h1]
  rfl
theorem lln_len (l : List UInt8) : (linesR l).length ≤ l.length + 1 := by
  unfold linesR
  have h := cutL_len 10 l
  have hne := cutL_ne 10 l
  have h0 : 0 < (cutL 10 l).length := by
    cases hc : cutL 10 l with
    | nil => exact absurd hc hne
    | cons a t => simp
  rw [List.length_append, List.length_dropLast]
  split
  · simp; omega
  · cases (cutL 10 l).getLast? <;> simp <;> omega
theorem lln_size {l x : List UInt8} (h : x ∈ linesR l) : x.length ≤ l.length := by
  unfold linesR at h
  refine cutL_size 10 l x ?_
  rcases List.mem_append.1 h with h | h
  · exact List.dropLast_subset _ h
  · split at h
    · cases h
    · have := Option.mem_toList.1 h
      exact List.mem_of_getLast? this
theorem lrow_str {w : World} {B : Nat} {A : Option Addr} {c : Nat} {ls : List (List UInt8)} (h : RowS w B (.slice A ls.length c) ls) {i : Nat} {l : List UInt8} (hi : ls[i]? = some l) : ∃ q, A = some ⟨q, 0, none⟩ ∧ w.cell? ⟨q, i, none⟩ = some (.string (mkB l)) := by
  obtain ⟨q, cap, e, _, _, _, _, hc, _⟩ := row_at h (by have := (List.getElem?_eq_some_iff.1 hi).1; omega)
  injection e with e1 _ _
  exact ⟨q, e1, hc i _ (by rw [List.getElem?_map, hi]; rfl)⟩
theorem lzero {r : ByteArray} (h : r.size = 0) : r.toList.isEmpty = true := by
  rw [ByteArray.toList_eq]
  have e : r.data.toList.length = r.size := by simp
  rw [h] at e
  rw [List.length_eq_zero_iff.1 e]
  rfl
set_option maxRecDepth 100000 in
set_option maxHeartbeats 32000000 in
theorem parseD_calls (s : ByteArray) (w : World) (hs : s.size ≤ 1000000000) : Calls Tryd.prog 23 #[.string s] w (ParsePost w s) := by
  unfold ParsePost
  obtain ⟨iE, hiE, hzE, hsE, hbE⟩ := info_parts infoE
  have hbig : 65536 < s.size ∨ s.size ≤ 65536 := by omega
  rcases hbig with hbig | hz
  · have e0 : parseV s = ([], 0, 3) := if_pos hbig
    have g1 : decide (65536 < (s.size : Int)) = true := by simp; omega
    rw [e0]
    clear e0 hs
    go_enter Tryd.func23, Tryd.ntmps23
    go_wp2_with (fail)
    refine bodyPost_ret (v := .tuple #[.slice none 0 0, .int .i64 0, .int .i64 3]) (by simp [results, Tryd.results23, go_sem]) rfl ?_
    exact ⟨⟨_, [], rfl, RowE.nil _ _, fun x hx => absurd hx List.not_mem_nil, rfl⟩, Below.refl _ _⟩
  · have g1 : decide (65536 < (s.size : Int)) = false := by simp; omega
    have hpv : parseV s = if 2000 < (goR 0 [] 0 (rowsB s)).1.length then ([], 0, 3) else if 0 < (goR 0 [] 0 (rowsB s)).2 then ([], (goR 0 [] 0 (rowsB s)).2, 5) else ((goR 0 [] 0 (rowsB s)).1, 0, 0) := if_neg (by omega)
    rw [← go_rows] at hpv
    have CL := Lib.hid (lines_calls s w (by omega))
    obtain ⟨ls, hls⟩ : ∃ ls, ls = linesR s.data.toList := ⟨_, rfl⟩
    rw [← hls] at hpv CL
    obtain ⟨rows, hrows⟩ : ∃ rows, rows = ls.map mkB := ⟨_, rfl⟩
    rw [← hrows] at hpv
    have HPV := Lib.hid hpv
    have hln : ls.length ≤ 65537 := by
      rw [hls]
      have := lln_len s.data.toList
      have e : s.data.toList.length = s.size := by simp
      omega
    have HLZ := Lib.hid (show ∀ x ∈ ls, (mkB x).size ≤ 65536 from fun x hx => by
      rw [hls] at hx
      have := lln_size hx
      have e : s.data.toList.length = s.size := by simp
      rw [mk_size]
      omega)
    have HRW := Lib.hid hrows
    clear hls hrows hpv hs
    go_enter Tryd.func23, Tryd.ntmps23
    go_wp2_with (fail)
    refine CL.out.mono ?_
    rintro e w2 ⟨⟨v2, rfl, o2⟩, b2⟩
    obtain ⟨AL, cL, rfl⟩ := own_is o2
    have I3 := Lib.hid (show LpS w w2 (.slice none 0 0) (.slice AL ls.length cL) [] ls from ⟨RowE.nil _ _, fun x hx => absurd hx List.not_mem_nil, o2, b2⟩)
    obtain ⟨n, hn⟩ : ∃ n, n = ls.length := ⟨_, rfl⟩
    have HNL := Lib.hid hn
    rw [← hn] at I3 hln ⊢
    clear CL o2 b2 hn
    go_wp2_with (fail)
    go_loopw [6, 7, 8] (fun lv bv iv wr => ∃ (j bad : Nat) (xs : List EnS), iv = .int .i64 (j : Nat) ∧ j ≤ n ∧ bv = .int .i64 (bad : Nat) ∧ bad ≤ j ∧ LpS w wr lv (.slice AL n cL) xs ls ∧ goR j (xs.map EnS.ent) bad (rows.drop j) = goR 0 [] 0 rows ∧ xs.length ≤ j) (fun _ _ iv _ => n - (intOf iv).toNat)
    case atStart => exact ⟨0, 0, [], rfl, Nat.zero_le _, rfl, Nat.le_refl _, I3.out, rfl, Nat.le_refl _⟩
    case round =>
      clear I3
      obtain ⟨j, bad, xs, rfl, hj, rfl, hbj, hI, hgo, hxl⟩ := hrel
      obtain ⟨A, cp, rfl⟩ := own_is hI.e
      have HI := Lib.hid hI
      have HGO := Lib.hid hgo
      clear hI hgo
      by_cases hlt : j < n
      · have g2 : decide (j < n) = true := by simpa using hlt
        obtain ⟨l, hl⟩ : ∃ l, ls[j]? = some l := ⟨_, List.getElem?_eq_getElem (by have := HNL.out; omega)⟩
        obtain ⟨q, hq, hc⟩ := lrow_str (show RowS wr w.heap.size (.slice AL ls.length cL) ls by rw [← HNL.out]; exact HI.out.l) hl
        subst hq
        have hrz : (mkB l).size ≤ 65536 := HLZ.out l (List.mem_of_getElem? hl)
        obtain ⟨r, hr⟩ : ∃ r, r = mkB l := ⟨_, rfl⟩
        rw [← hr] at hc hrz
        have hgo := HGO.out
        have hrd : rows.drop j = r :: rows.drop (j + 1) := by
          have h1 : rows[j]? = some r := by rw [HRW.out, List.getElem?_map, hl, hr]; rfl
          obtain ⟨h1, h2⟩ := List.getElem?_eq_some_iff.1 h1
          rw [List.drop_eq_getElem_cons h1, h2]
        rw [hrd] at hgo
        have HGO := Lib.hid hgo
        have HC := Lib.hid (show ∀ wx, Below wr.heap.size wr wx → wx.cell? ⟨q, j, none⟩ = some (.string r) from fun wx hb => (hb.cell (World.block_lt_of_cell? _ _ hc)).trans hc)
        clear hr hl hrd hgo
        by_cases k1 : r.toList.isEmpty = true
        · have e1 : goR (j + 1) (xs.map EnS.ent) bad (rows.drop (j + 1)) = goR 0 [] 0 rows := by
            rw [← HGO.out, goR, if_pos (by unfold skipR; rw [k1]; rfl)]
          have E1 := Lib.hid e1
          clear e1
          go_wp2_with (fail)
          go_roundw
          case rel => exact ⟨j + 1, bad, xs, by go_num, hlt, rfl, by omega, HI.out, E1.out, by omega⟩
          case measure => simp [intOf]; omega
        have k1 : r.toList.isEmpty = false := by simpa using k1
        have hr0 : 0 < r.size := by
          by_cases h : r.size = 0
          · rw [lzero h] at k1; cases k1
          · omega
        have hix : ∀ w : World, (Instr.index 9 (.string r) (.int .i64 0)).run Tryd.prog w = .ok (.int .u8 (uB r 0 : Nat)) w := fun w => s_index r 0 hr0 w
        obtain ⟨u, hu⟩ : ∃ u, u = uB r 0 := ⟨_, rfl⟩
        rw [← hu] at hix
        by_cases k2 : u = 35
        · have e1 : goR (j + 1) (xs.map EnS.ent) bad (rows.drop (j + 1)) = goR 0 [] 0 rows := by
            rw [← HGO.out, goR, if_pos (by unfold skipR; rw [← hu, k2, k1]; rfl)]
          have E1 := Lib.hid e1
          subst k2
          clear e1 hu hr0
          go_wp2_with (fail)
          go_roundw
          case rel => exact ⟨j + 1, bad, xs, by go_num, hlt, rfl, by omega, HI.out, E1.out, by omega⟩
          case measure => simp [intOf]; omega
        have hsk : ¬ skipR r = true := by
          unfold skipR
          rw [k1, ← hu]
          simpa using k2
        have HSK := Lib.hid hsk
        have g3 : ((u : Int) == 35) = false := by simp; omega
        have g3' : (u == 35) = false := by simpa using k2
        clear k2 hr0 hu hsk
        go_upto_region 10 with (fail)
        go_cut [9, 10] (fun v9 v10 wx => ∃ (T : Nat) (W : ByteArray) (Ae : Option Addr) (ce : Nat) (f : List Int) (ok : Bool), v9 = .pointer (some ⟨T, 0, none⟩) ∧ v10 = .bool ok ∧ LpT wr wx T w.heap.size W Ae ce f ∧ (ok = true → entW r = some (W, f)) ∧ (ok = false → entW r = none))
        case first =>
          have CP := Lib.hid (show ∀ wx, Below wr.heap.size wr wx → Calls Tryd.prog 36 #[.string r] wx (EntryPost wx r) from fun wx hb => entry_calls r wx (by omega))
          unfold EntryPost at CP
          have hww := HI.out.bel.size
          clear hix g3 g3' k1
          have y0 := HC.out wr (Below.refl _ _)
          have CP0 := Lib.hid (CP.out wr (Below.refl _ _))
          clear CP
          go_wp2_with (fail)
          refine CP0.out.mono ?_
          rintro e u1 ⟨⟨W, v, f, ok, rfl, hO, hok1, hok2⟩, bu1⟩
          obtain ⟨Ae, ce, rfl⟩ := own_is hO
          obtain ⟨o, ho⟩ : ∃ o, o = Obj.cells #[Value.string W, .slice Ae f.length ce] 78 := ⟨_, rfl⟩
          have nu2 : (u1.alloc o).heap[u1.heap.size]? = some (.cells #[Value.string W, .slice Ae f.length ce] 78 (0, 0)) := by rw [ho]; exact blk_alloc_new _ _
          have O2 := Lib.hid (show OwnI (u1.alloc o) w.heap.size 3 (.slice Ae f.length ce) f from OwnI.later (own_base hO hww) ((Below.refl _ _).alloc (Nat.le_refl _) _))
          have BU2 := Lib.hid (show Below wr.heap.size wr (u1.alloc o) from bu1.alloc bu1.size _)
          have NU2 := Lib.hid nu2
          subst ho
          have HOK := Lib.hid (And.intro hok1 hok2)
          clear hO bu1 nu2 CP0 y0 hok1 hok2
          go_wp2_with (fail)
          go_meet
          exact ⟨_, W, Ae, ce, f, ok, rfl, rfl, ⟨NU2.out, O2.out, BU2.out⟩, HOK.out.1, HOK.out.2⟩
        obtain ⟨T, W, Ae, ce, f, ok, rfl, rfl, hT, hok1, hok2⟩ := hcut
        have HI1 := Lib.hid (HI.out.below hT.bel)
        have HTT := Lib.hid hT
        clear HI HC hT hix k1 g3 g3' hc
        cases ok with
        | false =>
          have he := hok2 rfl
          have e1 : goR (j + 1) (xs.map EnS.ent) (if bad = 0 then j + 1 else bad) (rows.drop (j + 1)) = goR 0 [] 0 rows := by
            have hh : ¬ (entR r).2.2 = true := by
              rw [ent_is] at he
              intro hh
              rw [if_pos hh] at he
              cases he
            rw [← HGO.out, goR, if_neg HSK.out, if_neg hh]
          clear hok1 hok2 he
          by_cases hbd : bad = 0
          · subst hbd
            rw [if_pos rfl] at e1
            have E1 := Lib.hid e1
            clear e1
            go_wp2_with (fail)
            go_roundw
            case rel => exact ⟨j + 1, j + 1, xs, by go_num, hlt, by go_num, by omega, HI1.out, E1.out, by omega⟩
            case measure => simp [intOf]; omega
          · have g4 : ((bad : Int) == 0) = false := by simp; omega
            rw [if_neg hbd] at e1
            have E1 := Lib.hid e1
            clear e1
            go_wp2_with (fail)
            go_roundw
            case rel => exact ⟨j + 1, bad, xs, by go_num, hlt, rfl, by omega, HI1.out, E1.out, by omega⟩
            case measure => simp [intOf]; omega
        | true =>
          have he := hok1 rfl
          have e1 : goR (j + 1) (xs.map EnS.ent ++ [(W, f)]) bad (rows.drop (j + 1)) = goR 0 [] 0 rows := by
            rw [ent_is] at he
            by_cases hh : (entR r).2.2 = true
            · rw [if_pos hh] at he
              rw [← HGO.out, goR, if_neg HSK.out, if_pos hh, Option.some.inj he]
            · rw [if_neg hh] at he
              cases he
          have E1 := Lib.hid e1
          clear hok1 hok2 he e1
          obtain ⟨o, ho⟩ : ∃ o, o = Obj.cells #[Value.string W, .slice Ae f.length ce] 78 := ⟨_, rfl⟩
          have b4 : Below wc.heap.size wc (wc.alloc o) := (Below.refl _ _).alloc (Nat.le_refl _) _
          have I4 := Lib.hid (HI1.out.below b4)
          have X4 := Lib.hid (show OwnI (wc.alloc o) w.heap.size 3 (EnS.v ⟨W, Ae, ce, f⟩) f from OwnI.later HTT.out.ow b4)
          have S4 : Hid (Src Tryd.prog 2 42 (.slice (some ⟨wc.heap.size, 0, none⟩) 1 1) 1 [.string W, .slice Ae f.length ce] (wc.alloc o)) := Lib.hid (src_entry (by rw [ho]; exact blk_alloc_new _ _))
          obtain ⟨z0, z1⟩ := cell2_of HTT.out.cell
          subst ho
          clear b4
          go_wp2_with (at_builtin; refine own_append (o := ⟨some 52, _, _, _, _, _⟩) rfl (.tmp 49) (.tmp 51) 42 42 rfl w.heap.size 78 iE _ 2 40 Tryd.underlying42 hiE hzE hsE hbE rfl (by decide) (.slice A xs.length cp) xs.length _ rfl I4.out.e (.slice (some ⟨wc.heap.size, 0, none⟩) 1 1) rfl 1 _ S4.out (by unfold maxLen; omega) (by omega) I4.out.bel.size ?_; intro v5 w5 O5 G5 V5; have S5 := LpS.push (x := ⟨W, Ae, ce, f⟩) I4.out X4.out G5 O5; obtain ⟨A5, c5, hv5⟩ := own_is O5; subst hv5)
          go_roundw
          case rel => exact ⟨j + 1, bad, xs ++ [⟨W, Ae, ce, f⟩], by go_num, hlt, rfl, by omega, S5, by rw [List.map_append]; exact E1.out, by simp; omega⟩
          case measure => simp [intOf]; omega
      · obtain rfl : j = n := by omega
        have g2 : decide (j < j) = false := by simp
        have hgo := HGO.out
        have hdr : rows.drop j = [] := List.drop_eq_nil_of_le (by rw [HRW.out, List.length_map]; have := HNL.out; omega)
        rw [hdr] at hgo
        have hgo' : goR 0 [] 0 rows = (xs.map EnS.ent, bad) := by rw [← hgo]; rfl
        have hpv := HPV.out
        rw [hgo'] at hpv
        simp only [List.length_map] at hpv
        have HP := Lib.hid hpv
        clear hgo hgo' hpv hdr HPV HGO
        by_cases h2 : 2000 < xs.length
        · have g3 : decide (2000 < (xs.length : Int)) = true := by simp; omega
          have e0 := HP.out
          rw [if_pos h2] at e0
          have E0 := Lib.hid e0
          clear h2 e0 HP
          go_wp2_with (fail)
          refine bodyPost_ret (v := .tuple #[.slice none 0 0, .int .i64 0, .int .i64 3]) (by simp [results, Tryd.results23, go_sem]) rfl ?_
          rw [E0.out]
          exact ⟨⟨_, [], rfl, RowE.nil _ _, fun x hx => absurd hx List.not_mem_nil, rfl⟩, HI.out.bel⟩
        · have g3 : decide (2000 < (xs.length : Int)) = false := by simp; omega
          by_cases h3 : 0 < bad
          · have g4 : decide (0 < bad) = true := by simpa using h3
            have g4' : decide (0 < (bad : Int)) = true := by simp; omega
            have e0 := HP.out
            rw [if_neg h2, if_pos h3] at e0
            have E0 := Lib.hid e0
            clear h2 h3 e0 HP
            go_wp2_with (fail)
            refine bodyPost_ret (v := .tuple #[.slice none 0 0, .int .i64 (bad : Nat), .int .i64 5]) (by simp [results, Tryd.results23, go_sem]) rfl ?_
            rw [E0.out]
            exact ⟨⟨_, [], rfl, RowE.nil _ _, fun x hx => absurd hx List.not_mem_nil, rfl⟩, HI.out.bel⟩
          · have g4 : decide (0 < bad) = false := by simp; omega
            have g4' : decide (0 < (bad : Int)) = false := by simp; omega
            have e0 := HP.out
            rw [if_neg h2, if_neg h3] at e0
            have E0 := Lib.hid e0
            clear h2 h3 e0 HP
            go_wp2_with (fail)
            refine bodyPost_ret (v := .tuple #[.slice A xs.length cp, .int .i64 0, .int .i64 0]) (by simp [results, Tryd.results23, go_sem]) rfl ?_
            rw [E0.out]
            exact ⟨⟨_, xs, rfl, HI.out.e, HI.out.f, rfl⟩, HI.out.bel⟩
end Go.Proofs.YtmpckoincdkeeaaDoor

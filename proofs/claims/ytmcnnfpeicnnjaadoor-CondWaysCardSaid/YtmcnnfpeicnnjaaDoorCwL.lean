/- CondWays. -/
import Derived.Test.YtmcnnfpeicnnjaaDoorCwP
namespace Go.Proofs.YtmcnnfpeicnnjaaDoor
open Go.RowKit Go.Deep Go.Own
set_option linter.unusedVariables false
theorem single_ne {w : World} {base n : Nat} {v : Value} {xs : List Value} {e size : Nat} (h : w.ownsRow base e size v n xs) {q : Nat} (hq : w.heap.size ≤ q) : ∀ k, (Value.slice (some ⟨q, 0, none⟩) 1 1).ownBlock = some k → v.ownBlock ≠ some k := fun k hk hv => by
  have h1 : q = k := by injection hk
  have h2 := (own_block_lt h hv).2
  omega
theorem lits_ne {w : World} {base n m c : Nat} {v : Value} {xs : List Value} {e size : Nat} (h : w.ownsRow base e size v n xs) {q : Nat} (hq : w.heap.size ≤ q) : ∀ k, (Value.slice (some ⟨q, 0, none⟩) m c).ownBlock = some k → v.ownBlock ≠ some k := fun k hk hv => by
  have h1 : q = k := by injection hk
  have h2 := (own_block_lt h hv).2
  omega
theorem own_lit {w : World} {V base : Nat} {l : List Int} (h : w.heap[V]? = some (.cells (l.map (Value.int .i64)).toArray 3 (0, 0))) (hb : base ≤ V) (hl : l.length ≤ 8) : OwnI w base 3 (.slice (some ⟨V, 0, none⟩) l.length l.length) l :=
  ⟨by rw [List.length_map, Nat.mul_one], .inr ⟨V, l.length, (l.map (Value.int .i64)).toArray, rfl, hb, h, Nat.le_refl _, by unfold maxLen; omega, by simp, by simp [List.take_of_length_le]⟩⟩
theorem own_append_g {w : World} {ops : Array Oper} {rest : List Oper} {o : Oper} {a : Act} {Q : Exit → Act → World → Prop} (hgd : Region.wanted o (yielded ops a.tmps) = true) (s x : Operand) (t tx : TypeId)
    (ho : o.op = .call { callee := .builtin .append, args := #[s, x], argTypes := #[t, tx] })
    (base : Nat) (e : TypeId) (i : TypeInfo) (z : Value) (size bytes : Nat) (ht : Tryd.prog.underlying t = some (.slice e)) (hi : Tryd.prog.info? e = some i) (hz : i.zero = some z)
    (hsize : i.size = size) (hby : i.bytes = bytes) (hzs : z.cells.size = size) (hsz : 0 < size)
    (v : Value) (n : Nat) (xs : List Value) (hs : a.eval s = v) (hown : w.ownsRow base e size v n xs) (xv : Value) (hx : a.eval x = xv) (m : Nat) (news : List Value) (hsrc : Src Tryd.prog size tx xv m news w)
    (h63 : n + m ≤ maxLen) (hbytes : (n + m) * bytes ≤ 140737488355328) (hbase : base ≤ w.heap.size)
    (h : ∀ v' w', w'.ownsRow base e size v' (n + m) (xs ++ news) → w.grownBy w' v.ownBlock → (∀ k, v'.ownBlock = some k → v.ownBlock = some k ∨ w.heap.size ≤ k) → wpList Tryd.prog ops Q rest (a.put o.dst v') w') : wpList Tryd.prog ops Q (o :: rest) a w := by
  refine wpList_step fun K hK => ?_
  rw [if_pos hgd]
  obtain ⟨v', w', hr, h1, h2, h3⟩ := own_append_run (P := Tryd.prog) w base t tx o.type e i z size bytes ht hi hz hsize hby hzs hsz v n xs hown xv m news hsrc h63 hbytes hbase
  unfold Oper.wp execOp
  simp only [ho, resolve, invoke, builtin, Sem.run_bind, Sem.run_pure, Result.andThen_ok, List.map_toArray, List.map_cons, List.map_nil, hs, hx, hr]
  exact hK _ _ (h v' w' h1 h2 h3)
theorem take_kW (l : List Int) (i : Nat) (v : Int) (h : l[i]? = some v) : (l.take (i + 1)).map kW = (l.take i).map kW ++ [kW v] := by
  obtain ⟨h1, h2⟩ := List.getElem?_eq_some_iff.1 h
  rw [List.take_succ_eq_append_getElem h1, h2, List.map_append]
  rfl
set_option maxRecDepth 100000 in
set_option maxHeartbeats 32000000 in
theorem condWays_walk (A : Option Addr) (cap : Nat) (l : List Int) (bad : Int) (w : World) (hA : Reads w A l) (hl : l.length ≤ 9223372036854775807) (_ : (Lit.int .i64 bad).wf = true) (hT : TabsL w) :
    Calls Tryd.prog 6 #[.slice A l.length cap, .int .i64 bad] w fun e w' => e = .returned (.bool true) ∧ Below w.heap.size w w' := by
  obtain ⟨iI, hiI, hzI, hsI, hbI⟩ := info_parts infoI
  obtain ⟨iT, hiT, hzT, hsT, hbT⟩ := info_parts infoIt
  have HT := Lib.hid hT
  have HA := Lib.hid hA
  have CA := Lib.hid (fun w1 (hb : Below w.heap.size w w1) => awake9_calls w1 (HT.out.below hb))
  obtain ⟨n, hn⟩ : ∃ n, n = l.length := ⟨_, rfl⟩
  have HN := Lib.hid hn
  rw [← hn] at hl ⊢
  clear hT hA hn
  go_enter Tryd.func6, Tryd.ntmps6
  go_wp2_with (fail)
  go_loopw [5, 6, 7] (fun lv cv iv wr => ∃ (i : Nat) (xs : List ItV), i ≤ n ∧ i ≤ 8 ∧ iv = .int .i64 (i : Nat) ∧ xs.length = i ∧ CwS w wr lv cv xs (csW ((l.take i).map kW)) ∧ xs.map ItV.p = itsW ((l.take i).map kW)) (fun _ _ iv _ => 8 - (intOf iv).toNat)
  case atStart => exact ⟨0, [], Nat.zero_le _, Nat.zero_le _, rfl, rfl, ⟨⟨RowIt.nil _ _, FlIt.nil _ _, Below.refl _ _⟩, OwnI.nil _ _ _, fun x hx => absurd hx List.not_mem_nil⟩, rfl⟩
  case round =>
    obtain ⟨i, xs, hi, hi8, rfl, hxl, hS, hp⟩ := hrel
    obtain ⟨Al, cl, hlv⟩ := own_is hS.it.e
    subst hlv
    obtain ⟨cs, hcs⟩ : ∃ cs, cs = csW ((l.take i).map kW) := ⟨_, rfl⟩
    rw [← hcs] at hS
    have hcl : cs.length = i := by rw [hcs]; unfold csW; rw [List.length_map, List.length_map, List.length_take, ← HN.out]; omega
    obtain ⟨Ac, cc, hcv⟩ := own_is hS.co
    subst hcv
    have HS := Lib.hid hS
    have HP := Lib.hid hp
    have HCS := Lib.hid hcs
    have HXL := Lib.hid hxl
    have HCL := Lib.hid hcl
    clear hS hp hcs hxl hcl
    by_cases hgo : i < n ∧ i < 8
    · obtain ⟨hlt, hlt8⟩ := hgo
      have g1 : decide (i < n) = true := by simpa using hlt
      have g2 : decide (i < 8) = true := by simpa using hlt8
      obtain ⟨v, hv⟩ : ∃ v, l[i]? = some v := ⟨_, List.getElem?_eq_getElem (by have := HN.out; omega)⟩
      obtain ⟨qa, oa, rfl, hc⟩ := reads_at HA.out HS.out.it.bel hv
      obtain ⟨k, hk, ek, cp⟩ := place_nat v 1048576 (by omega) (by omega)
      have hkv : kW v = k := by unfold kW; omega
      have CP := Lib.hid cp
      have htk := take_kW l i v hv
      rw [hkv] at htk
      have HTK := Lib.hid htk
      obtain ⟨c, hcI⟩ : ∃ c : Int, c = codeW k := ⟨_, rfl⟩
      have hcr : 97 ≤ c ∧ c ≤ 116 := by rw [hcI]; unfold codeW; omega
      have HCI := Lib.hid (show (97 : Int) + (k : Int) % 20 = c by rw [hcI]; unfold codeW; omega)
      obtain ⟨t, ht⟩ : ∃ t, t = k / 20 % 4 := ⟨_, rfl⟩
      have HTI := Lib.hid (show (k : Int) / 20 % 4 = (t : Nat) by omega)
      have ht4 : t < 4 := by omega
      have HC0 := Lib.hid (And.intro hcI ht)
      have hxl' : xs.length ≤ 8 := by have := HXL.out; omega
      have hcl' : cs.length ≤ 8 := by have := HCL.out; omega
      clear hv ek cp hkv htk hcI ht
      go_wp2_with (fail)
      refine (CP.out _).mono ?_
      rintro e w0 ⟨rfl, hw0⟩
      subst hw0
      clear CP hc
      go_upto_region 8 with (fail)
      rw [HCI.out]
      go_upto_region 10 with (fail)
      rw [HTI.out]
      clear HCI HTI
      by_cases ht0 : t = 0
      · subst ht0
        obtain ⟨o, ho⟩ : ∃ o, o = Obj.cells #[.bool true, .bool false, .slice none 0 0] 43 := ⟨_, rfl⟩
        have bb : Below wr.heap.size wr (wr.alloc o) := (Below.refl _ _).alloc (Nat.le_refl _) _
        have S4 := Lib.hid (HS.out.below bb)
        have X4 := Lib.hid (show OwnI (wr.alloc o) w.heap.size 3 (ItV.v (⟨⟨true, false, []⟩, none, 0⟩ : ItV)) [] from OwnI.nil _ _ _)
        have D4 := Lib.hid (show ∀ q, (ItV.v (⟨⟨true, false, []⟩, none, 0⟩ : ItV)).ownBlock = some q → (Value.slice Ac cs.length cc).ownBlock ≠ some q from fun q h => by cases h)
        have R4 : Hid (Src Tryd.prog 3 35 (.slice (some ⟨wr.heap.size, 0, none⟩) 1 1) 1 [.bool true, .bool false, .slice none 0 0] (wr.alloc o)) := Lib.hid (src_item (by rw [ho]; exact blk_alloc_new _ _))
        subst ho
        clear bb
        go_wp2_with (first | (at_builtin; refine own_append (o := ⟨some 45, _, _, _, _, _⟩) rfl (.tmp 42) (.tmp 44) 35 35 rfl w.heap.size 43 iT _ 3 32 Tryd.underlying35 hiT hzT hsT hbT rfl (by decide) (.slice Al xs.length cl) xs.length _ rfl S4.out.it.e (.slice (some ⟨wr.heap.size, 0, none⟩) 1 1) rfl 1 _ R4.out (by unfold maxLen; omega) (by omega) S4.out.it.bel.size ?_; intro v5 w5 O5 G5 V5; have S5 := CwS.item (x := (⟨⟨true, false, []⟩, none, 0⟩ : ItV)) S4.out X4.out D4.out G5 O5; obtain ⟨A5, c5, hv5⟩ := own_is O5; subst hv5; have S6 := S5.below ((Below.refl _ _).alloc (Nat.le_refl _) (.cells #[Value.int .i64 c] 3)); have N6 := blk_alloc_new w5 (.cells #[Value.int .i64 c] 3)) | (at_builtin; refine own_append (o := ⟨some 65, _, _, _, _, _⟩) rfl (.tmp 62) (.tmp 64) 41 41 rfl w.heap.size 3 iI _ 1 8 Tryd.underlying41 hiI hzI hsI hbI rfl (by decide) (.slice Ac cs.length cc) cs.length _ rfl S6.co (.slice (some ⟨w5.heap.size, 0, none⟩) 1 1) rfl 1 _ (src_one Tryd.underlying41 rfl (by rw [World.cell?]; simp only [N6]; rfl)) (by unfold maxLen; omega) (by omega) S6.it.bel.size ?_; intro v7 w7 O7 G7 V7; have S7 := CwS.code S6 G7 (ownI_push O7) V7; obtain ⟨A7, c7, hv7⟩ := own_is O7; subst hv7))
        go_roundw
        case rel =>
          refine ⟨i + 1, xs ++ [(⟨⟨true, false, []⟩, none, 0⟩ : ItV)], hlt, hlt8, by go_num, by rw [List.length_append, List.length_singleton, HXL.out], ?_, ?_⟩
          · rw [HTK.out]
            have e : csW (List.map kW (List.take i l) ++ [k]) = cs ++ [c] := by unfold csW; rw [List.map_append, HCS.out, HC0.out.1]; rfl
            rw [e]
            exact S7
          · rw [HTK.out, List.map_append, HP.out]
            have e : itemW k = ItV.p (⟨⟨true, false, []⟩, none, 0⟩ : ItV) := by
              have h1 := HC0.out.2
              unfold itemW
              rw [if_pos (by omega)]
            unfold itsW
            simp only [List.map_append, List.map_cons, List.map_nil, e]
        case measure => simp [intOf]; omega
      by_cases ht1 : t = 1
      · subst ht1
        obtain ⟨wa, hwa⟩ : ∃ wa, wa = wr.alloc (.cells #[Value.int .i64 (c)] 3) := ⟨_, rfl⟩
        have ba : Below wr.heap.size wr wa := by rw [hwa]; exact (Below.refl _ _).alloc (Nat.le_refl _) _
        have na : wa.heap[wr.heap.size]? = some (.cells ([(c : Int)].map (Value.int .i64)).toArray 3 (0, 0)) := by rw [hwa]; exact blk_alloc_new _ _
        obtain ⟨o, ho⟩ : ∃ o, o = Obj.cells #[.bool false, .bool false, .slice (some ⟨wr.heap.size, 0, none⟩) 1 1] 43 := ⟨_, rfl⟩
        have bb : Below wa.heap.size wa (wa.alloc o) := (Below.refl _ _).alloc (Nat.le_refl _) _
        have bw : Below wr.heap.size wr (wa.alloc o) := ba.trans (bb.mono ba.size)
        have S4 := Lib.hid (HS.out.below bw)
        have X4 := Lib.hid (show OwnI (wa.alloc o) w.heap.size 3 (ItV.v (⟨⟨false, false, [c]⟩, some ⟨wr.heap.size, 0, none⟩, 1⟩ : ItV)) [c] from OwnI.later (own_lit na HS.out.it.bel.size (by simp)) bb)
        have D4 := Lib.hid (show ∀ q, (ItV.v (⟨⟨false, false, [c]⟩, some ⟨wr.heap.size, 0, none⟩, 1⟩ : ItV)).ownBlock = some q → (Value.slice Ac cs.length cc).ownBlock ≠ some q from lits_ne HS.out.co (Nat.le_refl _))
        have R4 : Hid (Src Tryd.prog 3 35 (.slice (some ⟨wa.heap.size, 0, none⟩) 1 1) 1 [.bool false, .bool false, .slice (some ⟨wr.heap.size, 0, none⟩) 1 1] (wa.alloc o)) := Lib.hid (src_item (by rw [ho]; exact blk_alloc_new _ _))
        have hsz : wa.heap.size = wr.heap.size + 1 := by rw [hwa]; simp
        rw [hsz] at R4
        subst ho
        subst hwa
        clear bb bw ba na hsz
        go_wp2_with (first | (at_builtin; refine own_append (o := ⟨some 53, _, _, _, _, _⟩) rfl (.tmp 48) (.tmp 52) 35 35 rfl w.heap.size 43 iT _ 3 32 Tryd.underlying35 hiT hzT hsT hbT rfl (by decide) (.slice Al xs.length cl) xs.length _ rfl S4.out.it.e (.slice (some ⟨wr.heap.size + 1, 0, none⟩) 1 1) rfl 1 _ R4.out (by unfold maxLen; omega) (by omega) S4.out.it.bel.size ?_; intro v5 w5 O5 G5 V5; have S5 := CwS.item (x := (⟨⟨false, false, [c]⟩, some ⟨wr.heap.size, 0, none⟩, 1⟩ : ItV)) S4.out X4.out D4.out G5 O5; obtain ⟨A5, c5, hv5⟩ := own_is O5; subst hv5; have S6 := S5.below ((Below.refl _ _).alloc (Nat.le_refl _) (.cells #[Value.int .i64 c] 3)); have N6 := blk_alloc_new w5 (.cells #[Value.int .i64 c] 3)) | (at_builtin; refine own_append (o := ⟨some 65, _, _, _, _, _⟩) rfl (.tmp 62) (.tmp 64) 41 41 rfl w.heap.size 3 iI _ 1 8 Tryd.underlying41 hiI hzI hsI hbI rfl (by decide) (.slice Ac cs.length cc) cs.length _ rfl S6.co (.slice (some ⟨w5.heap.size, 0, none⟩) 1 1) rfl 1 _ (src_one Tryd.underlying41 rfl (by rw [World.cell?]; simp only [N6]; rfl)) (by unfold maxLen; omega) (by omega) S6.it.bel.size ?_; intro v7 w7 O7 G7 V7; have S7 := CwS.code S6 G7 (ownI_push O7) V7; obtain ⟨A7, c7, hv7⟩ := own_is O7; subst hv7))
        go_roundw
        case rel =>
          refine ⟨i + 1, xs ++ [(⟨⟨false, false, [c]⟩, some ⟨wr.heap.size, 0, none⟩, 1⟩ : ItV)], hlt, hlt8, by go_num, by rw [List.length_append, List.length_singleton, HXL.out], ?_, ?_⟩
          · rw [HTK.out]
            have e : csW (List.map kW (List.take i l) ++ [k]) = cs ++ [c] := by unfold csW; rw [List.map_append, HCS.out, HC0.out.1]; rfl
            rw [e]
            exact S7
          · rw [HTK.out, List.map_append, HP.out]
            have e : itemW k = ItV.p (⟨⟨false, false, [c]⟩, some ⟨wr.heap.size, 0, none⟩, 1⟩ : ItV) := by
              have h1 := HC0.out.2
              unfold itemW
              rw [if_neg (by omega)]
              rw [if_pos (by omega)]
              rw [HC0.out.1]
            unfold itsW
            simp only [List.map_append, List.map_cons, List.map_nil, e]
        case measure => simp [intOf]; omega
      by_cases ht2 : t = 2
      · subst ht2
        obtain ⟨wa, hwa⟩ : ∃ wa, wa = wr.alloc (.cells #[Value.int .i64 (122), Value.int .i64 (c), Value.int .i64 (121)] 3) := ⟨_, rfl⟩
        have ba : Below wr.heap.size wr wa := by rw [hwa]; exact (Below.refl _ _).alloc (Nat.le_refl _) _
        have na : wa.heap[wr.heap.size]? = some (.cells ([(122 : Int), (c : Int), (121 : Int)].map (Value.int .i64)).toArray 3 (0, 0)) := by rw [hwa]; exact blk_alloc_new _ _
        obtain ⟨o, ho⟩ : ∃ o, o = Obj.cells #[.bool false, .bool false, .slice (some ⟨wr.heap.size, 0, none⟩) 3 3] 43 := ⟨_, rfl⟩
        have bb : Below wa.heap.size wa (wa.alloc o) := (Below.refl _ _).alloc (Nat.le_refl _) _
        have bw : Below wr.heap.size wr (wa.alloc o) := ba.trans (bb.mono ba.size)
        have S4 := Lib.hid (HS.out.below bw)
        have X4 := Lib.hid (show OwnI (wa.alloc o) w.heap.size 3 (ItV.v (⟨⟨false, false, [122, c, 121]⟩, some ⟨wr.heap.size, 0, none⟩, 3⟩ : ItV)) [122, c, 121] from OwnI.later (own_lit na HS.out.it.bel.size (by simp)) bb)
        have D4 := Lib.hid (show ∀ q, (ItV.v (⟨⟨false, false, [122, c, 121]⟩, some ⟨wr.heap.size, 0, none⟩, 3⟩ : ItV)).ownBlock = some q → (Value.slice Ac cs.length cc).ownBlock ≠ some q from lits_ne HS.out.co (Nat.le_refl _))
        have R4 : Hid (Src Tryd.prog 3 35 (.slice (some ⟨wa.heap.size, 0, none⟩) 1 1) 1 [.bool false, .bool false, .slice (some ⟨wr.heap.size, 0, none⟩) 3 3] (wa.alloc o)) := Lib.hid (src_item (by rw [ho]; exact blk_alloc_new _ _))
        have hsz : wa.heap.size = wr.heap.size + 1 := by rw [hwa]; simp
        rw [hsz] at R4
        subst ho
        subst hwa
        clear bb bw ba na hsz
        go_wp2_with (first | (at_builtin; refine own_append (o := ⟨some 61, _, _, _, _, _⟩) rfl (.tmp 56) (.tmp 60) 35 35 rfl w.heap.size 43 iT _ 3 32 Tryd.underlying35 hiT hzT hsT hbT rfl (by decide) (.slice Al xs.length cl) xs.length _ rfl S4.out.it.e (.slice (some ⟨wr.heap.size + 1, 0, none⟩) 1 1) rfl 1 _ R4.out (by unfold maxLen; omega) (by omega) S4.out.it.bel.size ?_; intro v5 w5 O5 G5 V5; have S5 := CwS.item (x := (⟨⟨false, false, [122, c, 121]⟩, some ⟨wr.heap.size, 0, none⟩, 3⟩ : ItV)) S4.out X4.out D4.out G5 O5; obtain ⟨A5, c5, hv5⟩ := own_is O5; subst hv5; have S6 := S5.below ((Below.refl _ _).alloc (Nat.le_refl _) (.cells #[Value.int .i64 c] 3)); have N6 := blk_alloc_new w5 (.cells #[Value.int .i64 c] 3)) | (at_builtin; refine own_append (o := ⟨some 65, _, _, _, _, _⟩) rfl (.tmp 62) (.tmp 64) 41 41 rfl w.heap.size 3 iI _ 1 8 Tryd.underlying41 hiI hzI hsI hbI rfl (by decide) (.slice Ac cs.length cc) cs.length _ rfl S6.co (.slice (some ⟨w5.heap.size, 0, none⟩) 1 1) rfl 1 _ (src_one Tryd.underlying41 rfl (by rw [World.cell?]; simp only [N6]; rfl)) (by unfold maxLen; omega) (by omega) S6.it.bel.size ?_; intro v7 w7 O7 G7 V7; have S7 := CwS.code S6 G7 (ownI_push O7) V7; obtain ⟨A7, c7, hv7⟩ := own_is O7; subst hv7))
        go_roundw
        case rel =>
          refine ⟨i + 1, xs ++ [(⟨⟨false, false, [122, c, 121]⟩, some ⟨wr.heap.size, 0, none⟩, 3⟩ : ItV)], hlt, hlt8, by go_num, by rw [List.length_append, List.length_singleton, HXL.out], ?_, ?_⟩
          · rw [HTK.out]
            have e : csW (List.map kW (List.take i l) ++ [k]) = cs ++ [c] := by unfold csW; rw [List.map_append, HCS.out, HC0.out.1]; rfl
            rw [e]
            exact S7
          · rw [HTK.out, List.map_append, HP.out]
            have e : itemW k = ItV.p (⟨⟨false, false, [122, c, 121]⟩, some ⟨wr.heap.size, 0, none⟩, 3⟩ : ItV) := by
              have h1 := HC0.out.2
              unfold itemW
              rw [if_neg (by omega)]
              rw [if_neg (by omega)]
              rw [if_pos (by omega)]
              rw [HC0.out.1]
            unfold itsW
            simp only [List.map_append, List.map_cons, List.map_nil, e]
        case measure => simp [intOf]; omega
      · obtain rfl : t = 3 := by omega
        obtain ⟨wa, hwa⟩ : ∃ wa, wa = wr.alloc (.cells #[Value.int .i64 (c + 1), Value.int .i64 (122)] 3) := ⟨_, rfl⟩
        have ba : Below wr.heap.size wr wa := by rw [hwa]; exact (Below.refl _ _).alloc (Nat.le_refl _) _
        have na : wa.heap[wr.heap.size]? = some (.cells ([(c + 1 : Int), (122 : Int)].map (Value.int .i64)).toArray 3 (0, 0)) := by rw [hwa]; exact blk_alloc_new _ _
        obtain ⟨o, ho⟩ : ∃ o, o = Obj.cells #[.bool false, .bool true, .slice (some ⟨wr.heap.size, 0, none⟩) 2 2] 43 := ⟨_, rfl⟩
        have bb : Below wa.heap.size wa (wa.alloc o) := (Below.refl _ _).alloc (Nat.le_refl _) _
        have bw : Below wr.heap.size wr (wa.alloc o) := ba.trans (bb.mono ba.size)
        have S4 := Lib.hid (HS.out.below bw)
        have X4 := Lib.hid (show OwnI (wa.alloc o) w.heap.size 3 (ItV.v (⟨⟨false, true, [c + 1, 122]⟩, some ⟨wr.heap.size, 0, none⟩, 2⟩ : ItV)) [c + 1, 122] from OwnI.later (own_lit na HS.out.it.bel.size (by simp)) bb)
        have D4 := Lib.hid (show ∀ q, (ItV.v (⟨⟨false, true, [c + 1, 122]⟩, some ⟨wr.heap.size, 0, none⟩, 2⟩ : ItV)).ownBlock = some q → (Value.slice Ac cs.length cc).ownBlock ≠ some q from lits_ne HS.out.co (Nat.le_refl _))
        have R4 : Hid (Src Tryd.prog 3 35 (.slice (some ⟨wa.heap.size, 0, none⟩) 1 1) 1 [.bool false, .bool true, .slice (some ⟨wr.heap.size, 0, none⟩) 2 2] (wa.alloc o)) := Lib.hid (src_item (by rw [ho]; exact blk_alloc_new _ _))
        have hsz : wa.heap.size = wr.heap.size + 1 := by rw [hwa]; simp
        rw [hsz] at R4
        subst ho
        subst hwa
        clear bb bw ba na hsz
        go_wp2_with (first | (at_builtin; refine own_append (o := ⟨some 39, _, _, _, _, _⟩) rfl (.tmp 33) (.tmp 38) 35 35 rfl w.heap.size 43 iT _ 3 32 Tryd.underlying35 hiT hzT hsT hbT rfl (by decide) (.slice Al xs.length cl) xs.length _ rfl S4.out.it.e (.slice (some ⟨wr.heap.size + 1, 0, none⟩) 1 1) rfl 1 _ R4.out (by unfold maxLen; omega) (by omega) S4.out.it.bel.size ?_; intro v5 w5 O5 G5 V5; have S5 := CwS.item (x := (⟨⟨false, true, [c + 1, 122]⟩, some ⟨wr.heap.size, 0, none⟩, 2⟩ : ItV)) S4.out X4.out D4.out G5 O5; obtain ⟨A5, c5, hv5⟩ := own_is O5; subst hv5; have S6 := S5.below ((Below.refl _ _).alloc (Nat.le_refl _) (.cells #[Value.int .i64 c] 3)); have N6 := blk_alloc_new w5 (.cells #[Value.int .i64 c] 3)) | (at_builtin; refine own_append (o := ⟨some 65, _, _, _, _, _⟩) rfl (.tmp 62) (.tmp 64) 41 41 rfl w.heap.size 3 iI _ 1 8 Tryd.underlying41 hiI hzI hsI hbI rfl (by decide) (.slice Ac cs.length cc) cs.length _ rfl S6.co (.slice (some ⟨w5.heap.size, 0, none⟩) 1 1) rfl 1 _ (src_one Tryd.underlying41 rfl (by rw [World.cell?]; simp only [N6]; rfl)) (by unfold maxLen; omega) (by omega) S6.it.bel.size ?_; intro v7 w7 O7 G7 V7; have S7 := CwS.code S6 G7 (ownI_push O7) V7; obtain ⟨A7, c7, hv7⟩ := own_is O7; subst hv7))
        go_roundw
        case rel =>
          refine ⟨i + 1, xs ++ [(⟨⟨false, true, [c + 1, 122]⟩, some ⟨wr.heap.size, 0, none⟩, 2⟩ : ItV)], hlt, hlt8, by go_num, by rw [List.length_append, List.length_singleton, HXL.out], ?_, ?_⟩
          · rw [HTK.out]
            have e : csW (List.map kW (List.take i l) ++ [k]) = cs ++ [c] := by unfold csW; rw [List.map_append, HCS.out, HC0.out.1]; rfl
            rw [e]
            exact S7
          · rw [HTK.out, List.map_append, HP.out]
            have e : itemW k = ItV.p (⟨⟨false, true, [c + 1, 122]⟩, some ⟨wr.heap.size, 0, none⟩, 2⟩ : ItV) := by
              have h1 := HC0.out.2
              unfold itemW
              rw [if_neg (by omega)]
              rw [if_neg (by omega)]
              rw [if_neg (by omega)]
              rw [HC0.out.1]
            unfold itsW
            simp only [List.map_append, List.map_cons, List.map_nil, e]
        case measure => simp [intOf]; omega
    · have g12 : (i < n → ¬ i < 8) := fun h1 h2 => hgo ⟨h1, h2⟩
      obtain ⟨ks, hks⟩ : ∃ ks, ks = (l.take i).map kW := ⟨_, rfl⟩
      have hkl : ks.length = i := by rw [hks, List.length_map, List.length_take, ← HN.out]; omega
      have HP := HP
      have HCS := HCS
      rw [← hks] at HP HCS
      have G0 := Lib.hid (goti_of HS.out.it.e HS.out.it.f)
      rw [HP.out] at G0
      obtain ⟨A', c', ea, hcc, hra⟩ := HS.out.co.reads
      injection ea with ea _ ea2
      subst ea
      subst ea2
      have HR0 := Lib.hid hra
      have HSM := Lib.hid (small_w ks (by omega))
      have hcl' : cs.length ≤ 8 := by have := HCL.out; omega
      have hxl' : xs.length ≤ 8 := by have := HXL.out; omega
      have hil : (itsW ks).length = xs.length := by unfold itsW; rw [List.length_map, hkl, HXL.out]
      have CS := Lib.hid (fun (wx : World) (hb : Below wr.heap.size wr wx) (B : Option Addr) (d : Nat) (ys : List Int) (hr : Reads wx B ys) (hy : ys.length ≤ 1000000) => starts_calls (itsW ks) (.slice Al xs.length cl) B d ys wx (G0.out.below hb) hr HSM.out hy)
      have CE := Lib.hid (fun (wx : World) (hb : Below wr.heap.size wr wx) (B : Option Addr) (d : Nat) (ys : List Int) (hr : Reads wx B ys) (hy : ys.length ≤ 1000000) (hd : ys.length ≤ d) => ends_calls (itsW ks) (.slice Al xs.length cl) B d ys wx (G0.out.below hb) hr HSM.out hy hd)
      have C1 := Lib.hid (CS.out wr (Below.refl _ _) Ac cc cs HR0.out (by omega))
      have e1 : startsV (itsW ks) cs = true := by rw [HCS.out]; exact starts_e ks
      rw [e1] at C1
      have HCC := Lib.hid hcc
      have HKL := Lib.hid (And.intro hks (And.intro hkl hil))
      clear hra hcc e1 hks hkl hil
      by_cases hlt : i < n
      · have g1 : decide (i < n) = true := by simpa using hlt
        have g2 : decide (i < 8) = false := decide_eq_false (g12 hlt)
        have g3 : decide ((i : Int) < 8) = false := decide_eq_false (by have := g12 hlt; omega)
        clear g12 hlt
        go_wp2_with (fail)
        refine C1.out.mono ?_
        rintro e w1 ⟨rfl, b1⟩
        have B1 := Lib.hid b1
        have C2 := Lib.hid (CE.out w1 B1.out Ac cc cs (HR0.out.later B1.out) (by omega) HCC.out)
        have e2 : endsV (itsW ks) cs = true := by rw [HCS.out]; exact ends_w ks []
        rw [e2] at C2
        clear C1 b1 e2
        go_wp2_with (fail)
        refine C2.out.mono ?_
        rintro e w2 ⟨rfl, b2⟩
        have B2 := Lib.hid (B1.out.trans (b2.mono B1.out.size))
        have S2 := Lib.hid (src_ints (HR0.out.later B2.out) HCC.out)
        clear C2 b2 B1
        go_wp2_with (first
          | (at_builtin; refine own_append_g (o := ⟨some 79, _, _, _, _, _⟩) (by rfl) (.const (.slice none 0 0)) (.tmp 78) 41 41 rfl wr.heap.size 3 iI _ 1 8 Tryd.underlying41 hiI hzI hsI hbI rfl (by decide) (.slice none 0 0) 0 [] rfl (World.ownsRow_nil _ _ _ _) (.slice Ac cs.length cc) rfl cs.length _ S2.out (by unfold maxLen; omega) (by omega) B2.out.size ?_; intro v5 w5 O5 G5 V5; rw [Nat.zero_add, List.nil_append] at O5; obtain ⟨A5, c5, hv5⟩ := own_is O5; subst hv5; have B5 := Lib.hid (B2.out.grown G5 B2.out.size (fun q hq => by cases hq)); have I6 := Lib.hid (OwnI.later (show OwnI w5 wr.heap.size 3 (.slice A5 cs.length c5) cs from O5) ((Below.refl _ _).alloc (Nat.le_refl _) (.cells #[Value.int .i64 5] 3))); have N6 := blk_alloc_new w5 (.cells #[Value.int .i64 5] 3); have B6 := Lib.hid (B5.out.alloc B5.out.size (.cells #[Value.int .i64 5] 3)); clear O5 G5 V5)
          | (at_builtin; refine own_append_g (o := ⟨some 81, _, _, _, _, _⟩) (by rfl) (.tmp 79) (.tmp 80) 41 41 rfl wr.heap.size 3 iI _ 1 8 Tryd.underlying41 hiI hzI hsI hbI rfl (by decide) (.slice A5 cs.length c5) cs.length _ rfl I6.out (.slice (some ⟨w5.heap.size, 0, none⟩) 1 1) rfl 1 _ (src_one Tryd.underlying41 rfl (by rw [World.cell?]; simp only [N6]; rfl)) (by unfold maxLen; omega) (by omega) B6.out.size ?_; intro v7 w7 O7 G7 V7; obtain ⟨A7, c7, hv7⟩ := own_is O7; subst hv7; have B7 := Lib.hid (B6.out.grown G7 B6.out.size (fun q hq => (own_block_lt I6.out hq).1)); have I7 := Lib.hid (show OwnI w7 wr.heap.size 3 (.slice A7 (cs.length + 1) c7) (cs ++ [5]) from ownI_push O7); clear O7 G7 V7 N6))
        have R7 : Reads w7 A7 (cs ++ [5]) := by
          obtain ⟨A', c', ea, _, hra⟩ := I7.out.reads
          injection ea with ea
          rw [ea]; exact hra
        have C3 := Lib.hid (CS.out w7 B7.out A7 c7 (cs ++ [5]) R7 (by rw [List.length_append, List.length_singleton]; omega))
        have e3 : startsV (itsW ks) (cs ++ [5]) = true := by rw [HCS.out]; exact starts_w ks [5]
        rw [e3, List.length_append, List.length_singleton] at C3
        clear e3 R7 I7 I6 B5 B6 S2 B2
        refine C3.out.mono ?_
        rintro e w8 ⟨rfl, b8⟩
        have B8 := Lib.hid (B7.out.trans (b8.mono B7.out.size))
        clear C3 b8 B7
        obtain ⟨w9, hw9⟩ : ∃ w9, w9 = w8.alloc (.cells #[Value.int .i64 5] 3) := ⟨_, rfl⟩
        have b9 : Below w8.heap.size w8 w9 := by rw [hw9]; exact (Below.refl _ _).alloc (Nat.le_refl _) _
        have B9 := Lib.hid (B8.out.trans (b9.mono B8.out.size))
        have I9 := Lib.hid (show OwnI w9 wr.heap.size 3 (.slice (some ⟨w8.heap.size, 0, none⟩) 1 1) [5] from own_single (by rw [hw9]; exact blk_alloc_new _ _) B8.out.size)
        have S9 := Lib.hid (src_ints (HR0.out.later B9.out) HCC.out)
        subst hw9
        clear b9
        go_wp2_with (at_builtin; refine own_append_g (o := ⟨some 89, _, _, _, _, _⟩) (by rfl) (.tmp 87) (.tmp 88) 41 41 rfl wr.heap.size 3 iI _ 1 8 Tryd.underlying41 hiI hzI hsI hbI rfl (by decide) (.slice (some ⟨w8.heap.size, 0, none⟩) 1 1) 1 _ rfl I9.out (.slice Ac cs.length cc) rfl cs.length _ S9.out (by unfold maxLen; omega) (by omega) B9.out.size ?_; intro v10 w10 O10 G10 V10; obtain ⟨A10, c10, hv10⟩ := own_is O10; subst hv10)
        have B10 := Lib.hid (B9.out.grown G10 B9.out.size (fun q hq => (own_block_lt I9.out hq).1))
        have el : (5 :: cs).length = 1 + cs.length := by rw [List.length_cons]; omega
        have I10 : OwnI w10 wr.heap.size 3 (.slice A10 (1 + cs.length) c10) (5 :: cs) := by
          unfold OwnI
          rw [el]
          exact O10
        obtain ⟨A', c', ea, hcc10, hra10⟩ := I10.reads
        injection ea with ea _ ea2
        subst ea2
        rw [← ea] at hra10
        have C4 := Lib.hid (CE.out w10 B10.out A10 c10 (5 :: cs) hra10 (by rw [List.length_cons]; omega) hcc10)
        have e4 : endsV (itsW ks) (5 :: cs) = true := by rw [HCS.out]; exact ends_w ks [5]
        rw [e4, el] at C4
        clear e4 el hra10 hcc10 I10 I9 S9 O10 G10 V10 B8 B9 ea
        refine C4.out.mono ?_
        rintro e w11 ⟨rfl, b11⟩
        have B11 := Lib.hid (B10.out.trans (b11.mono B10.out.size))
        clear C4 b11 B10
        by_cases hx0 : xs.length = 0
        · have g5 : ((xs.length : Int) == 0) = true := by rw [hx0]; rfl
          go_wp2_with (fail)
          refine (CA.out _ (HS.out.it.bel.trans (B11.out.mono HS.out.it.bel.size))).mono ?_
          rintro e w12 ⟨rfl, b12⟩
          have B12 := Lib.hid ((HS.out.it.bel.trans (B11.out.mono HS.out.it.bel.size)).trans (b12.mono (HS.out.it.bel.trans (B11.out.mono HS.out.it.bel.size)).size))
          clear b12
          go_wp2_with (fail)
          go_ret
          exact ⟨rfl, B12.out⟩
        have g5 : ((xs.length : Int) == 0) = false := beq_eq_false_iff_ne.2 (by omega)
        obtain ⟨_, hki, hil⟩ := HKL.out
        have hxc : xs.length = cs.length := by rw [HXL.out, HCL.out]
        have HXC := Lib.hid hxc
        obtain ⟨m, hm⟩ : ∃ m, m = cs.length - 1 := ⟨_, rfl⟩
        have hmI : (cs.length : Int) - 1 = (m : Nat) := by omega
        have hml : m ≤ cs.length := by omega
        have FS2 : ∀ w : World, (Instr.slice 41 (.slice Ac cs.length cc) none (some (.int .i64 ((cs.length : Int) - 1))) none).run Tryd.prog w = .ok (.slice Ac m cc) w := fun w => by
          rw [hmI]
          exact run_sliced_to (P := Tryd.prog) Tryd.underlying41 (e := 3) (fun w => rfl) Ac cs.length cc m (by have := HCC.out; omega) .i64 w
        obtain ⟨V1, hV1⟩ : ∃ V1, V1 = (if cc = 1 then Ac else Ac.map (·.add (1 * 1))) := ⟨_, rfl⟩
        have FS3 : ∀ w : World, (Instr.slice 41 (.slice Ac cs.length cc) (some (.int .i64 1)) none none).run Tryd.prog w = .ok (.slice V1 m (cc - 1)) w := fun w => by
          have := run_sliced_from (P := Tryd.prog) Tryd.underlying41 (e := 3) (fun w => rfl) Ac cs.length cc 1 (by omega) HCC.out .i64 w
          rw [hV1, hm]
          exact this
        have C5 := Lib.hid (CS.out w11 B11.out Ac cc (cs.take m) ((HR0.out.later B11.out).take m) (by rw [List.length_take]; omega))
        have e5 : startsV (itsW ks) (cs.take m) = false := starts_short (by rw [List.length_take, hil]; omega)
        have C6 := Lib.hid (fun (wx : World) (hb : Below wr.heap.size wr wx) => CE.out wx hb V1 (cc - 1) (cs.drop 1) (by rw [hV1]; exact reads_sliced (HR0.out.later hb) (by omega) HCC.out) (by rw [List.length_drop]; omega) (by rw [List.length_drop]; have := HCC.out; omega))
        have e6 : endsV (itsW ks) (cs.drop 1) = false := ends_short (by rw [List.length_drop, hil]; omega)
        rw [e5, List.length_take, Nat.min_eq_left hml] at C5
        rw [e6, List.length_drop, ← hm] at C6
        have hcs0 : 0 < cs.length := by omega
        have hxs0 : 0 < xs.length := by omega
        clear hki hil e5 e6 hmI hml hV1 hm hxc hx0
        go_wp2_with (fail)
        refine C5.out.mono ?_
        rintro e w12 ⟨rfl, b12⟩
        have B12 := Lib.hid (B11.out.trans (b12.mono B11.out.size))
        clear C5 b12 B11
        go_wp2_with (fail)
        refine (C6.out _ B12.out).mono ?_
        rintro e w13 ⟨rfl, b13⟩
        have B13 := Lib.hid (B12.out.trans (b13.mono B12.out.size))
        clear C6 b13 B12 FS2 FS3
        obtain ⟨j, hj, hjm, cpj⟩ := place_nat bad xs.length hxs0 (by omega)
        clear hjm
        have CPJ := Lib.hid cpj
        have S13 := Lib.hid (src_ints (HR0.out.later B13.out) HCC.out)
        clear cpj
        go_wp2_with (fail)
        refine (CPJ.out _).mono ?_
        rintro e w14 ⟨rfl, hw14⟩
        subst hw14
        clear CPJ
        go_wp2_with (at_builtin; refine own_append (o := ⟨some 115, _, _, _, _, _⟩) rfl (.const (.slice none 0 0)) (.tmp 114) 41 41 rfl wr.heap.size 3 iI _ 1 8 Tryd.underlying41 hiI hzI hsI hbI rfl (by decide) (.slice none 0 0) 0 [] rfl (World.ownsRow_nil _ _ _ _) (.slice Ac cs.length cc) rfl cs.length _ S13.out (by unfold maxLen; omega) (by omega) B13.out.size ?_; intro v15 w15 O15 G15 V15; rw [Nat.zero_add, List.nil_append] at O15; obtain ⟨A15, c15, hv15⟩ := own_is O15; subst hv15; have B15 := Lib.hid (B13.out.grown G15 B13.out.size (fun q hq => by cases hq)); have I15 := Lib.hid (show OwnI w15 wr.heap.size 3 (.slice A15 cs.length c15) cs from O15); clear O15 G15 V15 S13; obtain ⟨g, cp, ev, _, hg0, hgl, hcel, hfz, hset⟩ := OwnI.block I15.out hcs0; injection ev with ev1 _ ev3; subst ev1; subst ev3; have hj2 : j < cs.length := (by have := HXC.out; omega); have y15 := hcel j hj2; have HFZ := Lib.hid hfz; have HSET := Lib.hid (hset j 65 hj2); have HG0 := Lib.hid hg0; clear hcel hset hfz hg0 hgl; have fz15 := HFZ.out)
        obtain ⟨w16, hw16⟩ : ∃ w16, w16 = w15.setCell ⟨g, j, none⟩ (.int .i64 65) := ⟨_, rfl⟩
        have I16 := Lib.hid (show OwnI w16 wr.heap.size 3 (.slice (some ⟨g, 0, none⟩) cs.length c15) (cs.set j 65) by rw [hw16]; exact HSET.out.1)
        have B16 := Lib.hid (show Below wr.heap.size wr w16 by rw [hw16]; exact B15.out.setCell (p := ⟨g, j, none⟩) HG0.out _)
        have HW16 := Lib.hid hw16
        obtain ⟨_, hki, hil⟩ := HKL.out
        obtain ⟨q, hq⟩ : ∃ q, ks[j]? = some q := ⟨_, List.getElem?_eq_getElem (by have := HXL.out; omega)⟩
        have hit : (itsW ks)[j]? = some (itemW q) := by unfold itsW; rw [List.getElem?_map, hq]; rfl
        obtain ⟨A', c', ea, _, ra⟩ := G0.out.out
        injection ea with ea _ _
        obtain ⟨qk, ok, Bk, ck, eA, hqk, d0, d1, _, _, _⟩ := ra j _ hit
        rw [← ea] at eA
        subst eA
        have HQ := Lib.hid hq
        have sb := starts_bad ks j q hq
        have eb := ends_bad ks j q hq
        rw [← HCS.out] at sb eb
        obtain ⟨X, hX⟩ : ∃ X, X = itemW q := ⟨_, rfl⟩
        rw [← hX] at d0 d1 sb eb
        have YC := Lib.hid (fun (wx : World) (hb : Below wr.heap.size wr wx) => (hb.cell (p := ⟨qk, ok + j * 3, none⟩) hqk).trans d0)
        have d1' := (B16.out.cell (p := ⟨qk, ok + j * 3 + 1, none⟩) hqk).trans d1
        have SB := Lib.hid (And.intro sb eb)
        have hxl2 : xs.length ≤ 8 := hxl'
        have HIA : ∀ w : World, (Instr.indexAt 35 (.slice (some ⟨qk, ok, none⟩) xs.length cl) (.int .i64 (j : Nat))).run Tryd.prog w = .ok (.pointer (some ⟨qk, ok + j * 3, none⟩)) w := fun w => by
          rw [run_indexAt_slice (h := Tryd.underlying35), if_pos (by omega)]
          have e1 : (⟨qk, ok, none⟩ : Addr).add (j * 3) = ⟨qk, ok + j * 3, none⟩ := by unfold Addr.add; split <;> simp_all
          show Result.ok (Value.pointer (some ((⟨qk, ok, none⟩ : Addr).add (((j : Nat) : Int).toNat * 3)))) w = _
          rw [Int.toNat_natCast, e1]
        clear hw16 hki hil hq hit ea ra hqk d0 d1 sb eb hX y15 fz15 hiT hzT hsT hbT hiI hzI hsI hbI
        go_upto_region 26 with (fail)
        rw [← HW16.out]
        obtain ⟨V, hV⟩ : ∃ V, V = Value.slice (some ⟨qk, ok, none⟩) xs.length cl := ⟨_, rfl⟩
        rw [← hV] at HIA ⊢
        have HV := Lib.hid hV
        clear hV
        obtain ⟨xa, hxa⟩ : ∃ xa, xa = X.any := ⟨_, rfl⟩
        obtain ⟨xn, hxn⟩ : ∃ xn, xn = X.neg := ⟨_, rfl⟩
        rw [← hxa] at YC SB
        rw [← hxn] at d1'
        have HB := Lib.hid (show badW X = if xn = true then 122 else 65 by rw [hxn]; rfl)
        clear hxa hxn
        cases xn with
        | false =>
          have R16 := Lib.hid (show Reads w16 (some ⟨g, 0, none⟩) (cs.set j 65) by
            obtain ⟨A', c', ea, _, hra⟩ := I16.out.reads
            injection ea with ea
            rw [ea]; exact hra)
          have C7 := Lib.hid (fun (wx : World) (hb : Below w16.heap.size w16 wx) => CS.out wx (B16.out.trans (hb.mono B16.out.size)) (some ⟨g, 0, none⟩) c15 (cs.set j 65) (R16.out.later hb) (by rw [List.length_set]; omega))
          have hcp : cs.length ≤ c15 := by
            obtain ⟨A', c', ea, hh, _⟩ := I16.out.reads
            simp only [Value.slice.injEq] at ea
            rw [ea.2.2]
            rw [List.length_set] at hh
            exact hh
          have C8 := Lib.hid (fun (wx : World) (hb : Below w16.heap.size w16 wx) => CE.out wx (B16.out.trans (hb.mono B16.out.size)) (some ⟨g, 0, none⟩) c15 (cs.set j 65) (R16.out.later hb) (by rw [List.length_set]; omega) (by rw [List.length_set]; exact hcp))
          rw [show startsV (itsW ks) (cs.set j 65) = xa by have h := SB.out.1; rw [HB.out] at h; exact h, List.length_set, ← HV.out] at C7
          rw [show endsV (itsW ks) (cs.set j 65) = xa by have h := SB.out.2; rw [HB.out] at h; exact h, List.length_set, ← HV.out] at C8
          have BZ := B16
          clear hcp
          go_wp2_with (fail)
          rw [HIA]
          go_upto_region 28 with (fail)
          have y0 := YC.out w16 BZ.out
          clear d1'
          cases xa with
          | false =>
            refine Own.region_mix (CR [7, 17] [(7, ⟨qk, ok + j * 3, none⟩, .bool false), (17, ⟨qk, ok + j * 3, none⟩, .bool false)]) [7, 17] [0, 0, 3, 0, 0, 24, 56, 120, 255, 511, 1023, 1023, 4095, 1023, 1023, 25599, 58367, 123903, 262143, 524287, 1048575, 2097151, 4194303, 8388607] (Own.Ord.run [(0, true), (1, true), (3, true), (4, true), (5, true), (6, true), (7, true), (2, false), (8, true), (9, true), (10, true), (11, true), (13, true), (14, true), (15, true), (16, true), (17, true), (12, false), (18, true), (19, true), (20, true), (21, false), (22, true), (23, true)] .done) (by kernel_rfl) (by kernel_rfl) (fun dst v c a w h => by cases dst <;> exact h) (fun x hx w => CR.off x hx w) ?_
            simp only [Own.Ord.run]
            repeat (refine Own.st_blind _ rfl rfl (CR.off _ (by decide) _) ?_; go_big_quiet_step (fail); refine wpQuiet_nil ?_)
            refine Own.st_load _ rfl rfl (.bool false) (fun w' hw' => ?_) ?_ ?_
            · have hg0 := hw'.get (a := ⟨qk, ok + j * 3, none⟩) (v := .bool false) (by decide) (by simp)
              go_simp
            · intro _ q hq e; simp only [List.mem_cons, List.mem_nil_iff, or_false] at hq; rcases hq with rfl | rfl <;> first | assumption | (simp at e; done) | (go_simp; done) | (simp; done)
            simp only [Act.put, List.setIfInBounds_toArray, List.set_cons_succ, List.set_cons_zero]
            refine Own.st_do _ rfl rfl (fun K hK => ?_)
            go_simp
            refine (C7.out _ ((Below.refl _ _).drew)).mono ?_
            rintro e u1 ⟨rfl, bu1⟩
            have BU1 := Lib.hid (show Below w16.heap.size w16 u1 by have h0 : Below w16.heap.size w16 (World.drew w16) := (Below.refl _ _).drew; exact h0.trans (bu1.mono h0.size))
            have y1 := YC.out u1 (BZ.out.trans (BU1.out.mono BZ.out.size))
            clear bu1
            refine hK _ _ (fun q hq hd _ => ?_) ?_
            · intro _ q hq e; simp only [List.mem_cons, List.mem_nil_iff, or_false] at hq; rcases hq with rfl | rfl <;> first | assumption | (simp at e; done) | (go_simp; done) | (simp; done)
            clear hK K
            repeat (refine Own.st_blind _ rfl rfl (CR.off _ (by decide) _) ?_; go_big_quiet_step (fail); refine wpQuiet_nil ?_)
            refine Own.st_load _ rfl rfl (.bool false) (fun w' hw' => ?_) ?_ ?_
            · have hg0 := hw'.get (a := ⟨qk, ok + j * 3, none⟩) (v := .bool false) (by decide) (by simp)
              go_simp
            · intro _ q hq e; simp only [List.mem_cons, List.mem_nil_iff, or_false] at hq; rcases hq with rfl | rfl <;> first | assumption | (simp at e; done) | (go_simp; done) | (simp; done)
            simp only [Act.put, List.setIfInBounds_toArray, List.set_cons_succ, List.set_cons_zero]
            refine Own.st_do _ rfl rfl (fun K hK => ?_)
            go_simp
            refine (C8.out u1 BU1.out).mono ?_
            rintro e u2 ⟨rfl, bu2⟩
            have BU2 := Lib.hid (show Below w16.heap.size w16 u2 from BU1.out.trans (bu2.mono BU1.out.size))
            have y2 := YC.out u2 (BZ.out.trans (BU2.out.mono BZ.out.size))
            clear bu2
            refine hK _ _ (fun q hq hd _ => ?_) ?_
            · intro _ q hq e; simp only [List.mem_cons, List.mem_nil_iff, or_false] at hq; rcases hq with rfl | rfl <;> first | assumption | (simp at e; done) | (go_simp; done) | (simp; done)
            clear hK K
            repeat (refine Own.st_blind _ rfl rfl (CR.off _ (by decide) _) ?_; go_big_quiet_step (fail); refine wpQuiet_nil ?_)
            refine Own.st_do _ rfl rfl (fun K hK => ?_)
            go_simp
            refine (CA.out u2 (HS.out.it.bel.trans ((BZ.out.trans (BU2.out.mono BZ.out.size)).mono HS.out.it.bel.size))).mono ?_
            rintro e u3 ⟨rfl, bu3⟩
            have BU3 := Lib.hid (show Below w.heap.size w u3 by have h0 := (HS.out.it.bel.trans ((BZ.out.trans (BU2.out.mono BZ.out.size)).mono HS.out.it.bel.size)); exact h0.trans (bu3.mono h0.size))
            clear bu3
            refine hK _ _ (fun q hq hd => by rw [(by decide : ∀ x ∈ [7, 17], Own.dep [0, 0, 3, 0, 0, 24, 56, 120, 255, 511, 1023, 1023, 4095, 1023, 1023, 25599, 58367, 123903, 262143, 524287, 1048575, 2097151, 4194303, 8388607] 21 x = true) q hq] at hd; cases hd) ?_
            clear hK K
            repeat (refine Own.st_blind _ rfl rfl (CR.off _ (by decide) _) ?_; go_big_quiet_step (fail); refine wpQuiet_nil ?_)
            refine Own.mix_done ?_
            go_wp2_with (fail)
            go_ret
            first | exact ⟨rfl, BU3.out⟩ | exact ⟨rfl, BU3.out.drew⟩
          | true =>
            refine Own.region_mix (CR [7, 17] [(7, ⟨qk, ok + j * 3, none⟩, .bool true), (17, ⟨qk, ok + j * 3, none⟩, .bool true)]) [7, 17] [0, 0, 3, 0, 0, 24, 56, 120, 255, 511, 1023, 1023, 4095, 1023, 1023, 25599, 58367, 123903, 262143, 524287, 1048575, 2097151, 4194303, 8388607] (Own.Ord.run [(0, true), (1, true), (3, true), (4, true), (5, true), (6, true), (7, true), (2, false), (8, true), (9, true), (10, true), (11, true), (13, true), (14, true), (15, true), (16, true), (17, true), (12, false), (18, true), (19, true), (20, true), (21, false), (22, true), (23, true)] .done) (by kernel_rfl) (by kernel_rfl) (fun dst v c a w h => by cases dst <;> exact h) (fun x hx w => CR.off x hx w) ?_
            simp only [Own.Ord.run]
            repeat (refine Own.st_blind _ rfl rfl (CR.off _ (by decide) _) ?_; go_big_quiet_step (fail); refine wpQuiet_nil ?_)
            refine Own.st_load _ rfl rfl (.bool true) (fun w' hw' => ?_) ?_ ?_
            · have hg0 := hw'.get (a := ⟨qk, ok + j * 3, none⟩) (v := .bool true) (by decide) (by simp)
              go_simp
            · intro _ q hq e; simp only [List.mem_cons, List.mem_nil_iff, or_false] at hq; rcases hq with rfl | rfl <;> first | assumption | (simp at e; done) | (go_simp; done) | (simp; done)
            simp only [Act.put, List.setIfInBounds_toArray, List.set_cons_succ, List.set_cons_zero]
            refine Own.st_do _ rfl rfl (fun K hK => ?_)
            go_simp
            refine (C7.out _ ((Below.refl _ _).drew)).mono ?_
            rintro e u1 ⟨rfl, bu1⟩
            have BU1 := Lib.hid (show Below w16.heap.size w16 u1 by have h0 : Below w16.heap.size w16 (World.drew w16) := (Below.refl _ _).drew; exact h0.trans (bu1.mono h0.size))
            have y1 := YC.out u1 (BZ.out.trans (BU1.out.mono BZ.out.size))
            clear bu1
            refine hK _ _ (fun q hq hd _ => ?_) ?_
            · intro _ q hq e; simp only [List.mem_cons, List.mem_nil_iff, or_false] at hq; rcases hq with rfl | rfl <;> first | assumption | (simp at e; done) | (go_simp; done) | (simp; done)
            clear hK K
            repeat (refine Own.st_blind _ rfl rfl (CR.off _ (by decide) _) ?_; go_big_quiet_step (fail); refine wpQuiet_nil ?_)
            refine Own.st_load _ rfl rfl (.bool true) (fun w' hw' => ?_) ?_ ?_
            · have hg0 := hw'.get (a := ⟨qk, ok + j * 3, none⟩) (v := .bool true) (by decide) (by simp)
              go_simp
            · intro _ q hq e; simp only [List.mem_cons, List.mem_nil_iff, or_false] at hq; rcases hq with rfl | rfl <;> first | assumption | (simp at e; done) | (go_simp; done) | (simp; done)
            simp only [Act.put, List.setIfInBounds_toArray, List.set_cons_succ, List.set_cons_zero]
            refine Own.st_do _ rfl rfl (fun K hK => ?_)
            go_simp
            refine (C8.out u1 BU1.out).mono ?_
            rintro e u2 ⟨rfl, bu2⟩
            have BU2 := Lib.hid (show Below w16.heap.size w16 u2 from BU1.out.trans (bu2.mono BU1.out.size))
            have y2 := YC.out u2 (BZ.out.trans (BU2.out.mono BZ.out.size))
            clear bu2
            refine hK _ _ (fun q hq hd _ => ?_) ?_
            · intro _ q hq e; simp only [List.mem_cons, List.mem_nil_iff, or_false] at hq; rcases hq with rfl | rfl <;> first | assumption | (simp at e; done) | (go_simp; done) | (simp; done)
            clear hK K
            repeat (refine Own.st_blind _ rfl rfl (CR.off _ (by decide) _) ?_; go_big_quiet_step (fail); refine wpQuiet_nil ?_)
            refine Own.st_do _ rfl rfl (fun K hK => ?_)
            go_simp
            refine (CA.out u2 (HS.out.it.bel.trans ((BZ.out.trans (BU2.out.mono BZ.out.size)).mono HS.out.it.bel.size))).mono ?_
            rintro e u3 ⟨rfl, bu3⟩
            have BU3 := Lib.hid (show Below w.heap.size w u3 by have h0 := (HS.out.it.bel.trans ((BZ.out.trans (BU2.out.mono BZ.out.size)).mono HS.out.it.bel.size)); exact h0.trans (bu3.mono h0.size))
            clear bu3
            refine hK _ _ (fun q hq hd => by rw [(by decide : ∀ x ∈ [7, 17], Own.dep [0, 0, 3, 0, 0, 24, 56, 120, 255, 511, 1023, 1023, 4095, 1023, 1023, 25599, 58367, 123903, 262143, 524287, 1048575, 2097151, 4194303, 8388607] 21 x = true) q hq] at hd; cases hd) ?_
            clear hK K
            repeat (refine Own.st_blind _ rfl rfl (CR.off _ (by decide) _) ?_; go_big_quiet_step (fail); refine wpQuiet_nil ?_)
            refine Own.mix_done ?_
            go_wp2_with (fail)
            go_ret
            first | exact ⟨rfl, BU3.out⟩ | exact ⟨rfl, BU3.out.drew⟩
        | true =>
          have y16 : w16.cell? ⟨g, j, none⟩ = some (.int .i64 65) := by
            obtain ⟨g', cpp, ev, _, _, _, hcel, _, _⟩ := OwnI.block I16.out (by rw [List.length_set]; exact hcs0)
            injection ev with ev1 _ _
            injection ev1 with ev1
            injection ev1 with ev1 _ _
            subst ev1
            have := hcel j (by rw [List.length_set]; exact hj2)
            rw [List.getD_eq_getElem?_getD, List.getElem?_set_self hj2] at this
            exact this
          have fz16 : ∀ k, w16.frozen? ⟨g, k, none⟩ = false := by
            obtain ⟨g', cpp, ev, _, _, _, _, hfz, _⟩ := OwnI.block I16.out (by rw [List.length_set]; exact hcs0)
            injection ev with ev1 _ _
            injection ev1 with ev1
            injection ev1 with ev1 _ _
            subst ev1
            exact hfz
          obtain ⟨w17, hw17⟩ : ∃ w17, w17 = w16.setCell ⟨g, j, none⟩ (.int .i64 122) := ⟨_, rfl⟩
          have I17 := Lib.hid (show OwnI w17 wr.heap.size 3 (.slice (some ⟨g, 0, none⟩) cs.length c15) (cs.set j 122) by
            obtain ⟨g', cpp, ev, _, _, _, _, _, hset⟩ := OwnI.block I16.out (by rw [List.length_set]; exact hcs0)
            injection ev with ev1 _ _
            injection ev1 with ev1
            injection ev1 with ev1 _ _
            subst ev1
            have := (hset j 122 (by rw [List.length_set]; exact hj2)).1
            rw [List.set_set] at this
            rw [hw17]
            exact this)
          have B17 := Lib.hid (show Below wr.heap.size wr w17 by rw [hw17]; exact B16.out.setCell (p := ⟨g, j, none⟩) HG0.out _)
          have HW17 := Lib.hid hw17
          have R17 := Lib.hid (show Reads w17 (some ⟨g, 0, none⟩) (cs.set j 122) by
            obtain ⟨A', c', ea, _, hra⟩ := I17.out.reads
            injection ea with ea
            rw [ea]; exact hra)
          have C7 := Lib.hid (fun (wx : World) (hb : Below w17.heap.size w17 wx) => CS.out wx (B17.out.trans (hb.mono B17.out.size)) (some ⟨g, 0, none⟩) c15 (cs.set j 122) (R17.out.later hb) (by rw [List.length_set]; omega))
          have hcp : cs.length ≤ c15 := by
            obtain ⟨A', c', ea, hh, _⟩ := I17.out.reads
            simp only [Value.slice.injEq] at ea
            rw [ea.2.2]
            rw [List.length_set] at hh
            exact hh
          have C8 := Lib.hid (fun (wx : World) (hb : Below w17.heap.size w17 wx) => CE.out wx (B17.out.trans (hb.mono B17.out.size)) (some ⟨g, 0, none⟩) c15 (cs.set j 122) (R17.out.later hb) (by rw [List.length_set]; omega) (by rw [List.length_set]; exact hcp))
          rw [show startsV (itsW ks) (cs.set j 122) = xa by have h := SB.out.1; rw [HB.out] at h; exact h, List.length_set, ← HV.out] at C7
          rw [show endsV (itsW ks) (cs.set j 122) = xa by have h := SB.out.2; rw [HB.out] at h; exact h, List.length_set, ← HV.out] at C8
          have BZ := B17
          clear hw17 hcp
          go_upto_region 28 with (fail)
          rw [← HW17.out]
          have y0 := YC.out w17 BZ.out
          clear HW17 y16 fz16 d1'
          cases xa with
          | false =>
            refine Own.region_mix (CR [7, 17] [(7, ⟨qk, ok + j * 3, none⟩, .bool false), (17, ⟨qk, ok + j * 3, none⟩, .bool false)]) [7, 17] [0, 0, 3, 0, 0, 24, 56, 120, 255, 511, 1023, 1023, 4095, 1023, 1023, 25599, 58367, 123903, 262143, 524287, 1048575, 2097151, 4194303, 8388607] (Own.Ord.run [(0, true), (1, true), (3, true), (4, true), (5, true), (6, true), (7, true), (2, false), (8, true), (9, true), (10, true), (11, true), (13, true), (14, true), (15, true), (16, true), (17, true), (12, false), (18, true), (19, true), (20, true), (21, false), (22, true), (23, true)] .done) (by kernel_rfl) (by kernel_rfl) (fun dst v c a w h => by cases dst <;> exact h) (fun x hx w => CR.off x hx w) ?_
            simp only [Own.Ord.run]
            repeat (refine Own.st_blind _ rfl rfl (CR.off _ (by decide) _) ?_; go_big_quiet_step (fail); refine wpQuiet_nil ?_)
            refine Own.st_load _ rfl rfl (.bool false) (fun w' hw' => ?_) ?_ ?_
            · have hg0 := hw'.get (a := ⟨qk, ok + j * 3, none⟩) (v := .bool false) (by decide) (by simp)
              go_simp
            · intro _ q hq e; simp only [List.mem_cons, List.mem_nil_iff, or_false] at hq; rcases hq with rfl | rfl <;> first | assumption | (simp at e; done) | (go_simp; done) | (simp; done)
            simp only [Act.put, List.setIfInBounds_toArray, List.set_cons_succ, List.set_cons_zero]
            refine Own.st_do _ rfl rfl (fun K hK => ?_)
            go_simp
            refine (C7.out _ ((Below.refl _ _).drew)).mono ?_
            rintro e u1 ⟨rfl, bu1⟩
            have BU1 := Lib.hid (show Below w17.heap.size w17 u1 by have h0 : Below w17.heap.size w17 (World.drew w17) := (Below.refl _ _).drew; exact h0.trans (bu1.mono h0.size))
            have y1 := YC.out u1 (BZ.out.trans (BU1.out.mono BZ.out.size))
            clear bu1
            refine hK _ _ (fun q hq hd _ => ?_) ?_
            · intro _ q hq e; simp only [List.mem_cons, List.mem_nil_iff, or_false] at hq; rcases hq with rfl | rfl <;> first | assumption | (simp at e; done) | (go_simp; done) | (simp; done)
            clear hK K
            repeat (refine Own.st_blind _ rfl rfl (CR.off _ (by decide) _) ?_; go_big_quiet_step (fail); refine wpQuiet_nil ?_)
            refine Own.st_load _ rfl rfl (.bool false) (fun w' hw' => ?_) ?_ ?_
            · have hg0 := hw'.get (a := ⟨qk, ok + j * 3, none⟩) (v := .bool false) (by decide) (by simp)
              go_simp
            · intro _ q hq e; simp only [List.mem_cons, List.mem_nil_iff, or_false] at hq; rcases hq with rfl | rfl <;> first | assumption | (simp at e; done) | (go_simp; done) | (simp; done)
            simp only [Act.put, List.setIfInBounds_toArray, List.set_cons_succ, List.set_cons_zero]
            refine Own.st_do _ rfl rfl (fun K hK => ?_)
            go_simp
            refine (C8.out u1 BU1.out).mono ?_
            rintro e u2 ⟨rfl, bu2⟩
            have BU2 := Lib.hid (show Below w17.heap.size w17 u2 from BU1.out.trans (bu2.mono BU1.out.size))
            have y2 := YC.out u2 (BZ.out.trans (BU2.out.mono BZ.out.size))
            clear bu2
            refine hK _ _ (fun q hq hd _ => ?_) ?_
            · intro _ q hq e; simp only [List.mem_cons, List.mem_nil_iff, or_false] at hq; rcases hq with rfl | rfl <;> first | assumption | (simp at e; done) | (go_simp; done) | (simp; done)
            clear hK K
            repeat (refine Own.st_blind _ rfl rfl (CR.off _ (by decide) _) ?_; go_big_quiet_step (fail); refine wpQuiet_nil ?_)
            refine Own.st_do _ rfl rfl (fun K hK => ?_)
            go_simp
            refine (CA.out u2 (HS.out.it.bel.trans ((BZ.out.trans (BU2.out.mono BZ.out.size)).mono HS.out.it.bel.size))).mono ?_
            rintro e u3 ⟨rfl, bu3⟩
            have BU3 := Lib.hid (show Below w.heap.size w u3 by have h0 := (HS.out.it.bel.trans ((BZ.out.trans (BU2.out.mono BZ.out.size)).mono HS.out.it.bel.size)); exact h0.trans (bu3.mono h0.size))
            clear bu3
            refine hK _ _ (fun q hq hd => by rw [(by decide : ∀ x ∈ [7, 17], Own.dep [0, 0, 3, 0, 0, 24, 56, 120, 255, 511, 1023, 1023, 4095, 1023, 1023, 25599, 58367, 123903, 262143, 524287, 1048575, 2097151, 4194303, 8388607] 21 x = true) q hq] at hd; cases hd) ?_
            clear hK K
            repeat (refine Own.st_blind _ rfl rfl (CR.off _ (by decide) _) ?_; go_big_quiet_step (fail); refine wpQuiet_nil ?_)
            refine Own.mix_done ?_
            go_wp2_with (fail)
            go_ret
            first | exact ⟨rfl, BU3.out⟩ | exact ⟨rfl, BU3.out.drew⟩
          | true =>
            refine Own.region_mix (CR [7, 17] [(7, ⟨qk, ok + j * 3, none⟩, .bool true), (17, ⟨qk, ok + j * 3, none⟩, .bool true)]) [7, 17] [0, 0, 3, 0, 0, 24, 56, 120, 255, 511, 1023, 1023, 4095, 1023, 1023, 25599, 58367, 123903, 262143, 524287, 1048575, 2097151, 4194303, 8388607] (Own.Ord.run [(0, true), (1, true), (3, true), (4, true), (5, true), (6, true), (7, true), (2, false), (8, true), (9, true), (10, true), (11, true), (13, true), (14, true), (15, true), (16, true), (17, true), (12, false), (18, true), (19, true), (20, true), (21, false), (22, true), (23, true)] .done) (by kernel_rfl) (by kernel_rfl) (fun dst v c a w h => by cases dst <;> exact h) (fun x hx w => CR.off x hx w) ?_
            simp only [Own.Ord.run]
            repeat (refine Own.st_blind _ rfl rfl (CR.off _ (by decide) _) ?_; go_big_quiet_step (fail); refine wpQuiet_nil ?_)
            refine Own.st_load _ rfl rfl (.bool true) (fun w' hw' => ?_) ?_ ?_
            · have hg0 := hw'.get (a := ⟨qk, ok + j * 3, none⟩) (v := .bool true) (by decide) (by simp)
              go_simp
            · intro _ q hq e; simp only [List.mem_cons, List.mem_nil_iff, or_false] at hq; rcases hq with rfl | rfl <;> first | assumption | (simp at e; done) | (go_simp; done) | (simp; done)
            simp only [Act.put, List.setIfInBounds_toArray, List.set_cons_succ, List.set_cons_zero]
            refine Own.st_do _ rfl rfl (fun K hK => ?_)
            go_simp
            refine (C7.out _ ((Below.refl _ _).drew)).mono ?_
            rintro e u1 ⟨rfl, bu1⟩
            have BU1 := Lib.hid (show Below w17.heap.size w17 u1 by have h0 : Below w17.heap.size w17 (World.drew w17) := (Below.refl _ _).drew; exact h0.trans (bu1.mono h0.size))
            have y1 := YC.out u1 (BZ.out.trans (BU1.out.mono BZ.out.size))
            clear bu1
            refine hK _ _ (fun q hq hd _ => ?_) ?_
            · intro _ q hq e; simp only [List.mem_cons, List.mem_nil_iff, or_false] at hq; rcases hq with rfl | rfl <;> first | assumption | (simp at e; done) | (go_simp; done) | (simp; done)
            clear hK K
            repeat (refine Own.st_blind _ rfl rfl (CR.off _ (by decide) _) ?_; go_big_quiet_step (fail); refine wpQuiet_nil ?_)
            refine Own.st_load _ rfl rfl (.bool true) (fun w' hw' => ?_) ?_ ?_
            · have hg0 := hw'.get (a := ⟨qk, ok + j * 3, none⟩) (v := .bool true) (by decide) (by simp)
              go_simp
            · intro _ q hq e; simp only [List.mem_cons, List.mem_nil_iff, or_false] at hq; rcases hq with rfl | rfl <;> first | assumption | (simp at e; done) | (go_simp; done) | (simp; done)
            simp only [Act.put, List.setIfInBounds_toArray, List.set_cons_succ, List.set_cons_zero]
            refine Own.st_do _ rfl rfl (fun K hK => ?_)
            go_simp
            refine (C8.out u1 BU1.out).mono ?_
            rintro e u2 ⟨rfl, bu2⟩
            have BU2 := Lib.hid (show Below w17.heap.size w17 u2 from BU1.out.trans (bu2.mono BU1.out.size))
            have y2 := YC.out u2 (BZ.out.trans (BU2.out.mono BZ.out.size))
            clear bu2
            refine hK _ _ (fun q hq hd _ => ?_) ?_
            · intro _ q hq e; simp only [List.mem_cons, List.mem_nil_iff, or_false] at hq; rcases hq with rfl | rfl <;> first | assumption | (simp at e; done) | (go_simp; done) | (simp; done)
            clear hK K
            repeat (refine Own.st_blind _ rfl rfl (CR.off _ (by decide) _) ?_; go_big_quiet_step (fail); refine wpQuiet_nil ?_)
            refine Own.st_do _ rfl rfl (fun K hK => ?_)
            go_simp
            refine (CA.out u2 (HS.out.it.bel.trans ((BZ.out.trans (BU2.out.mono BZ.out.size)).mono HS.out.it.bel.size))).mono ?_
            rintro e u3 ⟨rfl, bu3⟩
            have BU3 := Lib.hid (show Below w.heap.size w u3 by have h0 := (HS.out.it.bel.trans ((BZ.out.trans (BU2.out.mono BZ.out.size)).mono HS.out.it.bel.size)); exact h0.trans (bu3.mono h0.size))
            clear bu3
            refine hK _ _ (fun q hq hd => by rw [(by decide : ∀ x ∈ [7, 17], Own.dep [0, 0, 3, 0, 0, 24, 56, 120, 255, 511, 1023, 1023, 4095, 1023, 1023, 25599, 58367, 123903, 262143, 524287, 1048575, 2097151, 4194303, 8388607] 21 x = true) q hq] at hd; cases hd) ?_
            clear hK K
            repeat (refine Own.st_blind _ rfl rfl (CR.off _ (by decide) _) ?_; go_big_quiet_step (fail); refine wpQuiet_nil ?_)
            refine Own.mix_done ?_
            go_wp2_with (fail)
            go_ret
            first | exact ⟨rfl, BU3.out⟩ | exact ⟨rfl, BU3.out.drew⟩
      · have g1 : decide (i < n) = false := by simpa using hlt
        clear g12 hlt
        go_wp2_with (fail)
        refine C1.out.mono ?_
        rintro e w1 ⟨rfl, b1⟩
        have B1 := Lib.hid b1
        have C2 := Lib.hid (CE.out w1 B1.out Ac cc cs (HR0.out.later B1.out) (by omega) HCC.out)
        have e2 : endsV (itsW ks) cs = true := by rw [HCS.out]; exact ends_w ks []
        rw [e2] at C2
        clear C1 b1 e2
        go_wp2_with (fail)
        refine C2.out.mono ?_
        rintro e w2 ⟨rfl, b2⟩
        have B2 := Lib.hid (B1.out.trans (b2.mono B1.out.size))
        have S2 := Lib.hid (src_ints (HR0.out.later B2.out) HCC.out)
        clear C2 b2 B1
        go_wp2_with (first
          | (at_builtin; refine own_append_g (o := ⟨some 79, _, _, _, _, _⟩) (by rfl) (.const (.slice none 0 0)) (.tmp 78) 41 41 rfl wr.heap.size 3 iI _ 1 8 Tryd.underlying41 hiI hzI hsI hbI rfl (by decide) (.slice none 0 0) 0 [] rfl (World.ownsRow_nil _ _ _ _) (.slice Ac cs.length cc) rfl cs.length _ S2.out (by unfold maxLen; omega) (by omega) B2.out.size ?_; intro v5 w5 O5 G5 V5; rw [Nat.zero_add, List.nil_append] at O5; obtain ⟨A5, c5, hv5⟩ := own_is O5; subst hv5; have B5 := Lib.hid (B2.out.grown G5 B2.out.size (fun q hq => by cases hq)); have I6 := Lib.hid (OwnI.later (show OwnI w5 wr.heap.size 3 (.slice A5 cs.length c5) cs from O5) ((Below.refl _ _).alloc (Nat.le_refl _) (.cells #[Value.int .i64 5] 3))); have N6 := blk_alloc_new w5 (.cells #[Value.int .i64 5] 3); have B6 := Lib.hid (B5.out.alloc B5.out.size (.cells #[Value.int .i64 5] 3)); clear O5 G5 V5)
          | (at_builtin; refine own_append_g (o := ⟨some 81, _, _, _, _, _⟩) (by rfl) (.tmp 79) (.tmp 80) 41 41 rfl wr.heap.size 3 iI _ 1 8 Tryd.underlying41 hiI hzI hsI hbI rfl (by decide) (.slice A5 cs.length c5) cs.length _ rfl I6.out (.slice (some ⟨w5.heap.size, 0, none⟩) 1 1) rfl 1 _ (src_one Tryd.underlying41 rfl (by rw [World.cell?]; simp only [N6]; rfl)) (by unfold maxLen; omega) (by omega) B6.out.size ?_; intro v7 w7 O7 G7 V7; obtain ⟨A7, c7, hv7⟩ := own_is O7; subst hv7; have B7 := Lib.hid (B6.out.grown G7 B6.out.size (fun q hq => (own_block_lt I6.out hq).1)); have I7 := Lib.hid (show OwnI w7 wr.heap.size 3 (.slice A7 (cs.length + 1) c7) (cs ++ [5]) from ownI_push O7); clear O7 G7 V7 N6))
        have R7 : Reads w7 A7 (cs ++ [5]) := by
          obtain ⟨A', c', ea, _, hra⟩ := I7.out.reads
          injection ea with ea
          rw [ea]; exact hra
        have C3 := Lib.hid (CS.out w7 B7.out A7 c7 (cs ++ [5]) R7 (by rw [List.length_append, List.length_singleton]; omega))
        have e3 : startsV (itsW ks) (cs ++ [5]) = true := by rw [HCS.out]; exact starts_w ks [5]
        rw [e3, List.length_append, List.length_singleton] at C3
        clear e3 R7 I7 I6 B5 B6 S2 B2
        refine C3.out.mono ?_
        rintro e w8 ⟨rfl, b8⟩
        have B8 := Lib.hid (B7.out.trans (b8.mono B7.out.size))
        clear C3 b8 B7
        obtain ⟨w9, hw9⟩ : ∃ w9, w9 = w8.alloc (.cells #[Value.int .i64 5] 3) := ⟨_, rfl⟩
        have b9 : Below w8.heap.size w8 w9 := by rw [hw9]; exact (Below.refl _ _).alloc (Nat.le_refl _) _
        have B9 := Lib.hid (B8.out.trans (b9.mono B8.out.size))
        have I9 := Lib.hid (show OwnI w9 wr.heap.size 3 (.slice (some ⟨w8.heap.size, 0, none⟩) 1 1) [5] from own_single (by rw [hw9]; exact blk_alloc_new _ _) B8.out.size)
        have S9 := Lib.hid (src_ints (HR0.out.later B9.out) HCC.out)
        subst hw9
        clear b9
        go_wp2_with (at_builtin; refine own_append_g (o := ⟨some 89, _, _, _, _, _⟩) (by rfl) (.tmp 87) (.tmp 88) 41 41 rfl wr.heap.size 3 iI _ 1 8 Tryd.underlying41 hiI hzI hsI hbI rfl (by decide) (.slice (some ⟨w8.heap.size, 0, none⟩) 1 1) 1 _ rfl I9.out (.slice Ac cs.length cc) rfl cs.length _ S9.out (by unfold maxLen; omega) (by omega) B9.out.size ?_; intro v10 w10 O10 G10 V10; obtain ⟨A10, c10, hv10⟩ := own_is O10; subst hv10)
        have B10 := Lib.hid (B9.out.grown G10 B9.out.size (fun q hq => (own_block_lt I9.out hq).1))
        have el : (5 :: cs).length = 1 + cs.length := by rw [List.length_cons]; omega
        have I10 : OwnI w10 wr.heap.size 3 (.slice A10 (1 + cs.length) c10) (5 :: cs) := by
          unfold OwnI
          rw [el]
          exact O10
        obtain ⟨A', c', ea, hcc10, hra10⟩ := I10.reads
        injection ea with ea _ ea2
        subst ea2
        rw [← ea] at hra10
        have C4 := Lib.hid (CE.out w10 B10.out A10 c10 (5 :: cs) hra10 (by rw [List.length_cons]; omega) hcc10)
        have e4 : endsV (itsW ks) (5 :: cs) = true := by rw [HCS.out]; exact ends_w ks [5]
        rw [e4, el] at C4
        clear e4 el hra10 hcc10 I10 I9 S9 O10 G10 V10 B8 B9 ea
        refine C4.out.mono ?_
        rintro e w11 ⟨rfl, b11⟩
        have B11 := Lib.hid (B10.out.trans (b11.mono B10.out.size))
        clear C4 b11 B10
        by_cases hx0 : xs.length = 0
        · have g5 : ((xs.length : Int) == 0) = true := by rw [hx0]; rfl
          go_wp2_with (fail)
          refine (CA.out _ (HS.out.it.bel.trans (B11.out.mono HS.out.it.bel.size))).mono ?_
          rintro e w12 ⟨rfl, b12⟩
          have B12 := Lib.hid ((HS.out.it.bel.trans (B11.out.mono HS.out.it.bel.size)).trans (b12.mono (HS.out.it.bel.trans (B11.out.mono HS.out.it.bel.size)).size))
          clear b12
          go_wp2_with (fail)
          go_ret
          exact ⟨rfl, B12.out⟩
        have g5 : ((xs.length : Int) == 0) = false := beq_eq_false_iff_ne.2 (by omega)
        obtain ⟨_, hki, hil⟩ := HKL.out
        have hxc : xs.length = cs.length := by rw [HXL.out, HCL.out]
        have HXC := Lib.hid hxc
        obtain ⟨m, hm⟩ : ∃ m, m = cs.length - 1 := ⟨_, rfl⟩
        have hmI : (cs.length : Int) - 1 = (m : Nat) := by omega
        have hml : m ≤ cs.length := by omega
        have FS2 : ∀ w : World, (Instr.slice 41 (.slice Ac cs.length cc) none (some (.int .i64 ((cs.length : Int) - 1))) none).run Tryd.prog w = .ok (.slice Ac m cc) w := fun w => by
          rw [hmI]
          exact run_sliced_to (P := Tryd.prog) Tryd.underlying41 (e := 3) (fun w => rfl) Ac cs.length cc m (by have := HCC.out; omega) .i64 w
        obtain ⟨V1, hV1⟩ : ∃ V1, V1 = (if cc = 1 then Ac else Ac.map (·.add (1 * 1))) := ⟨_, rfl⟩
        have FS3 : ∀ w : World, (Instr.slice 41 (.slice Ac cs.length cc) (some (.int .i64 1)) none none).run Tryd.prog w = .ok (.slice V1 m (cc - 1)) w := fun w => by
          have := run_sliced_from (P := Tryd.prog) Tryd.underlying41 (e := 3) (fun w => rfl) Ac cs.length cc 1 (by omega) HCC.out .i64 w
          rw [hV1, hm]
          exact this
        have C5 := Lib.hid (CS.out w11 B11.out Ac cc (cs.take m) ((HR0.out.later B11.out).take m) (by rw [List.length_take]; omega))
        have e5 : startsV (itsW ks) (cs.take m) = false := starts_short (by rw [List.length_take, hil]; omega)
        have C6 := Lib.hid (fun (wx : World) (hb : Below wr.heap.size wr wx) => CE.out wx hb V1 (cc - 1) (cs.drop 1) (by rw [hV1]; exact reads_sliced (HR0.out.later hb) (by omega) HCC.out) (by rw [List.length_drop]; omega) (by rw [List.length_drop]; have := HCC.out; omega))
        have e6 : endsV (itsW ks) (cs.drop 1) = false := ends_short (by rw [List.length_drop, hil]; omega)
        rw [e5, List.length_take, Nat.min_eq_left hml] at C5
        rw [e6, List.length_drop, ← hm] at C6
        have hcs0 : 0 < cs.length := by omega
        have hxs0 : 0 < xs.length := by omega
        clear hki hil e5 e6 hmI hml hV1 hm hxc hx0
        go_wp2_with (fail)
        refine C5.out.mono ?_
        rintro e w12 ⟨rfl, b12⟩
        have B12 := Lib.hid (B11.out.trans (b12.mono B11.out.size))
        clear C5 b12 B11
        go_wp2_with (fail)
        refine (C6.out _ B12.out).mono ?_
        rintro e w13 ⟨rfl, b13⟩
        have B13 := Lib.hid (B12.out.trans (b13.mono B12.out.size))
        clear C6 b13 B12 FS2 FS3
        obtain ⟨j, hj, hjm, cpj⟩ := place_nat bad xs.length hxs0 (by omega)
        clear hjm
        have CPJ := Lib.hid cpj
        have S13 := Lib.hid (src_ints (HR0.out.later B13.out) HCC.out)
        clear cpj
        go_wp2_with (fail)
        refine (CPJ.out _).mono ?_
        rintro e w14 ⟨rfl, hw14⟩
        subst hw14
        clear CPJ
        go_wp2_with (at_builtin; refine own_append (o := ⟨some 115, _, _, _, _, _⟩) rfl (.const (.slice none 0 0)) (.tmp 114) 41 41 rfl wr.heap.size 3 iI _ 1 8 Tryd.underlying41 hiI hzI hsI hbI rfl (by decide) (.slice none 0 0) 0 [] rfl (World.ownsRow_nil _ _ _ _) (.slice Ac cs.length cc) rfl cs.length _ S13.out (by unfold maxLen; omega) (by omega) B13.out.size ?_; intro v15 w15 O15 G15 V15; rw [Nat.zero_add, List.nil_append] at O15; obtain ⟨A15, c15, hv15⟩ := own_is O15; subst hv15; have B15 := Lib.hid (B13.out.grown G15 B13.out.size (fun q hq => by cases hq)); have I15 := Lib.hid (show OwnI w15 wr.heap.size 3 (.slice A15 cs.length c15) cs from O15); clear O15 G15 V15 S13; obtain ⟨g, cp, ev, _, hg0, hgl, hcel, hfz, hset⟩ := OwnI.block I15.out hcs0; injection ev with ev1 _ ev3; subst ev1; subst ev3; have hj2 : j < cs.length := (by have := HXC.out; omega); have y15 := hcel j hj2; have HFZ := Lib.hid hfz; have HSET := Lib.hid (hset j 65 hj2); have HG0 := Lib.hid hg0; clear hcel hset hfz hg0 hgl; have fz15 := HFZ.out)
        obtain ⟨w16, hw16⟩ : ∃ w16, w16 = w15.setCell ⟨g, j, none⟩ (.int .i64 65) := ⟨_, rfl⟩
        have I16 := Lib.hid (show OwnI w16 wr.heap.size 3 (.slice (some ⟨g, 0, none⟩) cs.length c15) (cs.set j 65) by rw [hw16]; exact HSET.out.1)
        have B16 := Lib.hid (show Below wr.heap.size wr w16 by rw [hw16]; exact B15.out.setCell (p := ⟨g, j, none⟩) HG0.out _)
        have HW16 := Lib.hid hw16
        obtain ⟨_, hki, hil⟩ := HKL.out
        obtain ⟨q, hq⟩ : ∃ q, ks[j]? = some q := ⟨_, List.getElem?_eq_getElem (by have := HXL.out; omega)⟩
        have hit : (itsW ks)[j]? = some (itemW q) := by unfold itsW; rw [List.getElem?_map, hq]; rfl
        obtain ⟨A', c', ea, _, ra⟩ := G0.out.out
        injection ea with ea _ _
        obtain ⟨qk, ok, Bk, ck, eA, hqk, d0, d1, _, _, _⟩ := ra j _ hit
        rw [← ea] at eA
        subst eA
        have HQ := Lib.hid hq
        have sb := starts_bad ks j q hq
        have eb := ends_bad ks j q hq
        rw [← HCS.out] at sb eb
        obtain ⟨X, hX⟩ : ∃ X, X = itemW q := ⟨_, rfl⟩
        rw [← hX] at d0 d1 sb eb
        have YC := Lib.hid (fun (wx : World) (hb : Below wr.heap.size wr wx) => (hb.cell (p := ⟨qk, ok + j * 3, none⟩) hqk).trans d0)
        have d1' := (B16.out.cell (p := ⟨qk, ok + j * 3 + 1, none⟩) hqk).trans d1
        have SB := Lib.hid (And.intro sb eb)
        have hxl2 : xs.length ≤ 8 := hxl'
        have HIA : ∀ w : World, (Instr.indexAt 35 (.slice (some ⟨qk, ok, none⟩) xs.length cl) (.int .i64 (j : Nat))).run Tryd.prog w = .ok (.pointer (some ⟨qk, ok + j * 3, none⟩)) w := fun w => by
          rw [run_indexAt_slice (h := Tryd.underlying35), if_pos (by omega)]
          have e1 : (⟨qk, ok, none⟩ : Addr).add (j * 3) = ⟨qk, ok + j * 3, none⟩ := by unfold Addr.add; split <;> simp_all
          show Result.ok (Value.pointer (some ((⟨qk, ok, none⟩ : Addr).add (((j : Nat) : Int).toNat * 3)))) w = _
          rw [Int.toNat_natCast, e1]
        clear hw16 hki hil hq hit ea ra hqk d0 d1 sb eb hX y15 fz15 hiT hzT hsT hbT hiI hzI hsI hbI
        go_upto_region 26 with (fail)
        rw [← HW16.out]
        obtain ⟨V, hV⟩ : ∃ V, V = Value.slice (some ⟨qk, ok, none⟩) xs.length cl := ⟨_, rfl⟩
        rw [← hV] at HIA ⊢
        have HV := Lib.hid hV
        clear hV
        obtain ⟨xa, hxa⟩ : ∃ xa, xa = X.any := ⟨_, rfl⟩
        obtain ⟨xn, hxn⟩ : ∃ xn, xn = X.neg := ⟨_, rfl⟩
        rw [← hxa] at YC SB
        rw [← hxn] at d1'
        have HB := Lib.hid (show badW X = if xn = true then 122 else 65 by rw [hxn]; rfl)
        clear hxa hxn
        cases xn with
        | false =>
          have R16 := Lib.hid (show Reads w16 (some ⟨g, 0, none⟩) (cs.set j 65) by
            obtain ⟨A', c', ea, _, hra⟩ := I16.out.reads
            injection ea with ea
            rw [ea]; exact hra)
          have C7 := Lib.hid (fun (wx : World) (hb : Below w16.heap.size w16 wx) => CS.out wx (B16.out.trans (hb.mono B16.out.size)) (some ⟨g, 0, none⟩) c15 (cs.set j 65) (R16.out.later hb) (by rw [List.length_set]; omega))
          have hcp : cs.length ≤ c15 := by
            obtain ⟨A', c', ea, hh, _⟩ := I16.out.reads
            simp only [Value.slice.injEq] at ea
            rw [ea.2.2]
            rw [List.length_set] at hh
            exact hh
          have C8 := Lib.hid (fun (wx : World) (hb : Below w16.heap.size w16 wx) => CE.out wx (B16.out.trans (hb.mono B16.out.size)) (some ⟨g, 0, none⟩) c15 (cs.set j 65) (R16.out.later hb) (by rw [List.length_set]; omega) (by rw [List.length_set]; exact hcp))
          rw [show startsV (itsW ks) (cs.set j 65) = xa by have h := SB.out.1; rw [HB.out] at h; exact h, List.length_set, ← HV.out] at C7
          rw [show endsV (itsW ks) (cs.set j 65) = xa by have h := SB.out.2; rw [HB.out] at h; exact h, List.length_set, ← HV.out] at C8
          have BZ := B16
          clear hcp
          go_wp2_with (fail)
          rw [HIA]
          go_upto_region 28 with (fail)
          have y0 := YC.out w16 BZ.out
          clear d1'
          cases xa with
          | false =>
            refine Own.region_mix (CR [7, 17] [(7, ⟨qk, ok + j * 3, none⟩, .bool false), (17, ⟨qk, ok + j * 3, none⟩, .bool false)]) [7, 17] [0, 0, 3, 0, 0, 24, 56, 120, 255, 511, 1023, 1023, 4095, 1023, 1023, 25599, 58367, 123903, 262143, 524287, 1048575, 2097151, 4194303, 8388607] (Own.Ord.run [(0, true), (1, true), (3, true), (4, true), (5, true), (6, true), (7, true), (2, false), (8, true), (9, true), (10, true), (11, true), (13, true), (14, true), (15, true), (16, true), (17, true), (12, false), (18, true), (19, true), (20, true), (21, false), (22, true), (23, true)] .done) (by kernel_rfl) (by kernel_rfl) (fun dst v c a w h => by cases dst <;> exact h) (fun x hx w => CR.off x hx w) ?_
            simp only [Own.Ord.run]
            repeat (refine Own.st_blind _ rfl rfl (CR.off _ (by decide) _) ?_; go_big_quiet_step (fail); refine wpQuiet_nil ?_)
            refine Own.st_load _ rfl rfl (.bool false) (fun w' hw' => ?_) ?_ ?_
            · have hg0 := hw'.get (a := ⟨qk, ok + j * 3, none⟩) (v := .bool false) (by decide) (by simp)
              go_simp
            · intro _ q hq e; simp only [List.mem_cons, List.mem_nil_iff, or_false] at hq; rcases hq with rfl | rfl <;> first | assumption | (simp at e; done) | (go_simp; done) | (simp; done)
            simp only [Act.put, List.setIfInBounds_toArray, List.set_cons_succ, List.set_cons_zero]
            refine Own.st_do _ rfl rfl (fun K hK => ?_)
            go_simp
            refine (C7.out _ ((Below.refl _ _).drew)).mono ?_
            rintro e u1 ⟨rfl, bu1⟩
            have BU1 := Lib.hid (show Below w16.heap.size w16 u1 by have h0 : Below w16.heap.size w16 (World.drew w16) := (Below.refl _ _).drew; exact h0.trans (bu1.mono h0.size))
            have y1 := YC.out u1 (BZ.out.trans (BU1.out.mono BZ.out.size))
            clear bu1
            refine hK _ _ (fun q hq hd _ => ?_) ?_
            · intro _ q hq e; simp only [List.mem_cons, List.mem_nil_iff, or_false] at hq; rcases hq with rfl | rfl <;> first | assumption | (simp at e; done) | (go_simp; done) | (simp; done)
            clear hK K
            repeat (refine Own.st_blind _ rfl rfl (CR.off _ (by decide) _) ?_; go_big_quiet_step (fail); refine wpQuiet_nil ?_)
            refine Own.st_load _ rfl rfl (.bool false) (fun w' hw' => ?_) ?_ ?_
            · have hg0 := hw'.get (a := ⟨qk, ok + j * 3, none⟩) (v := .bool false) (by decide) (by simp)
              go_simp
            · intro _ q hq e; simp only [List.mem_cons, List.mem_nil_iff, or_false] at hq; rcases hq with rfl | rfl <;> first | assumption | (simp at e; done) | (go_simp; done) | (simp; done)
            simp only [Act.put, List.setIfInBounds_toArray, List.set_cons_succ, List.set_cons_zero]
            refine Own.st_do _ rfl rfl (fun K hK => ?_)
            go_simp
            refine (C8.out u1 BU1.out).mono ?_
            rintro e u2 ⟨rfl, bu2⟩
            have BU2 := Lib.hid (show Below w16.heap.size w16 u2 from BU1.out.trans (bu2.mono BU1.out.size))
            have y2 := YC.out u2 (BZ.out.trans (BU2.out.mono BZ.out.size))
            clear bu2
            refine hK _ _ (fun q hq hd _ => ?_) ?_
            · intro _ q hq e; simp only [List.mem_cons, List.mem_nil_iff, or_false] at hq; rcases hq with rfl | rfl <;> first | assumption | (simp at e; done) | (go_simp; done) | (simp; done)
            clear hK K
            repeat (refine Own.st_blind _ rfl rfl (CR.off _ (by decide) _) ?_; go_big_quiet_step (fail); refine wpQuiet_nil ?_)
            refine Own.st_do _ rfl rfl (fun K hK => ?_)
            go_simp
            refine (CA.out u2 (HS.out.it.bel.trans ((BZ.out.trans (BU2.out.mono BZ.out.size)).mono HS.out.it.bel.size))).mono ?_
            rintro e u3 ⟨rfl, bu3⟩
            have BU3 := Lib.hid (show Below w.heap.size w u3 by have h0 := (HS.out.it.bel.trans ((BZ.out.trans (BU2.out.mono BZ.out.size)).mono HS.out.it.bel.size)); exact h0.trans (bu3.mono h0.size))
            clear bu3
            refine hK _ _ (fun q hq hd => by rw [(by decide : ∀ x ∈ [7, 17], Own.dep [0, 0, 3, 0, 0, 24, 56, 120, 255, 511, 1023, 1023, 4095, 1023, 1023, 25599, 58367, 123903, 262143, 524287, 1048575, 2097151, 4194303, 8388607] 21 x = true) q hq] at hd; cases hd) ?_
            clear hK K
            repeat (refine Own.st_blind _ rfl rfl (CR.off _ (by decide) _) ?_; go_big_quiet_step (fail); refine wpQuiet_nil ?_)
            refine Own.mix_done ?_
            go_wp2_with (fail)
            go_ret
            first | exact ⟨rfl, BU3.out⟩ | exact ⟨rfl, BU3.out.drew⟩
          | true =>
            refine Own.region_mix (CR [7, 17] [(7, ⟨qk, ok + j * 3, none⟩, .bool true), (17, ⟨qk, ok + j * 3, none⟩, .bool true)]) [7, 17] [0, 0, 3, 0, 0, 24, 56, 120, 255, 511, 1023, 1023, 4095, 1023, 1023, 25599, 58367, 123903, 262143, 524287, 1048575, 2097151, 4194303, 8388607] (Own.Ord.run [(0, true), (1, true), (3, true), (4, true), (5, true), (6, true), (7, true), (2, false), (8, true), (9, true), (10, true), (11, true), (13, true), (14, true), (15, true), (16, true), (17, true), (12, false), (18, true), (19, true), (20, true), (21, false), (22, true), (23, true)] .done) (by kernel_rfl) (by kernel_rfl) (fun dst v c a w h => by cases dst <;> exact h) (fun x hx w => CR.off x hx w) ?_
            simp only [Own.Ord.run]
            repeat (refine Own.st_blind _ rfl rfl (CR.off _ (by decide) _) ?_; go_big_quiet_step (fail); refine wpQuiet_nil ?_)
            refine Own.st_load _ rfl rfl (.bool true) (fun w' hw' => ?_) ?_ ?_
            · have hg0 := hw'.get (a := ⟨qk, ok + j * 3, none⟩) (v := .bool true) (by decide) (by simp)
              go_simp
            · intro _ q hq e; simp only [List.mem_cons, List.mem_nil_iff, or_false] at hq; rcases hq with rfl | rfl <;> first | assumption | (simp at e; done) | (go_simp; done) | (simp; done)
            simp only [Act.put, List.setIfInBounds_toArray, List.set_cons_succ, List.set_cons_zero]
            refine Own.st_do _ rfl rfl (fun K hK => ?_)
            go_simp
            refine (C7.out _ ((Below.refl _ _).drew)).mono ?_
            rintro e u1 ⟨rfl, bu1⟩
            have BU1 := Lib.hid (show Below w16.heap.size w16 u1 by have h0 : Below w16.heap.size w16 (World.drew w16) := (Below.refl _ _).drew; exact h0.trans (bu1.mono h0.size))
            have y1 := YC.out u1 (BZ.out.trans (BU1.out.mono BZ.out.size))
            clear bu1
            refine hK _ _ (fun q hq hd _ => ?_) ?_
            · intro _ q hq e; simp only [List.mem_cons, List.mem_nil_iff, or_false] at hq; rcases hq with rfl | rfl <;> first | assumption | (simp at e; done) | (go_simp; done) | (simp; done)
            clear hK K
            repeat (refine Own.st_blind _ rfl rfl (CR.off _ (by decide) _) ?_; go_big_quiet_step (fail); refine wpQuiet_nil ?_)
            refine Own.st_load _ rfl rfl (.bool true) (fun w' hw' => ?_) ?_ ?_
            · have hg0 := hw'.get (a := ⟨qk, ok + j * 3, none⟩) (v := .bool true) (by decide) (by simp)
              go_simp
            · intro _ q hq e; simp only [List.mem_cons, List.mem_nil_iff, or_false] at hq; rcases hq with rfl | rfl <;> first | assumption | (simp at e; done) | (go_simp; done) | (simp; done)
            simp only [Act.put, List.setIfInBounds_toArray, List.set_cons_succ, List.set_cons_zero]
            refine Own.st_do _ rfl rfl (fun K hK => ?_)
            go_simp
            refine (C8.out u1 BU1.out).mono ?_
            rintro e u2 ⟨rfl, bu2⟩
            have BU2 := Lib.hid (show Below w16.heap.size w16 u2 from BU1.out.trans (bu2.mono BU1.out.size))
            have y2 := YC.out u2 (BZ.out.trans (BU2.out.mono BZ.out.size))
            clear bu2
            refine hK _ _ (fun q hq hd _ => ?_) ?_
            · intro _ q hq e; simp only [List.mem_cons, List.mem_nil_iff, or_false] at hq; rcases hq with rfl | rfl <;> first | assumption | (simp at e; done) | (go_simp; done) | (simp; done)
            clear hK K
            repeat (refine Own.st_blind _ rfl rfl (CR.off _ (by decide) _) ?_; go_big_quiet_step (fail); refine wpQuiet_nil ?_)
            refine Own.st_do _ rfl rfl (fun K hK => ?_)
            go_simp
            refine (CA.out u2 (HS.out.it.bel.trans ((BZ.out.trans (BU2.out.mono BZ.out.size)).mono HS.out.it.bel.size))).mono ?_
            rintro e u3 ⟨rfl, bu3⟩
            have BU3 := Lib.hid (show Below w.heap.size w u3 by have h0 := (HS.out.it.bel.trans ((BZ.out.trans (BU2.out.mono BZ.out.size)).mono HS.out.it.bel.size)); exact h0.trans (bu3.mono h0.size))
            clear bu3
            refine hK _ _ (fun q hq hd => by rw [(by decide : ∀ x ∈ [7, 17], Own.dep [0, 0, 3, 0, 0, 24, 56, 120, 255, 511, 1023, 1023, 4095, 1023, 1023, 25599, 58367, 123903, 262143, 524287, 1048575, 2097151, 4194303, 8388607] 21 x = true) q hq] at hd; cases hd) ?_
            clear hK K
            repeat (refine Own.st_blind _ rfl rfl (CR.off _ (by decide) _) ?_; go_big_quiet_step (fail); refine wpQuiet_nil ?_)
            refine Own.mix_done ?_
            go_wp2_with (fail)
            go_ret
            first | exact ⟨rfl, BU3.out⟩ | exact ⟨rfl, BU3.out.drew⟩
        | true =>
          have y16 : w16.cell? ⟨g, j, none⟩ = some (.int .i64 65) := by
            obtain ⟨g', cpp, ev, _, _, _, hcel, _, _⟩ := OwnI.block I16.out (by rw [List.length_set]; exact hcs0)
            injection ev with ev1 _ _
            injection ev1 with ev1
            injection ev1 with ev1 _ _
            subst ev1
            have := hcel j (by rw [List.length_set]; exact hj2)
            rw [List.getD_eq_getElem?_getD, List.getElem?_set_self hj2] at this
            exact this
          have fz16 : ∀ k, w16.frozen? ⟨g, k, none⟩ = false := by
            obtain ⟨g', cpp, ev, _, _, _, _, hfz, _⟩ := OwnI.block I16.out (by rw [List.length_set]; exact hcs0)
            injection ev with ev1 _ _
            injection ev1 with ev1
            injection ev1 with ev1 _ _
            subst ev1
            exact hfz
          obtain ⟨w17, hw17⟩ : ∃ w17, w17 = w16.setCell ⟨g, j, none⟩ (.int .i64 122) := ⟨_, rfl⟩
          have I17 := Lib.hid (show OwnI w17 wr.heap.size 3 (.slice (some ⟨g, 0, none⟩) cs.length c15) (cs.set j 122) by
            obtain ⟨g', cpp, ev, _, _, _, _, _, hset⟩ := OwnI.block I16.out (by rw [List.length_set]; exact hcs0)
            injection ev with ev1 _ _
            injection ev1 with ev1
            injection ev1 with ev1 _ _
            subst ev1
            have := (hset j 122 (by rw [List.length_set]; exact hj2)).1
            rw [List.set_set] at this
            rw [hw17]
            exact this)
          have B17 := Lib.hid (show Below wr.heap.size wr w17 by rw [hw17]; exact B16.out.setCell (p := ⟨g, j, none⟩) HG0.out _)
          have HW17 := Lib.hid hw17
          have R17 := Lib.hid (show Reads w17 (some ⟨g, 0, none⟩) (cs.set j 122) by
            obtain ⟨A', c', ea, _, hra⟩ := I17.out.reads
            injection ea with ea
            rw [ea]; exact hra)
          have C7 := Lib.hid (fun (wx : World) (hb : Below w17.heap.size w17 wx) => CS.out wx (B17.out.trans (hb.mono B17.out.size)) (some ⟨g, 0, none⟩) c15 (cs.set j 122) (R17.out.later hb) (by rw [List.length_set]; omega))
          have hcp : cs.length ≤ c15 := by
            obtain ⟨A', c', ea, hh, _⟩ := I17.out.reads
            simp only [Value.slice.injEq] at ea
            rw [ea.2.2]
            rw [List.length_set] at hh
            exact hh
          have C8 := Lib.hid (fun (wx : World) (hb : Below w17.heap.size w17 wx) => CE.out wx (B17.out.trans (hb.mono B17.out.size)) (some ⟨g, 0, none⟩) c15 (cs.set j 122) (R17.out.later hb) (by rw [List.length_set]; omega) (by rw [List.length_set]; exact hcp))
          rw [show startsV (itsW ks) (cs.set j 122) = xa by have h := SB.out.1; rw [HB.out] at h; exact h, List.length_set, ← HV.out] at C7
          rw [show endsV (itsW ks) (cs.set j 122) = xa by have h := SB.out.2; rw [HB.out] at h; exact h, List.length_set, ← HV.out] at C8
          have BZ := B17
          clear hw17 hcp
          go_upto_region 28 with (fail)
          rw [← HW17.out]
          have y0 := YC.out w17 BZ.out
          clear HW17 y16 fz16 d1'
          cases xa with
          | false =>
            refine Own.region_mix (CR [7, 17] [(7, ⟨qk, ok + j * 3, none⟩, .bool false), (17, ⟨qk, ok + j * 3, none⟩, .bool false)]) [7, 17] [0, 0, 3, 0, 0, 24, 56, 120, 255, 511, 1023, 1023, 4095, 1023, 1023, 25599, 58367, 123903, 262143, 524287, 1048575, 2097151, 4194303, 8388607] (Own.Ord.run [(0, true), (1, true), (3, true), (4, true), (5, true), (6, true), (7, true), (2, false), (8, true), (9, true), (10, true), (11, true), (13, true), (14, true), (15, true), (16, true), (17, true), (12, false), (18, true), (19, true), (20, true), (21, false), (22, true), (23, true)] .done) (by kernel_rfl) (by kernel_rfl) (fun dst v c a w h => by cases dst <;> exact h) (fun x hx w => CR.off x hx w) ?_
            simp only [Own.Ord.run]
            repeat (refine Own.st_blind _ rfl rfl (CR.off _ (by decide) _) ?_; go_big_quiet_step (fail); refine wpQuiet_nil ?_)
            refine Own.st_load _ rfl rfl (.bool false) (fun w' hw' => ?_) ?_ ?_
            · have hg0 := hw'.get (a := ⟨qk, ok + j * 3, none⟩) (v := .bool false) (by decide) (by simp)
              go_simp
            · intro _ q hq e; simp only [List.mem_cons, List.mem_nil_iff, or_false] at hq; rcases hq with rfl | rfl <;> first | assumption | (simp at e; done) | (go_simp; done) | (simp; done)
            simp only [Act.put, List.setIfInBounds_toArray, List.set_cons_succ, List.set_cons_zero]
            refine Own.st_do _ rfl rfl (fun K hK => ?_)
            go_simp
            refine (C7.out _ ((Below.refl _ _).drew)).mono ?_
            rintro e u1 ⟨rfl, bu1⟩
            have BU1 := Lib.hid (show Below w17.heap.size w17 u1 by have h0 : Below w17.heap.size w17 (World.drew w17) := (Below.refl _ _).drew; exact h0.trans (bu1.mono h0.size))
            have y1 := YC.out u1 (BZ.out.trans (BU1.out.mono BZ.out.size))
            clear bu1
            refine hK _ _ (fun q hq hd _ => ?_) ?_
            · intro _ q hq e; simp only [List.mem_cons, List.mem_nil_iff, or_false] at hq; rcases hq with rfl | rfl <;> first | assumption | (simp at e; done) | (go_simp; done) | (simp; done)
            clear hK K
            repeat (refine Own.st_blind _ rfl rfl (CR.off _ (by decide) _) ?_; go_big_quiet_step (fail); refine wpQuiet_nil ?_)
            refine Own.st_load _ rfl rfl (.bool false) (fun w' hw' => ?_) ?_ ?_
            · have hg0 := hw'.get (a := ⟨qk, ok + j * 3, none⟩) (v := .bool false) (by decide) (by simp)
              go_simp
            · intro _ q hq e; simp only [List.mem_cons, List.mem_nil_iff, or_false] at hq; rcases hq with rfl | rfl <;> first | assumption | (simp at e; done) | (go_simp; done) | (simp; done)
            simp only [Act.put, List.setIfInBounds_toArray, List.set_cons_succ, List.set_cons_zero]
            refine Own.st_do _ rfl rfl (fun K hK => ?_)
            go_simp
            refine (C8.out u1 BU1.out).mono ?_
            rintro e u2 ⟨rfl, bu2⟩
            have BU2 := Lib.hid (show Below w17.heap.size w17 u2 from BU1.out.trans (bu2.mono BU1.out.size))
            have y2 := YC.out u2 (BZ.out.trans (BU2.out.mono BZ.out.size))
            clear bu2
            refine hK _ _ (fun q hq hd _ => ?_) ?_
            · intro _ q hq e; simp only [List.mem_cons, List.mem_nil_iff, or_false] at hq; rcases hq with rfl | rfl <;> first | assumption | (simp at e; done) | (go_simp; done) | (simp; done)
            clear hK K
            repeat (refine Own.st_blind _ rfl rfl (CR.off _ (by decide) _) ?_; go_big_quiet_step (fail); refine wpQuiet_nil ?_)
            refine Own.st_do _ rfl rfl (fun K hK => ?_)
            go_simp
            refine (CA.out u2 (HS.out.it.bel.trans ((BZ.out.trans (BU2.out.mono BZ.out.size)).mono HS.out.it.bel.size))).mono ?_
            rintro e u3 ⟨rfl, bu3⟩
            have BU3 := Lib.hid (show Below w.heap.size w u3 by have h0 := (HS.out.it.bel.trans ((BZ.out.trans (BU2.out.mono BZ.out.size)).mono HS.out.it.bel.size)); exact h0.trans (bu3.mono h0.size))
            clear bu3
            refine hK _ _ (fun q hq hd => by rw [(by decide : ∀ x ∈ [7, 17], Own.dep [0, 0, 3, 0, 0, 24, 56, 120, 255, 511, 1023, 1023, 4095, 1023, 1023, 25599, 58367, 123903, 262143, 524287, 1048575, 2097151, 4194303, 8388607] 21 x = true) q hq] at hd; cases hd) ?_
            clear hK K
            repeat (refine Own.st_blind _ rfl rfl (CR.off _ (by decide) _) ?_; go_big_quiet_step (fail); refine wpQuiet_nil ?_)
            refine Own.mix_done ?_
            go_wp2_with (fail)
            go_ret
            first | exact ⟨rfl, BU3.out⟩ | exact ⟨rfl, BU3.out.drew⟩
          | true =>
            refine Own.region_mix (CR [7, 17] [(7, ⟨qk, ok + j * 3, none⟩, .bool true), (17, ⟨qk, ok + j * 3, none⟩, .bool true)]) [7, 17] [0, 0, 3, 0, 0, 24, 56, 120, 255, 511, 1023, 1023, 4095, 1023, 1023, 25599, 58367, 123903, 262143, 524287, 1048575, 2097151, 4194303, 8388607] (Own.Ord.run [(0, true), (1, true), (3, true), (4, true), (5, true), (6, true), (7, true), (2, false), (8, true), (9, true), (10, true), (11, true), (13, true), (14, true), (15, true), (16, true), (17, true), (12, false), (18, true), (19, true), (20, true), (21, false), (22, true), (23, true)] .done) (by kernel_rfl) (by kernel_rfl) (fun dst v c a w h => by cases dst <;> exact h) (fun x hx w => CR.off x hx w) ?_
            simp only [Own.Ord.run]
            repeat (refine Own.st_blind _ rfl rfl (CR.off _ (by decide) _) ?_; go_big_quiet_step (fail); refine wpQuiet_nil ?_)
            refine Own.st_load _ rfl rfl (.bool true) (fun w' hw' => ?_) ?_ ?_
            · have hg0 := hw'.get (a := ⟨qk, ok + j * 3, none⟩) (v := .bool true) (by decide) (by simp)
              go_simp
            · intro _ q hq e; simp only [List.mem_cons, List.mem_nil_iff, or_false] at hq; rcases hq with rfl | rfl <;> first | assumption | (simp at e; done) | (go_simp; done) | (simp; done)
            simp only [Act.put, List.setIfInBounds_toArray, List.set_cons_succ, List.set_cons_zero]
            refine Own.st_do _ rfl rfl (fun K hK => ?_)
            go_simp
            refine (C7.out _ ((Below.refl _ _).drew)).mono ?_
            rintro e u1 ⟨rfl, bu1⟩
            have BU1 := Lib.hid (show Below w17.heap.size w17 u1 by have h0 : Below w17.heap.size w17 (World.drew w17) := (Below.refl _ _).drew; exact h0.trans (bu1.mono h0.size))
            have y1 := YC.out u1 (BZ.out.trans (BU1.out.mono BZ.out.size))
            clear bu1
            refine hK _ _ (fun q hq hd _ => ?_) ?_
            · intro _ q hq e; simp only [List.mem_cons, List.mem_nil_iff, or_false] at hq; rcases hq with rfl | rfl <;> first | assumption | (simp at e; done) | (go_simp; done) | (simp; done)
            clear hK K
            repeat (refine Own.st_blind _ rfl rfl (CR.off _ (by decide) _) ?_; go_big_quiet_step (fail); refine wpQuiet_nil ?_)
            refine Own.st_load _ rfl rfl (.bool true) (fun w' hw' => ?_) ?_ ?_
            · have hg0 := hw'.get (a := ⟨qk, ok + j * 3, none⟩) (v := .bool true) (by decide) (by simp)
              go_simp
            · intro _ q hq e; simp only [List.mem_cons, List.mem_nil_iff, or_false] at hq; rcases hq with rfl | rfl <;> first | assumption | (simp at e; done) | (go_simp; done) | (simp; done)
            simp only [Act.put, List.setIfInBounds_toArray, List.set_cons_succ, List.set_cons_zero]
            refine Own.st_do _ rfl rfl (fun K hK => ?_)
            go_simp
            refine (C8.out u1 BU1.out).mono ?_
            rintro e u2 ⟨rfl, bu2⟩
            have BU2 := Lib.hid (show Below w17.heap.size w17 u2 from BU1.out.trans (bu2.mono BU1.out.size))
            have y2 := YC.out u2 (BZ.out.trans (BU2.out.mono BZ.out.size))
            clear bu2
            refine hK _ _ (fun q hq hd _ => ?_) ?_
            · intro _ q hq e; simp only [List.mem_cons, List.mem_nil_iff, or_false] at hq; rcases hq with rfl | rfl <;> first | assumption | (simp at e; done) | (go_simp; done) | (simp; done)
            clear hK K
            repeat (refine Own.st_blind _ rfl rfl (CR.off _ (by decide) _) ?_; go_big_quiet_step (fail); refine wpQuiet_nil ?_)
            refine Own.st_do _ rfl rfl (fun K hK => ?_)
            go_simp
            refine (CA.out u2 (HS.out.it.bel.trans ((BZ.out.trans (BU2.out.mono BZ.out.size)).mono HS.out.it.bel.size))).mono ?_
            rintro e u3 ⟨rfl, bu3⟩
            have BU3 := Lib.hid (show Below w.heap.size w u3 by have h0 := (HS.out.it.bel.trans ((BZ.out.trans (BU2.out.mono BZ.out.size)).mono HS.out.it.bel.size)); exact h0.trans (bu3.mono h0.size))
            clear bu3
            refine hK _ _ (fun q hq hd => by rw [(by decide : ∀ x ∈ [7, 17], Own.dep [0, 0, 3, 0, 0, 24, 56, 120, 255, 511, 1023, 1023, 4095, 1023, 1023, 25599, 58367, 123903, 262143, 524287, 1048575, 2097151, 4194303, 8388607] 21 x = true) q hq] at hd; cases hd) ?_
            clear hK K
            repeat (refine Own.st_blind _ rfl rfl (CR.off _ (by decide) _) ?_; go_big_quiet_step (fail); refine wpQuiet_nil ?_)
            refine Own.mix_done ?_
            go_wp2_with (fail)
            go_ret
            first | exact ⟨rfl, BU3.out⟩ | exact ⟨rfl, BU3.out.drew⟩
end Go.Proofs.YtmcnnfpeicnnjaaDoor

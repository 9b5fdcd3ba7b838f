/- Store's laws: StoreBytes. -/
import Derived.Test.YtemcffihfeaniaaStoreF
namespace Go.Proofs.Ytemcffihfeaniaa
open Go.RowKit Go.Deep Go.Own
set_option linter.unusedVariables false
/-- a store, and a row of whole numbers beside it -/
structure S2 (W w : World) (b : Nat) (t : List UInt8) (v : Value) (xs : List Int) : Prop where
  ex : ∃ F : Nat → Prop, Holds w F b t ∧ (∀ k, F k → W.heap.size ≤ k ∧ k < w.heap.size) ∧ ∀ k, v.ownBlock = some k → ¬ F k
  own : OwnI w W.heap.size 3 v xs
  below : Below W.heap.size W w
theorem S2.later {W w w' : World} {b : Nat} {t : List UInt8} {v : Value} {xs : List Int} (h : S2 W w b t v xs) (hb : Below w.heap.size w w') : S2 W w' b t v xs := by
  obtain ⟨F, h1, h2, h3⟩ := h.ex
  exact ⟨⟨F, h1.keep (fun k hk _ => hb.block k hk), fun k hk => ⟨(h2 k hk).1, Nat.lt_of_lt_of_le (h2 k hk).2 hb.size⟩, h3⟩, h.own.later hb, h.below.trans (hb.mono h.below.size)⟩
theorem S2.add {W w : World} {b : Nat} {t : List UInt8} {v : Value} {xs : List Int} (x : ByteArray) (h : S2 W w b t v xs) (hsz : t.length + x.size ≤ 1099511627776) :
    Calls Try.prog 18 #[.pointer (some ⟨b, 0, none⟩), .string x] w fun e w' => e = .returned (.int .i64 (t.length : Nat)) ∧ S2 W w' b (t ++ x.data.toList) v xs := by
  obtain ⟨F, h1, h2, h3⟩ := h.ex
  refine (add_calls F b t x w h1 hsz).mono fun e w' ⟨g1, g2, g3⟩ => ⟨g1, ⟨⟨_, g2, fun k hk => ?_, fun k hk hF => ?_⟩, ?_, ?_⟩⟩
  · have s1 := g3.size
    have s2 := h.below.size
    rcases hk with hk | hk
    · have := h2 k hk; exact ⟨this.1, by omega⟩
    · exact ⟨by have := hk.1; omega, hk.2⟩
  · have hlt := (own_block_lt h.own hk).2
    rcases hF with hF | hF
    · exact h3 k hk hF
    · have := hF.1; omega
  · exact own_keep h.own fun k hk => g3.block k (own_block_lt h.own hk).2 (h3 k hk)
  · exact h.below.trans (g3.below (fun k hk => (h2 k hk).1) h.below.size)
theorem S2.slice {W w : World} {b : Nat} {t : List UInt8} {v : Value} {xs : List Int} (f n : Nat) (h : S2 W w b t v xs) (hfn : f + n ≤ t.length) (hsz : t.length ≤ 1099511627776) :
    Calls Try.prog 19 #[.pointer (some ⟨b, 0, none⟩), .int .i64 (f : Nat), .int .i64 (n : Nat)] w fun e w' => e = .returned (.tuple #[.string (cutB t f n), .bool true]) ∧ S2 W w' b t v xs := by
  obtain ⟨F, h1, h2, h3⟩ := h.ex
  exact (slice_ok F b t f n w h1 (fun k hk => (h2 k hk).2) hfn hsz).mono fun e w' ⟨g1, g2⟩ => ⟨g1, h.later g2⟩
theorem S2.len {W w : World} {b : Nat} {t : List UInt8} {v : Value} {xs : List Int} (h : S2 W w b t v xs) :
    Calls Try.prog 20 #[.pointer (some ⟨b, 0, none⟩)] w fun e w' => e = .returned (.int .i64 (t.length : Nat)) ∧ w = w' := by
  obtain ⟨F, h1, h2, h3⟩ := h.ex
  exact len_calls F b t w h1
theorem S2.start {W w : World} {b : Nat} {t : List UInt8} (h : St W w b t) : S2 W w b t (.slice none 0 0) [] :=
  ⟨⟨_, h.holds, fun k hk => hk, fun k hk => (by cases hk)⟩, OwnI.nil _ _ _, h.below⟩
/-- the row has got one more -/
theorem S2.more {W w w' : World} {b : Nat} {t : List UInt8} {v v' : Value} {xs : List Int} {x : Int} (h : S2 W w b t v xs) (o : w'.ownsRow W.heap.size 3 1 v' (xs.length + 1) (xs.map (Value.int .i64) ++ [.int .i64 x])) (g : w.grownBy w' v.ownBlock)
    (hv : ∀ k, v'.ownBlock = some k → v.ownBlock = some k ∨ w.heap.size ≤ k) : S2 W w' b t v' (xs ++ [x]) := by
  obtain ⟨F, h1, h2, h3⟩ := h.ex
  refine ⟨⟨F, h1.keep (fun k hk hF => g.block k hk (fun e => h3 k e.symm hF)), fun k hk => ⟨(h2 k hk).1, Nat.lt_of_lt_of_le (h2 k hk).2 g.size⟩, fun k hk hF => ?_⟩, ?_, ?_⟩
  · rcases hv k hk with hk' | hk'
    · exact h3 k hk' hF
    · have := (h2 k hF).2; omega
  · unfold OwnI
    rw [List.length_append, List.map_append]
    exact o
  · exact h.below.trans ((below_grown g h.below.size (fun k hk => (own_block_lt h.own hk).1)))
/-- where each text begins -/
def begins : Nat → List ByteArray → List Int
  | _, [] => []
  | n, z :: l => (n : Int) :: begins (n + z.size) l
def joined (l : List ByteArray) : List UInt8 := l.flatMap (fun z => z.data.toList)
theorem begins_length : ∀ (l : List ByteArray) (n : Nat), (begins n l).length = l.length
  | [], _ => rfl
  | z :: l, n => by simp [begins, begins_length l]
theorem joined_append (l m : List ByteArray) : joined (l ++ m) = joined l ++ joined m := by simp [joined]
theorem begins_snoc : ∀ (l : List ByteArray) (z : ByteArray) (n : Nat), begins n (l ++ [z]) = begins n l ++ [((n + (joined l).length : Nat) : Int)]
  | [], z, n => by simp [begins, joined]
  | y :: l, z, n => by simp [begins, begins_snoc l z, joined, Nat.add_assoc]
theorem begins_get : ∀ (l : List ByteArray) (n i : Nat), i < l.length → (begins n l).getD i 0 = ((n + (joined (l.take i)).length : Nat) : Int)
  | [], _, i, h => by simp at h
  | z :: l, n, 0, _ => by simp [begins, joined]
  | z :: l, n, i + 1, h => by
    have := begins_get l (n + z.size) i (by simpa using h)
    simp only [begins, List.getD_cons_succ, List.take_succ_cons, this]
    simp [joined, Nat.add_assoc]
theorem joined_len : ∀ (l : List ByteArray), (∀ z ∈ l, z.size ≤ 200) → (joined l).length ≤ 200 * l.length
  | [], _ => by simp [joined]
  | z :: l, h => by
    have h1 := joined_len l (fun y hy => h y (by simp [hy]))
    have h2 := h z (by simp)
    have h3 : (joined (z :: l)).length = z.size + (joined l).length := by simp [joined]
    rw [h3, List.length_cons]; omega
/-- the text that stands at its place -/
theorem joined_cut (l : List ByteArray) (i k m : Nat) (hi : i < l.length) (hk : k + m ≤ l[i].size) : cutB (joined l) ((joined (l.take i)).length + k) m = l[i].extract k (k + m) := by
  rw [cutB_extract]
  unfold cutB
  have h1 : joined l = joined (l.take i) ++ (l[i].data.toList ++ joined (l.drop (i + 1))) := by
    have h2 : l.take i ++ (l[i] :: l.drop (i + 1)) = l := by rw [← List.drop_eq_getElem_cons hi, List.take_append_drop]
    have h3 := joined_append (l.take i) (l[i] :: l.drop (i + 1))
    rw [h2] at h3
    rw [h3]
    rfl
  congr 2
  rw [h1, ← List.drop_drop, List.drop_left]
  have hl : l[i].data.toList.length = l[i].size := by simp
  rw [List.drop_append_of_le_length (by rw [hl]; omega), List.take_append_of_le_length (by rw [List.length_drop, hl]; omega)]
theorem joined_room (l : List ByteArray) (i : Nat) (hi : i < l.length) : (joined (l.take i)).length + l[i].size ≤ (joined l).length := by
  have h1 : joined l = joined (l.take i) ++ (l[i].data.toList ++ joined (l.drop (i + 1))) := by
    have h2 : l.take i ++ (l[i] :: l.drop (i + 1)) = l := by rw [← List.drop_eq_getElem_cons hi, List.take_append_drop]
    have h3 := joined_append (l.take i) (l[i] :: l.drop (i + 1))
    rw [h2] at h3
    rw [h3]
    rfl
  rw [h1]; simp
theorem S2.read {W w : World} {b g n cap : Nat} {t : List UInt8} {xs : List Int} (h : S2 W w b t (.slice (some ⟨g, 0, none⟩) n cap) xs) {j : Nat} (hj : j < xs.length) : w.cell? ⟨g, j, none⟩ = some (.int .i64 (xs.getD j 0)) := by
  obtain ⟨g', cap', hv, _, _, _, hc, _⟩ := h.own.block (by omega)
  simp only [Value.slice.injEq, Option.some.injEq, Addr.mk.injEq, and_true] at hv
  obtain ⟨rfl, _, _⟩ := hv
  exact hc j hj
set_option maxRecDepth 100000 in
set_option maxHeartbeats 4000000 in
theorem storeBytes_walk (A : Option Addr) (cap : Nat) (l : List ByteArray) (wh at' : Int) (W : World) (hA : ReadsS W A l) (hwh : (Lit.int .i64 wh).wf = true) (hat : (Lit.int .i64 at').wf = true) :
    Calls Try.prog 5 #[.slice A l.length cap, .int .i64 wh, .int .i64 at'] W fun e w' => e = .returned (.bool true) ∧ Below W.heap.size W w' := by
  clear hwh hat
  have HN := Lib.hid (st_new ⟨#[]⟩ W (by decide))
  by_cases h6 : 40 < l.length
  · go_enter Try.func5, Try.ntmps5
    go_wp2_with (first
      | (go_at_call 16; refine HN.out.mono ?_; rintro e w1 ⟨rfl, h1⟩; clear HN)
      | (go_at_call 15; refine (awake_calls _).mono ?_; rintro e w6 ⟨rfl, h6⟩))
    go_ret
    exact ⟨rfl, h1.below.trans (h6.mono h1.below.size)⟩
  · have HA := Lib.hid hA
    clear hA
    obtain ⟨i0, hi0, hz0, hz1, hz2⟩ := info_parts info3
    go_enter Try.func5, Try.ntmps5
    go_wp2_with (first
      | (go_at_call 16; refine HN.out.mono ?_; rintro e w1 ⟨rfl, h1⟩; clear HN))
    go_loopw [8, 9] (fun v u wr => ∃ i : Nat, i ≤ l.length ∧ u = .int .i64 (i : Nat) ∧ S2 W wr W.heap.size (joined (l.take i)) v (begins 0 (l.take i)) ∧ ∀ z ∈ l.take i, z.size ≤ 200) (fun _ u _ => l.length - (intOf u).toNat)
    case atStart => exact ⟨0, by omega, rfl, S2.start h1, by simp⟩
    case round =>
      obtain ⟨i, hi, rfl, hS, hzs⟩ := hrel
      clear h1
      by_cases hlt : i < l.length
      · obtain ⟨bb, oo, rfl, hcell⟩ := HA.out (by omega)
        have hgz : l.getD i ⟨#[]⟩ = l[i] := by simp [hlt]
        obtain ⟨z, hz⟩ : ∃ z, z = l[i] := ⟨_, rfl⟩
        have y1 : wr.cell? ⟨bb, oo + i, none⟩ = some (.string z) := by rw [hz, ← hgz]; exact hcell wr (since_of_below hS.below) i hlt
        have htk : l.take (i + 1) = l.take i ++ [z] := by rw [hz, List.take_succ_eq_append_getElem hlt]
        have HTK := Lib.hid htk
        have HZS := Lib.hid hzs
        by_cases h2 : 200 < z.size
        · clear hz hgz htk hzs hcell
          go_wp2_with (first | (go_at_call 15; refine (awake_calls _).mono ?_; rintro e w3 ⟨rfl, h3⟩))
          go_ret
          exact ⟨rfl, hS.below.trans (h3.mono hS.below.size)⟩
        · have hjl := joined_len _ hzs
          have hlen : (l.take i).length = i := by rw [List.length_take]; omega
          rw [hlen] at hjl
          have hbl : (begins 0 (l.take i)).length = i := by rw [begins_length, hlen]
          obtain ⟨j, hj⟩ : ∃ j, j = joined (l.take i) := ⟨_, rfl⟩
          obtain ⟨bg, hbg⟩ : ∃ bg, bg = begins 0 (l.take i) := ⟨_, rfl⟩
          rw [← hj] at hS hjl
          rw [← hbg] at hS hbl
          have CA := Lib.hid (hS.add z (by omega))
          have HJ := Lib.hid (show _ ∧ _ from ⟨hj, hbg⟩)
          have hjl2 : j.length ≤ 1099511627776 := by omega
          have b8 : bg.length + 1 ≤ maxLen := by simp only [maxLen]; omega
          have b9 : (bg.length + 1) * 8 ≤ 140737488355328 := by omega
          clear hz hgz htk hzs hcell hj hbg hlen
          go_wp2_with (first
            | (go_at_call 18; refine CA.out.mono ?_; rintro e w3 ⟨rfl, h3⟩; clear CA hS y1)
            | (at_builtin; have h5 := h3.later ((Below.refl _ _).alloc (Nat.le_refl _) (.cells #[.int .i64 (j.length : Nat)] 3)); refine own_append (o := ⟨some 50, _, _, _, _, _⟩) rfl (.tmp 42) (.tmp 49) 33 33 rfl W.heap.size 3 i0 (.int .i64 0) 1 8 Try.underlying33 hi0 hz0 hz1 hz2 rfl (by decide) _ bg.length _ rfl h5.own _ rfl 1 _ (src_one (x := .int .i64 (j.length : Nat)) Try.underlying33 rfl (cell_new1 _ _ _)) b8 b9 h5.below.size ?_; intro v1 w1 o1 g1x v1x; have h6 := h5.more o1 g1x v1x; clear o1 g1x v1x h5))
          go_roundw
          case rel =>
            obtain ⟨hj, hbg⟩ := HJ.out
            refine ⟨i + 1, by omega, by go_num, ?_, ?_⟩
            · rw [HTK.out, joined_append, begins_snoc, ← hj, ← hbg, Nat.zero_add]
              simpa [joined] using h6
            · rw [HTK.out]
              intro y hy
              rcases List.mem_append.1 hy with hy | hy
              · exact HZS.out y hy
              · rw [List.mem_singleton.1 hy]; omega
          case measure => simp [intOf]; omega
      · have hil : l.take i = l := List.take_of_length_le (by omega)
        have hie : i = l.length := by omega
        subst hie
        rw [hil] at hS hzs
        clear hil
        by_cases h0 : l.length = 0
        · have hj0 : joined l = [] := by rw [List.eq_nil_of_length_eq_zero h0]; rfl
          rw [hj0] at hS
          have CL := Lib.hid hS.len
          have HB := Lib.hid hS.below
          have z0 : ((l.length : Int) == 0) = true := by simp [h0]
          clear hS hj0 h0
          go_wp2_with (first
            | (go_at_call 20; refine CL.out.mono ?_; rintro e w3 ⟨rfl, rfl⟩; clear CL)
            | (go_at_call 15; refine (awake_calls _).mono ?_; rintro e w6 ⟨rfl, h6⟩))
          go_ret
          exact ⟨rfl, HB.out.trans (h6.mono HB.out.size)⟩
        · have z0 : ((l.length : Int) == 0) = false := by simp [h0]
          have hjl := joined_len l hzs
          obtain ⟨bb, oo, rfl, hcell⟩ := HA.out (by omega)
          obtain ⟨i, hi, _, ci⟩ := place_nat wh l.length (by omega) (by omega)
          obtain ⟨gv, cv, rfl, _⟩ := hS.own.block (by rw [begins_length]; omega)
          rw [begins_length] at hS ⊢
          have hgz : l.getD i ⟨#[]⟩ = l[i] := by simp [hi]
          obtain ⟨z, hz⟩ : ∃ z, z = l[i] := ⟨_, rfl⟩
          have hz2 : z.size ≤ 200 := by rw [hz]; exact hzs _ (List.getElem_mem hi)
          obtain ⟨k, hk, _, ck⟩ := place_nat at' (z.size + 1) (by omega) (by omega)
          obtain ⟨fs, hfs⟩ : ∃ fs, fs = (joined (l.take i)).length := ⟨_, rfl⟩
          have room := joined_room l i hi
          rw [← hz, ← hfs] at room
          have s1 := joined_cut l i 0 k hi (by rw [← hz]; omega)
          have s2 := joined_cut l i k (z.size - k) hi (by rw [← hz]; omega)
          rw [← hz, ← hfs] at s1 s2
          rw [Nat.add_zero, Nat.zero_add] at s1
          have rdf : ∀ wz : World, S2 W wz W.heap.size (joined l) (.slice (some ⟨gv, 0, none⟩) l.length cv) (begins 0 l) → wz.cell? ⟨gv, i, none⟩ = some (.int .i64 (fs : Nat)) := fun wz h => by
            rw [h.read (by rw [begins_length]; exact hi), begins_get l 0 i hi, Nat.zero_add, hfs]
          have rdz : ∀ wz : World, S2 W wz W.heap.size (joined l) (.slice (some ⟨gv, 0, none⟩) l.length cv) (begins 0 l) → wz.cell? ⟨bb, oo + i, none⟩ = some (.string z) := fun wz h => by
            rw [hz, ← hgz]; exact hcell wz (since_of_below h.below) i hi
          have C1 := Lib.hid (show ∀ wz : World, S2 W wz W.heap.size (joined l) (.slice (some ⟨gv, 0, none⟩) l.length cv) (begins 0 l) → Calls Try.prog 19 #[.pointer (some ⟨W.heap.size, 0, none⟩), .int .i64 (fs : Nat), .int .i64 (k : Nat)] wz fun e w' => e = .returned (.tuple #[.string (z.extract 0 k), .bool true]) ∧ S2 W w' W.heap.size (joined l) (.slice (some ⟨gv, 0, none⟩) l.length cv) (begins 0 l) from fun wz h => by
            have := h.slice fs k (by omega) (by omega)
            rw [s1] at this; exact this)
          have C2 := Lib.hid (show ∀ wz : World, S2 W wz W.heap.size (joined l) (.slice (some ⟨gv, 0, none⟩) l.length cv) (begins 0 l) → Calls Try.prog 19 #[.pointer (some ⟨W.heap.size, 0, none⟩), .int .i64 ((fs : Int) + (k : Int)), .int .i64 ((z.size : Int) - (k : Int))] wz fun e w' => e = .returned (.tuple #[.string (z.extract k z.size), .bool true]) ∧ S2 W w' W.heap.size (joined l) (.slice (some ⟨gv, 0, none⟩) l.length cv) (begins 0 l) from fun wz h => by
            have := h.slice (fs + k) (z.size - k) (by omega) (by omega)
            rw [s2, show k + (z.size - k) = z.size by omega, show ((fs + k : Nat) : Int) = (fs : Int) + (k : Int) by omega, show ((z.size - k : Nat) : Int) = (z.size : Int) - (k : Int) by omega] at this; exact this)
          have s12 : z.extract 0 k ++ z.extract k z.size = z := by
            apply ByteArray.ext
            apply Array.ext'
            simp
          have CI := Lib.hid ci
          have CK := Lib.hid (show ∀ w : World, Calls Try.prog 17 #[.int .i64 at', .int .i64 ((z.size : Int) + 1)] w fun e w' => e = .returned (.int .i64 (k : Nat)) ∧ w = w' from ck)
          have RF := Lib.hid rdf
          have RZ := Lib.hid rdz
          have y1 := rdf _ hS
          have y2 := rdz _ hS
          clear s1 s2 rdf rdz ci ck hz hgz hfs hcell hzs
          go_wp2_with (first
            | (go_at_call 17; refine (CI.out _).mono ?_; rintro e w2 ⟨rfl, rfl⟩; clear CI)
            | (go_at_call 17; refine (CK.out _).mono ?_; rintro e w2 ⟨rfl, rfl⟩; clear CK)
            | (go_at_call 19; refine (C1.out _ hS).mono ?_; rintro e w4 ⟨rfl, h4⟩; clear C1 hS y1 y2))
          have y3 := RF.out _ h4
          have y4 := RZ.out _ h4
          obtain ⟨w5, hw5⟩ : ∃ w5, w5 = w4.drew := ⟨_, rfl⟩
          have h5 : S2 W w5 W.heap.size (joined l) (.slice (some ⟨gv, 0, none⟩) l.length cv) (begins 0 l) := by rw [hw5]; exact h4.later (Below.refl _ _).drew
          have hall : ∀ j, CR [4, 10] [(4, ⟨gv, i, none⟩, .int .i64 (fs : Nat)), (10, ⟨bb, oo + i, none⟩, .string z)] j w5 := fun j => CR.all (by
            intro x hx
            simp only [List.mem_cons, List.not_mem_nil, or_false] at hx
            rcases hx with rfl | rfl
            · exact RF.out _ h5
            · exact RZ.out _ h5) j
          refine Own.region_mix (CR [4, 10] [(4, ⟨gv, i, none⟩, .int .i64 (fs : Nat)), (10, ⟨bb, oo + i, none⟩, .string z)]) [4, 10] [0, 0, 0, 6, 14, 0, 62, 0, 0, 384, 896, 1920, 0, 8064, 16383, 32767, 65535, 65535, 131071, 524287] (Own.Ord.run [(0, true), (1, true), (2, true), (3, true), (4, true), (5, true), (6, true), (7, true), (8, true), (9, true), (10, true), (11, true), (12, true), (13, true), (14, false), (15, true), (16, true), (17, true), (18, true), (19, true)] .done) (by kernel_rfl) (by kernel_rfl) (fun dst v c a w h => by cases dst <;> exact h) (fun x hx w => CR.off x hx w) ?_
          simp only [Own.Ord.run]
          rw [← hw5]
          clear hw5 h4 y3 y4
          repeat (refine Own.st_blind _ rfl rfl (CR.off _ (by decide) _) ?_; go_big_quiet_step (fail); refine wpQuiet_nil ?_)
          refine Own.st_load _ rfl rfl (.int .i64 (fs : Nat)) (fun w' hw' => ?_) (hall _) ?_
          · have hg := hw'.get (a := ⟨gv, i, none⟩) (v := .int .i64 (fs : Nat)) (by decide) (by simp)
            clear hall hw'
            go_simp
          simp only [Act.put, List.setIfInBounds_toArray, List.set_cons_succ, List.set_cons_zero]
          repeat (refine Own.st_blind _ rfl rfl (CR.off _ (by decide) _) ?_; go_big_quiet_step (fail); refine wpQuiet_nil ?_)
          refine Own.st_load _ rfl rfl (.string z) (fun w' hw' => ?_) (hall _) ?_
          · have hg := hw'.get (a := ⟨bb, oo + i, none⟩) (v := .string z) (by decide) (by simp)
            clear hall hw'
            go_simp
          simp only [Act.put, List.setIfInBounds_toArray, List.set_cons_succ, List.set_cons_zero]
          repeat (refine Own.st_blind _ rfl rfl (CR.off _ (by decide) _) ?_; go_big_quiet_step (fail); refine wpQuiet_nil ?_)
          refine Own.st_do _ rfl rfl (fun K hK => ?_)
          go_simp
          refine (C2.out _ h5).mono ?_
          rintro e w6 ⟨rfl, h7⟩
          have y5 := RZ.out _ h7
          refine hK _ _ (fun x hx hd => by rw [(by decide : ∀ x ∈ [4, 10], Own.dep [0, 0, 0, 6, 14, 0, 62, 0, 0, 384, 896, 1920, 0, 8064, 16383, 32767, 65535, 65535, 131071, 524287] 14 x = true) x hx] at hd; cases hd) ?_
          clear hK K C2 h5 hall
          repeat (refine Own.st_blind _ rfl rfl (CR.off _ (by decide) _) ?_; go_big_quiet_step (fail); refine wpQuiet_nil ?_)
          refine Own.mix_done ?_
          go_wp2_with (first
            | (go_at_call 15; refine (awake_calls _).mono ?_; rintro e w7 ⟨rfl, h8⟩))
          go_ret
          exact ⟨rfl, h7.below.trans (h8.mono h7.below.size)⟩
end Go.Proofs.Ytemcffihfeaniaa

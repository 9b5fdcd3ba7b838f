/- cond.one. -/
import Derived.Test.YtmcnnfpeicnnjaaDoorCndS
namespace Go.Proofs.YtmcnnfpeicnnjaaDoor
open Go.RowKit Go.Deep Go.Own
set_option linter.unusedVariables false
theorem hp_one {s : ByteArray} (c : UInt8) (h : 0 < s.size) : Lib.hasPrefix s.data.toList [c] = decide (uB s 0 = c.toNat) := by
  unfold Lib.hasPrefix
  rw [uB_list, List.getD_eq_getElem?_getD]
  have hl : s.data.toList.length = s.size := by simp
  cases hs : s.data.toList with
  | nil => rw [hs] at hl; simp at hl; omega
  | cons x t =>
    simp only [List.getElem?_cons_zero, Option.getD_some, List.isPrefixOf, Bool.and_true]
    rw [Bool.eq_iff_iff, beq_iff_eq, decide_eq_true_eq]
    exact ⟨fun e => by rw [e], fun e => (UInt8.toNat_inj.1 e).symm⟩
theorem hp_two {s : ByteArray} (c d : UInt8) (h : 0 < s.size) : Lib.hasPrefix s.data.toList [c, d] = decide (uB s 0 = c.toNat ∧ 1 < s.size ∧ uB s 1 = d.toNat) := by
  unfold Lib.hasPrefix
  rw [uB_list, uB_list, List.getD_eq_getElem?_getD, List.getD_eq_getElem?_getD]
  have hl : s.data.toList.length = s.size := by simp
  cases hs : s.data.toList with
  | nil => rw [hs] at hl; simp at hl; omega
  | cons x t =>
    rw [hs, List.length_cons] at hl
    cases ht : t with
    | nil =>
      rw [ht, List.length_nil] at hl
      rw [decide_eq_false (fun e => by omega)]
      simp [List.isPrefixOf]
    | cons y r =>
      rw [ht, List.length_cons] at hl
      simp only [List.getElem?_cons_zero, List.getElem?_cons_succ, Option.getD_some, List.isPrefixOf, Bool.and_true]
      rw [Bool.eq_iff_iff, Bool.and_eq_true, beq_iff_eq, beq_iff_eq, decide_eq_true_eq]
      exact ⟨fun e => ⟨by rw [e.1], by omega, by rw [e.2]⟩, fun e => ⟨(UInt8.toNat_inj.1 e.1).symm, (UInt8.toNat_inj.1 e.2.2).symm⟩⟩
theorem head_low {s : ByteArray} (h : 0 < s.size) {c : Nat} (hc : uB s 0 = c) (h128 : c < 128) : codes s = (c : Int) :: codes (s.extract 1 s.size) := by
  rw [codes_head s h, (code_low' (s := s) (i := 0) (by omega)).1, (code_low' (s := s) (i := 0) (by omega)).2, hc]
theorem one_dot {s : ByteArray} (h : 0 < s.size) (hc : uB s 0 = 46) : oneC (codes s) = some (⟨true, false, []⟩, codes (s.extract 1 s.size)) := by
  rw [show codes s = 46 :: codes (s.extract 1 s.size) from head_low (c := 46) h hc (by omega), oneC, if_pos rfl]
theorem one_not {s : ByteArray} (h : 0 < s.size) (hc : uB s 0 = 91 ∧ 1 < s.size ∧ uB s 1 = 94) : oneC (codes s) = setC true (codes (s.extract 2 s.size)) := by
  have h1 : 0 < (s.extract 1 s.size).size := by rw [ByteArray.size_extract]; omega
  have h2 : uB (s.extract 1 s.size) 0 = 94 := by rw [uB_part s 1 s.size 0 (by omega)]; exact hc.2.2
  have h3 : (s.extract 1 s.size).extract 1 (s.extract 1 s.size).size = s.extract 2 s.size := by
    apply ByteArray.ext
    rw [ByteArray.data_extract, ByteArray.data_extract, ByteArray.data_extract, Array.extract_extract, ByteArray.size_extract]
    congr 1
    omega
  have e1 : codes (s.extract 1 s.size) = 94 :: codes (s.extract 2 s.size) := by
    have := head_low (c := 94) h1 h2 (by omega)
    rw [h3] at this
    exact this
  rw [show codes s = 91 :: codes (s.extract 1 s.size) from head_low (c := 91) h hc.1 (by omega), e1, oneC, if_neg (by decide), if_pos rfl, if_pos (show (94 :: codes (s.extract 2 s.size)).head? = some 94 from rfl)]
  rfl
theorem one_set {s : ByteArray} (h : 0 < s.size) (hc : uB s 0 = 91) (hn : ¬ (1 < s.size ∧ uB s 1 = 94)) : oneC (codes s) = setC false (codes (s.extract 1 s.size)) := by
  rw [show codes s = 91 :: codes (s.extract 1 s.size) from head_low (c := 91) h hc (by omega), oneC, if_neg (by decide), if_pos rfl, if_neg]
  intro hh
  by_cases h1 : 1 < s.size
  · have h2 : 0 < (s.extract 1 s.size).size := by rw [ByteArray.size_extract]; omega
    rw [codes_head _ h2] at hh
    have h3 : uCode (s.extract 1 s.size) 0 = ((94 : Nat) : Int) := by simpa using hh
    have h4 := (code_at _ 0 94 (by omega)).1 h3
    rw [uB_part s 1 s.size 0 (by omega)] at h4
    exact hn ⟨h1, h4⟩
  · have h2 : (s.extract 1 s.size).size = 0 := by rw [ByteArray.size_extract]; omega
    have : codes (s.extract 1 s.size) = [] := by
      have := codes_count (s.extract 1 s.size)
      exact List.length_eq_zero_iff.1 (by omega)
    rw [this] at hh
    cases hh
theorem one_code {s : ByteArray} (h : 0 < s.size) (h1 : uB s 0 ≠ 46) (h2 : uB s 0 ≠ 91) : oneC (codes s) = if 0 ≤ uCode s 0 ∧ uCode s 0 ≠ 93 then some (⟨false, false, [uCode s 0]⟩, codes (s.extract (uLen s 0) s.size)) else none := by
  have e1 : uCode s 0 ≠ 46 := fun e => h1 ((code_at s 0 46 (by omega)).1 e)
  have e2 : uCode s 0 ≠ 91 := fun e => h2 ((code_at s 0 91 (by omega)).1 e)
  rw [codes_head s h, oneC, if_neg e1, if_neg e2]
theorem own_single {w : World} {V base : Nat} {k : Int} (h : w.heap[V]? = some (.cells #[Value.int .i64 k] 3 (0, 0))) (hb : base ≤ V) : OwnI w base 3 (.slice (some ⟨V, 0, none⟩) 1 1) [k] :=
  ⟨rfl, .inr ⟨V, 1, #[.int .i64 k], rfl, hb, h, Nat.le_refl _, by decide, rfl, rfl⟩⟩
def OnePost (w : World) (s : ByteArray) (e : Ending) (w' : World) : Prop :=
  (∃ (x : ItP) (A : Option Addr) (c : Nat) (rest : ByteArray) (ok : Bool), e = .returned (.tuple #[.agg #[.bool x.any, .bool x.neg, .slice A x.set.length c], .string rest, .bool ok]) ∧ OwnI w' w.heap.size 3 (.slice A x.set.length c) x.set ∧ rest.size < s.size ∧ x.set.length ≤ s.size + 1 ∧ oneC (codes s) = if ok = true then some (x, codes rest) else none) ∧ Below w.heap.size w w'
/-- the item that is handed back, as it lies -/
structure OneD (w wf : World) (M : Nat) (x : ItP) (A : Option Addr) (c : Nat) : Prop where
  cell : wf.heap[M]? = some (.cells #[.bool x.any, .bool x.neg, .slice A x.set.length c] 43 (0, 0))
  ow : OwnI wf w.heap.size 3 (.slice A x.set.length c) x.set
  bel : Below w.heap.size w wf
theorem OneD.drew {w wf : World} {M : Nat} {x : ItP} {A : Option Addr} {c : Nat} (h : OneD w wf M x A c) : OneD w wf.drew M x A c := ⟨h.cell, h.ow.later (belowN wf 1), h.bel.drew⟩
theorem own_other {w : World} {base e size n : Nat} {v : Value} {xs : List Value} {k j : Nat} {c : Array Value} {t : TypeId} {fr : Nat × Nat} {x : Value} (hr : w.ownsRow base e size v n xs) (hk : w.heap[k]? = some (.cells c t fr)) (hne : t ≠ e) : (w.setCell ⟨k, j, none⟩ x).ownsRow base e size v n xs :=
  own_keep hr fun i hi => setCell_other _ (fun h => by
    obtain ⟨c2, h2⟩ := own_row_type hr hi
    have h' : i = k := h
    subst h'
    rw [hk] at h2
    injection h2 with h2
    injection h2 with _ h3 _
    exact hne h3)
theorem one_put {w wx wf : World} {M : Nat} {x0 x1 x2 : Value} (x : ItP) {A : Option Addr} {c : Nat} (hc : wx.heap[M]? = some (.cells #[x0, x1, x2] 43 (0, 0))) (ho : OwnI wx w.heap.size 3 (.slice A x.set.length c) x.set)
    (hw : wf = ((wx.setCell ⟨M, 0, none⟩ (.bool x.any)).setCell ⟨M, 1, none⟩ (.bool x.neg)).setCell ⟨M, 2, none⟩ (.slice A x.set.length c)) (hb : Below w.heap.size w wx) (hM : w.heap.size ≤ M) : OneD w wf M x A c := by
  subst hw
  have h1 : (wx.setCell ⟨M, 0, none⟩ (.bool x.any)).heap[M]? = some (.cells #[.bool x.any, x1, x2] 43 (0, 0)) := setCell_same (j := 0) hc _
  have h2 : ((wx.setCell ⟨M, 0, none⟩ (.bool x.any)).setCell ⟨M, 1, none⟩ (.bool x.neg)).heap[M]? = some (.cells #[.bool x.any, .bool x.neg, x2] 43 (0, 0)) := setCell_same (j := 1) h1 _
  refine ⟨?_, own_other (own_other (own_other ho hc (by decide)) h1 (by decide)) h2 (by decide), ((hb.setCell (p := ⟨M, 0, none⟩) hM _).setCell (p := ⟨M, 1, none⟩) hM _).setCell (p := ⟨M, 2, none⟩) hM _⟩
  rw [setCell_same h2]
  rfl
theorem one_ret {w wf : World} {M : Nat} {s rest : ByteArray} {x : ItP} {A : Option Addr} {c : Nat} {ok : Bool} {act : Act} (h : OneD w wf M x A c) (hd : act.defers = []) (ht : act.tmps[2]? = some (.pointer (some ⟨M, 0, none⟩)) ∧ act.tmps[3]? = some (.string rest) ∧ act.tmps[4]? = some (.bool ok)) (hr : rest.size < s.size) (hx : x.set.length ≤ s.size + 1) (ho : oneC (codes s) = if ok = true then some (x, codes rest) else none) : bodyPost Tryd.prog Tryd.f34 (OnePost w s) .ret act wf := by
  obtain ⟨r0, r1, r2⟩ := cell3_of h.cell
  obtain ⟨t2, t3, t4⟩ := ht
  refine bodyPost_ret (v := .tuple #[.agg #[.bool x.any, .bool x.neg, .slice A x.set.length c], .string rest, .bool ok]) (by simp [results, Tryd.results34, go_sem, t2, t3, t4, r0, r1, r2]; done) hd ?_
  exact ⟨⟨x, A, c, rest, ok, rfl, h.ow, hr, hx, ho⟩, h.bel⟩
set_option maxRecDepth 100000 in
set_option maxHeartbeats 16000000 in
theorem one_calls (s : ByteArray) (w : World) (h0 : 0 < s.size) (hs : s.size ≤ 1000000000) (hT : TabsL w) : Calls Tryd.prog 34 #[.string s] w (OnePost w s) := by
  obtain ⟨w1, hw1⟩ : ∃ w1, w1 = w.alloc (.cells #[Value.bool false, .bool false, .slice none 0 0] 43) := ⟨_, rfl⟩
  obtain ⟨M, hM⟩ : ∃ M, M = w.heap.size := ⟨_, rfl⟩
  have b1 : Below w.heap.size w w1 := by rw [hw1]; exact (Below.refl _ _).alloc (Nat.le_refl _) _
  have m1 : w1.heap[M]? = some (.cells #[.bool false, .bool false, .slice none 0 0] 43 (0, 0)) := by rw [hw1, hM]; exact blk_alloc_new _ _
  have HW1 := Lib.hid (And.intro hw1 hM)
  have B1 := Lib.hid b1
  have M1 := Lib.hid m1
  have HM0 := Lib.hid (show w.heap.size ≤ M by rw [hM]; exact Nat.le_refl _)
  have HT := Lib.hid (hT.below b1)
  have C1 : Calls Tryd.prog 55 #[.string s, .string ⟨#[46]⟩] w1 fun e w' => e = .returned (.bool (decide (uB s 0 = 46))) ∧ w1 = w' := (Tryd.strings_HasPrefix s ⟨#[46]⟩ w1).mono fun e w' h => ⟨by rw [h.1, hp_one 46 h0]; rfl, h.2.symm⟩
  have C2 : Calls Tryd.prog 55 #[.string s, .string ⟨#[91, 94]⟩] w1 fun e w' => e = .returned (.bool (decide (uB s 0 = 91 ∧ 1 < s.size ∧ uB s 1 = 94))) ∧ w1 = w' := (Tryd.strings_HasPrefix s ⟨#[91, 94]⟩ w1).mono fun e w' h => ⟨by rw [h.1, hp_two 91 94 h0]; rfl, h.2.symm⟩
  have C3 : Calls Tryd.prog 55 #[.string s, .string ⟨#[91]⟩] w1 fun e w' => e = .returned (.bool (decide (uB s 0 = 91))) ∧ w1 = w' := (Tryd.strings_HasPrefix s ⟨#[91]⟩ w1).mono fun e w' h => ⟨by rw [h.1, hp_one 91 h0]; rfl, h.2.symm⟩
  have C1 := Lib.hid C1
  have C2 := Lib.hid C2
  have C3 := Lib.hid C3
  have FS : ∀ (k : Nat), k ≤ s.size → ∀ w : World, (Instr.slice 9 (.string s) (some (.int .i64 (k : Nat))) none none).run Tryd.prog w = .ok (.string (s.extract k s.size)) w := fun k hk w => by
    rw [run_slice_string_l (t := 9) (s := s) (ht := Tryd.underlying9) (kl := .i64) (l := (k : Nat))]
    · rfl
    all_goals omega
  have ZX : ∀ k, (s.extract k s.size).size = min s.size s.size - k := fun k => ByteArray.size_extract
  clear hT hw1 hM b1 m1
  by_cases c46 : uB s 0 = 46
  · rw [decide_eq_true c46] at C1
    have E := Lib.hid (one_dot h0 c46)
    have R1 : ∀ w : World, (Instr.slice 9 (.string s) (some (.int .i64 1)) none none).run Tryd.prog w = .ok (.string (s.extract 1 s.size)) w := FS 1 (by omega)
    obtain ⟨R, hR⟩ : ∃ R, R = s.extract 1 s.size := ⟨_, rfl⟩
    have hRz : R.size < s.size := by rw [hR, ZX]; omega
    rw [← hR] at R1 E
    have HRZ := Lib.hid hRz
    clear hR hRz c46 C2 C3 FS ZX
    go_enter Tryd.func34, Tryd.ntmps34
    go_upto_region 1 with (fail)
    rw [← HW1.out.1, ← HW1.out.2]
    go_wp2_with (fail)
    refine C1.out.mono ?_
    rintro e w0 ⟨rfl, hw0⟩
    subst hw0
    clear C1 HW1
    go_upto_region 2 with (fail)
    have nu2 := M1.out
    have bu2 := B1.out
    refine Own.region_mix (CR [] []) [] [0, 0, 2, 1, 15, 31] (Own.Ord.run [(1, true), (2, true), (0, false), (3, false), (4, true), (5, true)] .done) (by kernel_rfl) (by kernel_rfl) (fun dst v c a w h => by cases dst <;> exact h) (fun x hx w => CR.off x hx w) ?_
    simp only [Own.Ord.run]
    repeat (refine Own.st_blind _ rfl rfl (CR.off _ (by decide) _) ?_; go_big_quiet_step (fail); refine wpQuiet_nil ?_)
    refine Own.st_do _ rfl rfl (fun K hK => ?_)
    go_simp
    refine hK _ _ (fun q hq hd => by cases hq) ?_
    clear hK K
    refine Own.st_do _ rfl rfl (fun K hK => ?_)
    obtain ⟨z0, z1, z2⟩ := cell3_of nu2
    have fz : ∀ j, w1.frozen? ⟨M, j, none⟩ = false := fun j => by simp [World.frozen?, nu2]
    go_simp
    generalize hwf : ((w1.setCell ⟨M, 0, none⟩ _).setCell ⟨M, 1, none⟩ _).setCell ⟨M, 2, none⟩ _ = wf
    have HWF := Lib.hid (one_put (⟨true, false, []⟩ : ItP) nu2 (OwnI.nil _ _ _) hwf.symm bu2 HM0.out)
    clear hwf
    refine hK _ _ (fun q hq hd => by cases hq) ?_
    clear hK K
    repeat (refine Own.st_blind _ rfl rfl (CR.off _ (by decide) _) ?_; go_big_quiet_step (fail); refine wpQuiet_nil ?_)
    refine Own.mix_done ?_
    go_wp2_with (fail)
    first | exact one_ret HWF.out rfl ⟨rfl, rfl, rfl⟩ HRZ.out (by simp) E.out | exact one_ret HWF.out.drew rfl ⟨rfl, rfl, rfl⟩ HRZ.out (by simp) E.out
  rw [decide_eq_false c46] at C1
  by_cases c9194 : uB s 0 = 91 ∧ 1 < s.size ∧ uB s 1 = 94
  · rw [decide_eq_true c9194] at C2
    have E := Lib.hid (one_not h0 c9194)
    have R2 : ∀ w : World, (Instr.slice 9 (.string s) (some (.int .i64 2)) none none).run Tryd.prog w = .ok (.string (s.extract 2 s.size)) w := FS 2 (by omega)
    obtain ⟨R, hR⟩ : ∃ R, R = s.extract 2 s.size := ⟨_, rfl⟩
    have hRz : R.size < s.size := by rw [hR, ZX]; omega
    rw [← hR] at R2 E
    have CS := Lib.hid (set_calls R w1 (by omega) HT.out)
    unfold SetPost at CS
    have HRZ := Lib.hid hRz
    clear hR hRz c46 c9194 C3 FS ZX
    go_enter Tryd.func34, Tryd.ntmps34
    go_upto_region 1 with (fail)
    rw [← HW1.out.1, ← HW1.out.2]
    go_wp2_with (fail)
    refine C1.out.mono ?_
    rintro e w0 ⟨rfl, hw0⟩
    subst hw0
    clear C1 HW1
    go_wp2_with (fail)
    refine C2.out.mono ?_
    rintro e w0 ⟨rfl, hw0⟩
    subst hw0
    clear C2
    go_wp2_with (fail)
    refine CS.out.mono ?_
    rintro e w2 ⟨⟨v, ys, rest, ok, rfl, ho, hrz, hyl, hset⟩, b2⟩
    obtain ⟨A, c, rfl⟩ := own_is ho
    have B2 := Lib.hid (B1.out.trans (b2.mono B1.out.size))
    have M2 := Lib.hid ((b2.block _ (Array.getElem?_eq_some_iff.1 M1.out).1).trans M1.out)
    have HO := Lib.hid (own_base ho B1.out.size)
    have E2 := Lib.hid (show oneC (codes s) = if ok = true then some ((⟨false, true, ys⟩ : ItP), codes rest) else none by rw [E.out]; exact hset true)
    have HZ := Lib.hid (And.intro hrz hyl)
    clear ho b2 hset hrz hyl CS
    obtain ⟨z0, z1, z2⟩ := cell3_of M2.out
    have fz : ∀ j, w2.frozen? ⟨M, j, none⟩ = false := fun j => by have := M2.out; simp [World.frozen?, this]
    go_wp2_with (fail)
    generalize hwf : ((w2.setCell ⟨M, 0, none⟩ _).setCell ⟨M, 1, none⟩ _).setCell ⟨M, 2, none⟩ _ = wf
    have HWF := one_put (⟨false, true, ys⟩ : ItP) M2.out HO.out hwf.symm B2.out HM0.out
    clear hwf
    have hz1 := HZ.out.1
    have hz2 := HZ.out.2
    have hz3 := HRZ.out
    exact one_ret HWF rfl ⟨rfl, rfl, rfl⟩ (by omega) (by simp only; omega) E2.out
  rw [decide_eq_false c9194] at C2
  by_cases c91 : uB s 0 = 91
  · rw [decide_eq_true c91] at C3
    have E := Lib.hid (one_set h0 c91 (fun e => c9194 ⟨c91, e⟩))
    have R2 : ∀ w : World, (Instr.slice 9 (.string s) (some (.int .i64 1)) none none).run Tryd.prog w = .ok (.string (s.extract 1 s.size)) w := FS 1 (by omega)
    obtain ⟨R, hR⟩ : ∃ R, R = s.extract 1 s.size := ⟨_, rfl⟩
    have hRz : R.size < s.size := by rw [hR, ZX]; omega
    rw [← hR] at R2 E
    have CS := Lib.hid (set_calls R w1 (by omega) HT.out)
    unfold SetPost at CS
    have HRZ := Lib.hid hRz
    clear hR hRz c46 c9194 c91 FS ZX
    go_enter Tryd.func34, Tryd.ntmps34
    go_upto_region 1 with (fail)
    rw [← HW1.out.1, ← HW1.out.2]
    go_wp2_with (fail)
    refine C1.out.mono ?_
    rintro e w0 ⟨rfl, hw0⟩
    subst hw0
    clear C1 HW1
    go_wp2_with (fail)
    refine C2.out.mono ?_
    rintro e w0 ⟨rfl, hw0⟩
    subst hw0
    clear C2
    go_wp2_with (fail)
    refine C3.out.mono ?_
    rintro e w0 ⟨rfl, hw0⟩
    subst hw0
    clear C3
    go_wp2_with (fail)
    refine CS.out.mono ?_
    rintro e w2 ⟨⟨v, ys, rest, ok, rfl, ho, hrz, hyl, hset⟩, b2⟩
    obtain ⟨A, c, rfl⟩ := own_is ho
    have B2 := Lib.hid (B1.out.trans (b2.mono B1.out.size))
    have M2 := Lib.hid ((b2.block _ (Array.getElem?_eq_some_iff.1 M1.out).1).trans M1.out)
    have HO := Lib.hid (own_base ho B1.out.size)
    have E2 := Lib.hid (show oneC (codes s) = if ok = true then some ((⟨false, false, ys⟩ : ItP), codes rest) else none by rw [E.out]; exact hset false)
    have HZ := Lib.hid (And.intro hrz hyl)
    clear ho b2 hset hrz hyl CS
    obtain ⟨z0, z1, z2⟩ := cell3_of M2.out
    have fz : ∀ j, w2.frozen? ⟨M, j, none⟩ = false := fun j => by have := M2.out; simp [World.frozen?, this]
    go_wp2_with (fail)
    generalize hwf : ((w2.setCell ⟨M, 0, none⟩ _).setCell ⟨M, 1, none⟩ _).setCell ⟨M, 2, none⟩ _ = wf
    have HWF := one_put (⟨false, false, ys⟩ : ItP) M2.out HO.out hwf.symm B2.out HM0.out
    clear hwf
    have hz1 := HZ.out.1
    have hz2 := HZ.out.2
    have hz3 := HRZ.out
    exact one_ret HWF rfl ⟨rfl, rfl, rfl⟩ (by omega) (by simp only; omega) E2.out
  rw [decide_eq_false c91] at C3
  have E := Lib.hid (one_code h0 c46 c91)
  have hul : uLen s 0 ≤ s.size := by have := u_fits s 0 h0; unfold uLen; omega
  have hul1 : 1 ≤ uLen s 0 := u_len1 s 0
  have R2 := FS (uLen s 0) hul
  have CA := Lib.hid (show ∀ wx, Below w1.heap.size w1 wx → Calls Tryd.prog 57 #[.string s, .int .i64 0] wx fun e w' => e = .returned (.tuple #[unitV 0 (uLen s 0) (uCode s 0), .bool true]) ∧ Below wx.heap.size wx w' from fun wx hb => uat_in s 0 wx h0 (by omega) (HT.out.below hb).1)
  unfold unitV at CA
  obtain ⟨n, hn⟩ : ∃ n, n = uLen s 0 := ⟨_, rfl⟩
  obtain ⟨k, hk⟩ : ∃ k, k = uCode s 0 := ⟨_, rfl⟩
  obtain ⟨R, hR⟩ : ∃ R, R = s.extract n s.size := ⟨_, rfl⟩
  rw [← hn] at hul hul1
  have hRz : R.size < s.size := by rw [hR, ZX]; omega
  rw [← hn, ← hk] at E CA
  rw [← hn] at R2
  rw [← hR] at R2 E
  have HRZ := Lib.hid hRz
  have HUL := Lib.hid (And.intro hul hul1)
  clear hR hRz c46 c9194 c91 FS ZX hn hk hul hul1
  go_enter Tryd.func34, Tryd.ntmps34
  go_upto_region 1 with (fail)
  rw [← HW1.out.1, ← HW1.out.2]
  go_wp2_with (fail)
  refine C1.out.mono ?_
  rintro e w0 ⟨rfl, hw0⟩
  subst hw0
  clear C1 HW1
  go_wp2_with (fail)
  refine C2.out.mono ?_
  rintro e w0 ⟨rfl, hw0⟩
  subst hw0
  clear C2
  go_wp2_with (fail)
  refine C3.out.mono ?_
  rintro e w0 ⟨rfl, hw0⟩
  subst hw0
  clear C3
  go_upto_region 9 with (fail)
  have CA0 := Lib.hid (CA.out w1 (Below.refl _ _))
  clear CA
  go_wp2_with (fail)
  refine CA0.out.mono ?_
  rintro e w2 ⟨rfl, b2⟩
  obtain ⟨w3, hw3⟩ : ∃ w3, w3 = w2.alloc (.cells #[Value.int .i64 0, .int .i64 (n : Nat), .int .i64 k] 103) := ⟨_, rfl⟩
  obtain ⟨U, hU⟩ : ∃ U, U = w2.heap.size := ⟨_, rfl⟩
  have b3 : Below w2.heap.size w2 w3 := by rw [hw3]; exact (Below.refl _ _).alloc (Nat.le_refl _) _
  have b13 : Below w1.heap.size w1 w3 := b2.trans (b3.mono b2.size)
  have N3 := Lib.hid (show w3.heap[U]? = some (.cells #[.int .i64 0, .int .i64 (n : Nat), .int .i64 k] 103 (0, 0)) by rw [hw3, hU]; exact blk_alloc_new _ _)
  have B3 := Lib.hid (B1.out.trans (b13.mono B1.out.size))
  have HUM := Lib.hid (show U ≠ M from fun e => by
    have h1 := (Array.getElem?_eq_some_iff.1 M1.out).1
    have h2 := b2.size
    omega)
  have M3 := Lib.hid ((b13.block _ (Array.getElem?_eq_some_iff.1 M1.out).1).trans M1.out)
  have HW3 := Lib.hid (And.intro hw3 hU)
  clear hw3 hU b3 b13 b2 CA0
  go_upto_region 10 with (fail)
  rw [← HW3.out.1, ← HW3.out.2]
  clear HW3 B1 M1
  obtain ⟨_, x1, x2⟩ := cell3_of N3.out
  by_cases hk0 : 0 ≤ k
  · have g1 : decide (0 ≤ k) = true := decide_eq_true hk0
    by_cases hk93 : k = 93
    · have g2 : (k == 93) = true := by simpa using hk93
      have g3 : (k != 93) = false := by simp [hk93]
      have E2 := Lib.hid (show oneC (codes s) = none by rw [E.out, if_neg (fun e => e.2 hk93)])
      clear hk0 hk93 E
      refine Own.region_mix (CR [1, 6, 9, 13] [(1, ⟨U, 2, none⟩, .int .i64 k), (6, ⟨U, 1, none⟩, .int .i64 (n : Nat)), (9, ⟨U, 2, none⟩, .int .i64 k), (13, ⟨U, 2, none⟩, .int .i64 k)]) [1, 6, 9, 13] [0, 1, 3, 7, 0, 0, 32, 112, 0, 256, 768, 1792, 3840, 7936, 16128, 32512, 3855, 69631, 262143] (Own.Ord.run [(0, true), (1, true), (4, true), (5, true), (6, true), (7, true), (8, true), (9, true), (10, true), (11, true), (12, true), (13, true), (14, true), (15, true), (2, false), (3, false), (16, false), (17, true), (18, true)] .done) (by kernel_rfl) (by kernel_rfl) (fun dst v c a w h => by cases dst <;> exact h) (fun x hx w => CR.off x hx w) ?_
      simp only [Own.Ord.run]
      repeat (refine Own.st_blind _ rfl rfl (CR.off _ (by decide) _) ?_; go_big_quiet_step (fail); refine wpQuiet_nil ?_)
      refine Own.st_load _ rfl rfl (.int .i64 k) (fun w' hw' => ?_) ?_ ?_
      · have hg0 := hw'.get (a := ⟨U, 2, none⟩) (v := .int .i64 k) (by decide) (by simp)
        go_simp
      · intro _ q hq e; simp only [List.mem_cons, List.mem_nil_iff, or_false] at hq; rcases hq with rfl | rfl | rfl | rfl <;> first | assumption | (simp at e; done) | (go_simp; done) | (simp; done)
      simp only [Act.put, List.setIfInBounds_toArray, List.set_cons_succ, List.set_cons_zero]
      repeat (refine Own.st_blind _ rfl rfl (CR.off _ (by decide) _) ?_; go_big_quiet_step (fail); refine wpQuiet_nil ?_)
      refine Own.st_load _ rfl rfl (.int .i64 (n : Nat)) (fun w' hw' => ?_) ?_ ?_
      · have hg0 := hw'.get (a := ⟨U, 1, none⟩) (v := .int .i64 (n : Nat)) (by decide) (by simp)
        go_simp
      · intro _ q hq e; simp only [List.mem_cons, List.mem_nil_iff, or_false] at hq; rcases hq with rfl | rfl | rfl | rfl <;> first | assumption | (simp at e; done) | (go_simp; done) | (simp; done)
      simp only [Act.put, List.setIfInBounds_toArray, List.set_cons_succ, List.set_cons_zero]
      repeat (refine Own.st_blind _ rfl rfl (CR.off _ (by decide) _) ?_; go_big_quiet_step (fail); refine wpQuiet_nil ?_)
      refine Own.st_load _ rfl rfl (.int .i64 k) (fun w' hw' => ?_) ?_ ?_
      · have hg0 := hw'.get (a := ⟨U, 2, none⟩) (v := .int .i64 k) (by decide) (by simp)
        go_simp
      · intro _ q hq e; simp only [List.mem_cons, List.mem_nil_iff, or_false] at hq; rcases hq with rfl | rfl | rfl | rfl <;> first | assumption | (simp at e; done) | (go_simp; done) | (simp; done)
      simp only [Act.put, List.setIfInBounds_toArray, List.set_cons_succ, List.set_cons_zero]
      repeat (refine Own.st_blind _ rfl rfl (CR.off _ (by decide) _) ?_; go_big_quiet_step (fail); refine wpQuiet_nil ?_)
      refine Own.st_load _ rfl rfl (.int .i64 k) (fun w' hw' => ?_) ?_ ?_
      · have hg0 := hw'.get (a := ⟨U, 2, none⟩) (v := .int .i64 k) (by decide) (by simp)
        go_simp
      · intro _ q hq e; simp only [List.mem_cons, List.mem_nil_iff, or_false] at hq; rcases hq with rfl | rfl | rfl | rfl <;> first | assumption | (simp at e; done) | (go_simp; done) | (simp; done)
      simp only [Act.put, List.setIfInBounds_toArray, List.set_cons_succ, List.set_cons_zero]
      repeat (refine Own.st_blind _ rfl rfl (CR.off _ (by decide) _) ?_; go_big_quiet_step (fail); refine wpQuiet_nil ?_)
      refine Own.st_do _ rfl rfl (fun K hK => ?_)
      go_simp
      obtain ⟨w4, hw4⟩ : ∃ w4, w4 = (w3.alloc (.cells #[Value.int .i64 k] 3)).drew := ⟨_, rfl⟩
      obtain ⟨V, hV⟩ : ∃ V, V = w3.heap.size := ⟨_, rfl⟩
      rw [← hw4, ← hV]
      have b4 : Below w3.heap.size w3 w4 := by rw [hw4]; exact ((Below.refl _ _).alloc (Nat.le_refl _) _).drew
      have n4 : w4.heap[V]? = some (.cells #[Value.int .i64 k] 3 (0, 0)) := by rw [hw4, hV]; exact blk_alloc_new w3 _
      have m4 := (b4.block _ (Array.getElem?_eq_some_iff.1 M3.out).1).trans M3.out
      have hWV : w.heap.size ≤ V := by rw [hV]; exact B3.out.size
      have O4 : OwnI w4 w.heap.size 3 (.slice (some ⟨V, 0, none⟩) 1 1) [k] := own_single n4 hWV
      have bb4 := B3.out.trans (b4.mono B3.out.size)
      have u4 := (b4.block _ (Array.getElem?_eq_some_iff.1 N3.out).1).trans N3.out
      obtain ⟨_, y1, y2⟩ := cell3_of u4
      clear hw4 hV
      refine hK _ _ (fun q hq hd _ => ?_) ?_
      · intro _ q hq e; simp only [List.mem_cons, List.mem_nil_iff, or_false] at hq; rcases hq with rfl | rfl | rfl | rfl <;> first | assumption | (simp at e; done) | (go_simp; done) | (simp; done)
      clear hK K
      refine Own.st_do _ rfl rfl (fun K hK => ?_)
      go_simp
      refine hK _ _ (fun q hq hd _ => ?_) ?_
      · intro _ q hq e; simp only [List.mem_cons, List.mem_nil_iff, or_false] at hq; rcases hq with rfl | rfl | rfl | rfl <;> first | assumption | (simp at e; done) | (go_simp; done) | (simp; done)
      clear hK K
      refine Own.st_do _ rfl rfl (fun K hK => ?_)
      obtain ⟨z0, z1, z2⟩ := cell3_of m4
      have fz : ∀ j, w4.frozen? ⟨M, j, none⟩ = false := fun j => by simp [World.frozen?, m4]
      go_simp
      generalize hwf : ((w4.setCell ⟨M, 0, none⟩ _).setCell ⟨M, 1, none⟩ _).setCell ⟨M, 2, none⟩ _ = wf
      have HWF := Lib.hid (one_put (⟨false, false, [k]⟩ : ItP) m4 O4 hwf.symm bb4 HM0.out)
      have uf : wf.heap[U]? = w4.heap[U]? := by rw [← hwf]; exact (setCell_other _ HUM.out).trans ((setCell_other _ HUM.out).trans (setCell_other _ HUM.out))
      obtain ⟨_, v1, v2⟩ := cell3_of (uf.trans u4)
      clear hwf uf
      refine hK _ _ (fun q hq hd _ => ?_) ?_
      · intro _ q hq e; simp only [List.mem_cons, List.mem_nil_iff, or_false] at hq; rcases hq with rfl | rfl | rfl | rfl <;> first | assumption | (simp at e; done) | (go_simp; done) | (simp; done)
      clear hK K
      repeat (refine Own.st_blind _ rfl rfl (CR.off _ (by decide) _) ?_; go_big_quiet_step (fail); refine wpQuiet_nil ?_)
      refine Own.mix_done ?_
      go_wp2_with (fail)
      first | exact one_ret HWF.out rfl ⟨rfl, rfl, rfl⟩ HRZ.out (by simp) (by rw [E2.out]; rfl) | exact one_ret HWF.out.drew rfl ⟨rfl, rfl, rfl⟩ HRZ.out (by simp) (by rw [E2.out]; rfl)
    · have g2 : (k == 93) = false := by simpa using hk93
      have g3 : (k != 93) = true := by simpa using hk93
      have E2 := Lib.hid (show oneC (codes s) = some (⟨false, false, [k]⟩, codes R) by rw [E.out, if_pos ⟨hk0, hk93⟩])
      clear hk0 hk93 E
      refine Own.region_mix (CR [1, 6, 9, 13] [(1, ⟨U, 2, none⟩, .int .i64 k), (6, ⟨U, 1, none⟩, .int .i64 (n : Nat)), (9, ⟨U, 2, none⟩, .int .i64 k), (13, ⟨U, 2, none⟩, .int .i64 k)]) [1, 6, 9, 13] [0, 1, 3, 7, 0, 0, 32, 112, 0, 256, 768, 1792, 3840, 7936, 16128, 32512, 3855, 69631, 262143] (Own.Ord.run [(0, true), (1, true), (4, true), (5, true), (6, true), (7, true), (8, true), (9, true), (10, true), (11, true), (12, true), (13, true), (14, true), (15, true), (2, false), (3, false), (16, false), (17, true), (18, true)] .done) (by kernel_rfl) (by kernel_rfl) (fun dst v c a w h => by cases dst <;> exact h) (fun x hx w => CR.off x hx w) ?_
      simp only [Own.Ord.run]
      repeat (refine Own.st_blind _ rfl rfl (CR.off _ (by decide) _) ?_; go_big_quiet_step (fail); refine wpQuiet_nil ?_)
      refine Own.st_load _ rfl rfl (.int .i64 k) (fun w' hw' => ?_) ?_ ?_
      · have hg0 := hw'.get (a := ⟨U, 2, none⟩) (v := .int .i64 k) (by decide) (by simp)
        go_simp
      · intro _ q hq e; simp only [List.mem_cons, List.mem_nil_iff, or_false] at hq; rcases hq with rfl | rfl | rfl | rfl <;> first | assumption | (simp at e; done) | (go_simp; done) | (simp; done)
      simp only [Act.put, List.setIfInBounds_toArray, List.set_cons_succ, List.set_cons_zero]
      repeat (refine Own.st_blind _ rfl rfl (CR.off _ (by decide) _) ?_; go_big_quiet_step (fail); refine wpQuiet_nil ?_)
      refine Own.st_load _ rfl rfl (.int .i64 (n : Nat)) (fun w' hw' => ?_) ?_ ?_
      · have hg0 := hw'.get (a := ⟨U, 1, none⟩) (v := .int .i64 (n : Nat)) (by decide) (by simp)
        go_simp
      · intro _ q hq e; simp only [List.mem_cons, List.mem_nil_iff, or_false] at hq; rcases hq with rfl | rfl | rfl | rfl <;> first | assumption | (simp at e; done) | (go_simp; done) | (simp; done)
      simp only [Act.put, List.setIfInBounds_toArray, List.set_cons_succ, List.set_cons_zero]
      repeat (refine Own.st_blind _ rfl rfl (CR.off _ (by decide) _) ?_; go_big_quiet_step (fail); refine wpQuiet_nil ?_)
      refine Own.st_load _ rfl rfl (.int .i64 k) (fun w' hw' => ?_) ?_ ?_
      · have hg0 := hw'.get (a := ⟨U, 2, none⟩) (v := .int .i64 k) (by decide) (by simp)
        go_simp
      · intro _ q hq e; simp only [List.mem_cons, List.mem_nil_iff, or_false] at hq; rcases hq with rfl | rfl | rfl | rfl <;> first | assumption | (simp at e; done) | (go_simp; done) | (simp; done)
      simp only [Act.put, List.setIfInBounds_toArray, List.set_cons_succ, List.set_cons_zero]
      repeat (refine Own.st_blind _ rfl rfl (CR.off _ (by decide) _) ?_; go_big_quiet_step (fail); refine wpQuiet_nil ?_)
      refine Own.st_load _ rfl rfl (.int .i64 k) (fun w' hw' => ?_) ?_ ?_
      · have hg0 := hw'.get (a := ⟨U, 2, none⟩) (v := .int .i64 k) (by decide) (by simp)
        go_simp
      · intro _ q hq e; simp only [List.mem_cons, List.mem_nil_iff, or_false] at hq; rcases hq with rfl | rfl | rfl | rfl <;> first | assumption | (simp at e; done) | (go_simp; done) | (simp; done)
      simp only [Act.put, List.setIfInBounds_toArray, List.set_cons_succ, List.set_cons_zero]
      repeat (refine Own.st_blind _ rfl rfl (CR.off _ (by decide) _) ?_; go_big_quiet_step (fail); refine wpQuiet_nil ?_)
      refine Own.st_do _ rfl rfl (fun K hK => ?_)
      go_simp
      obtain ⟨w4, hw4⟩ : ∃ w4, w4 = (w3.alloc (.cells #[Value.int .i64 k] 3)).drew := ⟨_, rfl⟩
      obtain ⟨V, hV⟩ : ∃ V, V = w3.heap.size := ⟨_, rfl⟩
      rw [← hw4, ← hV]
      have b4 : Below w3.heap.size w3 w4 := by rw [hw4]; exact ((Below.refl _ _).alloc (Nat.le_refl _) _).drew
      have n4 : w4.heap[V]? = some (.cells #[Value.int .i64 k] 3 (0, 0)) := by rw [hw4, hV]; exact blk_alloc_new w3 _
      have m4 := (b4.block _ (Array.getElem?_eq_some_iff.1 M3.out).1).trans M3.out
      have hWV : w.heap.size ≤ V := by rw [hV]; exact B3.out.size
      have O4 : OwnI w4 w.heap.size 3 (.slice (some ⟨V, 0, none⟩) 1 1) [k] := own_single n4 hWV
      have bb4 := B3.out.trans (b4.mono B3.out.size)
      have u4 := (b4.block _ (Array.getElem?_eq_some_iff.1 N3.out).1).trans N3.out
      obtain ⟨_, y1, y2⟩ := cell3_of u4
      clear hw4 hV
      refine hK _ _ (fun q hq hd _ => ?_) ?_
      · intro _ q hq e; simp only [List.mem_cons, List.mem_nil_iff, or_false] at hq; rcases hq with rfl | rfl | rfl | rfl <;> first | assumption | (simp at e; done) | (go_simp; done) | (simp; done)
      clear hK K
      refine Own.st_do _ rfl rfl (fun K hK => ?_)
      go_simp
      refine hK _ _ (fun q hq hd _ => ?_) ?_
      · intro _ q hq e; simp only [List.mem_cons, List.mem_nil_iff, or_false] at hq; rcases hq with rfl | rfl | rfl | rfl <;> first | assumption | (simp at e; done) | (go_simp; done) | (simp; done)
      clear hK K
      refine Own.st_do _ rfl rfl (fun K hK => ?_)
      obtain ⟨z0, z1, z2⟩ := cell3_of m4
      have fz : ∀ j, w4.frozen? ⟨M, j, none⟩ = false := fun j => by simp [World.frozen?, m4]
      go_simp
      generalize hwf : ((w4.setCell ⟨M, 0, none⟩ _).setCell ⟨M, 1, none⟩ _).setCell ⟨M, 2, none⟩ _ = wf
      have HWF := Lib.hid (one_put (⟨false, false, [k]⟩ : ItP) m4 O4 hwf.symm bb4 HM0.out)
      have uf : wf.heap[U]? = w4.heap[U]? := by rw [← hwf]; exact (setCell_other _ HUM.out).trans ((setCell_other _ HUM.out).trans (setCell_other _ HUM.out))
      obtain ⟨_, v1, v2⟩ := cell3_of (uf.trans u4)
      clear hwf uf
      refine hK _ _ (fun q hq hd _ => ?_) ?_
      · intro _ q hq e; simp only [List.mem_cons, List.mem_nil_iff, or_false] at hq; rcases hq with rfl | rfl | rfl | rfl <;> first | assumption | (simp at e; done) | (go_simp; done) | (simp; done)
      clear hK K
      repeat (refine Own.st_blind _ rfl rfl (CR.off _ (by decide) _) ?_; go_big_quiet_step (fail); refine wpQuiet_nil ?_)
      refine Own.mix_done ?_
      go_wp2_with (fail)
      first | exact one_ret HWF.out rfl ⟨rfl, rfl, rfl⟩ HRZ.out (by simp) (by rw [E2.out]; rfl) | exact one_ret HWF.out.drew rfl ⟨rfl, rfl, rfl⟩ HRZ.out (by simp) (by rw [E2.out]; rfl)
  · have g1 : decide (0 ≤ k) = false := decide_eq_false hk0
    have E2 := Lib.hid (show oneC (codes s) = none by rw [E.out, if_neg (fun e => hk0 e.1)])
    clear hk0 E
    refine Own.region_mix (CR [1, 6, 9] [(1, ⟨U, 2, none⟩, .int .i64 k), (6, ⟨U, 1, none⟩, .int .i64 (n : Nat)), (9, ⟨U, 2, none⟩, .int .i64 k)]) [1, 6, 9] [0, 1, 3, 7, 0, 0, 32, 112, 0, 256, 768, 1792, 3840, 7936, 16128, 32512, 3855, 69631, 262143] (Own.Ord.run [(0, true), (1, true), (4, true), (5, true), (6, true), (7, true), (8, true), (9, true), (10, true), (11, true), (12, true), (13, true), (14, true), (15, true), (2, false), (3, false), (16, false), (17, true), (18, true)] .done) (by kernel_rfl) (by kernel_rfl) (fun dst v c a w h => by cases dst <;> exact h) (fun x hx w => CR.off x hx w) ?_
    simp only [Own.Ord.run]
    repeat (refine Own.st_blind _ rfl rfl (CR.off _ (by decide) _) ?_; go_big_quiet_step (fail); refine wpQuiet_nil ?_)
    refine Own.st_load _ rfl rfl (.int .i64 k) (fun w' hw' => ?_) ?_ ?_
    · have hg0 := hw'.get (a := ⟨U, 2, none⟩) (v := .int .i64 k) (by decide) (by simp)
      go_simp
    · intro _ q hq e; simp only [List.mem_cons, List.mem_nil_iff, or_false] at hq; rcases hq with rfl | rfl | rfl <;> first | assumption | (simp at e; done) | (go_simp; done) | (simp; done)
    simp only [Act.put, List.setIfInBounds_toArray, List.set_cons_succ, List.set_cons_zero]
    repeat (refine Own.st_blind _ rfl rfl (CR.off _ (by decide) _) ?_; go_big_quiet_step (fail); refine wpQuiet_nil ?_)
    refine Own.st_load _ rfl rfl (.int .i64 (n : Nat)) (fun w' hw' => ?_) ?_ ?_
    · have hg0 := hw'.get (a := ⟨U, 1, none⟩) (v := .int .i64 (n : Nat)) (by decide) (by simp)
      go_simp
    · intro _ q hq e; simp only [List.mem_cons, List.mem_nil_iff, or_false] at hq; rcases hq with rfl | rfl | rfl <;> first | assumption | (simp at e; done) | (go_simp; done) | (simp; done)
    simp only [Act.put, List.setIfInBounds_toArray, List.set_cons_succ, List.set_cons_zero]
    repeat (refine Own.st_blind _ rfl rfl (CR.off _ (by decide) _) ?_; go_big_quiet_step (fail); refine wpQuiet_nil ?_)
    refine Own.st_load _ rfl rfl (.int .i64 k) (fun w' hw' => ?_) ?_ ?_
    · have hg0 := hw'.get (a := ⟨U, 2, none⟩) (v := .int .i64 k) (by decide) (by simp)
      go_simp
    · intro _ q hq e; simp only [List.mem_cons, List.mem_nil_iff, or_false] at hq; rcases hq with rfl | rfl | rfl <;> first | assumption | (simp at e; done) | (go_simp; done) | (simp; done)
    simp only [Act.put, List.setIfInBounds_toArray, List.set_cons_succ, List.set_cons_zero]
    repeat (refine Own.st_blind _ rfl rfl (CR.off _ (by decide) _) ?_; go_big_quiet_step (fail); refine wpQuiet_nil ?_)
    refine Own.st_skip _ rfl rfl ?_
    simp only [Act.put, List.setIfInBounds_toArray, List.set_cons_succ, List.set_cons_zero]
    repeat (refine Own.st_blind _ rfl rfl (CR.off _ (by decide) _) ?_; go_big_quiet_step (fail); refine wpQuiet_nil ?_)
    refine Own.st_do _ rfl rfl (fun K hK => ?_)
    go_simp
    obtain ⟨w4, hw4⟩ : ∃ w4, w4 = (w3.alloc (.cells #[Value.int .i64 k] 3)).drew := ⟨_, rfl⟩
    obtain ⟨V, hV⟩ : ∃ V, V = w3.heap.size := ⟨_, rfl⟩
    rw [← hw4, ← hV]
    have b4 : Below w3.heap.size w3 w4 := by rw [hw4]; exact ((Below.refl _ _).alloc (Nat.le_refl _) _).drew
    have n4 : w4.heap[V]? = some (.cells #[Value.int .i64 k] 3 (0, 0)) := by rw [hw4, hV]; exact blk_alloc_new w3 _
    have m4 := (b4.block _ (Array.getElem?_eq_some_iff.1 M3.out).1).trans M3.out
    have hWV : w.heap.size ≤ V := by rw [hV]; exact B3.out.size
    have O4 : OwnI w4 w.heap.size 3 (.slice (some ⟨V, 0, none⟩) 1 1) [k] := own_single n4 hWV
    have bb4 := B3.out.trans (b4.mono B3.out.size)
    have u4 := (b4.block _ (Array.getElem?_eq_some_iff.1 N3.out).1).trans N3.out
    obtain ⟨_, y1, y2⟩ := cell3_of u4
    clear hw4 hV
    refine hK _ _ (fun q hq hd _ => ?_) ?_
    · intro _ q hq e; simp only [List.mem_cons, List.mem_nil_iff, or_false] at hq; rcases hq with rfl | rfl | rfl <;> first | assumption | (simp at e; done) | (go_simp; done) | (simp; done)
    clear hK K
    refine Own.st_do _ rfl rfl (fun K hK => ?_)
    go_simp
    refine hK _ _ (fun q hq hd _ => ?_) ?_
    · intro _ q hq e; simp only [List.mem_cons, List.mem_nil_iff, or_false] at hq; rcases hq with rfl | rfl | rfl <;> first | assumption | (simp at e; done) | (go_simp; done) | (simp; done)
    clear hK K
    refine Own.st_do _ rfl rfl (fun K hK => ?_)
    obtain ⟨z0, z1, z2⟩ := cell3_of m4
    have fz : ∀ j, w4.frozen? ⟨M, j, none⟩ = false := fun j => by simp [World.frozen?, m4]
    go_simp
    generalize hwf : ((w4.setCell ⟨M, 0, none⟩ _).setCell ⟨M, 1, none⟩ _).setCell ⟨M, 2, none⟩ _ = wf
    have HWF := Lib.hid (one_put (⟨false, false, [k]⟩ : ItP) m4 O4 hwf.symm bb4 HM0.out)
    have uf : wf.heap[U]? = w4.heap[U]? := by rw [← hwf]; exact (setCell_other _ HUM.out).trans ((setCell_other _ HUM.out).trans (setCell_other _ HUM.out))
    obtain ⟨_, v1, v2⟩ := cell3_of (uf.trans u4)
    clear hwf uf
    refine hK _ _ (fun q hq hd _ => ?_) ?_
    · intro _ q hq e; simp only [List.mem_cons, List.mem_nil_iff, or_false] at hq; rcases hq with rfl | rfl | rfl <;> first | assumption | (simp at e; done) | (go_simp; done) | (simp; done)
    clear hK K
    repeat (refine Own.st_blind _ rfl rfl (CR.off _ (by decide) _) ?_; go_big_quiet_step (fail); refine wpQuiet_nil ?_)
    refine Own.mix_done ?_
    go_wp2_with (fail)
    first | exact one_ret HWF.out rfl ⟨rfl, rfl, rfl⟩ HRZ.out (by simp) (by rw [E2.out]; rfl) | exact one_ret HWF.out.drew rfl ⟨rfl, rfl, rfl⟩ HRZ.out (by simp) (by rw [E2.out]; rfl)
end Go.Proofs.YtmcnnfpeicnnjaaDoor

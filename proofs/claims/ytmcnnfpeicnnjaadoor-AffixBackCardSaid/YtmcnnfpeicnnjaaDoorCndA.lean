/- cond.asks, cond.Starts, cond.Ends. -/
import Derived.Test.YtmcnnfpeicnnjaaDoorCndZ
namespace Go.Proofs.YtmcnnfpeicnnjaaDoor
open Go.RowKit Go.Deep Go.Own
set_option linter.unusedVariables false
theorem hasI_calls (acc : List Int) (A : Option Addr) (cp : Nat) (x : Int) (w : World) (h : Reads w A acc) (hl : acc.length ≤ 1000000) :
    Calls Tryd.prog 62 #[.slice A acc.length cp, .int .i64 x] w fun e w' => e = .returned (.bool (acc.contains x)) ∧ w = w' := by
  by_cases h0 : 0 < acc.length
  · obtain ⟨b, o, rfl, hcell⟩ := h h0
    have := Tryd.slices_Contains_int b o acc.length cp acc x w (Nat.le_refl _) (by omega) (fun j hj => hcell w (since_of_below (Below.refl _ _)) j hj)
    rw [List.take_length] at this
    exact this.mono fun e w' h => ⟨h.1, h.2.symm⟩
  · have e0 : acc = [] := by cases acc with | nil => rfl | cons a t => exact absurd (by simp) h0
    subst e0
    exact (Tryd.slices_Contains_int_empty A cp x w).mono fun e w' h => ⟨h.1, h.2.symm⟩
def hasV (x : ItP) (c : Int) : Bool := x.any || (x.set.contains c != x.neg)
def startsV (l : List ItP) (cs : List Int) : Bool := decide (l.length ≤ cs.length) && (l.zip cs).all fun p => hasV p.1 p.2
def endsV (l : List ItP) (cs : List Int) : Bool := decide (l.length ≤ cs.length) && startsV l (cs.drop (cs.length - l.length))
set_option maxRecDepth 100000 in
set_option maxHeartbeats 4000000 in
theorem has_calls (x : ItP) (K : Nat) (B : Option Addr) (c : Nat) (k : Int) (w : World) (hK : w.heap[K]? = some (.cells #[.bool x.any, .bool x.neg, .slice B x.set.length c] 43 (0, 0))) (hr : Reads w B x.set) (hl : x.set.length ≤ 1000000) :
    Calls Tryd.prog 61 #[.int .i64 k, .pointer (some ⟨K, 0, none⟩)] w fun e w' => e = .returned (.bool (hasV x k)) ∧ Below w.heap.size w w' := by
  have CC := Lib.hid (fun (wx : World) (hb : Below w.heap.size w wx) => hasI_calls x.set B c k wx (hr.later hb) hl)
  have HK := Lib.hid (fun (wx : World) (hb : Below w.heap.size w wx) => (hb.block _ (Array.getElem?_eq_some_iff.1 hK).1).trans hK)
  obtain ⟨q, hq⟩ : ∃ q, q = hasV x k := ⟨_, rfl⟩
  obtain ⟨r, hr2⟩ : ∃ r, r = x.set.contains k := ⟨_, rfl⟩
  have hq2 : q = (x.any || (r != x.neg)) := by rw [hq, hr2]; rfl
  rw [← hq]
  rw [← hr2] at CC
  have HQ := Lib.hid hq2
  clear hK hr hq hr2 hq2
  obtain ⟨any, neg, set⟩ := x
  simp only at CC HK HQ hl
  obtain ⟨n, hn⟩ : ∃ n, n = set.length := ⟨_, rfl⟩
  rw [← hn] at CC HK hl
  obtain ⟨x0, x1, x2⟩ := cell3_of (HK.out w (Below.refl _ _))
  clear hn
  cases any with
  | true =>
    have E := Lib.hid (show q = true from HQ.out)
    go_enter Tryd.func61, Tryd.ntmps61
    go_upto_region 1 with (fail)
    refine Own.region_mix (CR [1] [(1, ⟨K, 0, none⟩, .bool true)]) [1] [0, 1, 3, 7, 15, 7, 63, 7, 135, 511, 1023, 2047] (Own.Ord.run [(0, true), (1, true), (2, true), (3, true), (4, true), (5, true), (7, true), (8, true), (6, false), (9, true), (10, true), (11, true)] .done) (by kernel_rfl) (by kernel_rfl) (fun dst v c a w h => by cases dst <;> exact h) (fun x hx w => CR.off x hx w) ?_
    simp only [Own.Ord.run]
    repeat (refine Own.st_blind _ rfl rfl (CR.off _ (by decide) _) ?_; go_big_quiet_step (fail); refine wpQuiet_nil ?_)
    refine Own.st_load _ rfl rfl (.bool true) (fun w' hw' => ?_) ?_ ?_
    · have hg0 := hw'.get (a := ⟨K, 0, none⟩) (v := .bool true) (by decide) (by simp)
      go_simp
    · intro _ q hq e; simp only [List.mem_cons, List.mem_nil_iff, or_false] at hq; subst hq <;> first | assumption | (simp at e; done) | (go_simp; done) | (simp; done)
    simp only [Act.put, List.setIfInBounds_toArray, List.set_cons_succ, List.set_cons_zero]
    repeat (refine Own.st_blind _ rfl rfl (CR.off _ (by decide) _) ?_; go_big_quiet_step (fail); refine wpQuiet_nil ?_)
    refine Own.st_skip _ rfl rfl ?_
    simp only [Act.put, List.setIfInBounds_toArray, List.set_cons_succ, List.set_cons_zero]
    repeat (refine Own.st_blind _ rfl rfl (CR.off _ (by decide) _) ?_; go_big_quiet_step (fail); refine wpQuiet_nil ?_)
    refine Own.st_skip _ rfl rfl ?_
    simp only [Act.put, List.setIfInBounds_toArray, List.set_cons_succ, List.set_cons_zero]
    refine Own.st_skip _ rfl rfl ?_
    simp only [Act.put, List.setIfInBounds_toArray, List.set_cons_succ, List.set_cons_zero]
    repeat (refine Own.st_blind _ rfl rfl (CR.off _ (by decide) _) ?_; go_big_quiet_step (fail); refine wpQuiet_nil ?_)
    refine Own.mix_done ?_
    go_wp2_with (fail)
    go_ret
    first | exact ⟨by rw [E.out]; rfl, Below.refl _ _⟩ | exact ⟨by rw [E.out]; rfl, (Below.refl _ _).drew⟩
  | false =>
    have E := Lib.hid (show q = (r != neg) by rw [HQ.out]; rfl)
    cases neg with
    | false =>
      cases r <;>
      · go_enter Tryd.func61, Tryd.ntmps61
        go_upto_region 1 with (fail)
        refine Own.region_mix (CR [1, 4, 8] [(1, ⟨K, 0, none⟩, .bool false), (4, ⟨K, 2, none⟩, .slice B n c), (8, ⟨K, 1, none⟩, .bool false)]) [1, 4, 8] [0, 1, 3, 7, 15, 7, 63, 7, 135, 511, 1023, 2047] (Own.Ord.run [(0, true), (1, true), (2, true), (3, true), (4, true), (5, true), (7, true), (8, true), (6, false), (9, true), (10, true), (11, true)] .done) (by kernel_rfl) (by kernel_rfl) (fun dst v c a w h => by cases dst <;> exact h) (fun x hx w => CR.off x hx w) ?_
        simp only [Own.Ord.run]
        repeat (refine Own.st_blind _ rfl rfl (CR.off _ (by decide) _) ?_; go_big_quiet_step (fail); refine wpQuiet_nil ?_)
        refine Own.st_load _ rfl rfl (.bool false) (fun w' hw' => ?_) ?_ ?_
        · have hg0 := hw'.get (a := ⟨K, 0, none⟩) (v := .bool false) (by decide) (by simp)
          go_simp
        · intro _ q hq e; simp only [List.mem_cons, List.mem_nil_iff, or_false] at hq; rcases hq with rfl | rfl | rfl <;> first | assumption | (simp at e; done) | (go_simp; done) | (simp; done)
        simp only [Act.put, List.setIfInBounds_toArray, List.set_cons_succ, List.set_cons_zero]
        repeat (refine Own.st_blind _ rfl rfl (CR.off _ (by decide) _) ?_; go_big_quiet_step (fail); refine wpQuiet_nil ?_)
        refine Own.st_load _ rfl rfl (.slice B n c) (fun w' hw' => ?_) ?_ ?_
        · have hg0 := hw'.get (a := ⟨K, 2, none⟩) (v := .slice B n c) (by decide) (by simp)
          go_simp
        · intro _ q hq e; simp only [List.mem_cons, List.mem_nil_iff, or_false] at hq; rcases hq with rfl | rfl | rfl <;> first | assumption | (simp at e; done) | (go_simp; done) | (simp; done)
        simp only [Act.put, List.setIfInBounds_toArray, List.set_cons_succ, List.set_cons_zero]
        repeat (refine Own.st_blind _ rfl rfl (CR.off _ (by decide) _) ?_; go_big_quiet_step (fail); refine wpQuiet_nil ?_)
        refine Own.st_load _ rfl rfl (.bool false) (fun w' hw' => ?_) ?_ ?_
        · have hg0 := hw'.get (a := ⟨K, 1, none⟩) (v := .bool false) (by decide) (by simp)
          go_simp
        · intro _ q hq e; simp only [List.mem_cons, List.mem_nil_iff, or_false] at hq; rcases hq with rfl | rfl | rfl <;> first | assumption | (simp at e; done) | (go_simp; done) | (simp; done)
        simp only [Act.put, List.setIfInBounds_toArray, List.set_cons_succ, List.set_cons_zero]
        refine Own.st_do _ rfl rfl (fun K hK => ?_)
        go_simp
        refine (CC.out _ ((Below.refl _ _).drew)).mono ?_
        rintro e w1 ⟨rfl, hw1⟩
        have BW := Lib.hid (show Below w.heap.size w w1 by rw [← hw1]; exact (Below.refl _ _).drew)
        obtain ⟨y0, y1, y2⟩ := cell3_of (HK.out w1 BW.out)
        clear hw1
        refine hK _ _ (fun q hq hd _ => ?_) ?_
        · intro _ q hq e; simp only [List.mem_cons, List.mem_nil_iff, or_false] at hq; rcases hq with rfl | rfl | rfl <;> first | assumption | (simp at e; done) | (go_simp; done) | (simp; done)
        clear hK K
        repeat (refine Own.st_blind _ rfl rfl (CR.off _ (by decide) _) ?_; go_big_quiet_step (fail); refine wpQuiet_nil ?_)
        refine Own.mix_done ?_
        go_wp2_with (fail)
        go_ret
        first | exact ⟨by rw [E.out]; rfl, BW.out⟩ | exact ⟨by rw [E.out]; rfl, BW.out.drew⟩
    | true =>
      cases r <;>
      · go_enter Tryd.func61, Tryd.ntmps61
        go_upto_region 1 with (fail)
        refine Own.region_mix (CR [1, 4, 8] [(1, ⟨K, 0, none⟩, .bool false), (4, ⟨K, 2, none⟩, .slice B n c), (8, ⟨K, 1, none⟩, .bool true)]) [1, 4, 8] [0, 1, 3, 7, 15, 7, 63, 7, 135, 511, 1023, 2047] (Own.Ord.run [(0, true), (1, true), (2, true), (3, true), (4, true), (5, true), (7, true), (8, true), (6, false), (9, true), (10, true), (11, true)] .done) (by kernel_rfl) (by kernel_rfl) (fun dst v c a w h => by cases dst <;> exact h) (fun x hx w => CR.off x hx w) ?_
        simp only [Own.Ord.run]
        repeat (refine Own.st_blind _ rfl rfl (CR.off _ (by decide) _) ?_; go_big_quiet_step (fail); refine wpQuiet_nil ?_)
        refine Own.st_load _ rfl rfl (.bool false) (fun w' hw' => ?_) ?_ ?_
        · have hg0 := hw'.get (a := ⟨K, 0, none⟩) (v := .bool false) (by decide) (by simp)
          go_simp
        · intro _ q hq e; simp only [List.mem_cons, List.mem_nil_iff, or_false] at hq; rcases hq with rfl | rfl | rfl <;> first | assumption | (simp at e; done) | (go_simp; done) | (simp; done)
        simp only [Act.put, List.setIfInBounds_toArray, List.set_cons_succ, List.set_cons_zero]
        repeat (refine Own.st_blind _ rfl rfl (CR.off _ (by decide) _) ?_; go_big_quiet_step (fail); refine wpQuiet_nil ?_)
        refine Own.st_load _ rfl rfl (.slice B n c) (fun w' hw' => ?_) ?_ ?_
        · have hg0 := hw'.get (a := ⟨K, 2, none⟩) (v := .slice B n c) (by decide) (by simp)
          go_simp
        · intro _ q hq e; simp only [List.mem_cons, List.mem_nil_iff, or_false] at hq; rcases hq with rfl | rfl | rfl <;> first | assumption | (simp at e; done) | (go_simp; done) | (simp; done)
        simp only [Act.put, List.setIfInBounds_toArray, List.set_cons_succ, List.set_cons_zero]
        repeat (refine Own.st_blind _ rfl rfl (CR.off _ (by decide) _) ?_; go_big_quiet_step (fail); refine wpQuiet_nil ?_)
        refine Own.st_load _ rfl rfl (.bool true) (fun w' hw' => ?_) ?_ ?_
        · have hg0 := hw'.get (a := ⟨K, 1, none⟩) (v := .bool true) (by decide) (by simp)
          go_simp
        · intro _ q hq e; simp only [List.mem_cons, List.mem_nil_iff, or_false] at hq; rcases hq with rfl | rfl | rfl <;> first | assumption | (simp at e; done) | (go_simp; done) | (simp; done)
        simp only [Act.put, List.setIfInBounds_toArray, List.set_cons_succ, List.set_cons_zero]
        refine Own.st_do _ rfl rfl (fun K hK => ?_)
        go_simp
        refine (CC.out _ ((Below.refl _ _).drew)).mono ?_
        rintro e w1 ⟨rfl, hw1⟩
        have BW := Lib.hid (show Below w.heap.size w w1 by rw [← hw1]; exact (Below.refl _ _).drew)
        obtain ⟨y0, y1, y2⟩ := cell3_of (HK.out w1 BW.out)
        clear hw1
        refine hK _ _ (fun q hq hd _ => ?_) ?_
        · intro _ q hq e; simp only [List.mem_cons, List.mem_nil_iff, or_false] at hq; rcases hq with rfl | rfl | rfl <;> first | assumption | (simp at e; done) | (go_simp; done) | (simp; done)
        clear hK K
        repeat (refine Own.st_blind _ rfl rfl (CR.off _ (by decide) _) ?_; go_big_quiet_step (fail); refine wpQuiet_nil ?_)
        refine Own.mix_done ?_
        go_wp2_with (fail)
        go_ret
        first | exact ⟨by rw [E.out]; rfl, BW.out⟩ | exact ⟨by rw [E.out]; rfl, BW.out.drew⟩
theorem infoA : (Tryd.prog.info? 88).map (fun i => (i.zero, i.size, i.bytes)) = some (some (.agg #[.nilFunc]), 1, 8) := by kernel_rfl
def askV (K : Nat) : Value := .func (.func 61) #[] #[.pointer (some ⟨K, 0, none⟩)]
theorem src_ask {w : World} {M : Nat} {v : Value} (hv : v.oneCell' = true) (h : w.heap[M]? = some (.cells #[v] 88 (0, 0))) : Src Tryd.prog 1 85 (.slice (some ⟨M, 0, none⟩) 1 1) 1 [v] w :=
  src_one Tryd.underlying85 hv (by rw [Lib.cell_of_heap h]; rfl)
/-- closures over items -/
structure AskS (w wr : World) (lv : Value) (Ks : List Nat) (es : List ItP) : Prop where
  row : wr.ownsRow w.heap.size 88 1 lv Ks.length (Ks.map askV)
  ks : ∀ (j K : Nat) (x : ItP), Ks[j]? = some K → es[j]? = some x → ∃ B c, wr.heap[K]? = some (.cells #[.bool x.any, .bool x.neg, .slice B x.set.length c] 43 (0, 0)) ∧ Reads w B x.set
  bel : Below w.heap.size w wr
theorem AskS.below {w wr wx : World} {lv : Value} {Ks : List Nat} {es : List ItP} (h : AskS w wr lv Ks es) (hb : Below wr.heap.size wr wx) : AskS w wx lv Ks es :=
  ⟨own_below h.row hb, fun j K x h1 h2 => by
    obtain ⟨B, c, h3, h4⟩ := h.ks j K x h1 h2
    exact ⟨B, c, (hb.block _ (Array.getElem?_eq_some_iff.1 h3).1).trans h3, h4⟩, h.bel.trans (hb.mono h.bel.size)⟩
theorem ask_kept {w w5 : World} {base n : Nat} {v : Value} {xs : List Value} {K : Nat} {cs : Array Value} (hK : w.heap[K]? = some (.cells cs 43 (0, 0))) (hr : w.ownsRow base 88 1 v n xs) (hg : w.grownBy w5 v.ownBlock) : w5.heap[K]? = some (.cells cs 43 (0, 0)) :=
  (hg.block K (Array.getElem?_eq_some_iff.1 hK).1 (fun e => by
    obtain ⟨c3, h3⟩ := own_row_type hr e.symm
    rw [hK] at h3
    injection h3 with h3
    injection h3 with _ h4 _
    exact absurd h4 (by decide))).trans hK
theorem AskS.push {w wr w5 : World} {lv v5 : Value} {Ks : List Nat} {es : List ItP} {K : Nat} {x : ItP} {B : Option Addr} {c : Nat} (h : AskS w wr lv Ks es) (hl : es[Ks.length]? = some x) (hK : wr.heap[K]? = some (.cells #[.bool x.any, .bool x.neg, .slice B x.set.length c] 43 (0, 0)))
    (hx : Reads w B x.set) (hg : wr.grownBy w5 lv.ownBlock) (O5 : w5.ownsRow w.heap.size 88 1 v5 (Ks.length + 1) (Ks.map askV ++ [askV K])) : AskS w w5 v5 (Ks ++ [K]) es := by
  refine ⟨by rw [List.length_append, List.map_append]; exact O5, fun j K' y h1 h2 => ?_, h.bel.grown hg h.bel.size (fun q hq => (own_block_lt h.row hq).1)⟩
  by_cases hj : j < Ks.length
  · rw [List.getElem?_append_left hj] at h1
    obtain ⟨B', c', h3, h4⟩ := h.ks j K' y h1 h2
    exact ⟨B', c', ask_kept h3 h.row hg, h4⟩
  · have hj2 := (List.getElem?_eq_some_iff.1 h1).1
    rw [List.length_append, List.length_singleton] at hj2
    obtain rfl : j = Ks.length := by omega
    rw [List.getElem?_append_right (Nat.le_refl _), Nat.sub_self] at h1
    obtain rfl : K = K' := by simpa using h1
    rw [hl] at h2
    obtain rfl := Option.some.inj h2
    exact ⟨B, c, ask_kept hK h.row hg, hx⟩
def AsksPost (w : World) (es : List ItP) (e : Ending) (w' : World) : Prop := ∃ (v : Value) (Ks : List Nat), e = .returned v ∧ Ks.length = es.length ∧ AskS w w' v Ks es
set_option maxRecDepth 100000 in
set_option maxHeartbeats 8000000 in
theorem asks_calls (es : List ItP) (va : Value) (w : World) (ha : GotI w va es) (hl : es.length ≤ 1000000) : Calls Tryd.prog 40 #[va] w (AsksPost w es) := by
  obtain ⟨iA, hiA, hzA, hsA, hbA⟩ := info_parts infoA
  obtain ⟨A, ca, rfl, _, ra⟩ := ha.out
  have RR := Lib.hid ra
  obtain ⟨n, hn⟩ : ∃ n, n = es.length := ⟨_, rfl⟩
  have HN := Lib.hid hn
  rw [← hn] at hl
  rw [← hn]
  clear ra ha hn
  go_enter Tryd.func40, Tryd.ntmps40
  go_wp2_with (fail)
  go_loopw [3, 8] (fun lv iv wr => ∃ (i : Nat) (Ks : List Nat), i ≤ n ∧ iv = .int .i64 (i : Nat) ∧ Ks.length = i ∧ AskS w wr lv Ks es) (fun _ iv _ => n - (intOf iv).toNat)
  case atStart => exact ⟨0, [], Nat.zero_le _, rfl, rfl, ⟨World.ownsRow_nil _ _ _ _, fun j K x h => by simp at h, Below.refl _ _⟩⟩
  case round =>
    obtain ⟨i, Ks, hi, rfl, hki, hS⟩ := hrel
    obtain ⟨Al, cl, hlv⟩ := own_is hS.row
    subst hlv
    by_cases hlt : i < n
    · have g1 : decide (i < n) = true := by simpa using hlt
      obtain ⟨x, hx⟩ : ∃ x, es[i]? = some x := ⟨_, List.getElem?_eq_getElem (by have := HN.out; omega)⟩
      obtain ⟨qa, oa, Fa, fa, rfl, hqa, a0', a1', a2', _, a4⟩ := RR.out i x hx
      have a0 := (hS.bel.cell (p := ⟨qa, oa + i * 3, none⟩) hqa).trans a0'
      have a1 := (hS.bel.cell (p := ⟨qa, oa + i * 3 + 1, none⟩) hqa).trans a1'
      have a2 := (hS.bel.cell (p := ⟨qa, oa + i * 3 + 2, none⟩) hqa).trans a2'
      obtain ⟨w2, hw2⟩ : ∃ w2, w2 = wr.alloc (.cells #[Value.bool x.any, .bool x.neg, .slice Fa x.set.length fa] 43) := ⟨_, rfl⟩
      obtain ⟨K, hK⟩ : ∃ K, K = wr.heap.size := ⟨_, rfl⟩
      have bw2 : Below wr.heap.size wr w2 := by rw [hw2]; exact (Below.refl _ _).alloc (Nat.le_refl _) _
      have N2 := Lib.hid (show w2.heap[K]? = some (.cells #[.bool x.any, .bool x.neg, .slice Fa x.set.length fa] 43 (0, 0)) by rw [hw2, hK]; exact blk_alloc_new _ _)
      have S2 := Lib.hid (hS.below bw2)
      have HX := Lib.hid (show es[Ks.length]? = some x by rw [hki]; exact hx)
      have A4 := Lib.hid a4
      have HW2 := Lib.hid (And.intro hw2 hK)
      have HKI := Lib.hid hki
      clear a0' a1' a2' hw2 hK bw2 hS hx a4 hqa
      go_upto_region 5 with (fail)
      rw [← HW2.out.1, ← HW2.out.2]
      clear a0 a1 a2
      obtain ⟨o, ho⟩ : ∃ o, o = Obj.cells #[askV K] 88 := ⟨_, rfl⟩
      have b4 : Below w2.heap.size w2 (w2.alloc o) := (Below.refl _ _).alloc (Nat.le_refl _) _
      have S4 := Lib.hid (S2.out.below b4)
      have N4 := Lib.hid ((b4.block _ (Array.getElem?_eq_some_iff.1 N2.out).1).trans N2.out)
      have R4 : Hid (Src Tryd.prog 1 85 (.slice (some ⟨w2.heap.size, 0, none⟩) 1 1) 1 [askV K] (w2.alloc o)) := Lib.hid (src_ask rfl (by rw [ho]; exact blk_alloc_new _ _))
      have hkl : Ks.length ≤ 1000000 := by omega
      subst ho
      clear b4 hki
      unfold askV at S4 N4 R4
      go_wp2_with (at_builtin; refine own_append (o := ⟨some 16, _, _, _, _, _⟩) rfl (.tmp 12) (.tmp 15) 85 85 rfl w.heap.size 88 iA _ 1 8 Tryd.underlying85 hiA hzA hsA hbA rfl (by decide) (.slice Al Ks.length cl) Ks.length _ rfl S4.out.row (.slice (some ⟨w2.heap.size, 0, none⟩) 1 1) rfl 1 _ R4.out (by unfold maxLen; omega) (by omega) S4.out.bel.size ?_; intro v5 w5 O5 G5 V5; have S5 := AskS.push S4.out HX.out N4.out A4.out G5 O5; obtain ⟨A5, c5, hv5⟩ := own_is O5; subst hv5)
      go_roundw
      case rel => exact ⟨i + 1, Ks ++ [K], hlt, by go_num, by rw [List.length_append, List.length_singleton, HKI.out], S5⟩
      case measure => simp [intOf]; omega
    · obtain rfl : i = n := by omega
      have g1 : decide (i < i) = false := by simp
      have HS := Lib.hid hS
      have HK := Lib.hid (show Ks.length = es.length by rw [hki, HN.out])
      clear hS hki
      go_wp2_with (fail)
      go_ret
      exact ⟨_, Ks, rfl, HK.out, HS.out⟩
end Go.Proofs.YtmcnnfpeicnnjaaDoor

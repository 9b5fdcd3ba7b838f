/- cond.Starts, cond.Ends. -/
import Derived.Test.YtmcnnfpeicnnjaaDoorCndA
import Derived.Laws.EntriesVeiled
namespace Go.Proofs.YtmcnnfpeicnnjaaDoor
open Go.RowKit Go.Deep Go.Own
set_option linter.unusedVariables false
theorem starts_yes {l : List ItP} {cs : List Int} (hl : l.length ≤ cs.length) (h : ∀ (j : Nat) x k, l[j]? = some x → cs[j]? = some k → hasV x k = true) : startsV l cs = true := by
  unfold startsV
  rw [decide_eq_true hl, Bool.true_and, List.all_eq_true]
  rintro ⟨x, k⟩ hp
  obtain ⟨j, hj, e⟩ := List.mem_iff_getElem.1 hp
  rw [List.getElem_zip] at e
  rw [List.length_zip] at hj
  injection e with e1 e2
  exact h j x k (by rw [List.getElem?_eq_getElem (by omega), e1]) (by rw [List.getElem?_eq_getElem (by omega), e2])
theorem starts_no {l : List ItP} {cs : List Int} {j : Nat} {x : ItP} {k : Int} (h1 : l[j]? = some x) (h2 : cs[j]? = some k) (h : hasV x k = false) : startsV l cs = false := by
  unfold startsV
  have : ((l.zip cs).all fun p => hasV p.1 p.2) = false := by
    rw [Bool.eq_false_iff]
    intro ha
    have := List.all_eq_true.1 ha (x, k) (by
      have h3 : (l.zip cs)[j]? = some (x, k) := by rw [List.getElem?_zip_eq_some]; exact ⟨h1, h2⟩
      exact List.mem_of_getElem? h3)
    rw [h] at this
    cases this
  rw [this, Bool.and_false]
theorem ask_at {w wr : World} {A : Option Addr} {c : Nat} {Ks : List Nat} {es : List ItP} (h : AskS w wr (.slice A Ks.length c) Ks es) {j K : Nat} (hj : Ks[j]? = some K) : ∃ q, A = some ⟨q, 0, none⟩ ∧ wr.cell? ⟨q, j, none⟩ = some (askV K) := by
  obtain ⟨q, cap, e, _, _, _, _, hc, _⟩ := row_at h.row (by have := (List.getElem?_eq_some_iff.1 hj).1; omega)
  injection e with e1 _ _
  exact ⟨q, e1, hc j _ (by rw [List.getElem?_map, hj]; rfl)⟩
set_option maxRecDepth 100000 in
set_option maxHeartbeats 16000000 in
theorem starts_calls (l : List ItP) (va : Value) (Ac : Option Addr) (cc : Nat) (cs : List Int) (w : World) (ha : GotI w va l) (hc : Reads w Ac cs) (hs : smallI l) (hcl : cs.length ≤ 1000000) :
    Calls Tryd.prog 18 #[va, .slice Ac cs.length cc] w fun e w' => e = .returned (.bool (startsV l cs)) ∧ Below w.heap.size w w' := by
  have CA := Lib.hid (asks_calls l va w ha hs.1)
  unfold AsksPost at CA
  obtain ⟨A, ca, rfl, _, _⟩ := ha.out
  have HS := Lib.hid hs
  have HC := Lib.hid hc
  have hl1 := hs.1
  obtain ⟨q, hq⟩ : ∃ q, q = startsV l cs := ⟨_, rfl⟩
  rw [← hq]
  have HQ := Lib.hid hq
  obtain ⟨n, hn⟩ : ∃ n, n = l.length := ⟨_, rfl⟩
  obtain ⟨m, hm⟩ : ∃ m, m = cs.length := ⟨_, rfl⟩
  have HN := Lib.hid (And.intro hn hm)
  rw [← hn] at CA hl1 ⊢
  rw [← hm] at hcl ⊢
  clear hs hc ha hq hn hm
  by_cases hlt0 : m < n
  · have g1 : decide (m < n) = true := decide_eq_true hlt0
    have E := Lib.hid (show q = false by rw [HQ.out]; unfold startsV; rw [decide_eq_false (by have := HN.out; omega), Bool.false_and])
    clear hlt0 CA
    go_enter Tryd.func18, Tryd.ntmps18
    go_wp2_with (fail)
    go_ret
    exact ⟨by rw [E.out]; rfl, Below.refl _ _⟩
  have g1 : decide (m < n) = false := decide_eq_false hlt0
  have hmn : n ≤ m := by omega
  clear hlt0
  go_enter Tryd.func18, Tryd.ntmps18
  go_wp2_with (fail)
  refine CA.out.mono ?_
  rintro e w1 ⟨v, Ks, rfl, hkl, hS⟩
  obtain ⟨Ak, ck, hv⟩ := own_is hS.row
  subst hv
  have HSA := Lib.hid hS
  rw [hkl] at HSA ⊢
  have HKL := Lib.hid hkl
  clear CA hS hkl
  go_wp2_with (fail)
  go_loopw [15] (fun iv wr => ∃ i : Nat, i ≤ n ∧ iv = .int .i64 (i : Nat) ∧ AskS w wr (.slice Ak n ck) Ks l ∧ ∀ (j : Nat) x k, j < i → l[j]? = some x → cs[j]? = some k → hasV x k = true) (fun iv _ => n - (intOf iv).toNat)
  case atStart => exact ⟨0, Nat.zero_le _, rfl, HSA.out, fun j x k hj => absurd hj (Nat.not_lt_zero _)⟩
  case round =>
    clear HSA
    obtain ⟨i, hi, rfl, hS, hal⟩ := hrel
    have HAL := Lib.hid hal
    clear hal
    by_cases hlt : i < n
    · have g2 : decide (i < n) = true := by simpa using hlt
      obtain ⟨K, hK⟩ : ∃ K, Ks[i]? = some K := ⟨_, List.getElem?_eq_getElem (by have := HKL.out; omega)⟩
      obtain ⟨x, hx⟩ : ∃ x, l[i]? = some x := ⟨_, List.getElem?_eq_getElem (by have := HN.out; omega)⟩
      obtain ⟨k, hk⟩ : ∃ k, cs[i]? = some k := ⟨_, List.getElem?_eq_getElem (by have := HN.out; omega)⟩
      obtain ⟨qk, hqk, ck1⟩ := ask_at (show AskS w wr (.slice Ak Ks.length ck) Ks l by rw [HKL.out]; exact hS) hK
      subst hqk
      obtain ⟨B, c, hKc, hKr⟩ := hS.ks i K x hK hx
      have hxl := HS.out.2 x (List.mem_of_getElem? hx)
      obtain ⟨w2, hw2⟩ : ∃ w2, w2 = wr.alloc (.cells #[askV K] 88) := ⟨_, rfl⟩
      obtain ⟨M, hM⟩ : ∃ M, M = wr.heap.size := ⟨_, rfl⟩
      have bw2 : Below wr.heap.size wr w2 := by rw [hw2]; exact (Below.refl _ _).alloc (Nat.le_refl _) _
      have S2 := Lib.hid (hS.below bw2)
      have N2 := Lib.hid (show w2.heap[M]? = some (.cells #[askV K] 88 (0, 0)) by rw [hw2, hM]; exact blk_alloc_new _ _)
      have HKC := Lib.hid ((bw2.block _ (Array.getElem?_eq_some_iff.1 hKc).1).trans hKc)
      have CH := Lib.hid (fun (wx : World) (hb : Below w2.heap.size w2 wx) => has_calls x K B c k wx ((hb.block _ (Array.getElem?_eq_some_iff.1 HKC.out).1).trans HKC.out) (hKr.later (S2.out.bel.trans (hb.mono S2.out.bel.size))) hxl)
      obtain ⟨r, hr⟩ : ∃ r, r = hasV x k := ⟨_, rfl⟩
      rw [← hr] at CH
      obtain ⟨qc, oc, rfl, cc1⟩ := reads_at HC.out S2.out.bel hk
      have HR := Lib.hid (And.intro hr (And.intro hx hk))
      have HW2 := Lib.hid (And.intro (show w2 = wr.alloc (.cells #[Value.func (.func 61) #[] #[.pointer (some ⟨K, 0, none⟩)]] 88) from hw2) hM)
      unfold askV at ck1
      have y0 : w2.cell? ⟨M, 0, none⟩ = some (.func (.func 61) #[] #[.pointer (some ⟨K, 0, none⟩)]) := by rw [Lib.cell_of_heap N2.out]; rfl
      clear hS hK hx hk hKc hKr hxl hw2 hM bw2 hr
      go_upto_region 6 with (fail)
      rw [← HW2.out.1, ← HW2.out.2]
      clear HW2 ck1
      refine Own.region_mix (CR [1, 5] [(1, ⟨M, 0, none⟩, .func (.func 61) #[] #[.pointer (some ⟨K, 0, none⟩)]), (5, ⟨qc, oc + i, none⟩, .int .i64 k)]) [1, 5] [0, 1, 0, 0, 12, 28, 63, 127] (Own.Ord.run [(0, true), (1, true), (2, true), (3, true), (4, true), (5, true), (6, false), (7, true)] .done) (by kernel_rfl) (by kernel_rfl) (fun dst v c a w h => by cases dst <;> exact h) (fun x hx w => CR.off x hx w) ?_
      simp only [Own.Ord.run]
      repeat (refine Own.st_blind _ rfl rfl (CR.off _ (by decide) _) ?_; go_big_quiet_step (fail); refine wpQuiet_nil ?_)
      refine Own.st_load _ rfl rfl (.func (.func 61) #[] #[.pointer (some ⟨K, 0, none⟩)]) (fun w' hw' => ?_) ?_ ?_
      · have hg0 := hw'.get (a := ⟨M, 0, none⟩) (v := .func (.func 61) #[] #[.pointer (some ⟨K, 0, none⟩)]) (by decide) (by simp)
        go_simp
      · intro _ q hq e; simp only [List.mem_cons, List.mem_nil_iff, or_false] at hq; rcases hq with rfl | rfl <;> first | assumption | (simp at e; done) | (go_simp; done) | (simp; done)
      simp only [Act.put, List.setIfInBounds_toArray, List.set_cons_succ, List.set_cons_zero]
      repeat (refine Own.st_blind _ rfl rfl (CR.off _ (by decide) _) ?_; go_big_quiet_step (fail); refine wpQuiet_nil ?_)
      refine Own.st_load _ rfl rfl (.int .i64 k) (fun w' hw' => ?_) ?_ ?_
      · have hg0 := hw'.get (a := ⟨qc, oc + i, none⟩) (v := .int .i64 k) (by decide) (by simp)
        go_simp
      · intro _ q hq e; simp only [List.mem_cons, List.mem_nil_iff, or_false] at hq; rcases hq with rfl | rfl <;> first | assumption | (simp at e; done) | (go_simp; done) | (simp; done)
      simp only [Act.put, List.setIfInBounds_toArray, List.set_cons_succ, List.set_cons_zero]
      refine Own.st_do _ rfl rfl (fun K hK => ?_)
      go_simp
      refine (CH.out _ ((Below.refl _ _).drew)).mono ?_
      rintro e w3 ⟨rfl, b3⟩
      have BW := Lib.hid (show Below w2.heap.size w2 w3 by have h0 : Below w2.heap.size w2 (World.drew w2) := (Below.refl _ _).drew; exact h0.trans (b3.mono h0.size))
      clear b3
      refine hK _ _ (fun q hq hd => by rw [(by decide : ∀ x ∈ [1, 5], Own.dep [0, 1, 0, 0, 12, 28, 63, 127] 6 x = true) q hq] at hd; cases hd) ?_
      clear hK K
      repeat (refine Own.st_blind _ rfl rfl (CR.off _ (by decide) _) ?_; go_big_quiet_step (fail); refine wpQuiet_nil ?_)
      refine Own.mix_done ?_
      cases r with
      | true =>
        have E := Lib.hid (show ∀ (j : Nat) x k, j < i + 1 → l[j]? = some x → cs[j]? = some k → hasV x k = true from fun j x' k' hj h1 h2 => by
          by_cases hji : j = i
          · subst hji
            obtain ⟨e1, e2, e3⟩ := HR.out
            rw [e2] at h1
            rw [e3] at h2
            obtain rfl := Option.some.inj h1
            obtain rfl := Option.some.inj h2
            exact e1.symm
          · exact HAL.out j x' k' (by omega) h1 h2)
        go_wp2_with (fail)
        go_roundw
        case rel => first | exact ⟨i + 1, hlt, by go_num, S2.out.below BW.out, E.out⟩ | exact ⟨i + 1, hlt, by go_num, S2.out.below BW.out.drew, E.out⟩
        case measure => simp [intOf]; omega
      | false =>
        have E := Lib.hid (show q = false by rw [HQ.out]; exact starts_no HR.out.2.1 HR.out.2.2 HR.out.1.symm)
        go_wp2_with (fail)
        go_ret
        first | exact ⟨by rw [E.out]; rfl, (S2.out.below BW.out).bel⟩ | exact ⟨by rw [E.out]; rfl, (S2.out.below BW.out.drew).bel⟩
    · obtain rfl : i = n := by omega
      have g2 : decide (i < i) = false := by simp
      have E := Lib.hid (show q = true by rw [HQ.out]; exact starts_yes (by have := HN.out; omega) (fun j x k h1 h2 => HAL.out j x k (by have := (List.getElem?_eq_some_iff.1 h1).1; have := HN.out; omega) h1 h2))
      have B2 := Lib.hid hS.bel
      clear hS
      go_wp2_with (fail)
      go_ret
      exact ⟨by rw [E.out]; rfl, B2.out⟩
theorem reads_sliced {w : World} {A : Option Addr} {cs : List Int} {c k : Nat} (h : Reads w A cs) (hk : k ≤ cs.length) (hc : cs.length ≤ c) : Reads w (if c = k then A else A.map (·.add (k * 1))) (cs.drop k) := by
  by_cases h0 : cs.length - k = 0
  · intro hh
    rw [List.length_drop] at hh
    omega
  · obtain ⟨b, o, rfl, _⟩ := h (by omega)
    rw [if_neg (by omega)]
    have e1 : (some (⟨b, o, none⟩ : Addr)).map (·.add (k * 1)) = some ⟨b, o + k, none⟩ := by
      simp only [Option.map_some, Nat.mul_one]
      unfold Addr.add; split <;> simp_all
    rw [e1]
    exact Reads.drop h k
set_option maxRecDepth 100000 in
set_option maxHeartbeats 16000000 in
theorem ends_calls (l : List ItP) (va : Value) (Ac : Option Addr) (cc : Nat) (cs : List Int) (w : World) (ha : GotI w va l) (hc : Reads w Ac cs) (hs : smallI l) (hcl : cs.length ≤ 1000000) (hcc : cs.length ≤ cc) :
    Calls Tryd.prog 19 #[va, .slice Ac cs.length cc] w fun e w' => e = .returned (.bool (endsV l cs)) ∧ Below w.heap.size w w' := by
  by_cases hlt0 : l.length ≤ cs.length
  · obtain ⟨k, hk⟩ : ∃ k, k = cs.length - l.length := ⟨_, rfl⟩
    have CS := Lib.hid (starts_calls l va (if cc = k then Ac else Ac.map (·.add (k * 1))) (cc - k) (cs.drop k) w ha (reads_sliced hc (by omega) hcc) hs (by rw [List.length_drop]; omega))
    have FS := fun w : World => run_sliced_from (P := Tryd.prog) Tryd.underlying41 (e := 3) (fun w => rfl) Ac cs.length cc k (by omega) hcc .i64 w
    obtain ⟨q, hq⟩ : ∃ q, q = endsV l cs := ⟨_, rfl⟩
    have hq2 : q = startsV l (cs.drop k) := by rw [hq]; unfold endsV; rw [decide_eq_true hlt0, Bool.true_and, ← hk]
    rw [← hq]
    rw [← hq2, List.length_drop] at CS
    obtain ⟨A, ca, rfl, _, _⟩ := ha.out
    obtain ⟨n, hn⟩ : ∃ n, n = l.length := ⟨_, rfl⟩
    obtain ⟨m, hm⟩ : ∃ m, m = cs.length := ⟨_, rfl⟩
    rw [← hn] at CS hlt0 hk ⊢
    rw [← hm] at CS FS hlt0 hk hcl ⊢
    have g1 : decide (n ≤ m) = true := decide_eq_true hlt0
    have g2 : decide ((n : Int) ≤ (m : Int)) = true := decide_eq_true (by omega)
    have hkI : (m : Int) - (n : Int) = (k : Nat) := by omega
    have hn1 : n ≤ 1000000 := by have := hs.1; omega
    rw [← hkI] at FS
    obtain ⟨V, hV⟩ : ∃ V, V = Value.slice (if cc = k then Ac else Ac.map (·.add (k * 1))) (m - k) (cc - k) := ⟨_, rfl⟩
    rw [← hV] at FS CS
    clear hk hq hq2 hn hm hV hc ha hs hcc hkI
    go_enter Tryd.func19, Tryd.ntmps19
    go_wp2_with (fail)
    refine CS.out.mono ?_
    rintro e w1 ⟨rfl, b1⟩
    have B1 := Lib.hid b1
    clear CS b1
    go_wp2_with (fail)
    go_ret
    exact ⟨rfl, B1.out⟩
  · have E := Lib.hid (show endsV l cs = false by unfold endsV; rw [decide_eq_false hlt0, Bool.false_and])
    obtain ⟨A, ca, rfl, _, _⟩ := ha.out
    have g1 : decide (l.length ≤ cs.length) = false := decide_eq_false hlt0
    have g2 : decide ((l.length : Int) ≤ (cs.length : Int)) = false := decide_eq_false (by omega)
    clear hlt0 ha hc hs hcc
    go_enter Tryd.func19, Tryd.ntmps19
    go_wp2_with (fail)
    go_ret
    exact ⟨by rw [E.out]; rfl, Below.refl _ _⟩
end Go.Proofs.YtmcnnfpeicnnjaaDoor

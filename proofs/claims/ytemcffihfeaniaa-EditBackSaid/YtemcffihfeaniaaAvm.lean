/- the tree as a list: Remove, Get, Find, Before. -/
import Derived.Test.YtemcffihfeaniaaAvl
namespace Go.Own
open Go Go.RowKit Go.Deep
set_option linter.unusedVariables false
/-- the item that a place lies in -/
def findL : List (Int × Int) → Int → Nat × Int
  | [], _ => (0, 0)
  | x :: l, at' => if at' < x.2 then (0, at') else ((findL l (at' - x.2)).1 + 1, (findL l (at' - x.2)).2)
theorem sumL_nonneg : ∀ (l : List (Int × Int)), (∀ x ∈ l, 0 ≤ x.2) → 0 ≤ sumL l
  | [], _ => by simp [sumL]
  | x :: l, h => by
    have h1 := sumL_nonneg l (fun y hy => h y (by simp [hy]))
    have h2 := h x (by simp)
    simp only [sumL, List.map_cons, List.sum_cons] at h1 ⊢; omega
theorem sumL_cons (x : Int × Int) (l : List (Int × Int)) : sumL (x :: l) = x.2 + sumL l := by simp [sumL]
theorem sumL_append (l m : List (Int × Int)) : sumL (l ++ m) = sumL l + sumL m := by simp [sumL]
theorem findL_left : ∀ (l m : List (Int × Int)) (p : Int), (∀ x ∈ l, 0 ≤ x.2) → 0 ≤ p → p < sumL l → findL (l ++ m) p = findL l p
  | [], m, p, _, h0, h => by simp [sumL] at h; omega
  | x :: l, m, p, hs, h0, h => by
    simp only [List.cons_append, findL]
    split
    · rfl
    · rw [findL_left l m (p - x.2) (fun y hy => hs y (by simp [hy])) (by omega) (by rw [sumL_cons] at h; omega)]
theorem findL_right : ∀ (l m : List (Int × Int)) (p : Int), (∀ x ∈ l, 0 ≤ x.2) → sumL l ≤ p → findL (l ++ m) p = (l.length + (findL m (p - sumL l)).1, (findL m (p - sumL l)).2)
  | [], m, p, _, h => by simp [sumL]
  | x :: l, m, p, hs, h => by
    have h1 := sumL_nonneg l (fun y hy => hs y (by simp [hy]))
    rw [sumL_cons] at h
    simp only [List.cons_append, findL]
    rw [if_neg (by omega), findL_right l m (p - x.2) (fun y hy => hs y (by simp [hy])) (by omega), sumL_cons, show p - x.2 - sumL l = p - (x.2 + sumL l) by omega]
    simp only [List.length_cons, Prod.mk.injEq, and_true]; omega
theorem findL_all (l : List (Int × Int)) (p : Int) (hs : ∀ x ∈ l, 0 ≤ x.2) (h : sumL l ≤ p) : findL l p = (l.length, 0) := by
  have := findL_right l [] p hs h
  simpa [findL] using this
/-- the sizes of the first items -/
def preL (l : List (Int × Int)) (i : Nat) : Int := sumL (l.take i)
theorem findL_spec : ∀ (l : List (Int × Int)) (p : Int), 0 ≤ p → p < sumL l → ∃ x, l[(findL l p).1]? = some x ∧ 0 ≤ (findL l p).2 ∧ (findL l p).2 < x.2 ∧ preL l (findL l p).1 + (findL l p).2 = p
  | [], p, h0, h => by simp [sumL] at h; omega
  | x :: l, p, h0, h => by
    simp only [findL]
    split
    · rename_i hlt
      exact ⟨x, by simp, h0, hlt, by simp [preL, sumL]⟩
    · rename_i hge
      obtain ⟨y, h1, h2, h3, h4⟩ := findL_spec l (p - x.2) (by omega) (by rw [sumL_cons] at h; omega)
      refine ⟨y, by simpa using h1, h2, h3, ?_⟩
      simp only [preL, List.take_succ_cons, sumL_cons] at h4 ⊢; omega
theorem findL_pre : ∀ (l : List (Int × Int)) (i : Nat) (x : Int × Int), (∀ x ∈ l, 0 ≤ x.2) → l[i]? = some x → 0 < x.2 → findL l (preL l i) = (i, 0)
  | [], i, x, _, h, _ => by simp at h
  | y :: l, 0, x, hs, h, hx => by
    simp only [List.getElem?_cons_zero, Option.some.injEq] at h
    subst h
    rw [show preL (y :: l) 0 = 0 from by simp [preL, sumL]]
    simp [findL, hx]
  | y :: l, i + 1, x, hs, h, hx => by
    have h1 := findL_pre l i x (fun y hy => hs y (by simp [hy])) (by simpa using h) hx
    have h2 := sumL_nonneg (l.take i) (fun z hz => hs z (by simp [List.mem_of_mem_take hz]))
    have e : preL (y :: l) (i + 1) = y.2 + preL l i := by simp only [preL, List.take_succ_cons, sumL_cons]
    have h2' : 0 ≤ preL l i := h2
    rw [e]
    simp only [findL]
    rw [if_neg (by omega), show y.2 + preL l i - y.2 = preL l i by omega, h1]
end Go.Own
namespace Go.Proofs.Ytemcffihfeaniaa
open Go.RowKit Go.Deep Go.Own
set_option linter.unusedVariables false
set_option maxRecDepth 100000 in
set_option maxHeartbeats 4000000 in
theorem remove_at (F : Nat → Prop) (b : Nat) (l : List (Int × Int)) (i : Nat) (w : World) (h : HasTree w F b l) (hi : i < l.length) :
    Calls Try.prog 31 #[.pointer (some ⟨b, 0, none⟩), .int .i64 (i : Nat)] w fun e w' => e = .returned (.bool true) ∧ HasTree w' F b (l.eraseIdx i) ∧ Fr F w w' := by
  have CL0 := Lib.hid (len_at F b l w h)
  have CI := Lib.hid (fun w => in_yes i (l.length : Int) w (by omega) (by omega))
  obtain ⟨t, h, rfl⟩ := h
  have hlen := h.len
  have bm : b < w.heap.size := h.lt
  obtain ⟨p, hp⟩ := Tr.ptr_is t
  have c0 : w.cell? ⟨b, 0, none⟩ = some (.pointer p) := by rw [← hp]; simp [World.cell?, h.cell]
  have CP := Lib.hid (cut_calls t i w h.ti h.nd h.good.told h.good.sized (by have := h.cnt; omega) (by omega) (by omega))
  have PB := Lib.hid (Tr.cut_blocks t i h.good.told (by omega) (by omega))
  have PG := Lib.hid (Tr.cut_good t i h.good (by omega) (by omega))
  have PI := Lib.hid (Tr.cut_items t i h.good.told (by omega) (by omega))
  have PT := Lib.hid (Tr.cut_told t i h.good.told (by omega) (by omega))
  have HA := Lib.hid h
  rw [hp] at CP
  have sb : ∀ k ∈ (Tr.cut i t).blocks, k ∈ t.blocks := fun k hk => PB.out.mem_iff.1 (List.mem_cons_of_mem _ hk)
  have HNB : Hid (b ∉ (Tr.cut i t).blocks) := Lib.hid fun e => h.nb (sb _ e)
  have SB := Lib.hid sb
  clear h hp sb hlen
  go_enter Try.func31, Try.ntmps31
  go_wp2_with (fail)
  refine CL0.out.mono ?_
  rintro e w0 ⟨rfl, rfl⟩
  go_wp2_with (fail)
  refine (CI.out _).mono ?_
  rintro e w0 ⟨rfl, rfl⟩
  go_wp2_with (fail)
  refine CP.out.mono ?_
  rintro e w2 ⟨rfl, i2, f2⟩
  obtain ⟨pq, hpq⟩ := Tr.ptr_is (Tr.cut i t)
  rw [hpq]
  have hb2 : w2.heap[b]? = some (.cells #[t.ptr] 84 (0, 0)) := (f2.block b bm HNB.out).trans HA.out.cell
  obtain ⟨pz, hpz⟩ := Tr.ptr_is t
  have e0 : w2.cell? ⟨b, 0, none⟩ = some (.pointer pz) := by rw [← hpz]; simp [World.cell?, hb2]
  have e1 : w2.frozen? ⟨b, 0, none⟩ = false := by simp [World.frozen?, hb2]
  have I2 := Lib.hid i2
  have F2 := Lib.hid f2
  have HB2 := Lib.hid hb2
  have HPQ := Lib.hid hpq
  clear i2 f2 hb2 hpz hpq CP
  go_wp2_with (fail)
  go_ret
  have f2 : Fr F w w2 := F2.out.mono fun k hk => HA.out.ft k (SB.out k hk)
  refine ⟨rfl, ⟨Tr.cut i t, ⟨?_, HNB.out, I2.out.keep fun k hk => setCell_other _ (fun e => HNB.out (by have e' : k = b := e; rw [← e']; exact hk)), (List.nodup_cons.1 (PB.out.nodup_iff.2 HA.out.nd)).2, PG.out.1, ?_, HA.out.fb, fun k hk => HA.out.ft k (SB.out k hk)⟩, ?_⟩, f2.setCell ⟨b, 0, none⟩ (.pointer pq) (.inl HA.out.fb)⟩
  · rw [setCell_same HB2.out, HPQ.out]; rfl
  · have := PT.out.2; have := HA.out.cnt; omega
  · rw [PI.out]; simp
set_option maxRecDepth 100000 in
set_option maxHeartbeats 4000000 in
theorem get_at (F : Nat → Prop) (b : Nat) (l : List (Int × Int)) (i : Nat) (k z : Int) (w : World) (h : HasTree w F b l) (hi : l[i]? = some (k, z)) :
    Calls Try.prog 26 #[.pointer (some ⟨b, 0, none⟩), .int .i64 (i : Nat)] w fun e w' => e = .returned (.tuple #[.int .i64 k, .int .i64 z, .bool true]) ∧ ∃ n, w' = w.drewN n := by
  have hil := (List.getElem?_eq_some_iff.1 hi).1
  have CL0 := Lib.hid (len_at F b l w h)
  have CI := Lib.hid (fun w => in_yes i (l.length : Int) w (by omega) (by omega))
  obtain ⟨t, h, rfl⟩ := h
  have hlen := h.len
  obtain ⟨p, hp⟩ := Tr.ptr_is t
  have c0 : w.cell? ⟨b, 0, none⟩ = some (.pointer p) := by rw [← hp]; simp [World.cell?, h.cell]
  have CP := Lib.hid (at_calls t i w h.ti h.good.told (by omega) (by omega) (by have := h.cnt; omega))
  have e1 := Tr.nodeAt_item t i h.good.told (by omega) (by omega)
  rw [Int.toNat_natCast, hi, Option.some.injEq] at e1
  obtain ⟨x, y, hh, cc, ss, hc⟩ := Tr.nodeAt_cells t i h.ti h.good.told (by omega) (by omega)
  rw [← e1] at hc
  generalize (Tr.nodeAt i t).1 = bn at *
  have d0 : w.cell? ⟨bn, 2, none⟩ = some (.int .i64 k) := by simp [World.cell?, hc]
  have d1 : w.cell? ⟨bn, 3, none⟩ = some (.int .i64 z) := by simp [World.cell?, hc]
  rw [hp] at CP
  clear h hp hlen hi hil e1 hc
  go_enter Try.func26, Try.ntmps26
  go_wp2_with (fail)
  refine CL0.out.mono ?_
  rintro e w0 ⟨rfl, rfl⟩
  go_wp2_with (fail)
  refine (CI.out _).mono ?_
  rintro e w0 ⟨rfl, rfl⟩
  go_wp2_with (fail)
  refine CP.out.mono ?_
  rintro e w0 ⟨rfl, rfl⟩
  go_wp2_with (fail)
  go_quiet (fail)
  go_wp2_with (fail)
  go_ret3
  exact ⟨rfl, _, rfl⟩
set_option maxRecDepth 100000 in
set_option maxHeartbeats 4000000 in
theorem find_low (F : Nat → Prop) (b : Nat) (p : Int) (w : World) (hp : p < 0) : Calls Try.prog 24 #[.pointer (some ⟨b, 0, none⟩), .int .i64 p] w fun e w' => e = .returned (.tuple #[.int .i64 0, .int .i64 0]) ∧ w = w' := by
  have g1 : decide (p < 0) = true := by simpa using hp
  go_enter Try.func24, Try.ntmps24
  go_wp2_with (fail)
  go_ret2
  exact ⟨rfl, rfl⟩
set_option maxRecDepth 100000 in
set_option maxHeartbeats 8000000 in
theorem find_at (F : Nat → Prop) (b : Nat) (l : List (Int × Int)) (p : Int) (w : World) (h : HasTree w F b l) (hp0 : 0 ≤ p) (hp1 : p ≤ 4611686018427387904) :
    Calls Try.prog 24 #[.pointer (some ⟨b, 0, none⟩), .int .i64 p] w fun e w' => e = .returned (.tuple #[.int .i64 ((findL l p).1 : Nat), .int .i64 (findL l p).2]) ∧ ∃ n, w' = w.drewN n := by
  have g0 : decide (p < 0) = false := by simpa using hp0
  have CS := Lib.hid (sum_at F b l w h)
  have CL0 := Lib.hid (len_at F b l w h)
  have HS := Lib.hid h.sized
  by_cases hall : sumL l ≤ p
  · have g1 : decide (sumL l ≤ p) = true := by simpa using hall
    have E := Lib.hid (findL_all l p (fun x hx => (HS.out x hx).1) hall)
    have hs0 := sumL_nonneg l (fun x hx => (HS.out x hx).1)
    clear h
    go_enter Try.func24, Try.ntmps24
    go_wp2_with (fail)
    refine CS.out.mono ?_
    rintro e w0 ⟨rfl, rfl⟩
    go_wp2_with (fail)
    refine CL0.out.mono ?_
    rintro e w0 ⟨rfl, rfl⟩
    go_wp2_with (fail)
    go_ret2
    exact ⟨by rw [E.out]; rfl, 0, rfl⟩
  · have g1 : decide (sumL l ≤ p) = false := by simpa using hall
    obtain ⟨t, h, rfl⟩ := h
    have hcnt := h.cnt
    have hlen := h.len
    obtain ⟨pt, hpt⟩ := Tr.ptr_is t
    have HPT := Lib.hid hpt
    have c0 : w.cell? ⟨b, 0, none⟩ = some (.pointer pt) := by rw [← hpt]; simp [World.cell?, h.cell]
    have HA := Lib.hid h
    have HSU := Lib.hid (Tr.sum_items h.good.told)
    clear h hpt
    go_enter Try.func24, Try.ntmps24
    go_wp2_with (fail)
    refine CS.out.mono ?_
    rintro e w0 ⟨rfl, rfl⟩
    go_wp2_with (fail)
    go_loopg [1, 4, 6] t.items.length (fun k p' i' n' wr => ∃ (s : Tr) (q : Int) (i : Nat), s.items.length ≤ k ∧ p' = .int .i64 q ∧ i' = .int .i64 (i : Nat) ∧ n' = s.ptr ∧ s.In w ∧ s.Good ∧ 0 ≤ q ∧ q < s.sum ∧ s.cnt + i ≤ t.cnt ∧ findL t.items p = (i + (findL s.items q).1, (findL s.items q).2) ∧ ∃ n, wr = w.drewN n)
    case atStart => exact ⟨t, p, 0, Nat.le_refl _, rfl, rfl, by rw [HPT.out], HA.out.ti, HA.out.good, hp0, by rw [HSU.out]; exact hall, by simp, by simp, 0, rfl⟩
    case round =>
      obtain ⟨s, q, i, r1, rfl, rfl, rfl, r2, r3, r4, r5, r6, r7, n, rfl⟩ := hrel
      cases s with
      | nil => simp only [Tr.sum_nil] at r5; omega
      | node bb k z hh c ss l r =>
        have R1 := Lib.hid r1
        have R2 := Lib.hid r2
        have R3 := Lib.hid r3
        have R7 := Lib.hid r7
        obtain ⟨c0, c1, c2, c3, _, _, _, c7⟩ := r2.cells
        obtain ⟨pl, hpl⟩ := Tr.ptr_is l
        obtain ⟨pr, hpr⟩ := Tr.ptr_is r
        have HM := Lib.hid (show ∀ n, Calls Try.prog 52 #[.pointer pl] (w.drewN n) fun e w' => e = .returned (.int .i64 l.cnt) ∧ w' = w.drewN n from fun n => hpl ▸ (many_calls l _ (r2.2.1.drewN n)).mono fun e w' h => ⟨h.1, h.2.symm⟩)
        have HU := Lib.hid (show ∀ n, Calls Try.prog 51 #[.pointer pl] (w.drewN n) fun e w' => e = .returned (.int .i64 l.sum) ∧ w' = w.drewN n from fun n => hpl ▸ (all_calls l _ (r2.2.1.drewN n)).mono fun e w' h => ⟨h.1, h.2.symm⟩)
        rw [hpl] at c0
        rw [hpr] at c1
        have HPL := Lib.hid hpl
        have HPR := Lib.hid hpr
        have sl := Tr.Good.sum_le r3.left.told r3.left.sized
        have sr := Tr.Good.sum_le r3.right.told r3.right.sized
        have q1 := r3.told.1.cnt_nonneg
        have q2 := r3.told.2.1.cnt_nonneg
        have q3 := r3.told.2.2.2.1
        have q4 := r3.told.2.2.2.2
        have q5 := r3.sized.2.2
        have u1 := Tr.sum_items r3.told.1
        have u2 := r3.told.1.cnt_eq
        simp only [Tr.cnt_node, Tr.sum_node] at r5 r6
        have hsl : ∀ x ∈ l.items, 0 ≤ x.2 := fun x hx => (Tr.sized_items r3.sized.1 x hx).1
        have HSL := Lib.hid hsl
        have U1 := Lib.hid (show sumL l.items = l.sum from u1.symm)
        have U2 := Lib.hid u2
        rw [show (Tr.node bb k z hh c ss l r).ptr = .pointer (some ⟨bb, 0, none⟩) from rfl]
        clear r1 r2 r3 r7 hpl hpr hsl u1 u2
        by_cases hlt : q < l.sum
        · have g2 : decide (q < l.sum) = true := by simpa using hlt
          have E := Lib.hid (findL_left l.items ((k, z) :: r.items) q HSL.out r4 (by rw [U1.out]; exact hlt))
          go_wp2_with (fail)
          refine (HU.out _).mono ?_
          rintro e w0 ⟨rfl, rfl⟩
          go_wp2_with (fail)
          go_roundg l.items.length
          case measure => have := R1.out; simp only [Tr.items, List.length_append, List.length_cons] at this; omega
          case rel => exact ⟨l, q, i, Nat.le_refl _, rfl, rfl, by rw [HPL.out], R2.out.2.1, R3.out.left, r4, hlt, by omega, by rw [R7.out]; simp only [Tr.items]; rw [E.out], _, rfl⟩
        · have E := Lib.hid (findL_right l.items ((k, z) :: r.items) q HSL.out (by rw [U1.out]; omega))
          have g2 : decide (q < l.sum) = false := by simpa using hlt
          by_cases hmid : q < l.sum + z
          · have g3 : decide (q < l.sum + z) = true := by simpa using hmid
            go_wp2_with (fail)
            refine (HU.out _).mono ?_
            rintro e w0 ⟨rfl, rfl⟩
            go_wp2_with (fail)
            refine Own.region_all (fun w' => ∃ n, w' = World.drewN w n) (by kernel_rfl) (by kernel_rfl) ⟨n + 1, rfl⟩ ?_
            repeat (go_big_quiet_step (with_reducible exact Calls.quiet_of_same (HU.out _)))
            refine wpQuiet_nil ?_
            rintro _ ⟨nq, rfl⟩
            go_wp2_with (fail)
            refine (HM.out _).mono ?_
            rintro e w0 ⟨rfl, rfl⟩
            go_wp2_with (fail)
            refine (HU.out _).mono ?_
            rintro e w0 ⟨rfl, rfl⟩
            go_wp2_with (fail)
            go_ret2
            have e2 : findL ((k, z) :: r.items) (q - sumL l.items) = (0, q - l.sum) := by
              rw [U1.out]; simp only [findL]; rw [if_pos (by omega)]
            refine ⟨?_, _, rfl⟩
            rw [R7.out]; simp only [Tr.items]; rw [E.out, e2]
            have := U2.out
            simp only [Nat.add_zero]
            show Ending.returned (.tuple #[.int .i64 ((i : Int) + l.cnt), .int .i64 (q - l.sum)]) = _
            rw [this]; simp
          · have g3 : decide (q < l.sum + z) = false := by simpa using hmid
            go_wp2_with (fail)
            refine (HU.out _).mono ?_
            rintro e w0 ⟨rfl, rfl⟩
            go_wp2_with (fail)
            refine Own.region_all (fun w' => ∃ n, w' = World.drewN w n) (by kernel_rfl) (by kernel_rfl) ⟨n + 1, rfl⟩ ?_
            repeat (go_big_quiet_step (with_reducible exact Calls.quiet_of_same (HU.out _)))
            refine wpQuiet_nil ?_
            rintro _ ⟨nq, rfl⟩
            go_wp2_with (fail)
            refine Own.region_all (fun w' => ∃ n, w' = World.drewN w n) (by kernel_rfl) (by kernel_rfl) ⟨nq + 1, rfl⟩ ?_
            repeat (go_big_quiet_step (with_reducible exact Calls.quiet_of_same (HU.out _)))
            refine wpQuiet_nil ?_
            rintro _ ⟨nq2, rfl⟩
            go_wp2_with (fail)
            refine (HM.out _).mono ?_
            rintro e w0 ⟨rfl, rfl⟩
            go_wp2_with (fail)
            go_roundg r.items.length
            case measure => have := R1.out; simp only [Tr.items, List.length_append, List.length_cons] at this; omega
            case rel =>
              have := U2.out
              refine ⟨r, q - (l.sum + z), i + (l.items.length + 1), Nat.le_refl _, rfl, ?_, by rw [HPR.out], R2.out.2.2, R3.out.right, by omega, by omega, by omega, ?_, _, rfl⟩
              · rw [this]; simp
              · have e2 : findL ((k, z) :: r.items) (q - sumL l.items) = ((findL r.items (q - (l.sum + z))).1 + 1, (findL r.items (q - (l.sum + z))).2) := by
                  rw [U1.out]; simp only [findL]; rw [if_neg (by omega), show q - l.sum - z = q - (l.sum + z) by omega]
                rw [R7.out]; simp only [Tr.items]; rw [E.out, e2]
                simp only [Prod.mk.injEq, and_true]; omega
end Go.Proofs.Ytemcffihfeaniaa

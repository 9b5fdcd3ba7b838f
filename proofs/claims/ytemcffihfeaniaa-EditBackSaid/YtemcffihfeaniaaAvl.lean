/- the tree as a list: New, Len, Sum, Height, Get, Insert, Remove. -/
import Derived.Test.YtemcffihfeaniaaCut
namespace Go.Own
open Go Go.RowKit Go.Deep
set_option linter.unusedVariables false
/-- a tree's head, its nodes, all within F -/
structure AV (w : World) (F : Nat → Prop) (b : Nat) (t : Tr) : Prop where
  cell : w.heap[b]? = some (.cells #[t.ptr] 84 (0, 0))
  nb : b ∉ t.blocks
  ti : t.In w
  nd : t.blocks.Nodup
  good : t.Good
  cnt : t.cnt ≤ 65536
  fb : F b
  ft : ∀ k ∈ t.blocks, F k
/-- a tree that is a list -/
def HasTree (w : World) (F : Nat → Prop) (b : Nat) (l : List (Int × Int)) : Prop := ∃ t, AV w F b t ∧ t.items = l
theorem AV.lt {w : World} {F : Nat → Prop} {b : Nat} {t : Tr} (h : AV w F b t) : b < w.heap.size := (Array.getElem?_eq_some_iff.1 h.cell).1
theorem AV.keep {w w' : World} {F : Nat → Prop} {b : Nat} {t : Tr} (h : AV w F b t) (hk : ∀ k, k < w.heap.size → F k → w'.heap[k]? = w.heap[k]?) : AV w' F b t :=
  ⟨(hk b h.lt h.fb).trans h.cell, h.nb, h.ti.keep (fun k hk' => hk k (h.ti.lt k hk') (h.ft k hk')), h.nd, h.good, h.cnt, h.fb, h.ft⟩
theorem AV.mono {w : World} {F G : Nat → Prop} {b : Nat} {t : Tr} (h : AV w F b t) (hs : ∀ k, F k → G k) : AV w G b t :=
  ⟨h.cell, h.nb, h.ti, h.nd, h.good, h.cnt, hs _ h.fb, fun k hk => hs _ (h.ft k hk)⟩
theorem HasTree.keep {w w' : World} {F : Nat → Prop} {b : Nat} {l : List (Int × Int)} (h : HasTree w F b l) (hk : ∀ k, k < w.heap.size → F k → w'.heap[k]? = w.heap[k]?) : HasTree w' F b l := by
  obtain ⟨t, h1, h2⟩ := h; exact ⟨t, h1.keep hk, h2⟩
theorem HasTree.mono {w : World} {F G : Nat → Prop} {b : Nat} {l : List (Int × Int)} (h : HasTree w F b l) (hs : ∀ k, F k → G k) : HasTree w G b l := by
  obtain ⟨t, h1, h2⟩ := h; exact ⟨t, h1.mono hs, h2⟩
theorem AV.len {w : World} {F : Nat → Prop} {b : Nat} {t : Tr} (h : AV w F b t) : t.cnt = t.items.length := h.good.told.cnt_eq
theorem HasTree.le {w : World} {F : Nat → Prop} {b : Nat} {l : List (Int × Int)} (h : HasTree w F b l) : l.length ≤ 65536 := by
  obtain ⟨t, h1, rfl⟩ := h; have := h1.len; have := h1.cnt; omega
theorem HasTree.sized {w : World} {F : Nat → Prop} {b : Nat} {l : List (Int × Int)} (h : HasTree w F b l) : ∀ x ∈ l, 0 ≤ x.2 ∧ x.2 ≤ 1099511627776 := by
  obtain ⟨t, h1, rfl⟩ := h; exact Tr.sized_items h1.good.sized
theorem Tr.cnt_lt_pow : ∀ {t : Tr}, Told t → t.cnt + 1 ≤ (2 : Int) ^ t.hi.toNat
  | nil, _ => by simp [cnt_nil, hi_nil]
  | node _ _ _ h c _ l r, ⟨h1, h2, h3, h4, _⟩ => by
    have a := Tr.cnt_lt_pow h1
    have b := Tr.cnt_lt_pow h2
    have nl := h1.hi_nonneg
    have nr := h2.hi_nonneg
    simp only [hi_node, cnt_node]
    obtain ⟨m, hm⟩ : ∃ m : Nat, max l.hi r.hi = m := ⟨(max l.hi r.hi).toNat, by omega⟩
    have e1 : h.toNat = m + 1 := by omega
    have h5 : (2 : Int) ^ l.hi.toNat ≤ 2 ^ m := by
      have : (2 : Nat) ^ l.hi.toNat ≤ 2 ^ m := Nat.pow_le_pow_right (by decide) (by omega)
      exact_mod_cast this
    have h6 : (2 : Int) ^ r.hi.toNat ≤ 2 ^ m := by
      have : (2 : Nat) ^ r.hi.toNat ≤ 2 ^ m := Nat.pow_le_pow_right (by decide) (by omega)
      exact_mod_cast this
    rw [e1, Int.pow_succ]; omega
/-- all sizes -/
def sumL (l : List (Int × Int)) : Int := (l.map (·.2)).sum
end Go.Own
namespace Go.Proofs.Ytemcffihfeaniaa
open Go.RowKit Go.Deep Go.Own
set_option linter.unusedVariables false
set_option maxRecDepth 100000 in
theorem avl_new (W : World) : Calls Try.prog 21 #[] W fun e w' => e = .returned (.pointer (some ⟨W.heap.size, 0, none⟩)) ∧ HasTree w' (Mk W w') W.heap.size [] ∧ Below W.heap.size W w' := by
  go_enter Try.func21, Try.ntmps21
  go_wp2
  go_ret
  refine ⟨rfl, ⟨.nil, ⟨?_, by simp [Tr.blocks], trivial, by simp [Tr.blocks], ⟨trivial, trivial, trivial⟩, by simp [Tr.cnt_nil], ⟨Nat.le_refl _, by simp⟩, by simp [Tr.blocks]⟩, rfl⟩, (Below.refl _ _).alloc (Nat.le_refl _) _⟩
  exact blk_alloc_new _ _
set_option maxRecDepth 100000 in
theorem len_at (F : Nat → Prop) (b : Nat) (l : List (Int × Int)) (w : World) (h : HasTree w F b l) : Calls Try.prog 28 #[.pointer (some ⟨b, 0, none⟩)] w fun e w' => e = .returned (.int .i64 (l.length : Nat)) ∧ w = w' := by
  obtain ⟨t, h, rfl⟩ := h
  have HL := Lib.hid h.len
  obtain ⟨p, hp⟩ := Tr.ptr_is t
  have CM := Lib.hid (many_calls t w h.ti)
  have c0 : w.cell? ⟨b, 0, none⟩ = some (.pointer p) := by rw [← hp]; simp [World.cell?, h.cell]
  rw [hp] at CM
  clear h hp
  go_enter Try.func28, Try.ntmps28
  go_wp2_with (fail)
  refine CM.out.mono ?_
  rintro e w0 ⟨rfl, rfl⟩
  go_wp2_with (fail)
  go_ret
  exact ⟨ret_int HL.out, rfl⟩
set_option maxRecDepth 100000 in
theorem sum_at (F : Nat → Prop) (b : Nat) (l : List (Int × Int)) (w : World) (h : HasTree w F b l) : Calls Try.prog 25 #[.pointer (some ⟨b, 0, none⟩)] w fun e w' => e = .returned (.int .i64 (sumL l)) ∧ w = w' := by
  obtain ⟨t, h, rfl⟩ := h
  have HL := Lib.hid (Tr.sum_items h.good.told)
  obtain ⟨p, hp⟩ := Tr.ptr_is t
  have CM := Lib.hid (all_calls t w h.ti)
  have c0 : w.cell? ⟨b, 0, none⟩ = some (.pointer p) := by rw [← hp]; simp [World.cell?, h.cell]
  rw [hp] at CM
  clear h hp
  go_enter Try.func25, Try.ntmps25
  go_wp2_with (fail)
  refine CM.out.mono ?_
  rintro e w0 ⟨rfl, rfl⟩
  go_wp2_with (fail)
  go_ret
  exact ⟨ret_int HL.out, rfl⟩
set_option maxRecDepth 100000 in
theorem height_at (F : Nat → Prop) (b : Nat) (l : List (Int × Int)) (w : World) (h : HasTree w F b l) : ∃ hh : Nat, (Tr.least hh ≤ l.length ∧ hh ≤ 40 ∧ l.length < 2 ^ hh) ∧ Calls Try.prog 30 #[.pointer (some ⟨b, 0, none⟩)] w fun e w' => e = .returned (.int .i64 (hh : Nat)) ∧ w = w' := by
  obtain ⟨t, h, rfl⟩ := h
  have hn := h.good.told.hi_nonneg
  have h1 := Tr.Good.least_le h.good.told h.good.bal
  have h2 := Tr.Good.hi_small h.good (by have := h.cnt; omega)
  have h3 := h.len
  have h4 := Tr.cnt_lt_pow h.good.told
  refine ⟨t.hi.toNat, ⟨by omega, by omega, by have h5 : ((t.items.length : Nat) : Int) + 1 ≤ ((2 ^ t.hi.toNat : Nat) : Int) := by rw [← h3]; exact_mod_cast h4
                                              omega⟩, ?_⟩
  have HL : Hid (t.hi = ((t.hi.toNat : Nat) : Int)) := Lib.hid (by omega)
  obtain ⟨p, hp⟩ := Tr.ptr_is t
  have CM := Lib.hid (high_calls t w h.ti)
  have c0 : w.cell? ⟨b, 0, none⟩ = some (.pointer p) := by rw [← hp]; simp [World.cell?, h.cell]
  rw [hp] at CM
  clear h hp hn h1 h2 h3 h4
  go_enter Try.func30, Try.ntmps30
  go_wp2_with (fail)
  refine CM.out.mono ?_
  rintro e w0 ⟨rfl, rfl⟩
  go_wp2_with (fail)
  go_ret
  exact ⟨ret_int HL.out, rfl⟩
theorem in_yes (i n : Int) (w : World) (h0 : 0 ≤ i) (h1 : i < n) : Calls Try.prog 48 #[.int .i64 i, .int .i64 n] w fun e w' => e = .returned (.bool true) ∧ w = w' := by
  have g1 : decide (0 ≤ i) = true := by simpa using h0
  have g2 : decide (i < n) = true := by simpa using h1
  go_enter Try.func48, Try.ntmps48
  go_wp2
  go_ret
  exact ⟨rfl, rfl⟩
theorem in_no (i n : Int) (w : World) (h : ¬ (0 ≤ i ∧ i < n)) : Calls Try.prog 48 #[.int .i64 i, .int .i64 n] w fun e w' => e = .returned (.bool false) ∧ w = w' := by
  by_cases h0 : 0 ≤ i
  · have g1 : decide (0 ≤ i) = true := by simpa using h0
    have g2 : decide (i < n) = false := by simp; omega
    clear h
    go_enter Try.func48, Try.ntmps48
    go_wp2
    go_ret
    exact ⟨rfl, rfl⟩
  · have g1 : decide (0 ≤ i) = false := by simpa using h0
    clear h
    go_enter Try.func48, Try.ntmps48
    go_wp2
    go_ret
    exact ⟨rfl, rfl⟩
theorem sized_yes (z : Int) (w : World) (h0 : 0 ≤ z) (h1 : z ≤ 1099511627776) : Calls Try.prog 49 #[.int .i64 z] w fun e w' => e = .returned (.bool true) ∧ w = w' := by
  have g1 : decide (0 ≤ z) = true := by simpa using h0
  have g2 : decide (z ≤ 1099511627776) = true := by simpa using h1
  go_enter Try.func49, Try.ntmps49
  go_wp2
  go_ret
  exact ⟨rfl, rfl⟩
set_option maxRecDepth 100000 in
set_option maxHeartbeats 4000000 in
theorem insert_at (F : Nat → Prop) (b : Nat) (l : List (Int × Int)) (i : Nat) (key size : Int) (w : World) (h : HasTree w F b l) (hF : ∀ k, F k → k < w.heap.size) (hi : i ≤ l.length) (h0 : 0 ≤ size) (h1 : size ≤ 1099511627776) (hl : l.length < 65536) :
    Calls Try.prog 23 #[.pointer (some ⟨b, 0, none⟩), .int .i64 (i : Nat), .int .i64 key, .int .i64 size] w fun e w' => e = .returned (.bool true) ∧ HasTree w' (FN F w w') b (Tr.ins l i (key, size)) ∧ Fr F w w' := by
  have CL := Lib.hid (fun n => len_at F b l (World.drewN w n) (h.keep fun _ _ _ => rfl))
  have CL0 := Lib.hid (len_at F b l w h)
  have CI := Lib.hid (fun w => in_yes i ((l.length : Int) + 1) w (by omega) (by omega))
  have CS := Lib.hid (fun w => sized_yes size w h0 h1)
  have g1 : decide ((65536 : Int) ≤ (l.length : Int)) = false := by simp; omega
  have g2 : decide (65536 ≤ l.length) = false := by simp; omega
  obtain ⟨t, h, rfl⟩ := h
  have hlen := h.len
  have bm : b < w.heap.size := h.lt
  obtain ⟨p, hp⟩ := Tr.ptr_is t
  have c0 : w.cell? ⟨b, 0, none⟩ = some (.pointer p) := by rw [← hp]; simp [World.cell?, h.cell]
  obtain ⟨w1, hw1⟩ : ∃ w1, w1 = w.alloc (.cells #[Value.pointer none, Value.pointer none, .int .i64 key, .int .i64 size, .int .i64 0, .int .i64 0, .int .i64 0] 89 (0, 0)) := ⟨_, rfl⟩
  have hk1 : ∀ k, k < w.heap.size → w1.heap[k]? = w.heap[k]? := fun k hk => by rw [hw1]; exact blk_alloc_lt _ _ _ hk
  have hitem : (Tr.node w.heap.size key size 0 0 0 .nil .nil).In w1 := ⟨by rw [hw1]; exact blk_alloc_new _ _, trivial, trivial⟩
  have ht1 : t.In w1 := h.ti.keep fun k hk => hk1 k (h.ti.lt k hk)
  have CP := Lib.hid (put_calls w.heap.size key size 0 0 0 ⟨h0, h1⟩ t i w1 hitem ht1 (List.nodup_cons.2 ⟨fun e => absurd (h.ti.lt _ e) (Nat.lt_irrefl _), h.nd⟩) h.good.told h.good.sized (by have := h.cnt; omega) (by omega) (by omega))
  have PB := Lib.hid (Tr.put_blocks w.heap.size key size t i)
  have PG := Lib.hid (Tr.put_good (b := w.heap.size) (k := key) h0 h1 t i h.good)
  have PI := Lib.hid (Tr.put_items w.heap.size key size t i h.good.told (by omega) (by omega))
  have PT := Lib.hid (Tr.put_told w.heap.size key size t i h.good.told)
  have HW := Lib.hid hw1
  have HA := Lib.hid h
  have HK := Lib.hid hk1
  have HF := Lib.hid hF
  rw [hp] at CP
  have bnb : b ∉ (Tr.put w.heap.size key size i t).blocks := fun e => by
    rcases List.mem_cons.1 (PB.out.mem_iff.1 e) with e | e
    · have := h.lt; omega
    · exact h.nb e
  have HNB := Lib.hid bnb
  have HLEN := Lib.hid hlen
  clear h hp hk1 hitem ht1 hF bnb hw1 hlen
  go_enter Try.func23, Try.ntmps23
  go_wp2_with (fail)
  refine CL0.out.mono ?_
  rintro e w0 ⟨rfl, rfl⟩
  go_wp2_with (fail)
  refine (CI.out _).mono ?_
  rintro e w0 ⟨rfl, rfl⟩
  go_wp2_with (fail)
  refine (CS.out _).mono ?_
  rintro e w0 ⟨rfl, rfl⟩
  go_wp2_with (fail)
  refine CL0.out.mono ?_
  rintro e w0 ⟨rfl, rfl⟩
  go_wp2_with (fail)
  rw [← HW.out]
  refine CP.out.mono ?_
  rintro e w2 ⟨rfl, i2, f2⟩
  obtain ⟨pq, hpq⟩ := Tr.ptr_is (Tr.put w.heap.size key size i t)
  rw [hpq]
  have hb1 : w1.heap[b]? = w.heap[b]? := HK.out b HA.out.lt
  have hlt1 : b < w1.heap.size := by have := HA.out.lt; rw [HW.out]; simp; omega
  have hb2 : w2.heap[b]? = some (.cells #[t.ptr] 84 (0, 0)) := ((f2.block b hlt1 HNB.out).trans hb1).trans HA.out.cell
  obtain ⟨pz, hpz⟩ := Tr.ptr_is t
  have e0 : w2.cell? ⟨b, 0, none⟩ = some (.pointer pz) := by rw [← hpz]; simp [World.cell?, hb2]
  have e1 : w2.frozen? ⟨b, 0, none⟩ = false := by simp [World.frozen?, hb2]
  have I2 := Lib.hid i2
  have F2 := Lib.hid f2
  have HB2 := Lib.hid hb2
  have HPQ := Lib.hid hpq
  clear i2 f2 hb1 hlt1 hb2 hpz hpq CP
  go_wp2_with (fail)
  go_ret
  have hs : w.heap.size < w1.heap.size := by rw [HW.out]; simp
  have f1 : Fr F w w1 := by rw [HW.out]; exact (Fr.refl F w).alloc _
  have f2 : Fr F w w2 := f1.step F2.out.os F2.out.tape F2.out.output F2.out.size fun k hk hn => F2.out.block k hk fun e => by
    rcases List.mem_cons.1 (PB.out.mem_iff.1 e) with e | e
    · exact hn (.inr ⟨by omega, hk⟩)
    · exact hn (.inl (HA.out.ft k e))
  have f3 := f2.setCell ⟨b, 0, none⟩ (.pointer pq) (.inl HA.out.fb)
  have hsz3 : (w2.setCell ⟨b, 0, none⟩ (.pointer pq)).heap.size = w2.heap.size := by simp [World.setCell]
  refine ⟨rfl, ⟨Tr.put w.heap.size key size i t, ⟨?_, HNB.out, I2.out.keep fun k hk => setCell_other _ (fun e => HNB.out (by have e' : k = b := e; rw [← e']; exact hk)), PB.out.nodup_iff.2 (List.nodup_cons.2 ⟨fun e => absurd (HA.out.ti.lt _ e) (Nat.lt_irrefl _), HA.out.nd⟩), PG.out.1, ?_, .inl HA.out.fb, fun k hk => ?_⟩, ?_⟩, f3⟩
  · rw [setCell_same HB2.out, HPQ.out]; rfl
  · have := PT.out.2; have := HLEN.out; omega
  · rcases List.mem_cons.1 (PB.out.mem_iff.1 hk) with e | e
    · exact .inr ⟨by omega, by rw [hsz3, e]; exact Nat.lt_of_lt_of_le hs F2.out.size⟩
    · exact .inl (HA.out.ft k e)
  · rw [PI.out]; simp
end Go.Proofs.Ytemcffihfeaniaa

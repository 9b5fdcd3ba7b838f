/- cond.Parse. -/
import Derived.Test.YtmcnnfpeicnnjaaDoorCndO
namespace Go.Proofs.YtmcnnfpeicnnjaaDoor
open Go.RowKit Go.Deep Go.Own
set_option linter.unusedVariables false
def strN : Value → Nat
  | .string b => b.size
  | _ => 0
theorem infoIt : (Tryd.prog.info? 43).map (fun i => (i.zero, i.size, i.bytes)) = some (some (.agg #[.bool false, .bool false, .slice none 0 0]), 3, 32) := by kernel_rfl
theorem src_item {w : World} {M : Nat} {a b : Bool} {A : Option Addr} {n c : Nat} (h : w.heap[M]? = some (.cells #[.bool a, .bool b, .slice A n c] 43 (0, 0))) :
    Src Tryd.prog 3 35 (.slice (some ⟨M, 0, none⟩) 1 1) 1 [.bool a, .bool b, .slice A n c] w := by
  refine Src.ofSlice w Tryd.underlying35 _ 1 1 _ rfl (fun j u hj => ?_) (fun u hu => ?_)
  · match j, hj with
    | 0, hj => simp at hj; subst hj; simp [Addr.add, World.cell?, h]
    | 1, hj => simp at hj; subst hj; simp [Addr.add, World.cell?, h]
    | 2, hj => simp at hj; subst hj; simp [Addr.add, World.cell?, h]
    | j + 3, hj => simp at hj
  · simp only [List.mem_cons, List.mem_nil_iff, or_false] at hu
    rcases hu with rfl | rfl | rfl <;> rfl
/-- an item as it lies -/
structure ItV where
  p : ItP
  A : Option Addr
  c : Nat
def ItV.v (x : ItV) : Value := .slice x.A x.p.set.length x.c
def itCells (x : ItV) : List Value := [.bool x.p.any, .bool x.p.neg, .slice x.A x.p.set.length x.c]
def RowIt (w : World) (base : Nat) (v : Value) (xs : List ItV) : Prop := w.ownsRow base 43 3 v xs.length (xs.flatMap itCells)
def FlIt (w : World) (base : Nat) (xs : List ItV) : Prop := ∀ x ∈ xs, OwnI w base 3 x.v x.p.set
theorem RowIt.nil (w : World) (base : Nat) : RowIt w base (.slice none 0 0) [] := World.ownsRow_nil _ _ _ _
theorem FlIt.nil (w : World) (base : Nat) : FlIt w base [] := fun x hx => absurd hx List.not_mem_nil
theorem RowIt.below {w w' : World} {base : Nat} {v : Value} {xs : List ItV} (h : RowIt w base v xs) (hb : Below w.heap.size w w') : RowIt w' base v xs := own_below h hb
theorem FlIt.below {w w' : World} {base : Nat} {xs : List ItV} (h : FlIt w base xs) (hb : Below w.heap.size w w') : FlIt w' base xs := fun x hx => (h x hx).later hb
theorem RowIt.push {w' : World} {base : Nat} {v' : Value} {xs : List ItV} {x : ItV} (O : w'.ownsRow base 43 3 v' (xs.length + 1) (xs.flatMap itCells ++ [.bool x.p.any, .bool x.p.neg, .slice x.A x.p.set.length x.c])) : RowIt w' base v' (xs ++ [x]) := by
  unfold RowIt
  rw [List.length_append, List.flatMap_append, List.flatMap_singleton]
  exact O
theorem FlIt.grown {w w' : World} {base : Nat} {v : Value} {xs ys : List ItV} (h : FlIt w base ys) (hR : RowIt w base v xs) (hg : w.grownBy w' v.ownBlock) : FlIt w' base ys := fun x hx => by
  refine OwnI.grown (h x hx) hg fun k hk e => ?_
  obtain ⟨c1, h1⟩ := own_row_type (h x hx) hk
  obtain ⟨c2, h2⟩ := own_row_type hR e
  rw [h1] at h2
  injection h2 with h2
  injection h2 with _ h3 _
  exact absurd h3 (by decide)
structure CpS (w wr : World) (lv : Value) (xs : List ItV) : Prop where
  e : RowIt wr w.heap.size lv xs
  f : FlIt wr w.heap.size xs
  bel : Below w.heap.size w wr
theorem CpS.below {w wr wx : World} {lv : Value} {xs : List ItV} (h : CpS w wr lv xs) (hb : Below wr.heap.size wr wx) : CpS w wx lv xs := ⟨h.e.below hb, h.f.below hb, h.bel.trans (hb.mono h.bel.size)⟩
theorem CpS.push {w wr w5 : World} {lv v5 : Value} {xs : List ItV} {x : ItV} (h : CpS w wr lv xs) (hx : OwnI wr w.heap.size 3 x.v x.p.set) (hg : wr.grownBy w5 lv.ownBlock) (O5 : w5.ownsRow w.heap.size 43 3 v5 (xs.length + 1) (xs.flatMap itCells ++ [.bool x.p.any, .bool x.p.neg, .slice x.A x.p.set.length x.c])) : CpS w w5 v5 (xs ++ [x]) :=
  ⟨RowIt.push O5, (show FlIt wr w.heap.size (xs ++ [x]) from fun y hy => by
      rcases List.mem_append.1 hy with hy | hy
      · exact h.f y hy
      · obtain rfl := List.mem_singleton.1 hy
        exact hx).grown h.e hg, h.bel.grown hg h.bel.size (fun q hq => (own_block_lt h.e hq).1)⟩
def CPost (w : World) (s : ByteArray) (e : Ending) (w' : World) : Prop :=
  (∃ (v : Value) (xs : List ItV) (ok : Bool), e = .returned (.tuple #[v, .bool ok]) ∧ RowIt w' w.heap.size v xs ∧ FlIt w' w.heap.size xs ∧ (ok = true → condV s = some (xs.map ItV.p)) ∧ (ok = false → condV s = none ∧ xs = [])) ∧ Below w.heap.size w w'
theorem isE {r : ByteArray} (h : r.size = 0) : r.toList.isEmpty = true := by
  rw [ByteArray.toList_eq]
  have e : r.data.toList.length = r.size := by simp
  rw [h] at e
  rw [List.length_eq_zero_iff.1 e]
  rfl
theorem notE {r : ByteArray} (h : 0 < r.size) : r.toList.isEmpty = false := by
  rw [ByteArray.toList_eq]
  have e : r.data.toList.length = r.size := by simp
  cases hh : r.data.toList with
  | nil => rw [hh] at e; simp at e; omega
  | cons x t => rfl
theorem codes_nil {r : ByteArray} (h : r.size = 0) : codes r = [] := by
  have := codes_count r
  exact List.length_eq_zero_iff.1 (by omega)
theorem codes_some {r : ByteArray} (h : 0 < r.size) : codes r ≠ [] := by
  rw [codes_head r h]
  simp
set_option maxRecDepth 100000 in
set_option maxHeartbeats 16000000 in
theorem cparse_calls (s : ByteArray) (w : World) (hs : s.size ≤ 1000000000) (hT : TabsL w) : Calls Tryd.prog 15 #[.string s] w (CPost w s) := by
  obtain ⟨iT, hiT, hzT, hsT, hbT⟩ := info_parts infoIt
  have HT := Lib.hid hT
  obtain ⟨res, hres⟩ : ∃ res, res = condV s := ⟨_, rfl⟩
  have HRES := Lib.hid hres
  clear hT hres
  go_enter Tryd.func15, Tryd.ntmps15
  go_wp2_with (fail)
  go_loopw [0, 4] (fun sv lv wr => ∃ (r : ByteArray) (xs : List ItV) (f : Nat), sv = .string r ∧ r.size ≤ s.size ∧ CpS w wr lv xs ∧ f + xs.length = 10 ∧ xs.length ≤ 8 ∧ parseC f (xs.map ItV.p) (codes r) = res) (fun sv _ _ => strN sv)
  case atStart => exact ⟨s, [], 10, rfl, Nat.le_refl _, ⟨RowIt.nil _ _, FlIt.nil _ _, Below.refl _ _⟩, rfl, Nat.zero_le _, by rw [HRES.out]; rfl⟩
  case round =>
    obtain ⟨r, xs, f, rfl, hrs, hC, hf, hxl, hp⟩ := hrel
    obtain ⟨A, cp, hlv⟩ := own_is hC.e
    subst hlv
    have HC := Lib.hid hC
    have HP := Lib.hid hp
    clear hC hp
    by_cases h0 : 0 < r.size
    · have k1 := notE h0
      have CO := Lib.hid (one_calls r wr h0 (by omega) (HT.out.below HC.out.bel))
      unfold OnePost at CO
      have hww := HC.out.bel.size
      obtain ⟨f, rfl⟩ : ∃ k, f = k + 1 := ⟨f - 1, by omega⟩
      have hp := HP.out
      rw [parseC, if_neg (codes_some h0)] at hp
      have HP := Lib.hid hp
      have H0 := Lib.hid h0
      clear hp h0
      go_wp2_with (fail)
      refine CO.out.mono ?_
      rintro e u1 ⟨⟨x, Ax, cx, rest, ok, rfl, hO, hrz, hxz, hone⟩, bu1⟩
      obtain ⟨o, ho⟩ : ∃ o, o = Obj.cells #[Value.bool x.any, .bool x.neg, .slice Ax x.set.length cx] 43 := ⟨_, rfl⟩
      have bo : Below u1.heap.size u1 (u1.alloc o) := (Below.refl _ _).alloc (Nat.le_refl _) _
      have bu : Below wr.heap.size wr (u1.alloc o) := bu1.trans (bo.mono bu1.size)
      have C2 := Lib.hid (HC.out.below bu)
      have O2 := Lib.hid (show OwnI (u1.alloc o) w.heap.size 3 (ItV.v ⟨x, Ax, cx⟩) x.set from OwnI.later (own_base hO hww) bo)
      obtain ⟨w2, hw2⟩ : ∃ w2, w2 = u1.alloc o := ⟨_, rfl⟩
      obtain ⟨T, hT2⟩ : ∃ T, T = u1.heap.size := ⟨_, rfl⟩
      have N2 := Lib.hid (show w2.heap[T]? = some (.cells #[Value.bool x.any, .bool x.neg, .slice Ax x.set.length cx] 43 (0, 0)) by rw [hw2, hT2, ho]; exact blk_alloc_new _ _)
      rw [← hw2] at C2 O2
      have HW2 := Lib.hid (And.intro (show w2 = u1.alloc (.cells #[Value.bool x.any, .bool x.neg, .slice Ax x.set.length cx] 43) by rw [hw2, ho]) hT2)
      have HR := Lib.hid (And.intro hrz hxz)
      have HONE := Lib.hid hone
      clear hO bu1 bo bu ho hw2 hT2 hrz hxz hone CO hww
      obtain ⟨z0, z1, z2⟩ := cell3_of N2.out
      go_upto_region 4 with (fail)
      rw [← HW2.out.1, ← HW2.out.2]
      clear HW2
      cases ok with
      | false =>
        have E := Lib.hid (show res = none by rw [← HP.out, HONE.out]; rfl)
        go_wp2_with (fail)
        refine bodyPost_ret (v := .tuple #[.slice none 0 0, .bool false]) (by simp [results, Tryd.results15, go_sem]) rfl ?_
        exact ⟨⟨_, [], false, rfl, RowIt.nil _ _, FlIt.nil _ _, fun h => (by cases h), fun _ => ⟨(by rw [← HRES.out]; exact E.out), rfl⟩⟩, C2.out.bel⟩
      | true =>
        by_cases h8 : 8 ≤ xs.length
        · have g1 : decide (8 ≤ xs.length) = true := decide_eq_true h8
          have g2 : decide (8 ≤ (xs.length : Int)) = true := decide_eq_true (by omega)
          have E := Lib.hid (show res = none by
            rw [← HP.out, HONE.out]
            simp only [if_true]
            rw [if_pos (by rw [List.length_map]; exact h8)])
          clear h8
          go_wp2_with (fail)
          refine bodyPost_ret (v := .tuple #[.slice none 0 0, .bool false]) (by simp [results, Tryd.results15, go_sem]) rfl ?_
          exact ⟨⟨_, [], false, rfl, RowIt.nil _ _, FlIt.nil _ _, fun h => (by cases h), fun _ => ⟨(by rw [← HRES.out]; exact E.out), rfl⟩⟩, C2.out.bel⟩
        · have g1 : decide (8 ≤ xs.length) = false := decide_eq_false h8
          have g2 : decide (8 ≤ (xs.length : Int)) = false := decide_eq_false (by omega)
          have E := Lib.hid (show parseC f ((xs ++ [(⟨x, Ax, cx⟩ : ItV)]).map ItV.p) (codes rest) = res by
            rw [← HP.out, HONE.out]
            simp only [if_true]
            rw [if_neg (by rw [List.length_map]; exact h8), List.map_append]
            rfl)
          have h8' : xs.length < 8 := by omega
          clear h8
          obtain ⟨o, ho⟩ : ∃ o, o = Obj.cells #[Value.bool x.any, .bool x.neg, .slice Ax x.set.length cx] 43 := ⟨_, rfl⟩
          have b4 : Below w2.heap.size w2 (w2.alloc o) := (Below.refl _ _).alloc (Nat.le_refl _) _
          have C4 := Lib.hid (C2.out.below b4)
          have O4 := Lib.hid (show OwnI (w2.alloc o) w.heap.size 3 (ItV.v ⟨x, Ax, cx⟩) x.set from OwnI.later O2.out b4)
          have S4 : Hid (Src Tryd.prog 3 35 (.slice (some ⟨w2.heap.size, 0, none⟩) 1 1) 1 [.bool x.any, .bool x.neg, .slice Ax x.set.length cx] (w2.alloc o)) := Lib.hid (src_item (by rw [ho]; exact blk_alloc_new _ _))
          subst ho
          clear b4
          go_wp2_with (at_builtin; refine own_append (o := ⟨some 26, _, _, _, _, _⟩) rfl (.tmp 23) (.tmp 25) 35 35 rfl w.heap.size 43 iT _ 3 32 Tryd.underlying35 hiT hzT hsT hbT rfl (by decide) (.slice A xs.length cp) xs.length _ rfl C4.out.e (.slice (some ⟨w2.heap.size, 0, none⟩) 1 1) rfl 1 _ S4.out (by unfold maxLen; omega) (by omega) C4.out.bel.size ?_; intro v5 w5 O5 G5 V5; have S5 := CpS.push (x := ⟨x, Ax, cx⟩) C4.out O4.out G5 O5; obtain ⟨A5, c5, hv5⟩ := own_is O5; subst hv5)
          go_roundw
          case rel => exact ⟨rest, xs ++ [⟨x, Ax, cx⟩], f, rfl, by have := HR.out.1; omega, S5, by rw [List.length_append, List.length_singleton]; omega, by rw [List.length_append, List.length_singleton]; omega, E.out⟩
          case measure => have := HR.out.1; simp [strN]; omega
    · have hr0 : r.size = 0 := by omega
      have k1 := isE hr0
      obtain ⟨f, rfl⟩ : ∃ k, f = k + 1 := ⟨f - 1, by omega⟩
      have hp := HP.out
      rw [codes_nil hr0, parseC, if_pos rfl] at hp
      clear h0 hr0
      by_cases hx0 : 0 < xs.length
      · have g1 : decide (0 < xs.length) = true := decide_eq_true hx0
        have g2 : decide (0 < (xs.length : Int)) = true := decide_eq_true (by omega)
        have E := Lib.hid (show res = some (xs.map ItV.p) by
          rw [← hp, if_neg]
          intro e
          have := congrArg List.length e
          rw [List.length_map, List.length_nil] at this
          omega)
        clear hx0 hp
        go_wp2_with (fail)
        refine bodyPost_ret (v := .tuple #[.slice A xs.length cp, .bool true]) (by simp [results, Tryd.results15, go_sem]) rfl ?_
        exact ⟨⟨_, xs, true, rfl, HC.out.e, HC.out.f, fun _ => (by rw [← HRES.out]; exact E.out), fun h => by cases h⟩, HC.out.bel⟩
      · have g1 : decide (0 < xs.length) = false := decide_eq_false hx0
        have g2 : decide (0 < (xs.length : Int)) = false := decide_eq_false (by omega)
        have hx1 : xs = [] := List.length_eq_zero_iff.1 (by omega)
        have E := Lib.hid (show res = none by rw [← hp, hx1]; rfl)
        have HX1 := Lib.hid hx1
        clear hx0 hp hx1
        go_wp2_with (fail)
        refine bodyPost_ret (v := .tuple #[.slice A xs.length cp, .bool false]) (by simp [results, Tryd.results15, go_sem]) rfl ?_
        exact ⟨⟨_, xs, false, rfl, HC.out.e, HC.out.f, fun h => (by cases h), fun _ => ⟨(by rw [← HRES.out]; exact E.out), HX1.out⟩⟩, HC.out.bel⟩
end Go.Proofs.YtmcnnfpeicnnjaaDoor

/- seg.All. -/
import Derived.Test.YtcljiahpgbedhaaDoorSegC
namespace Go.Proofs.YtcljiahpgbedhaaDoor
open Go.RowKit Go.Deep Go.Own Go.Shelf
set_option linter.unusedVariables false
attribute [local go_sem] Oper.semAt_some
/-- between two rounds -/
def stS (pre : List KdS) : Bool × List Tok := toksSt (pre.map fun k => k.1)
theorem stS_snoc (pre : List KdS) (x : KdS) : stS (pre ++ [x]) = tokStep (stS pre) x.1 := by unfold stS; rw [List.map_append]; exact toksSt_snoc _ _
def SegI (w : World) (N0 N1 : Nat) (pre : List KdS) (W : World) : Prop :=
  (∃ v, W.heap[N0]? = some (.cells #[v] 42 (0, 0)) ∧ RowT W w.heap.size v (stS pre).2) ∧ W.heap[N1]? = some (.cells #[.bool (stS pre).1] 4 (0, 0)) ∧ Below w.heap.size w W
theorem keepC {W W' : World} {row : Option Nat} (hg : W.grownBy W' row) (hr : ∀ r, row = some r → ∃ o : Obj, W.heap[r]? = some o ∧ o.isCells = false) {k : Nat} {c : Array Value} {t : TypeId} {fr : Nat × Nat} (h : W.heap[k]? = some (.cells c t fr)) : W'.heap[k]? = W.heap[k]? :=
  hg.block k (Array.getElem?_eq_some_iff.1 h).1 (fun e => by
    obtain ⟨o, ho, hc⟩ := hr k e.symm
    rw [h] at ho
    obtain rfl := Option.some.inj ho
    cases hc)
theorem SegI.own (w : World) (N0 N1 B : Nat) (hB : w.heap.size ≤ B) : OwnFrom B (SegI w N0 N1) := by
  intro pre W W' row h hg hr
  obtain ⟨⟨v, h1, h2⟩, h3, h4⟩ := h
  have hr' : ∀ r, row = some r → ∃ o : Obj, W.heap[r]? = some o ∧ o.isCells = false := fun r e => (hr r e).2
  refine ⟨⟨v, (keepC hg hr' h1).trans h1, own_keep h2 fun k hk => ?_⟩, (keepC hg hr' h3).trans h3, h4.grown hg h4.size (fun k e => Nat.le_trans hB (hr k e).1)⟩
  obtain ⟨cur, hc⟩ := own_row_type h2 hk
  exact keepC hg hr' hc
/-- what a round sees -/
structure FX (w : World) (Bx : Nat) (kc : Array Value) (X : World) (v : Value) (op : Bool) (ts : List Tok) : Prop where
  h0 : X.heap[w.heap.size]? = some (.cells #[v] 42 (0, 0))
  h1 : X.heap[w.heap.size + 1]? = some (.cells #[.bool op] 4 (0, 0))
  hk : X.heap[Bx]? = some (.cells kc 67 (0, 0))
  hR : RowT X w.heap.size v ts
  hb : Below w.heap.size w X
theorem kpT_set {n₀ : Nat} {W : World} {g : Nat} {c : Array Value} {t : TypeId} {fr : Nat × Nat} (hg : W.heap[g]? = some (.cells c t fr)) (ht : t = 48 ∨ t = 42 ∨ t = 4) (hn : n₀ ≤ g) (j : Nat) (v : Value) : KpT n₀ W (W.setCell ⟨g, j, none⟩ v) :=
  ⟨(Below.refl _ _).setCell (p := ⟨g, j, none⟩) hn _, fun k c' t' fr' hk h1 h2 h3 => setCell_other _ (by
    rintro rfl
    have e : t = t' := by
      have := hg.symm.trans hk
      simp only [Option.some.injEq, Obj.cells.injEq] at this
      exact this.2.1
    rcases ht with rfl | rfl | rfl
    · exact h1 e.symm
    · exact h2 e.symm
    · exact h3 e.symm)⟩
theorem kpT_grown {n₀ : Nat} {W W' : World} {v : Value} {ts : List Tok} (hR : RowT W n₀ v ts) (hn : n₀ ≤ W.heap.size) (hg : W.grownBy W' v.ownBlock) : KpT n₀ W W' :=
  ⟨(Below.refl _ _).grown hg hn (fun q hq => (own_block_lt hR hq).1), fun k c t fr hk h1 _ _ => hg.block k (Array.getElem?_eq_some_iff.1 hk).1 (fun e => by
    obtain ⟨cur, hc⟩ := own_row_type hR e.symm
    have := hc.symm.trans hk
    simp only [Option.some.injEq, Obj.cells.injEq] at this
    exact h1 this.2.1.symm)⟩
theorem kpT_alloc {n₀ : Nat} (W : World) (o : Obj) (hn : n₀ ≤ W.heap.size) : KpT n₀ W (W.alloc o) :=
  ⟨(Below.refl _ _).alloc hn _, fun k c t fr hk _ _ _ => blk_alloc_lt _ _ _ (Array.getElem?_eq_some_iff.1 hk).1⟩
theorem FX.ne {w : World} {Bx : Nat} {kc : Array Value} {X : World} {v : Value} {op : Bool} {ts : List Tok} (h : FX w Bx kc X v op ts) : Bx ≠ w.heap.size ∧ Bx ≠ w.heap.size + 1 ∧ ∀ q, v.ownBlock = some q → q ≠ w.heap.size ∧ q ≠ w.heap.size + 1 ∧ q ≠ Bx := by
  refine ⟨ne_of_type h.hk h.h0 (by decide), ne_of_type h.hk h.h1 (by decide), fun q hq => ?_⟩
  obtain ⟨cur, hc⟩ := own_row_type h.hR hq
  exact ⟨ne_of_type hc h.h0 (by decide), ne_of_type hc h.h1 (by decide), ne_of_type hc h.hk (by decide)⟩
theorem FX.setOpen {w : World} {Bx : Nat} {kc : Array Value} {X : World} {v : Value} {op : Bool} {ts : List Tok} (h : FX w Bx kc X v op ts) (b : Bool) : FX w Bx kc (X.setCell ⟨w.heap.size + 1, 0, none⟩ (.bool b)) v b ts ∧ KpT w.heap.size X (X.setCell ⟨w.heap.size + 1, 0, none⟩ (.bool b)) := by
  obtain ⟨n1, n2, n3⟩ := h.ne
  refine ⟨⟨(setCell_other _ (by show w.heap.size ≠ w.heap.size + 1; omega)).trans h.h0, by rw [setCell_same h.h1]; rfl, (setCell_other _ n2).trans h.hk, own_keep h.hR fun q hq => setCell_other _ (n3 q hq).2.1, h.hb.setCell (p := ⟨w.heap.size + 1, 0, none⟩) (by show w.heap.size ≤ w.heap.size + 1; omega) _⟩, kpT_set h.h1 (.inr (.inr rfl)) (by omega) _ _⟩
theorem FX.setTo {w : World} {Bx q n cap : Nat} {kc : Array Value} {X : World} {op : Bool} {ts : List Tok} {t : Tok} (h : FX w Bx kc X (.slice (some ⟨q, 0, none⟩) n cap) op (ts ++ [t])) (z : Nat) :
    FX w Bx kc (X.setCell ⟨q, ts.length * 3 + 1, none⟩ (.int .i64 (z : Nat))) (.slice (some ⟨q, 0, none⟩) n cap) op (ts ++ [⟨t.f, z, t.word⟩]) ∧ KpT w.heap.size X (X.setCell ⟨q, ts.length * 3 + 1, none⟩ (.int .i64 (z : Nat))) := by
  obtain ⟨n1, n2, n3⟩ := h.ne
  obtain ⟨m1, m2, m3⟩ := n3 q rfl
  obtain ⟨cur, hc⟩ := own_row_type h.hR (k := q) rfl
  have hq := (own_block_lt h.hR (k := q) rfl).1
  exact ⟨⟨(setCell_other _ m1.symm).trans h.h0, (setCell_other _ m2.symm).trans h.h1, (setCell_other _ m3.symm).trans h.hk, h.hR.setTo z, h.hb.setCell (p := ⟨q, ts.length * 3 + 1, none⟩) hq _⟩, kpT_set hc (.inl rfl) hq _ _⟩
theorem FX.setWord {w : World} {Bx q n cap : Nat} {kc : Array Value} {X : World} {op : Bool} {ts : List Tok} {t : Tok} (h : FX w Bx kc X (.slice (some ⟨q, 0, none⟩) n cap) op (ts ++ [t])) (b : Bool) :
    FX w Bx kc (X.setCell ⟨q, ts.length * 3 + 2, none⟩ (.bool b)) (.slice (some ⟨q, 0, none⟩) n cap) op (ts ++ [⟨t.f, t.t, b⟩]) ∧ KpT w.heap.size X (X.setCell ⟨q, ts.length * 3 + 2, none⟩ (.bool b)) := by
  obtain ⟨n1, n2, n3⟩ := h.ne
  obtain ⟨m1, m2, m3⟩ := n3 q rfl
  obtain ⟨cur, hc⟩ := own_row_type h.hR (k := q) rfl
  have hq := (own_block_lt h.hR (k := q) rfl).1
  exact ⟨⟨(setCell_other _ m1.symm).trans h.h0, (setCell_other _ m2.symm).trans h.h1, (setCell_other _ m3.symm).trans h.hk, h.hR.setWord b, h.hb.setCell (p := ⟨q, ts.length * 3 + 2, none⟩) hq _⟩, kpT_set hc (.inl rfl) hq _ _⟩
/-- a token more, not yet told to the variable -/
theorem FX.grow {w : World} {Bx : Nat} {kc : Array Value} {X Y : World} {v v' : Value} {op : Bool} {ts : List Tok} {t : Tok} (h : FX w Bx kc X v op ts) (o : Obj) (O : Y.ownsRow w.heap.size 48 3 v' (ts.length + 1) (ts.flatMap tokCells ++ tokCells t)) (G : (X.alloc o).grownBy Y v.ownBlock) :
    Y.heap[w.heap.size]? = some (.cells #[v] 42 (0, 0)) ∧ FX w Bx kc (Y.setCell ⟨w.heap.size, 0, none⟩ v') v' op (ts ++ [t]) ∧ KpT w.heap.size X (Y.setCell ⟨w.heap.size, 0, none⟩ v') ∧ KeepsOthers X (Y.setCell ⟨w.heap.size, 0, none⟩ v') := by
  obtain ⟨n1, n2, n3⟩ := h.ne
  have ba : Below X.heap.size X (X.alloc o) := (Below.refl _ _).alloc (Nat.le_refl _) _
  have hRa := h.hR.below ba
  have keep : ∀ {k : Nat} {c : Array Value} {t1 : TypeId} {fr : Nat × Nat}, X.heap[k]? = some (.cells c t1 fr) → (∀ q, v.ownBlock = some q → k ≠ q) → Y.heap[k]? = some (.cells c t1 fr) := fun hk hq => by
    have hka := (ba.block _ (Array.getElem?_eq_some_iff.1 hk).1).trans hk
    rw [G.block _ (Array.getElem?_eq_some_iff.1 hka).1 (fun e => hq _ e.symm rfl), hka]
  have y0 := keep h.h0 (fun q hq => (n3 q hq).1.symm)
  have y1 := keep h.h1 (fun q hq => (n3 q hq).2.1.symm)
  have yk := keep h.hk (fun q hq => (n3 q hq).2.2.symm)
  have hT := RowT.push O
  have kp1 : KpT w.heap.size X Y := (kpT_alloc X o h.hb.size).trans (kpT_grown hRa (Nat.le_trans h.hb.size ba.size) G)
  refine ⟨y0, ⟨by rw [setCell_same y0]; rfl, (setCell_other _ (by show w.heap.size + 1 ≠ w.heap.size; omega)).trans y1, (setCell_other _ n1).trans yk, own_keep hT fun q hq => setCell_other _ ?_, (h.hb.trans kp1.1).setCell (p := ⟨w.heap.size, 0, none⟩) (Nat.le_refl _) _⟩, kp1.trans (kpT_set y0 (.inr (.inl rfl)) (Nat.le_refl _) _ _), ?_⟩
  · obtain ⟨cur, hc⟩ := own_row_type hT hq
    exact ne_of_type hc y0 (by decide)
  · refine ((KeepsOthers.alloc X o).trans (KeepsOthers.of_grownBy G fun j ob hj hob => ?_)).trans (KeepsOthers.setCell _ _ _)
    obtain ⟨cur, hc⟩ := own_row_type hRa hj
    rw [hc] at hob
    obtain rfl := Option.some.inj hob
    rfl
theorem FX.done {w : World} {Bx : Nat} {kc : Array Value} {X : World} {v : Value} {op : Bool} {ts : List Tok} (h : FX w Bx kc X v op ts) {pre : List KdS} (hs : stS pre = (op, ts)) : SegI w w.heap.size (w.heap.size + 1) pre X :=
  ⟨⟨v, h.h0, by rw [hs]; exact h.hR⟩, by rw [hs]; exact h.h1, h.hb⟩
theorem FX.cells {w : World} {Bx : Nat} {a n : Nat} {c cl : Int} {sol : Bool} {X : World} {v : Value} {op : Bool} {ts : List Tok} (h : FX w Bx #[.int .i64 (a : Nat), .int .i64 (n : Nat), .int .i64 c, .int .i64 cl, .bool sol] X v op ts) :
    (X.cell? ⟨Bx, 0, none⟩ = some (.int .i64 (a : Nat)) ∧ X.cell? ⟨Bx, 1, none⟩ = some (.int .i64 (n : Nat)) ∧ X.cell? ⟨Bx, 3, none⟩ = some (.int .i64 cl) ∧ X.cell? ⟨Bx, 4, none⟩ = some (.bool sol)) ∧ (X.cell? ⟨w.heap.size + 1, 0, none⟩ = some (.bool op) ∧ ∀ j, X.frozen? ⟨w.heap.size + 1, j, none⟩ = false) ∧ X.cell? ⟨w.heap.size, 0, none⟩ = some v ∧ ∀ j, X.frozen? ⟨w.heap.size, j, none⟩ = false := by
  have hk := h.hk
  have h1 := h.h1
  have h0 := h.h0
  refine ⟨⟨by simp [World.cell?, hk], by simp [World.cell?, hk], by simp [World.cell?, hk], by simp [World.cell?, hk]⟩, ⟨by simp [World.cell?, h1], fun j => by simp [World.frozen?, h1]⟩, by simp [World.cell?, h0], fun j => by simp [World.frozen?, h0]⟩
set_option maxRecDepth 100000 in
set_option maxHeartbeats 8000000 in
theorem seg_calls (rs : List Rng) (s : ByteArray) (A : Option Addr) (cp : Nat) (w : World) (hT : Tabs w) (hA : ReadsR w A rs) (hl : rs.length ≤ 9223372036854775807) (hcp : rs.length ≤ cp) (hs : s.size ≤ 1099511627776) :
    Calls Tryd.prog 26 #[.slice A rs.length cp, .string s] w fun e w' => ∃ v, e = .returned v ∧ RowT w' w.heap.size v (toksOf rs s) ∧ Below w.heap.size w w' := by
  obtain ⟨iT, hiT, hzT, hsT, hbT⟩ := info_parts infoT
  have hul : (units s).length ≤ s.size := unitsFrom_len s s.size 0
  obtain ⟨N, hN⟩ : ∃ N, N = w.heap.size := ⟨_, rfl⟩
  obtain ⟨w2, hw2⟩ : ∃ w2, w2 = (w.alloc (.cells #[Value.slice none 0 0] 42)).alloc (.cells #[.bool false] 4) := ⟨_, rfl⟩
  have hb2 : Below w.heap.size w w2 := by rw [hw2]; exact ((Below.refl _ _).alloc (Nat.le_refl _) _).alloc (by simp) _
  have hz2 : w2.heap.size = N + 2 := by rw [hw2, hN]; simp
  have n0 : w2.heap[N]? = some (.cells #[Value.slice none 0 0] 42 (0, 0)) := by
    rw [hw2, hN, blk_alloc_lt _ _ _ (by simp)]; exact blk_new w _
  have n1 : w2.heap[N + 1]? = some (.cells #[.bool false] 4 (0, 0)) := by
    have := blk_new (w.alloc (.cells #[Value.slice none 0 0] 42)) (.cells #[.bool false] 4)
    rw [hw2, hN]
    simpa using this
  obtain ⟨w4, hw4⟩ : ∃ w4, w4 = (w2.alloc (.cells #[.slice A rs.length cp] 44)).alloc (.cells #[.string s] 9) := ⟨_, rfl⟩
  have b4 : Below w2.heap.size w2 w4 := by rw [hw4]; exact ((Below.refl _ _).alloc (Nat.le_refl _) _).alloc (by simp) _
  have hb4 : Below w.heap.size w w4 := hb2.trans (b4.mono hb2.size)
  have hz4 : w4.heap.size = N + 4 := by rw [hw4]; simp [hz2]
  have l4 : w4.heap[N + 2]? = some (.cells #[.slice A rs.length cp] 44 (0, 0)) := by
    rw [hw4, blk_alloc_lt _ _ _ (by simp [hz2]), ← hz2]; exact blk_new w2 _
  have s4 : w4.heap[N + 3]? = some (.cells #[.string s] 9 (0, 0)) := by
    have := blk_new (w2.alloc (.cells #[.slice A rs.length cp] 44)) (.cells #[.string s] 9)
    rw [World.size_alloc, hz2] at this
    rw [hw4]; exact this
  have I0 : SegI w N (N + 1) [] w4 := ⟨⟨_, (b4.block N (Array.getElem?_eq_some_iff.1 n0).1).trans n0, RowT.nil _ _⟩, (b4.block (N + 1) (Array.getElem?_eq_some_iff.1 n1).1).trans n1, hb4⟩
  have SS := Lib.hid (kinds1_stops rs s A cp w hT hA hl hcp hs (3 - 1) (N + 3) (N + 2) w4 hb4 s4 l4)
  have HI0 := Lib.hid I0
  have HB4 := Lib.hid hb4
  have HZ4 := Lib.hid hz4
  have HW2 := Lib.hid hw2
  have HW4 := Lib.hid hw4
  have HZ2 := Lib.hid hz2
  have HN := Lib.hid hN
  clear hT hA hw2 hw4 hb2 b4 hb4 n0 n1 hz2 hz4 l4 s4 I0
  refine (callsIn_wide (n := 3)).1 ?_
  refine callsIn_of_wp_marks Tryd.func26 rfl trivial ?_ rfl
  simp only [Tryd.ntmps26, List.size_toArray, List.length_cons, List.length_nil, Nat.reduceAdd, Nat.reduceSub, Array.replicate_succ, Array.replicate_zero, List.push_toArray, List.append_toArray, List.nil_append, List.cons_append]
  gi_wp2_with (fail)
  rw [← HW2.out]
  refine ⟨trivial, (callsIn_wide.2 (kinds_calls A rs.length cp s w2)).mono ?_⟩
  rintro e w' ⟨rfl, hw'⟩
  rw [← HW4.out] at hw'
  subst hw'
  have hN' := HN.out
  clear HN
  subst hN'
  rw [HZ2.out]
  gi_wp2_with (fail)
  have SS1 := SS.out
  refine wpIn_rangeFunc_ownH rfl (by decide) (gf := 43) (lb := #[.pointer (some ⟨w.heap.size + 2 + 1, 0, none⟩), .pointer (some ⟨w.heap.size + 2, 0, none⟩)]) rfl trivial (enters_of Tryd.func43 (by kernel_rfl) rfl) SS1 (fun h g => h.trans g) (kpT_b (by rw [HZ4.out]; omega)) (Below.refl _ _) (fun _ => rfl)
    (SegI w w.heap.size (w.heap.size + 1)) (fun _ _ _ => False) (SegI.own w w.heap.size (w.heap.size + 1) _ (by rw [HZ4.out]; omega)) (fun c s W W' row hs hg hr => hs) HI0.out
    (fun x a' W => ∃ Bx, w.heap.size ≤ Bx ∧ W.heap[Bx]? = some (.cells #[.int .i64 (x.1.at' : Nat), .int .i64 (x.1.len : Nat), .int .i64 x.1.code, .int .i64 x.1.cls, .bool x.1.solid] 67 (0, 0)) ∧ ∃ T12 : Value, T12 = encK x.1 ∧ a' = { tmps := #[.slice A rs.length cp, .string s, undef, undef, .slice none 0 0, .pointer (some ⟨w.heap.size, 0, none⟩), .pointer (some ⟨w.heap.size + 1, 0, none⟩), .pointer (some ⟨Bx, 0, none⟩), undef, .slice A rs.length cp, .string s, .func (.func 43) #[] #[.pointer (some ⟨w.heap.size + 2 + 1, 0, none⟩), .pointer (some ⟨w.heap.size + 2, 0, none⟩)], T12, undef, undef, undef, undef, undef, undef, undef, undef, undef, undef, undef, undef, undef, undef, undef, undef, undef, undef, undef, undef, undef, undef, undef, undef, undef, undef, undef, undef, undef, undef, undef, undef, undef, undef, undef, undef, undef, undef, undef, undef, undef, undef, undef, undef, undef, undef, undef], defers := [] }) ?ax ?assign ?body ?done ?stop
  case ax =>
    rintro x a' _ W W' row ⟨Bx, h1, h2, h3⟩ hg hr
    exact ⟨Bx, h1, (keepC hg (fun r e => (hr r e).2) h2).trans h2, h3⟩
  case assign =>
    intro l pre x W K hi hK
    have hb : Below w.heap.size w W := hi.2.2
    unfold encK
    gi_wp2
    refine hK _ _ ((KeepsOthers.alloc _ _).from _) ⟨(Below.refl _ _).alloc hb.size _, fun k c t fr hk _ _ _ => blk_alloc_lt _ _ _ (Array.getElem?_eq_some_iff.1 hk).1⟩ ((SegI.own w w.heap.size (w.heap.size + 1) _ (Nat.le_refl _)).alloc _ hi) ⟨W.heap.size, hb.size, blk_new W _, _, rfl, rfl⟩
  case body =>
    rintro l pre ⟨⟨a, n, c, cl, sol⟩, han⟩ a' W hl2 _ ⟨⟨v, h0, hR⟩, h1, hb⟩ ⟨Bx, hBx, hk, T12, rfl, rfl⟩ hlen
    simp only at han hk
    dsimp only
    have hst := stS_snoc pre ⟨⟨a, n, c, cl, sol⟩, han⟩
    have hop : (stS pre).1 = true → (stS pre).2 ≠ [] := toks_open _
    have htl : (stS pre).2.length ≤ pre.length := by
      have := toks_len (pre.map fun k => k.1) (false, [])
      rw [List.length_map, List.length_nil, Nat.zero_add] at this
      exact this
    obtain ⟨st, hst0⟩ : ∃ st, st = stS pre := ⟨_, rfl⟩
    rw [← hst0] at hst hop htl hR h1
    obtain ⟨op, ts⟩ := st
    simp only at hst hop htl hR h1
    have FX0 : Hid (FX w Bx #[.int .i64 (a : Nat), .int .i64 (n : Nat), .int .i64 c, .int .i64 cl, .bool sol] W v op ts) := Lib.hid ⟨h0, h1, hk, hR, hb⟩
    have HST := Lib.hid hst
    have HOP := Lib.hid hop
    obtain ⟨Av, cv, rfl⟩ := own_is hR
    clear hst hop h0 h1 hk hR hb hst0
    cases sol with
    | false =>
      obtain ⟨⟨x0, x1, x3, x4⟩, ⟨y0, y1⟩, z0, z1⟩ := FX0.out.cells
      obtain ⟨f7, kp7⟩ := FX0.out.setOpen false
      gi_wp2_with (fail)
      exact ⟨(KeepsOthers.setCell _ _ _).from _, kp7, f7.done HST.out⟩
    | true =>
      cases op with
      | true =>
        obtain ⟨pr, ⟨f, t, wd⟩, ht⟩ : ∃ pre t, ts = pre ++ [t] := ⟨_, _, (List.dropLast_concat_getLast (HOP.out rfl)).symm⟩
        subst ht
        obtain ⟨qt, ct, hv, _, _, _, _, _, _⟩ := FX0.out.hR.last
        rw [hv] at FX0
        have hpl : pr.length ≤ pre.length := by rw [List.length_append] at htl; simp at htl; omega
        have HST2 : Hid (stS (pre ++ [⟨⟨a, n, c, cl, true⟩, han⟩]) = (true, pr ++ [upTok ⟨a, n, c, cl, true⟩ ⟨f, t, wd⟩])) := Lib.hid (by
          rw [HST.out]
          show (true, upLast _ (pr ++ [_])) = _
          rw [upLast_snoc])
        have KO : Hid (KeepsOthers W W) := Lib.hid (KeepsOthers.refl W)
        have KX : Hid (KpT w.heap.size W W) := Lib.hid ⟨Below.refl _ _, fun _ _ _ _ _ _ _ _ => rfl⟩
        obtain ⟨⟨x0, x1, x3, x4⟩, ⟨y0, y1⟩, z0, z1⟩ := FX0.out.cells
        clear hv
        gi_upto_region 7 with (fail)
        clear x0 x1 x3 x4 y0 y1 z0 z1
        obtain ⟨⟨x0, x1, x3, x4⟩, ⟨y0, y1⟩, z0, z1⟩ := FX0.out.cells
        obtain ⟨f7, kp7⟩ := FX0.out.setOpen true
        gi_upto_region 8 with (fail)
        clear x0 x1 x3 x4 y0 y1 z0 z1
        have K7 := Lib.hid kp7
        have F7 := Lib.hid f7
        obtain ⟨⟨x0, x1, x3, x4⟩, ⟨y0, y1⟩, z0, z1⟩ := f7.cells
        obtain ⟨q', c', hqq, _, _, t0, t1, t2, tf⟩ := f7.hR.last
        obtain ⟨rfl, rfl⟩ : qt = q' ∧ ct = c' := by simpa using hqq
        obtain ⟨f10, kp10⟩ := f7.setTo (a + n)
        rw [Int.natCast_add] at f10 kp10
        have K10 := Lib.hid kp10
        have F10 := Lib.hid f10
        clear f7 kp7 hqq f10 kp10
        gi_upto_region 11 with (fail)
        clear x0 x1 x3 x4 y0 y1 z0 z1 t0 t1 t2 tf
        obtain ⟨⟨x0, x1, x3, x4⟩, ⟨y0, y1⟩, z0, z1⟩ := F10.out.cells
        obtain ⟨q', c', hqq, _, _, t0, t1, t2, tf⟩ := F10.out.hR.last
        obtain ⟨rfl, rfl⟩ : qt = q' ∧ ct = c' := by simpa using hqq
        simp only at t0 t1 t2
        clear hqq
        cases wd with
        | false =>
          gi_wp2_with (fail)
          obtain ⟨f11, k11⟩ := F10.out.setWord false
          exact ⟨KO.out.trans (((KeepsOthers.setCell _ _ _).trans (KeepsOthers.setCell _ _ _)).trans (KeepsOthers.setCell _ _ _)) |>.from _, ((KX.out.trans K7.out).trans K10.out).trans k11, f11.done (by rw [HST2.out]; rfl)⟩
        | true =>
          by_cases h2 : cl = 2
          · subst h2
            gi_wp2_with (fail)
            obtain ⟨f11, k11⟩ := F10.out.setWord false
            exact ⟨KO.out.trans (((KeepsOthers.setCell _ _ _).trans (KeepsOthers.setCell _ _ _)).trans (KeepsOthers.setCell _ _ _)) |>.from _, ((KX.out.trans K7.out).trans K10.out).trans k11, f11.done (by rw [HST2.out]; rfl)⟩
          · have k2 : (cl == 2) = false := by simpa using h2
            have k3 : (cl != 2) = true := by simpa using h2
            have k4 : decide (cl = 2) = false := by simpa using h2
            gi_wp2_with (fail)
            obtain ⟨f11, k11⟩ := F10.out.setWord true
            exact ⟨KO.out.trans (((KeepsOthers.setCell _ _ _).trans (KeepsOthers.setCell _ _ _)).trans (KeepsOthers.setCell _ _ _)) |>.from _, ((KX.out.trans K7.out).trans K10.out).trans k11, f11.done (by rw [HST2.out]; simp [upTok, k2])⟩
        
      | false =>
        obtain ⟨⟨x0, x1, x3, x4⟩, ⟨y0, y1⟩, z0, z1⟩ := FX0.out.cells
        have hb := FX0.out.hb
        obtain ⟨o, ho⟩ : ∃ o, o = Obj.cells #[Value.int .i64 (a : Nat), .int .i64 (a : Nat), .bool true] 48 := ⟨_, rfl⟩
        have HRA := Lib.hid (FX0.out.hR.below (w' := W.alloc o) ((Below.refl _ _).alloc (Nat.le_refl _) _))
        have nb := blk_new W o
        have SRC : Hid (∀ (j : Nat) (u : Value), [Value.int .i64 (a : Nat), .int .i64 (a : Nat), .bool true][j]? = some u → (W.alloc o).cell? ((⟨W.heap.size, 0, none⟩ : Addr).add j) = some u) := Lib.hid (fun j u hj => by
          rw [ho] at nb
          match j, hj with
          | 0, hj => simp at hj; subst hj; rw [ho]; exact cell_of_blk nb 0
          | 1, hj => simp at hj; subst hj; rw [ho]; simp only [Addr.add]; exact cell_of_blk nb 1
          | 2, hj => simp at hj; subst hj; rw [ho]; simp only [Addr.add]; exact cell_of_blk nb 2
          | j + 3, hj => simp at hj)
        have HSZ := Lib.hid (show w.heap.size ≤ (W.alloc o).heap.size from Nat.le_trans hb.size ((Below.refl _ W).alloc (Nat.le_refl _) o).size)
        have GR := Lib.hid (fun (Y : World) (v' : Value) (O : Y.ownsRow w.heap.size 48 3 v' (ts.length + 1) (ts.flatMap tokCells ++ tokCells ⟨a, a, true⟩)) (G : (W.alloc o).grownBy Y (Value.slice Av ts.length cv).ownBlock) => FX0.out.grow o O G)
        clear nb hb
        subst ho
        gi_upto_region 7 with (gi_at_builtin; refine wpListIn_append_own _ rfl _ _ 42 rfl w.heap.size 48 iT _ 3 24 Tryd.underlying42 hiT hzT hsT hbT rfl (by decide) (.slice Av ts.length cv) ts.length _ rfl HRA.out ⟨W.heap.size, 0, none⟩ 1 1 [.int .i64 (a : Nat), .int .i64 (a : Nat), .bool true] rfl rfl SRC.out (by intro u hu; simp only [List.mem_cons, List.mem_nil_iff, or_false] at hu; rcases hu with rfl | rfl | rfl <;> rfl) (by unfold maxLen; omega) (by omega) HSZ.out ?_; intro v' w1 hown' hgrow _; obtain ⟨hy0, hf6, hk6, ho6⟩ := GR.out w1 v' hown' hgrow; obtain ⟨A', c', rfl⟩ := own_is hown'; have z0' := cell_of_blk hy0 0; have z1' : ∀ j, w1.frozen? ⟨w.heap.size, j, none⟩ = false := (fun j => by simp [World.frozen?, hy0]); have HF6 := Lib.hid hf6; have HK6 := Lib.hid hk6; have HO6 := Lib.hid ho6; clear hy0 hf6 hk6 ho6 hown' hgrow)
        clear x0 x1 x3 x4 y0 y1 z0 z1 z0' z1' FX0 HRA SRC HSZ GR
        have FX0 := HF6
        have KO := HO6
        have KX := HK6
        have hpl := htl
        have HST2 : Hid (stS (pre ++ [⟨⟨a, n, c, cl, true⟩, han⟩]) = (true, ts ++ [upTok ⟨a, n, c, cl, true⟩ ⟨a, a, true⟩])) := Lib.hid (by
          rw [HST.out]
          show (true, upLast _ (ts ++ [_])) = _
          rw [upLast_snoc])
        clear HF6 HO6 HK6
        obtain ⟨qt, ct, hv, _, _, _, _, _, _⟩ := FX0.out.hR.last
        simp only [Value.slice.injEq] at hv
        obtain ⟨rfl, -, hv2⟩ := hv
        have hv2 := hv2.symm
        subst hv2
        obtain ⟨⟨x0, x1, x3, x4⟩, ⟨y0, y1⟩, z0, z1⟩ := FX0.out.cells
        obtain ⟨f7, kp7⟩ := FX0.out.setOpen true
        gi_upto_region 8 with (fail)
        clear x0 x1 x3 x4 y0 y1 z0 z1
        have K7 := Lib.hid kp7
        have F7 := Lib.hid f7
        obtain ⟨⟨x0, x1, x3, x4⟩, ⟨y0, y1⟩, z0, z1⟩ := f7.cells
        obtain ⟨q', c', hqq, _, _, t0, t1, t2, tf⟩ := f7.hR.last
        obtain ⟨rfl, rfl⟩ : qt = q' ∧ ct = c' := by simpa using hqq
        obtain ⟨f10, kp10⟩ := f7.setTo (a + n)
        rw [Int.natCast_add] at f10 kp10
        have K10 := Lib.hid kp10
        have F10 := Lib.hid f10
        clear f7 kp7 hqq f10 kp10
        gi_upto_region 11 with (fail)
        clear x0 x1 x3 x4 y0 y1 z0 z1 t0 t1 t2 tf
        obtain ⟨⟨x0, x1, x3, x4⟩, ⟨y0, y1⟩, z0, z1⟩ := F10.out.cells
        obtain ⟨q', c', hqq, _, _, t0, t1, t2, tf⟩ := F10.out.hR.last
        obtain ⟨rfl, rfl⟩ : qt = q' ∧ ct = c' := by simpa using hqq
        simp only at t0 t1 t2
        clear hqq
        by_cases h2 : cl = 2
        · subst h2
          gi_wp2_with (fail)
          obtain ⟨f11, k11⟩ := F10.out.setWord false
          exact ⟨KO.out.trans (((KeepsOthers.setCell _ _ _).trans (KeepsOthers.setCell _ _ _)).trans (KeepsOthers.setCell _ _ _)) |>.from _, ((KX.out.trans K7.out).trans K10.out).trans k11, f11.done (by rw [HST2.out]; rfl)⟩
        · have k2 : (cl == 2) = false := by simpa using h2
          have k3 : (cl != 2) = true := by simpa using h2
          have k4 : decide (cl = 2) = false := by simpa using h2
          gi_wp2_with (fail)
          obtain ⟨f11, k11⟩ := F10.out.setWord true
          exact ⟨KO.out.trans (((KeepsOthers.setCell _ _ _).trans (KeepsOthers.setCell _ _ _)).trans (KeepsOthers.setCell _ _ _)) |>.from _, ((KX.out.trans K7.out).trans K10.out).trans k11, f11.done (by rw [HST2.out]; simp [upTok, k2])⟩
  case done =>
    rintro D ys W hD hS ⟨⟨v, h0, hR⟩, h1, hb⟩ hK
    have z0 := cell_of_blk h0 0
    have hS' : (stS ys).2 = toksOf rs s := by unfold stS toksOf; rw [hS]
    gi_wp2_with (fail)
    have ho : ∀ r, some D = some r → ∃ o : Obj, W.heap[r]? = some o ∧ o.isCells = false := fun r e => by cases e; exact ⟨_, hK, rfl⟩
    refine ⟨by simp, .inl ⟨_, _, rfl, run_takeDeferred hK, ?_⟩⟩
    have hw : w.heap.size ≤ D := Nat.le_trans (by rw [HZ4.out]; omega) hD
    have hR' : RowT (W.putObj D (.deferred none)) w.heap.size v (toksOf rs s) := by
      rw [hS'] at hR
      exact own_keep hR fun q hq => by
        obtain ⟨cur, hc⟩ := own_row_type hR hq
        exact keepC (grownBy_putObj' W D _) ho hc
    have hb' : Below w.heap.size w (W.putObj D (.deferred none)) := hb.trans (belowK_b (w := w) (Nat.le_refl _) W D _ _ hw hK rfl rfl)
    exact ⟨_, results_tmp rfl _ _ _, v, rfl, hR', hb'⟩
  case stop =>
    rintro D c pre W _ _ h _
    exact h.elim
end Go.Proofs.YtcljiahpgbedhaaDoor

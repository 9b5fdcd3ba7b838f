/- The document's Parse of an affix file: what lies in memory. -/
import Derived.Test.YtmpckoincdkeeaaDoorRPair
import Derived.Test.YtmpckoincdkeeaaDoorRRul
namespace Go.Proofs.YtmpckoincdkeeaaDoor
open Go.RowKit Go.Deep Go.Own
set_option linter.unusedVariables false
structure RuleS where
  pf : Bool
  f : Int
  cr : Bool
  a : ByteArray
  b : ByteArray
  A : Option Addr
  n : Nat
  c : Nat
def ruleCells (r : RuleS) : List Value := [.bool r.pf, .int .i64 r.f, .bool r.cr, .string r.a, .string r.b, .slice r.A r.n r.c]
def pairCells (p : Int × Int) : List Value := [.int .i64 p.1, .int .i64 p.2]
/-- each pair is right beside those ahead of it -/
def GoodPs (ps : List (Int × Int)) : Prop := ∀ i p, ps[i]? = some p → PairOk (ps.take i) p.1 p.2
theorem GoodPs.nil : GoodPs [] := fun i p h => by simp at h
theorem GoodPs.snoc {ps : List (Int × Int)} {g k : Int} (h : GoodPs ps) (hp : PairOk ps g k) : GoodPs (ps ++ [(g, k)]) := fun i p hi => by
  by_cases hl : i < ps.length
  · rw [List.getElem?_append_left hl] at hi
    rw [List.take_append_of_le_length (by omega)]
    exact h i p hi
  · have hlt := (List.getElem?_eq_some_iff.1 hi).1
    rw [List.length_append, List.length_singleton] at hlt
    obtain rfl : i = ps.length := by omega
    rw [List.getElem?_append_right (Nat.le_refl _), Nat.sub_self] at hi
    obtain rfl : (g, k) = p := by simpa using hi
    rw [List.take_append_of_le_length (Nat.le_refl _), List.take_length]
    exact hp
structure AfS (B : Nat) (w0 w : World) (N0 M : Nat) (rv pv av : Value) (rs : List RuleS) (ps : List (Int × Int)) (ats : List Int) : Prop where
  cN : w.heap[N0]? = some (.cells #[.slice none 0 0, .slice none 0 0] 26 (0, 0))
  cM : w.heap[M]? = some (.cells #[rv, pv] 26 (0, 0))
  rr : w.ownsRow B 63 6 rv rs.length (rs.flatMap ruleCells)
  pr : w.ownsRow B 37 2 pv ps.length (ps.flatMap pairCells)
  ar : OwnI w B 3 av ats
  bel : Below B w0 w
  ne : N0 ≠ M
  hN : B ≤ N0
  hM : B ≤ M
section
variable {B : Nat} {w0 w w' : World} {N0 M : Nat} {rv pv av : Value} {rs : List RuleS} {ps : List (Int × Int)} {ats : List Int}
theorem AfS.big (h : AfS B w0 w N0 M rv pv av rs ps ats) : B ≤ w.heap.size := Nat.le_trans h.hN (Nat.le_of_lt (Array.getElem?_eq_some_iff.1 h.cN).1)
theorem AfS.below (h : AfS B w0 w N0 M rv pv av rs ps ats) (hb : Below w.heap.size w w') : AfS B w0 w' N0 M rv pv av rs ps ats :=
  ⟨(hb.block _ (Array.getElem?_eq_some_iff.1 h.cN).1).trans h.cN, (hb.block _ (Array.getElem?_eq_some_iff.1 h.cM).1).trans h.cM, own_below h.rr hb, own_below h.pr hb, h.ar.later hb, h.bel.trans (hb.mono h.big), h.ne, h.hN, h.hM⟩
end
theorem kept_other {w w' : World} {k : Nat} {c : Array Value} {t : TypeId} {fr : Nat × Nat} {base e size n : Nat} {v : Value} {xs : List Value} (hk : w.heap[k]? = some (.cells c t fr)) (hr : w.ownsRow base e size v n xs) (hne : t ≠ e) (hg : w.grownBy w' v.ownBlock) : w'.heap[k]? = w.heap[k]? :=
  hg.block k (Array.getElem?_eq_some_iff.1 hk).1 (fun h => by
    obtain ⟨c2, h2⟩ := own_row_type hr h.symm
    rw [hk] at h2
    injection h2 with h2
    injection h2 with _ h3 _
    exact hne h3)
theorem kept_row {w w' : World} {base base' e e' size size' n n' : Nat} {v v' : Value} {xs xs' : List Value} (hk : w.ownsRow base' e' size' v' n' xs') (hr : w.ownsRow base e size v n xs) (hne : e' ≠ e) (hg : w.grownBy w' v.ownBlock) : w'.ownsRow base' e' size' v' n' xs' :=
  own_keep hk fun j hj => by
    obtain ⟨c, hc⟩ := own_row_type hk hj
    exact kept_other hc hr hne hg
theorem row_set {w : World} {base e size n : Nat} {v : Value} {xs : List Value} {k j : Nat} {c : Array Value} {t : TypeId} {fr : Nat × Nat} {x : Value} (hr : w.ownsRow base e size v n xs) (hk : w.heap[k]? = some (.cells c t fr)) (hne : t ≠ e) : (w.setCell ⟨k, j, none⟩ x).ownsRow base e size v n xs :=
  own_keep hr fun i hi => setCell_other _ (fun h => by
    obtain ⟨c2, h2⟩ := own_row_type hr hi
    have h' : i = k := h
    subst h'
    rw [hk] at h2
    injection h2 with h2
    injection h2 with _ h3 _
    exact hne h3)
section
variable {B : Nat} {w0 w w' : World} {N0 M : Nat} {rv pv av : Value} {rs : List RuleS} {ps : List (Int × Int)} {ats : List Int}
theorem AfS.pushP {w5 : World} {v5 : Value} {g k : Int} (h : AfS B w0 w N0 M rv pv av rs ps ats) (hg : w.grownBy w5 pv.ownBlock) (O5 : w5.ownsRow B 37 2 v5 (ps.length + 1) (ps.flatMap pairCells ++ [.int .i64 g, .int .i64 k])) :
    w5.heap[M]? = some (.cells #[rv, pv] 26 (0, 0)) ∧ AfS B w0 (w5.setCell ⟨M, 1, none⟩ v5) N0 M rv v5 av rs (ps ++ [(g, k)]) ats := by
  have hM5 := (kept_other h.cM h.pr (by decide) hg).trans h.cM
  refine ⟨hM5, ?_, ?_, row_set (kept_row h.rr h.pr (by decide) hg) hM5 (by decide), ?_, row_set (kept_row h.ar h.pr (by decide) hg) hM5 (by decide), (h.bel.grown hg h.big (fun q hq => (own_block_lt h.pr hq).1)).setCell (p := ⟨M, 1, none⟩) h.hM _, h.ne, h.hN, h.hM⟩
  · exact (setCell_other _ h.ne).trans ((kept_other h.cN h.pr (by decide) hg).trans h.cN)
  · rw [setCell_same hM5]; rfl
  · rw [List.length_append, List.flatMap_append, List.flatMap_singleton]
    exact row_set O5 hM5 (by decide)
/-- the rules grew -/
structure AfR (B : Nat) (w0 w : World) (N0 M : Nat) (rv rv' pv av : Value) (rs : List RuleS) (ps : List (Int × Int)) (ats : List Int) : Prop where
  cN : w.heap[N0]? = some (.cells #[.slice none 0 0, .slice none 0 0] 26 (0, 0))
  cM : w.heap[M]? = some (.cells #[rv, pv] 26 (0, 0))
  rr : w.ownsRow B 63 6 rv' rs.length (rs.flatMap ruleCells)
  pr : w.ownsRow B 37 2 pv ps.length (ps.flatMap pairCells)
  ar : OwnI w B 3 av ats
  bel : Below B w0 w
  ne : N0 ≠ M
  hN : B ≤ N0
  hM : B ≤ M
theorem AfS.growR {w5 : World} {v5 : Value} {r : RuleS} (h : AfS B w0 w N0 M rv pv av rs ps ats) (hg : w.grownBy w5 rv.ownBlock) (O5 : w5.ownsRow B 63 6 v5 (rs.length + 1) (rs.flatMap ruleCells ++ ruleCells r)) : AfR B w0 w5 N0 M rv v5 pv av (rs ++ [r]) ps ats :=
  ⟨(kept_other h.cN h.rr (by decide) hg).trans h.cN, (kept_other h.cM h.rr (by decide) hg).trans h.cM, by rw [List.length_append, List.flatMap_append, List.flatMap_singleton]; exact O5, kept_row h.pr h.rr (by decide) hg, kept_row h.ar h.rr (by decide) hg, h.bel.grown hg h.big (fun q hq => (own_block_lt h.rr hq).1), h.ne, h.hN, h.hM⟩
theorem AfR.big {rv' : Value} (h : AfR B w0 w N0 M rv rv' pv av rs ps ats) : B ≤ w.heap.size := Nat.le_trans h.hN (Nat.le_of_lt (Array.getElem?_eq_some_iff.1 h.cN).1)
theorem AfR.below {rv' : Value} (h : AfR B w0 w N0 M rv rv' pv av rs ps ats) (hb : Below w.heap.size w w') : AfR B w0 w' N0 M rv rv' pv av rs ps ats :=
  ⟨(hb.block _ (Array.getElem?_eq_some_iff.1 h.cN).1).trans h.cN, (hb.block _ (Array.getElem?_eq_some_iff.1 h.cM).1).trans h.cM, own_below h.rr hb, own_below h.pr hb, h.ar.later hb, h.bel.trans (hb.mono h.big), h.ne, h.hN, h.hM⟩
theorem AfR.pushA {rv' v7 : Value} {w7 : World} {x : Int} (h : AfR B w0 w N0 M rv rv' pv av rs ps ats) (hg : w.grownBy w7 av.ownBlock) (O7 : OwnI w7 B 3 v7 (ats ++ [x])) :
    w7.heap[M]? = some (.cells #[rv, pv] 26 (0, 0)) ∧ AfS B w0 (w7.setCell ⟨M, 0, none⟩ rv') N0 M rv' pv v7 rs ps (ats ++ [x]) := by
  have hM7 := (kept_other h.cM h.ar (by decide) hg).trans h.cM
  refine ⟨hM7, ?_, ?_, row_set (kept_row h.rr h.ar (by decide) hg) hM7 (by decide), row_set (kept_row h.pr h.ar (by decide) hg) hM7 (by decide), row_set O7 hM7 (by decide), (h.bel.grown hg h.big (fun q hq => (own_block_lt h.ar hq).1)).setCell (p := ⟨M, 0, none⟩) h.hM _, h.ne, h.hN, h.hM⟩
  · exact (setCell_other _ h.ne).trans ((kept_other h.cN h.ar (by decide) hg).trans h.cN)
  · rw [setCell_same hM7]; rfl
end
theorem infoRu : (Tryd.prog.info? 63).map (fun i => (i.zero, i.size, i.bytes)) = some (some (.agg #[.bool false, .int .i64 0, .bool false, .string ⟨#[]⟩, .string ⟨#[]⟩, .slice none 0 0]), 6, 80) := by kernel_rfl
theorem infoPr : (Tryd.prog.info? 37).map (fun i => (i.zero, i.size, i.bytes)) = some (some (.agg #[.int .i64 0, .int .i64 0]), 2, 16) := by kernel_rfl
theorem src_rule {w : World} {K : Nat} {r : RuleS} (h : w.heap[K]? = some (.cells #[.bool r.pf, .int .i64 r.f, .bool r.cr, .string r.a, .string r.b, .slice r.A r.n r.c] 63 (0, 0))) :
    Src Tryd.prog 6 23 (.slice (some ⟨K, 0, none⟩) 1 1) 1 (ruleCells r) w := by
  refine Src.ofSlice w Tryd.underlying23 _ 1 1 _ rfl (fun j u hj => ?_) (fun u hu => ?_)
  · match j, hj with
    | 0, hj => simp [ruleCells] at hj; subst hj; simp [Addr.add, World.cell?, h]
    | 1, hj => simp [ruleCells] at hj; subst hj; simp [Addr.add, World.cell?, h]
    | 2, hj => simp [ruleCells] at hj; subst hj; simp [Addr.add, World.cell?, h]
    | 3, hj => simp [ruleCells] at hj; subst hj; simp [Addr.add, World.cell?, h]
    | 4, hj => simp [ruleCells] at hj; subst hj; simp [Addr.add, World.cell?, h]
    | 5, hj => simp [ruleCells] at hj; subst hj; simp [Addr.add, World.cell?, h]
    | j + 6, hj => simp [ruleCells] at hj
  · unfold ruleCells at hu
    simp only [List.mem_cons, List.mem_nil_iff, or_false] at hu
    rcases hu with rfl | rfl | rfl | rfl | rfl | rfl <;> rfl
theorem src_pair {w : World} {K : Nat} {g k : Int} (h : w.heap[K]? = some (.cells #[.int .i64 g, .int .i64 k] 37 (0, 0))) :
    Src Tryd.prog 2 24 (.slice (some ⟨K, 0, none⟩) 1 1) 1 [.int .i64 g, .int .i64 k] w := by
  refine Src.ofSlice w Tryd.underlying24 _ 1 1 _ rfl (fun j u hj => ?_) (fun u hu => ?_)
  · match j, hj with
    | 0, hj => simp at hj; subst hj; simp [Addr.add, World.cell?, h]
    | 1, hj => simp at hj; subst hj; simp [Addr.add, World.cell?, h]
    | j + 2, hj => simp at hj
  · simp only [List.mem_cons, List.mem_nil_iff, or_false] at hu
    rcases hu with rfl | rfl <;> rfl
theorem pcells (ps : List (Int × Int)) (j : Nat) (p : Int × Int) (h : ps[j]? = some p) : (ps.flatMap pairCells)[j * 2]? = some (.int .i64 p.1) ∧ (ps.flatMap pairCells)[j * 2 + 1]? = some (.int .i64 p.2) := by
  induction ps generalizing j with
  | nil => simp at h
  | cons y l ih =>
    cases j with
    | zero =>
      obtain rfl : y = p := by simpa using h
      simp [pairCells]
    | succ j =>
      have := ih j (by simpa using h)
      have e1 : ∀ k, ((y :: l).flatMap pairCells)[k + 2]? = (l.flatMap pairCells)[k]? := fun k => by simp [pairCells]
      rw [show (j + 1) * 2 = j * 2 + 2 by omega, show j * 2 + 2 + 1 = (j * 2 + 1) + 2 by omega, e1, e1]
      exact this
theorem rcells (rs : List RuleS) (j : Nat) (r : RuleS) (h : rs[j]? = some r) : (rs.flatMap ruleCells)[j * 6]? = some (.bool r.pf) ∧ (rs.flatMap ruleCells)[j * 6 + 1]? = some (.int .i64 r.f) := by
  induction rs generalizing j with
  | nil => simp at h
  | cons y l ih =>
    cases j with
    | zero =>
      obtain rfl : y = r := by simpa using h
      simp [ruleCells]
    | succ j =>
      have := ih j (by simpa using h)
      have e1 : ∀ k, ((y :: l).flatMap ruleCells)[k + 6]? = (l.flatMap ruleCells)[k]? := fun k => by simp [ruleCells]
      rw [show (j + 1) * 6 = j * 6 + 6 by omega, show j * 6 + 6 + 1 = (j * 6 + 1) + 6 by omega, e1, e1]
      exact this
theorem reads_pairs {w : World} {B : Nat} {A : Option Addr} {c : Nat} {ps : List (Int × Int)} (h : w.ownsRow B 37 2 (.slice A ps.length c) ps.length (ps.flatMap pairCells)) : ReadsP w A ps := fun h0 => by
  obtain ⟨q, cap, e, _, hq, _, _, hc, _⟩ := row_at h h0
  injection e with e1 _ _
  refine ⟨q, 0, e1, hq, fun j p hp => ?_⟩
  obtain ⟨k1, k2⟩ := pcells ps j p hp
  rw [Nat.zero_add]
  exact ⟨hc _ _ k1, hc _ _ k2⟩
/-- what Parse of an affix file hands back -/
def AffPost (w : World) (e : Ending) (w' : World) : Prop := (∃ (A1 : Option Addr) (n1 c1 : Nat) (A2 : Option Addr) (c2 : Nat) (ps : List (Int × Int)) (ln er : Int), e = .returned (.tuple #[.agg #[.slice A1 n1 c1, .slice A2 ps.length c2], .int .i64 ln, .int .i64 er]) ∧ GoodPs ps ∧ ReadsP w' A2 ps ∧ ps.length ≤ 1000000) ∧ Below w.heap.size w w'
end Go.Proofs.YtmpckoincdkeeaaDoor

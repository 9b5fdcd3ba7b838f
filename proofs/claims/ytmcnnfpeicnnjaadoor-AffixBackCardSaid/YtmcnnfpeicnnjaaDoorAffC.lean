/- affix: a file under way as it lies in memory. -/
import Derived.Test.YtmcnnfpeicnnjaaDoorAffB
namespace Go.Proofs.YtmcnnfpeicnnjaaDoor
open Go.RowKit Go.Deep Go.Own
set_option linter.unusedVariables false
def pairCells (p : Int × Int) : List Value := [.int .i64 p.1, .int .i64 p.2]
def ruL (r : RuS) : List Value := [.bool r.pfx, .int .i64 (r.flag : Nat), .bool r.cross, .string r.strip, .string r.add, .slice r.A r.xs.length r.c]
theorem kept_other {w w' : World} {k : Nat} {c : Array Value} {t : TypeId} {fr : Nat × Nat} {base e size n : Nat} {v : Value} {xs : List Value} (hk : w.heap[k]? = some (.cells c t fr)) (hr : w.ownsRow base e size v n xs) (hne : t ≠ e) (hg : w.grownBy w' v.ownBlock) : w'.heap[k]? = w.heap[k]? :=
  hg.block k (Array.getElem?_eq_some_iff.1 hk).1 (fun h => by
    obtain ⟨c2, h2⟩ := own_row_type hr h.symm
    rw [hk] at h2
    injection h2 with h2
    injection h2 with _ h3 _
    exact hne h3)
theorem kept_row {w w' : World} {base base' e e' size size' n n' : Nat} {v v' : Value} {xs xs' : List Value} (hk : w.ownsRow base' e' size' v' n' xs') (hr : w.ownsRow base e size v n xs) (hne : e' ≠ e) (hg : w.grownBy w' v.ownBlock) : w'.ownsRow base' e' size' v' n' xs' :=
  own_keep hk fun j hj => by
    obtain ⟨c, hc⟩ := own_row_type hk hj
    exact kept_other hc hr hne hg
theorem row_set {w : World} {base e size n : Nat} {v : Value} {xs : List Value} {k j : Nat} {c : Array Value} {t : TypeId} {fr : Nat × Nat} {x : Value} (hr : w.ownsRow base e size v n xs) (hk : w.heap[k]? = some (.cells c t fr)) (hne : t ≠ e) : (w.setCell ⟨k, j, none⟩ x).ownsRow base e size v n xs :=
  own_keep hr fun i hi => setCell_other _ (fun h => by
    obtain ⟨c2, h2⟩ := own_row_type hr hi
    have h' : i = k := h
    subst h'
    rw [hk] at h2
    injection h2 with h2
    injection h2 with _ h3 _
    exact hne h3)
/-- a file under way: its cells (c0, c1, c2, bad), its rows -/
structure AxS (B : Nat) (w0 w : World) (F Q : Nat) (ls : List ByteArray) (c0 c1 c2 : Value) (bad : Nat) (rv pv av : Value) (rs : List RuS) (ps : List (Int × Int)) (ats : List Int) : Prop where
  cF : w.heap[F]? = some (.cells #[c0, c1, c2, .int .i64 (bad : Nat)] 67 (0, 0))
  rr : w.ownsRow B 47 6 rv rs.length (rs.flatMap ruL)
  it : ∀ r ∈ rs, RowIt w B r.v r.xs ∧ FlIt w B r.xs
  pr : w.ownsRow B 92 2 pv ps.length (ps.flatMap pairCells)
  ar : OwnI w B 3 av ats
  sep : ∀ r ∈ rs, ∀ x ∈ r.xs, ∀ q, x.v.ownBlock = some q → av.ownBlock ≠ some q
  bel : Below B w0 w
  hF : B ≤ F
  q : BlkS w Q ls
section
variable {B : Nat} {w0 w w' : World} {F Q : Nat} {ls : List ByteArray} {c0 c1 c2 : Value} {bad : Nat} {rv pv av : Value} {rs : List RuS} {ps : List (Int × Int)} {ats : List Int}
theorem AxS.big (h : AxS B w0 w F Q ls c0 c1 c2 bad rv pv av rs ps ats) : B ≤ w.heap.size := Nat.le_trans h.hF (Nat.le_of_lt (Array.getElem?_eq_some_iff.1 h.cF).1)
theorem AxS.below (h : AxS B w0 w F Q ls c0 c1 c2 bad rv pv av rs ps ats) (hb : Below w.heap.size w w') : AxS B w0 w' F Q ls c0 c1 c2 bad rv pv av rs ps ats :=
  ⟨(hb.block _ (Array.getElem?_eq_some_iff.1 h.cF).1).trans h.cF, own_below h.rr hb, fun r hr => ⟨(h.it r hr).1.below hb, (h.it r hr).2.below hb⟩, own_below h.pr hb, h.ar.later hb, h.sep, h.bel.trans (hb.mono h.big), h.hF, h.q.below hb⟩
theorem AxS.appR {w5 : World} {v5 : Value} {r : RuS} (h : AxS B w0 w F Q ls c0 c1 c2 bad rv pv av rs ps ats) (hr : RowIt w B r.v r.xs) (hf : FlIt w B r.xs) (hd : ∀ x ∈ r.xs, ∀ q, x.v.ownBlock = some q → av.ownBlock ≠ some q) (hg : w.grownBy w5 rv.ownBlock)
    (O5 : w5.ownsRow B 47 6 v5 (rs.length + 1) (rs.flatMap ruL ++ ruL r)) : AxS B w0 w5 F Q ls c0 c1 c2 bad v5 pv av (rs ++ [r]) ps ats := by
  refine ⟨(kept_other h.cF h.rr (by decide) hg).trans h.cF, ?_, ?_, kept_row h.pr h.rr (by decide) hg, kept_row h.ar h.rr (by decide) hg, ?_, h.bel.grown hg h.big (fun q hq => (own_block_lt h.rr hq).1), h.hF, (kept_other h.q h.rr (by decide) hg).trans h.q⟩
  · rw [List.length_append, List.flatMap_append, List.flatMap_singleton]
    exact O5
  · intro y hy
    have hb : RowIt w B y.v y.xs ∧ FlIt w B y.xs := by
      rcases List.mem_append.1 hy with hy | hy
      · exact h.it y hy
      · obtain rfl := List.mem_singleton.1 hy
        exact ⟨hr, hf⟩
    exact ⟨kept_row hb.1 h.rr (by decide) hg, fun x hx => kept_row (hb.2 x hx) h.rr (by decide) hg⟩
  · intro y hy
    rcases List.mem_append.1 hy with hy | hy
    · exact h.sep y hy
    · obtain rfl := List.mem_singleton.1 hy
      exact hd
theorem AxS.appA {w7 : World} {v7 : Value} {x : Int} (h : AxS B w0 w F Q ls c0 c1 c2 bad rv pv av rs ps ats) (hg : w.grownBy w7 av.ownBlock) (O7 : OwnI w7 B 3 v7 (ats ++ [x])) (V7 : ∀ k, v7.ownBlock = some k → av.ownBlock = some k ∨ w.heap.size ≤ k) :
    AxS B w0 w7 F Q ls c0 c1 c2 bad rv pv v7 rs ps (ats ++ [x]) := by
  refine ⟨(kept_other h.cF h.ar (by decide) hg).trans h.cF, kept_row h.rr h.ar (by decide) hg, fun r hr => ⟨kept_row (h.it r hr).1 h.ar (by decide) hg, fun y hy => own_keep ((h.it r hr).2 y hy) fun i hi => hg.block i (own_block_lt ((h.it r hr).2 y hy) hi).2 (fun e => h.sep r hr y hy i hi e.symm)⟩, kept_row h.pr h.ar (by decide) hg, O7, ?_, h.bel.grown hg h.big (fun q hq => (own_block_lt h.ar hq).1), h.hF, (kept_other h.q h.ar (by decide) hg).trans h.q⟩
  intro r hr y hy q hq e
  rcases V7 q e with h1 | h1
  · exact h.sep r hr y hy q hq h1
  · have := (own_block_lt ((h.it r hr).2 y hy) hq).2
    omega
theorem AxS.appP {w5 : World} {v5 : Value} {g k : Int} (h : AxS B w0 w F Q ls c0 c1 c2 bad rv pv av rs ps ats) (hg : w.grownBy w5 pv.ownBlock) (O5 : w5.ownsRow B 92 2 v5 (ps.length + 1) (ps.flatMap pairCells ++ [.int .i64 g, .int .i64 k])) : AxS B w0 w5 F Q ls c0 c1 c2 bad rv v5 av rs (ps ++ [(g, k)]) ats := by
  refine ⟨(kept_other h.cF h.pr (by decide) hg).trans h.cF, kept_row h.rr h.pr (by decide) hg, fun r hr => ⟨kept_row (h.it r hr).1 h.pr (by decide) hg, fun y hy => kept_row ((h.it r hr).2 y hy) h.pr (by decide) hg⟩, ?_, kept_row h.ar h.pr (by decide) hg, h.sep, h.bel.grown hg h.big (fun q hq => (own_block_lt h.pr hq).1), h.hF, (kept_other h.q h.pr (by decide) hg).trans h.q⟩
  rw [List.length_append, List.flatMap_append, List.flatMap_singleton]
  exact O5
theorem AxS.set {d0 d1 d2 : Value} {bad2 : Nat} {v : Value} {j : Nat} (h : AxS B w0 w F Q ls c0 c1 c2 bad rv pv av rs ps ats) (hc : (#[c0, c1, c2, .int .i64 (bad : Nat)] : Array Value).setIfInBounds j v = #[d0, d1, d2, .int .i64 (bad2 : Nat)]) :
    AxS B w0 (w.setCell ⟨F, j, none⟩ v) F Q ls d0 d1 d2 bad2 rv pv av rs ps ats :=
  ⟨by rw [setCell_same h.cF, hc], row_set h.rr h.cF (by decide), fun r hr => ⟨row_set (h.it r hr).1 h.cF (by decide), fun y hy => row_set ((h.it r hr).2 y hy) h.cF (by decide)⟩, row_set h.pr h.cF (by decide), row_set h.ar h.cF (by decide), h.sep, h.bel.setCell (p := ⟨F, j, none⟩) h.hF _, h.hF, (setCell_other _ (fun e => by
    have h1 : w.heap[Q]? = _ := h.q
    have e' : Q = F := e
    rw [e', h.cF] at h1
    injection h1 with h1
    injection h1 with _ h2 _
    exact absurd h2 (by decide))).trans h.q⟩
end
theorem infoRu : (Tryd.prog.info? 47).map (fun i => (i.zero, i.size, i.bytes)) = some (some (.agg #[.bool false, .int .i64 0, .bool false, .string ⟨#[]⟩, .string ⟨#[]⟩, .slice none 0 0]), 6, 80) := by kernel_rfl
theorem infoPr : (Tryd.prog.info? 92).map (fun i => (i.zero, i.size, i.bytes)) = some (some (.agg #[.int .i64 0, .int .i64 0]), 2, 16) := by kernel_rfl
theorem src_rule {w : World} {K : Nat} {r : RuS} (h : w.heap[K]? = some (.cells #[.bool r.pfx, .int .i64 (r.flag : Nat), .bool r.cross, .string r.strip, .string r.add, .slice r.A r.xs.length r.c] 47 (0, 0))) :
    Src Tryd.prog 6 26 (.slice (some ⟨K, 0, none⟩) 1 1) 1 (ruL r) w := by
  refine Src.ofSlice w Tryd.underlying26 _ 1 1 _ rfl (fun j u hj => ?_) (fun u hu => ?_)
  · match j, hj with
    | 0, hj => simp [ruL] at hj; subst hj; simp [Addr.add, World.cell?, h]
    | 1, hj => simp [ruL] at hj; subst hj; simp [Addr.add, World.cell?, h]
    | 2, hj => simp [ruL] at hj; subst hj; simp [Addr.add, World.cell?, h]
    | 3, hj => simp [ruL] at hj; subst hj; simp [Addr.add, World.cell?, h]
    | 4, hj => simp [ruL] at hj; subst hj; simp [Addr.add, World.cell?, h]
    | 5, hj => simp [ruL] at hj; subst hj; simp [Addr.add, World.cell?, h]
    | j + 6, hj => simp [ruL] at hj
  · unfold ruL at hu
    simp only [List.mem_cons, List.mem_nil_iff, or_false] at hu
    rcases hu with rfl | rfl | rfl | rfl | rfl | rfl <;> rfl
theorem src_pair {w : World} {K : Nat} {g k : Int} (h : w.heap[K]? = some (.cells #[.int .i64 g, .int .i64 k] 92 (0, 0))) :
    Src Tryd.prog 2 27 (.slice (some ⟨K, 0, none⟩) 1 1) 1 [.int .i64 g, .int .i64 k] w := by
  refine Src.ofSlice w Tryd.underlying27 _ 1 1 _ rfl (fun j u hj => ?_) (fun u hu => ?_)
  · match j, hj with
    | 0, hj => simp at hj; subst hj; simp [Addr.add, World.cell?, h]
    | 1, hj => simp at hj; subst hj; simp [Addr.add, World.cell?, h]
    | j + 2, hj => simp at hj
  · simp only [List.mem_cons, List.mem_nil_iff, or_false] at hu
    rcases hu with rfl | rfl <;> rfl
theorem pcells (ps : List (Int × Int)) (j : Nat) (p : Int × Int) (h : ps[j]? = some p) : (ps.flatMap pairCells)[j * 2]? = some (.int .i64 p.1) ∧ (ps.flatMap pairCells)[j * 2 + 1]? = some (.int .i64 p.2) := by
  induction ps generalizing j with
  | nil => simp at h
  | cons y l ih =>
    cases j with
    | zero =>
      obtain rfl : y = p := by simpa using h
      simp [pairCells]
    | succ j =>
      have := ih j (by simpa using h)
      have e1 : ∀ k, ((y :: l).flatMap pairCells)[k + 2]? = (l.flatMap pairCells)[k]? := fun k => by simp [pairCells]
      rw [show (j + 1) * 2 = j * 2 + 2 by omega, show j * 2 + 2 + 1 = (j * 2 + 1) + 2 by omega, e1, e1]
      exact this
theorem rcells (rs : List RuS) (j : Nat) (r : RuS) (h : rs[j]? = some r) : ∀ k v, (ruL r)[k]? = some v → (rs.flatMap ruL)[j * 6 + k]? = some v := by
  induction rs generalizing j with
  | nil => simp at h
  | cons y l ih =>
    intro k v hk
    have hk6 : k < 6 := by have := (List.getElem?_eq_some_iff.1 hk).1; simpa [ruL] using this
    cases j with
    | zero =>
      obtain rfl : y = r := by simpa using h
      rw [Nat.zero_mul, Nat.zero_add, List.flatMap_cons, List.getElem?_append_left (by simp [ruL]; omega)]
      exact hk
    | succ j =>
      have := ih j (by simpa using h) k v hk
      have e1 : ((y :: l).flatMap ruL)[(j * 6 + k) + 6]? = (l.flatMap ruL)[j * 6 + k]? := by
        rw [List.flatMap_cons, List.getElem?_append_right (by simp [ruL])]
        simp [ruL]
      rw [show (j + 1) * 6 + k = (j * 6 + k) + 6 by omega, e1]
      exact this
theorem reads_pairs {w : World} {B : Nat} {A : Option Addr} {c : Nat} {ps : List (Int × Int)} (h : w.ownsRow B 92 2 (.slice A ps.length c) ps.length (ps.flatMap pairCells)) : ReadsP w A ps := fun h0 => by
  obtain ⟨q, cap, e, _, hq, _, _, hc, _⟩ := row_at h h0
  injection e with e1 _ _
  refine ⟨q, 0, e1, hq, fun j p hp => ?_⟩
  obtain ⟨k1, k2⟩ := pcells ps j p hp
  rw [Nat.zero_add]
  exact ⟨hc _ _ k1, hc _ _ k2⟩
/-- rules as they are read -/
def GotRs (w : World) (A : Option Addr) (l : List RuP) : Prop :=
  0 < l.length → ∃ q o, A = some ⟨q, o, none⟩ ∧ q < w.heap.size ∧ ∀ j r, l[j]? = some r → ∃ cs, GotR w cs r ∧ ∀ k v, cs[k]? = some v → w.cell? ⟨q, o + j * 6 + k, none⟩ = some v
theorem GotRs.below {w w' : World} {A : Option Addr} {l : List RuP} (h : GotRs w A l) (hb : Below w.heap.size w w') : GotRs w' A l := fun h0 => by
  obtain ⟨q, o, e, hq, hc⟩ := h h0
  refine ⟨q, o, e, Nat.lt_of_lt_of_le hq hb.size, fun j r hr => ?_⟩
  obtain ⟨cs, hg, hk⟩ := hc j r hr
  exact ⟨cs, hg.below hb, fun k v hv => (hb.cell (p := ⟨q, o + j * 6 + k, none⟩) hq).trans (hk k v hv)⟩
theorem reads_rules {w : World} {B : Nat} {A : Option Addr} {c : Nat} {rs : List RuS} (h : w.ownsRow B 47 6 (.slice A rs.length c) rs.length (rs.flatMap ruL)) (hi : ∀ r ∈ rs, RowIt w B r.v r.xs ∧ FlIt w B r.xs) : GotRs w A (rs.map RuS.p) := fun h0 => by
  rw [List.length_map] at h0
  obtain ⟨q, cap, e, _, hq, _, _, hc, _⟩ := row_at h h0
  injection e with e1 _ _
  refine ⟨q, 0, e1, hq, fun j r hr => ?_⟩
  rw [List.getElem?_map] at hr
  obtain ⟨x, hx, rfl⟩ := Option.map_eq_some_iff.1 hr
  obtain ⟨h1, h2⟩ := hi x (List.mem_of_getElem? hx)
  refine ⟨ruCells x, ⟨⟨x.A, x.c, by
    unfold ruCells RuS.p
    simp only [List.length_map], by
    have := goti_of h1 h2
    show GotI w (.slice x.A (x.xs.map ItV.p).length x.c) (x.xs.map ItV.p)
    rw [List.length_map]
    exact this⟩⟩, fun k v hv => ?_⟩
  have h3 := rcells rs j x hx k v (by unfold ruCells at hv; unfold ruL; simpa using hv)
  rw [Nat.zero_add]
  exact hc _ _ h3
/-- a file under way -/
structure FileP where
  rules : List RuP
  pairs : List (Int × Int)
  rows : List Int
  bad : Nat
/-- one more line -/
def stepF (f : FileP) (i : Nat) (s : ByteArray) : FileP :=
  if s.size = 0 ∨ uB s 0 = 35 then f else
  match ruleV s with
  | some r => ⟨f.rules ++ [r], f.pairs, f.rows ++ [(i : Int) + 1], f.bad⟩
  | none => match pairV f.pairs s with
    | some p => ⟨f.rules, f.pairs ++ [p], f.rows, f.bad⟩
    | none => ⟨f.rules, f.pairs, f.rows, if f.bad = 0 then i + 1 else f.bad⟩
end Go.Proofs.YtmcnnfpeicnnjaaDoor

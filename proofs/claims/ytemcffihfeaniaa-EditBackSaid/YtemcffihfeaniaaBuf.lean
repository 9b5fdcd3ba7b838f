/- the buffer: how it lies in memory. -/
import Derived.Test.YtemcffihfeaniaaAvLaw
namespace Go.Own
open Go Go.RowKit Go.Deep
set_option linter.unusedVariables false
/-- a piece: of which store, from where, how many bytes -/
structure Pc where
  add : Bool
  fr : Nat
  n : Nat
def Pc.text (so sa : List UInt8) (p : Pc) : List UInt8 := ((if p.add then sa else so).drop p.fr).take p.n
def Pc.cells (bo ba : Nat) (p : Pc) : List Value := [.pointer (some ⟨if p.add then ba else bo, 0, none⟩), .int .i64 (p.fr : Nat), .int .i64 (p.n : Nat)]
def pItems (qs : List (Nat × Pc)) : List (Int × Int) := qs.map fun q => ((q.1 : Int), (q.2.n : Int))
def pText (so sa : List UInt8) (qs : List (Nat × Pc)) : List UInt8 := qs.flatMap fun q => q.2.text so sa
def POk (so sa : List UInt8) (ps : List Pc) (q : Nat × Pc) : Prop := ps[q.1]? = some q.2 ∧ 0 < q.2.n ∧ q.2.fr + q.2.n ≤ (if q.2.add then sa else so).length
/-- A buffer; c: each block's colour: 1, 2: the stores, 3: the tree, 4: the row of pieces, 5: the head. -/
structure BufX (w : World) (c : Nat → Nat) (b : Nat) (so sa : List UInt8) (bo ba bt : Nat) (vl : Value) (ps : List Pc) (qs : List (Nat × Pc)) (most : Nat) : Prop where
  cell : w.heap[b]? = some (.cells #[.pointer (some ⟨bo, 0, none⟩), .pointer (some ⟨ba, 0, none⟩), vl, .pointer (some ⟨bt, 0, none⟩), .int .i64 (most : Nat)] 97 (0, 0))
  old : Holds w (fun k => c k = 1) bo so
  new : Holds w (fun k => c k = 2) ba sa
  tree : HasTree w (fun k => c k = 3) bt (pItems qs)
  row : w.ownsRow 0 100 3 vl ps.length (ps.flatMap (Pc.cells bo ba))
  rowc : ∀ k, vl.ownBlock = some k → c k = 4
  head : c b = 5
  qok : ∀ q ∈ qs, POk so sa ps q
  lt : ∀ k, c k ≠ 0 → k < w.heap.size
/-- a buffer's colours -/
def InB (c : Nat → Nat) (k : Nat) : Prop := 1 ≤ c k ∧ c k ≤ 5
theorem InB.ne {c : Nat → Nat} {k : Nat} (h : InB c k) : c k ≠ 0 := by have := h.1; omega
/-- new blocks are of a colour -/
def recol (c : Nat → Nat) (lo hi col : Nat) : Nat → Nat := fun k => if lo ≤ k ∧ k < hi then col else c k
theorem recol_old {c : Nat → Nat} {lo hi col k : Nat} (h : k < lo) : recol c lo hi col k = c k := by unfold recol; rw [if_neg (by omega)]
theorem recol_new {c : Nat → Nat} {lo hi col k : Nat} (h : lo ≤ k) (h2 : k < hi) : recol c lo hi col k = col := by unfold recol; rw [if_pos ⟨h, h2⟩]
theorem recol_lt {c : Nat → Nat} {lo hi col : Nat} (hlh : lo ≤ hi) (h : ∀ k, c k ≠ 0 → k < lo) : ∀ k, recol c lo hi col k ≠ 0 → k < hi := by
  intro k hk
  unfold recol at hk
  split at hk
  · omega
  · have := h k hk; omega
theorem recol_keep {c : Nat → Nat} {lo hi col : Nat} (h : ∀ k, c k ≠ 0 → k < lo) {j : Nat} (hj : j ≠ 0) {k : Nat} (hk : c k = j) : recol c lo hi col k = j := by
  rw [recol_old (h k (by omega)), hk]
theorem recol_fn {c : Nat → Nat} {w w' : World} {col : Nat} (h : ∀ k, c k ≠ 0 → k < w.heap.size) (hcol : col ≠ 0) : ∀ k, FN (fun k => c k = col) w w' k → recol c w.heap.size w'.heap.size col k = col := by
  rintro k (hk | hk)
  · exact recol_keep h hcol hk
  · exact recol_new hk.1 hk.2
section
variable {w w' : World} {c : Nat → Nat} {b : Nat} {so sa : List UInt8} {bo ba bt : Nat} {vl : Value} {ps : List Pc} {qs : List (Nat × Pc)} {most : Nat}
theorem BufX.keep (h : BufX w c b so sa bo ba bt vl ps qs most) (hs : w.heap.size ≤ w'.heap.size) (hk : ∀ k, k < w.heap.size → InB c k → w'.heap[k]? = w.heap[k]?) : BufX w' c b so sa bo ba bt vl ps qs most :=
  ⟨(hk b (h.lt b (by rw [h.head]; decide)) ⟨by rw [h.head]; decide, by rw [h.head]; decide⟩).trans h.cell, h.old.keep (fun k h1 h2 => hk k h1 ⟨by omega, by omega⟩), h.new.keep (fun k h1 h2 => hk k h1 ⟨by omega, by omega⟩), h.tree.keep (fun k h1 h2 => hk k h1 ⟨by omega, by omega⟩),
    own_keep h.row (fun k h1 => hk k (own_block_lt h.row h1).2 (by have := h.rowc k h1; exact ⟨by omega, by omega⟩)), h.rowc, h.head, h.qok, fun k hk' => Nat.lt_of_lt_of_le (h.lt k hk') hs⟩
theorem BufX.later (h : BufX w c b so sa bo ba bt vl ps qs most) (hb : Below w.heap.size w w') : BufX w' c b so sa bo ba bt vl ps qs most := h.keep hb.size fun k hk _ => hb.block k hk
theorem BufX.drewN (h : BufX w c b so sa bo ba bt vl ps qs most) (n : Nat) : BufX (w.drewN n) c b so sa bo ba bt vl ps qs most := h.keep (Nat.le_refl _) fun _ _ _ => rfl
theorem BufX.cells (h : BufX w c b so sa bo ba bt vl ps qs most) : w.cell? ⟨b, 0, none⟩ = some (.pointer (some ⟨bo, 0, none⟩)) ∧ w.cell? ⟨b, 1, none⟩ = some (.pointer (some ⟨ba, 0, none⟩)) ∧ w.cell? ⟨b, 2, none⟩ = some vl ∧
    w.cell? ⟨b, 3, none⟩ = some (.pointer (some ⟨bt, 0, none⟩)) ∧ w.cell? ⟨b, 4, none⟩ = some (.int .i64 (most : Nat)) ∧ ∀ j, w.frozen? ⟨b, j, none⟩ = false := by
  refine ⟨?_, ?_, ?_, ?_, ?_, fun j => ?_⟩ <;> simp [World.cell?, World.frozen?, h.cell]
theorem BufX.inb (h : BufX w c b so sa bo ba bt vl ps qs most) : InB c b := ⟨by rw [h.head]; decide, by rw [h.head]; decide⟩
theorem BufX.blt (h : BufX w c b so sa bo ba bt vl ps qs most) : b < w.heap.size := h.lt b h.inb.ne
end
theorem pItems_length (qs : List (Nat × Pc)) : (pItems qs).length = qs.length := by simp [pItems]
theorem pcs_length (bo ba : Nat) (ps : List Pc) : (ps.flatMap (Pc.cells bo ba)).length = ps.length * 3 := by
  induction ps with
  | nil => rfl
  | cons p ps ih => rw [List.flatMap_cons, List.length_append, ih, List.length_cons]; simp [Pc.cells]; omega
theorem POk.more {so sa : List UInt8} {ps ps' : List Pc} {q : Nat × Pc} (h : POk so sa ps q) (p : Pc) : POk so sa (ps ++ [p]) q := by
  refine ⟨?_, h.2⟩
  rw [List.getElem?_append_left (List.getElem?_eq_some_iff.1 h.1).1]; exact h.1
section
variable {w w' : World} {c : Nat → Nat} {b : Nat} {so sa : List UInt8} {bo ba bt : Nat} {vl : Value} {ps : List Pc} {qs : List (Nat × Pc)} {most : Nat}
/-- the tree has turned -/
theorem BufX.turned (X : BufX w c b so sa bo ba bt vl ps qs most) {qs' : List (Nat × Pc)} (F : Fr (fun k => c k = 3) w w') (T : HasTree w' (FN (fun k => c k = 3) w w') bt (pItems qs')) (hq : ∀ q ∈ qs', POk so sa ps q) :
    BufX w' (recol c w.heap.size w'.heap.size 3) b so sa bo ba bt vl ps qs' most := by
  have hk : ∀ j, j ≠ 3 → ∀ k, k < w.heap.size → c k = j → w'.heap[k]? = w.heap[k]? := fun j hj k h1 h2 => F.block k h1 (fun e => hj (by rw [← h2]; exact e))
  refine ⟨(hk 5 (by decide) b X.blt X.head).trans X.cell, (X.old.keep (hk 1 (by decide))).mono fun k => recol_keep X.lt (by decide), (X.new.keep (hk 2 (by decide))).mono fun k => recol_keep X.lt (by decide), T.mono (recol_fn X.lt (by decide)),
    own_keep X.row (fun k h1 => hk 4 (by decide) k (own_block_lt X.row h1).2 (X.rowc k h1)), fun k h1 => recol_keep X.lt (by decide) (X.rowc k h1), recol_keep X.lt (by decide) X.head, hq, recol_lt F.size X.lt⟩
/-- the row of pieces has turned, and the head's cell of it -/
theorem BufX.rowed {w2 w3 : World} (X : BufX w2 c b so sa bo ba bt vl ps qs most) {lo : Nat} (hlo : ∀ k, c k ≠ 0 → k < lo) (hlo2 : lo ≤ w2.heap.size) (G : w2.grownBy w3 vl.ownBlock) {v' : Value} {p : Pc}
    (O : w3.ownsRow 0 100 3 v' (ps.length + 1) (ps.flatMap (Pc.cells bo ba) ++ Pc.cells bo ba p)) (V : ∀ k, v'.ownBlock = some k → vl.ownBlock = some k ∨ w2.heap.size ≤ k) (hw : w' = w3.setCell ⟨b, 2, none⟩ v') :
    BufX w' (recol c lo w'.heap.size 4) b so sa bo ba bt v' (ps ++ [p]) qs most := by
  have hsz : w'.heap.size = w3.heap.size := by rw [hw]; simp [World.setCell]
  have hrow : ∀ k, vl.ownBlock = some k → c k = 4 := X.rowc
  have oth : ∀ k, k < w2.heap.size → c k ≠ 4 → k ≠ b → w'.heap[k]? = w2.heap[k]? := fun k h1 h2 h3 => by
    rw [hw, setCell_other _ h3]
    exact G.block k h1 (fun e => h2 (hrow k e.symm))
  have hb3 : w3.heap[b]? = w2.heap[b]? := G.block b X.blt (fun e => by have h1 := hrow b e.symm; rw [X.head] at h1; exact absurd h1 (by decide))
  have ne : ∀ j, j ≠ 5 → ∀ k, c k = j → k ≠ b := fun j hj k h1 e => hj (by rw [← h1, e, X.head])
  have k5 : b < lo := hlo b (by rw [X.head]; decide)
  refine ⟨?_, (X.old.keep fun k h1 h2 => oth k h1 (by omega) (ne 1 (by decide) k h2)).mono fun k => recol_keep hlo (by decide), (X.new.keep fun k h1 h2 => oth k h1 (by omega) (ne 2 (by decide) k h2)).mono fun k => recol_keep hlo (by decide),
    (X.tree.keep fun k h1 h2 => oth k h1 (by omega) (ne 3 (by decide) k h2)).mono fun k => recol_keep hlo (by decide), ?_, ?_, recol_keep hlo (by decide) X.head, fun q hq => (X.qok q hq).more (ps' := ps) p, ?_⟩
  · rw [hw, setCell_same (hb3.trans X.cell)]; rfl
  · have O' : w'.ownsRow 0 100 3 v' (ps.length + 1) (ps.flatMap (Pc.cells bo ba) ++ Pc.cells bo ba p) := own_keep O fun k hk => by
      rw [hw]; refine setCell_other _ ?_
      rcases V k hk with h | h
      · exact ne 4 (by decide) k (hrow k h)
      · have := X.blt; show k ≠ b; omega
    rw [List.length_append, List.flatMap_append, List.flatMap_singleton]; exact O'
  · intro k hk
    rcases V k hk with h | h
    · exact recol_keep hlo (by decide) (hrow k h)
    · exact recol_new (by omega) (by rw [hsz]; exact (own_block_lt O hk).2)
  · exact recol_lt (by rw [hsz]; exact Nat.le_trans hlo2 G.size) hlo
end
theorem pItems_ins (qs : List (Nat × Pc)) (i : Nat) (q : Nat × Pc) : pItems (qs.take i ++ q :: qs.drop i) = Tr.ins (pItems qs) i ((q.1 : Int), (q.2.n : Int)) := by
  simp [pItems, Tr.ins, List.map_take, List.map_drop]
theorem pItems_erase (qs : List (Nat × Pc)) (i : Nat) : pItems (qs.eraseIdx i) = (pItems qs).eraseIdx i := by
  simp only [pItems, List.eraseIdx_eq_take_drop_succ, List.map_append, List.map_take, List.map_drop]
end Go.Own

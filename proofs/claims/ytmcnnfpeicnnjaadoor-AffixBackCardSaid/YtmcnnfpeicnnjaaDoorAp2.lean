/- append onto an own slice, as a step of a region that draws its order; slices of slices of whole numbers. -/
import Derived.Test.YtmcnnfpeicnnjaaDoorAp
import Derived.Test.YtmcnnfpeicnnjaaDoorMix
import Derived.Deep.RegionLaw
namespace Go.Own
set_option linter.unusedVariables false
open Go Go.RowKit Go.Deep
section
variable {P : Program}
theorem own_append_wp {w : World} {o : Oper} {a : Act} {K : Act → World → Prop} {Q : Exit → Act → World → Prop} (s x : Operand) (t tx : TypeId)
    (ho : o.op = .call { callee := .builtin .append, args := #[s, x], argTypes := #[t, tx] })
    (base : Nat) (e : TypeId) (i : TypeInfo) (z : Value) (size bytes : Nat) (ht : P.underlying t = some (.slice e)) (hi : P.info? e = some i) (hz : i.zero = some z)
    (hsize : i.size = size) (hby : i.bytes = bytes) (hzs : z.cells.size = size) (hsz : 0 < size)
    (v : Value) (n : Nat) (xs : List Value) (hs : a.eval s = v) (hown : w.ownsRow base e size v n xs) (xv : Value) (hx : a.eval x = xv) (m : Nat) (news : List Value) (hsrc : Src P size tx xv m news w)
    (h63 : n + m ≤ maxLen) (hbytes : (n + m) * bytes ≤ 140737488355328) (hbase : base ≤ w.heap.size)
    (h : ∀ v' w', w'.ownsRow base e size v' (n + m) (xs ++ news) → w.grownBy w' v.ownBlock → (∀ k, v'.ownBlock = some k → v.ownBlock = some k ∨ w.heap.size ≤ k) → K (a.put o.dst v') w') : o.wp P a w K Q := by
  obtain ⟨v', w', hr, h1, h2, h3⟩ := own_append_run (P := P) w base t tx o.type e i z size bytes ht hi hz hsize hby hzs hsz v n xs hown xv m news hsrc h63 hbytes hbase
  unfold Oper.wp execOp
  simp only [ho, resolve, invoke, builtin, Sem.run_bind, Sem.run_pure, Result.andThen_ok, List.map_toArray, List.map_cons, List.map_nil, hs, hx, hr]
  exact h v' w' h1 h2 h3
theorem step_own_append {ops : Array Oper} {w : World} {o : Oper} {a : Act} {K : Act → World → Prop} {Q : Exit → Act → World → Prop} {E : Prop} (hg : o.guard = none) (s x : Operand) (t tx : TypeId)
    (ho : o.op = .call { callee := .builtin .append, args := #[s, x], argTypes := #[t, tx] })
    (base : Nat) (e : TypeId) (i : TypeInfo) (z : Value) (size bytes : Nat) (ht : P.underlying t = some (.slice e)) (hi : P.info? e = some i) (hz : i.zero = some z)
    (hsize : i.size = size) (hby : i.bytes = bytes) (hzs : z.cells.size = size) (hsz : 0 < size)
    (v : Value) (n : Nat) (xs : List Value) (hs : a.eval s = v) (hown : w.ownsRow base e size v n xs) (xv : Value) (hx : a.eval x = xv) (m : Nat) (news : List Value) (hsrc : Src P size tx xv m news w)
    (h63 : n + m ≤ maxLen) (hbytes : (n + m) * bytes ≤ 140737488355328) (hbase : base ≤ w.heap.size)
    (h : ∀ v' w', w'.ownsRow base e size v' (n + m) (xs ++ news) → w.grownBy w' v.ownBlock → (∀ k, v'.ownBlock = some k → v.ownBlock = some k ∨ w.heap.size ≤ k) → K (a.put o.dst v') w') :
    if Region.wanted o (yielded ops a.tmps) = true then Oper.wp P o a w K Q else E := by
  rw [if_pos (by simp [Region.wanted, hg])]
  exact own_append_wp s x t tx ho base e i z size bytes ht hi hz hsize hby hzs hsz v n xs hs hown xv hx m news hsrc h63 hbytes hbase h
end
/-- a slice of a slice that is read -/
theorem Reads.take {w : World} {A : Option Addr} {l : List Int} (h : Reads w A l) (k : Nat) : Reads w A (l.take k) := by
  intro h0
  have h1 : 0 < l.length := by rw [List.length_take] at h0; omega
  obtain ⟨b, o, e, hc⟩ := h h1
  refine ⟨b, o, e, fun w' hs i hi => ?_⟩
  rw [List.length_take] at hi
  rw [hc w' hs i (by omega)]
  rw [List.getD_eq_getElem?_getD, List.getD_eq_getElem?_getD, List.getElem?_take, if_pos (by omega)]
theorem Reads.drop {w : World} {b o : Nat} {l : List Int} (h : Reads w (some ⟨b, o, none⟩) l) (k : Nat) : Reads w (some ⟨b, o + k, none⟩) (l.drop k) := by
  intro h0
  have h1 : 0 < l.length := by rw [List.length_drop] at h0; omega
  obtain ⟨b', o', e, hc⟩ := h h1
  simp only [Option.some.injEq, Addr.mk.injEq, and_true] at e
  obtain ⟨rfl, rfl⟩ := e
  refine ⟨b, o + k, rfl, fun w' hs i hi => ?_⟩
  rw [List.length_drop] at hi
  have := hc w' hs (k + i) (by omega)
  rw [← Nat.add_assoc] at this
  rw [this]
  rw [List.getD_eq_getElem?_getD, List.getD_eq_getElem?_getD, List.getElem?_drop]
theorem src_take {P : Program} {w : World} {tx e' : TypeId} (hk : P.underlying tx = some (.slice e')) {A : Option Addr} {ys : List Int} {k : Nat} (hle : k ≤ ys.length) (c : Nat) (h : Reads w A ys) : Src P 1 tx (.slice A k c) k ((ys.take k).map (Value.int .i64)) w := by
  have h1 := src_reads hk c (h.take k)
  rw [List.length_take, Nat.min_eq_left hle] at h1
  exact h1
theorem src_drop {P : Program} {w : World} {tx e' : TypeId} (hk : P.underlying tx = some (.slice e')) {b o : Nat} {ys : List Int} {k m : Nat} (hm : m = ys.length - k) (c : Nat) (h : Reads w (some ⟨b, o, none⟩) ys) : Src P 1 tx (.slice (some ⟨b, o + k, none⟩) m c) m ((ys.drop k).map (Value.int .i64)) w := by
  have h1 := src_reads hk c (h.drop k)
  rw [List.length_drop, ← hm] at h1
  exact h1
theorem src_one {P : Program} {w : World} {tx e' : TypeId} (hk : P.underlying tx = some (.slice e')) {b c : Nat} {x : Value} (hx : x.oneCell' = true) (h : w.cell? ⟨b, 0, none⟩ = some x) : Src P 1 tx (.slice (some ⟨b, 0, none⟩) 1 c) 1 [x] w :=
  Src.ofSlice w hk _ 1 c _ rfl (fun j u hj => by
    cases j with
    | zero => simp at hj; subst hj; simpa [Addr.add] using h
    | succ j => simp at hj) (fun u hu => by rw [List.mem_singleton.1 hu]; exact hx)
theorem src_sliced {P : Program} {w : World} {tx e' : TypeId} (hk : P.underlying tx = some (.slice e')) {A : Option Addr} {ys : List Int} {k c : Nat} (hle : k ≤ ys.length) (hc : ys.length ≤ c) (h : Reads w A ys) :
    Src P 1 tx (.slice (if c = k then A else A.map (·.add (k * 1))) (ys.length - k) (c - k)) (ys.length - k) ((ys.drop k).map (Value.int .i64)) w := by
  by_cases h0 : ys.length - k = 0
  · have hd : ys.drop k = [] := List.eq_nil_of_length_eq_zero (by rw [List.length_drop]; exact h0)
    rw [hd, h0]
    cases hA : (if c = k then A else A.map (·.add (k * 1))) with
    | none => exact Src.ofNil w hk _
    | some ad => exact Src.ofSlice w hk ad 0 _ [] rfl (fun j u hj => by simp at hj) (fun u hu => by cases hu)
  · obtain ⟨b, o, rfl, _⟩ := h (by omega)
    rw [if_neg (by omega)]
    have e1 : (some (⟨b, o, none⟩ : Addr)).map (·.add (k * 1)) = some ⟨b, o + k, none⟩ := by
      simp only [Option.map_some, Nat.mul_one]
      unfold Addr.add; split <;> simp_all
    rw [e1]
    exact src_drop hk rfl _ h
theorem run_sliced_from {P : Program} {t e : TypeId} (ht : P.underlying t = some (.slice e)) (hs : ∀ w, (sizeOf e).run P w = .ok 1 w) (A : Option Addr) (n c k : Nat) (hk : k ≤ n) (hc : n ≤ c) (kd : IntKind) (w : World) :
    (Instr.slice t (.slice A n c) (some (.int kd (k : Nat))) none none).run P w = .ok (.slice (if c = k then A else A.map (·.add (k * 1))) (n - k) (c - k)) w := by
  simp only [Instr.slice, Sem.run_bind, run_underlying ht, Result.andThen_ok, Instr.sliceBounds, Sem.run_pure]
  rw [run_sliceBound _ _ _ _ _ (by omega) (by omega)]
  simp [hs]
theorem run_sliced_to {P : Program} {t e : TypeId} (ht : P.underlying t = some (.slice e)) (hs : ∀ w, (sizeOf e).run P w = .ok 1 w) (A : Option Addr) (n c k : Nat) (hc : k ≤ c) (kd : IntKind) (w : World) :
    (Instr.slice t (.slice A n c) none (some (.int kd (k : Nat))) none).run P w = .ok (.slice A k c) w := by
  simp only [Instr.slice, Sem.run_bind, run_underlying ht, Result.andThen_ok, Instr.sliceBounds, Sem.run_pure]
  rw [run_sliceBound _ _ _ _ _ (by omega) (by omega)]
  have : (if c = 0 then A else A.map (·.add (0 * 1))) = A := by
    split
    · rfl
    · cases A <;> simp [Addr.add]
  simp [hs] at this ⊢
  exact this
theorem own_base {w : World} {base base' : Nat} {e : TypeId} {size n : Nat} {v : Value} {xs : List Value} (h : w.ownsRow base e size v n xs) (hb : base' ≤ base) : w.ownsRow base' e size v n xs := by
  refine ⟨h.1, ?_⟩
  rcases h.2 with h | ⟨g, cap, cur, rfl, hg, r⟩
  · exact .inl h
  · exact .inr ⟨g, cap, cur, rfl, Nat.le_trans hb hg, r⟩
theorem cell_new1 (w : World) (x : Value) (t : TypeId) : (w.alloc (.cells #[x] t)).cell? ⟨w.heap.size, 0, none⟩ = some x := by
  unfold World.cell?
  rw [blk_alloc_new]
  rfl
theorem cell_grown {w w' : World} {row : Option Nat} (hg : w.grownBy w' row) {b o : Nat} {x : Value} (h : w.cell? ⟨b, o, none⟩ = some x) (hne : row ≠ some b) : w'.cell? ⟨b, o, none⟩ = some x := by
  rw [World.cell?_of_block (w := w) (hg.block b (World.block_lt_of_cell? _ _ h) (fun e => hne e.symm))]; exact h
/-- an own slice that is not empty has a block -/
theorem OwnI.block {w : World} {base : Nat} {e : TypeId} {v : Value} {xs : List Int} (h : OwnI w base e v xs) (h0 : 0 < xs.length) : ∃ g cap, v = .slice (some ⟨g, 0, none⟩) xs.length cap ∧ xs.length ≤ cap ∧ base ≤ g ∧ g < w.heap.size ∧
    (∀ j, j < xs.length → w.cell? ⟨g, j, none⟩ = some (.int .i64 (xs.getD j 0))) ∧ (∀ j, w.frozen? ⟨g, j, none⟩ = false) ∧
    ∀ j x, j < xs.length → OwnI (w.setCell ⟨g, j, none⟩ (.int .i64 x)) base e v (xs.set j x) ∧ Below base w (w.setCell ⟨g, j, none⟩ (.int .i64 x)) := by
  rcases h.2 with ⟨_, h1⟩ | ⟨g, cap, cur, rfl, hb, hg, hn, hm, hcs, ht⟩
  · omega
  · have hcell : ∀ j, j < xs.length → cur[j]? = some (.int .i64 (xs.getD j 0)) := by
      intro j hj
      have h1 : (cur.toList.take (xs.length * 1))[j]? = some (.int .i64 (xs.getD j 0)) := by
        rw [ht, List.getElem?_map, List.getElem?_eq_getElem hj]
        simp [List.getD_eq_getElem?_getD, hj]
      rw [List.getElem?_take, if_pos (by omega)] at h1
      simpa using h1
    refine ⟨g, cap, rfl, hn, hb, (Array.getElem?_eq_some_iff.1 hg).1, fun j hj => by simp [World.cell?, hg, hcell j hj], fun j => by simp [World.frozen?, hg], fun j x hj => ⟨?_, ?_⟩⟩
    · unfold OwnI
      rw [List.length_set]
      refine ⟨by simp, .inr ⟨g, cap, cur.setIfInBounds j (.int .i64 x), rfl, hb, ?_, hn, hm, by simpa using hcs, ?_⟩⟩
      · simp [World.setCell, Array.getElem?_modify, hg]
      · rw [Array.toList_setIfInBounds, List.take_set, ht, List.map_set]
    · exact (Below.refl _ _).setCell hb _
theorem Reads.nil (w : World) (A : Option Addr) : Reads w A [] := fun h => by simp at h
end Go.Own

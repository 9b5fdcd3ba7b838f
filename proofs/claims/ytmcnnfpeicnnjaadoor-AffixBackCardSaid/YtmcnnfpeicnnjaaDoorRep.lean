/- the store: chunks that grow; how they lie in memory. -/
import Derived.Test.YtmcnnfpeicnnjaaDoorAp2
namespace Go.Own
set_option linter.unusedVariables false
open Go Go.RowKit Go.Deep
def bc (xs : List UInt8) : List Value := xs.map fun c => .int .u8 (c.toNat : Int)
theorem bc_length (xs : List UInt8) : (bc xs).length = xs.length := by simp [bc]
theorem bc_append (xs ys : List UInt8) : bc (xs ++ ys) = bc xs ++ bc ys := by simp [bc]
theorem bc_take (xs : List UInt8) (n : Nat) : (bc xs).take n = bc (xs.take n) := by simp [bc]
theorem bc_drop (xs : List UInt8) (n : Nat) : (bc xs).drop n = bc (xs.drop n) := by simp [bc]
theorem bc_one (xs : List UInt8) : ∀ v ∈ bc xs, v.oneCell' = true := fun v h => by obtain ⟨_, _, rfl⟩ := List.mem_map.1 h; rfl
/-- Outside F all is as it was. -/
structure Fr (F : Nat → Prop) (w w' : World) : Prop where
  os : w'.os = w.os
  tape : w'.tape = w.tape
  output : w'.output = w.output
  size : w.heap.size ≤ w'.heap.size
  block : ∀ k, k < w.heap.size → ¬ F k → w'.heap[k]? = w.heap[k]?
/-- F, and what was made since. -/
def FN (F : Nat → Prop) (w w' : World) : Nat → Prop := fun k => F k ∨ (w.heap.size ≤ k ∧ k < w'.heap.size)
theorem Fr.refl (F : Nat → Prop) (w : World) : Fr F w w := ⟨rfl, rfl, rfl, Nat.le_refl _, fun _ _ _ => rfl⟩
theorem Fr.trans {F : Nat → Prop} {w w' w'' : World} (h : Fr F w w') (g : Fr (FN F w w') w' w'') : Fr F w w'' :=
  ⟨g.os.trans h.os, g.tape.trans h.tape, g.output.trans h.output, Nat.le_trans h.size g.size, fun k hk hF => by
    rw [g.block k (Nat.lt_of_lt_of_le hk h.size) (fun hf => by rcases hf with hf | hf; exact hF hf; omega)]; exact h.block k hk hF⟩
theorem Fr.mono {F G : Nat → Prop} {w w' : World} (h : Fr F w w') (hs : ∀ k, F k → G k) : Fr G w w' :=
  ⟨h.os, h.tape, h.output, h.size, fun k hk hG => h.block k hk (fun hf => hG (hs k hf))⟩
theorem FN.trans {F : Nat → Prop} {w w' w'' : World} (h1 : w.heap.size ≤ w'.heap.size) (h2 : w'.heap.size ≤ w''.heap.size) : ∀ k, FN (FN F w w') w' w'' k → FN F w w'' k := by
  intro k hk
  rcases hk with (hk | hk) | hk
  · exact .inl hk
  · exact .inr ⟨hk.1, by omega⟩
  · exact .inr ⟨by omega, hk.2⟩
theorem FN.old {F : Nat → Prop} {w w' : World} : ∀ k, F k → FN F w w' k := fun k h => .inl h
theorem Fr.drew {F : Nat → Prop} {w w' : World} (h : Fr F w w') : Fr F w w'.drew := ⟨h.os, h.tape, h.output, h.size, h.block⟩
theorem Fr.alloc {F : Nat → Prop} {w w' : World} (h : Fr F w w') (o : Obj) : Fr F w (w'.alloc o) :=
  ⟨h.os, h.tape, h.output, by have := h.size; simp; omega, fun k hk hF => by rw [blk_alloc_lt _ _ _ (Nat.lt_of_lt_of_le hk h.size)]; exact h.block k hk hF⟩
theorem Fr.step {F : Nat → Prop} {w w' w'' : World} (h : Fr F w w') (hos : w''.os = w'.os) (ht : w''.tape = w'.tape) (ho : w''.output = w'.output) (hs : w'.heap.size ≤ w''.heap.size) (hb : ∀ k, k < w'.heap.size → ¬ FN F w w' k → w''.heap[k]? = w'.heap[k]?) : Fr F w w'' :=
  h.trans ⟨hos, ht, ho, hs, hb⟩
theorem Fr.grown {F : Nat → Prop} {w w' w'' : World} {row : Option Nat} (h : Fr F w w') (g : w'.grownBy w'' row) (hr : ∀ k, row = some k → FN F w w' k) : Fr F w w'' :=
  h.step g.os g.tape g.output g.size fun k hk hF => g.block k hk (fun e => hF (hr k e.symm))
theorem Fr.setCell {F : Nat → Prop} {w w' : World} (h : Fr F w w') (a : Addr) (v : Value) (ha : FN F w w' a.block) : Fr F w (w'.setCell a v) :=
  h.step rfl rfl rfl (by simp [World.setCell]) fun k hk hF => by
    have : a.block ≠ k := fun e => hF (e ▸ ha)
    simp [World.setCell, Array.getElem?_modify, this]
theorem Fr.below {F : Nat → Prop} {w w' : World} (h : Fr F w w') {B : Nat} (hB : ∀ k, F k → B ≤ k) (hle : B ≤ w.heap.size) : Below B w w' :=
  ⟨h.os, h.tape, h.output, h.size, fun k hk => h.block k (by omega) (fun hf => by have := hB k hf; omega)⟩
theorem setCell_same {w : World} {g j : Nat} {cur : Array Value} {t : TypeId} {fr : Nat × Nat} (h : w.heap[g]? = some (.cells cur t fr)) (v : Value) : (w.setCell ⟨g, j, none⟩ v).heap[g]? = some (.cells (cur.setIfInBounds j v) t fr) := by
  simp [World.setCell, Array.getElem?_modify, h]
theorem setCell_other {w : World} {a : Addr} {k : Nat} (v : Value) (h : k ≠ a.block) : (w.setCell a v).heap[k]? = w.heap[k]? := by
  simp [World.setCell, Array.getElem?_modify, Ne.symm h]
structure Chunk where
  g : Nat
  cap : Nat
  bs : List UInt8
def Chunk.val (c : Chunk) : Value := .slice (some ⟨c.g, 0, none⟩) c.bs.length c.cap
structure Chunk.At (w : World) (c : Chunk) : Prop where
  le : c.bs.length ≤ c.cap
  max : c.cap ≤ maxLen
  row : ∃ cur, w.heap[c.g]? = some (.cells cur 5 (0, 0)) ∧ cur.size = c.cap ∧ cur.toList.take c.bs.length = bc c.bs
def flat (l : List Chunk) : List UInt8 := l.flatMap (·.bs)
def starts : Nat → List Chunk → List Value
  | _, [] => []
  | n, c :: l => .int .i64 (n : Int) :: starts (n + c.bs.length) l
theorem flat_append (l m : List Chunk) : flat (l ++ m) = flat l ++ flat m := by simp [flat]
theorem starts_length : ∀ (l : List Chunk) (n : Nat), (starts n l).length = l.length
  | [], _ => rfl
  | c :: l, n => by simp [starts, starts_length l]
theorem starts_snoc : ∀ (l : List Chunk) (c : Chunk) (n : Nat), starts n (l ++ [c]) = starts n l ++ [.int .i64 ((n + (flat l).length : Nat) : Int)]
  | [], c, n => by simp [starts, flat]
  | d :: l, c, n => by simp [starts, starts_snoc l c, flat, Nat.add_assoc]
theorem starts_get : ∀ (l : List Chunk) (n i : Nat), i < l.length → (starts n l)[i]? = some (.int .i64 ((n + (flat (l.take i)).length : Nat) : Int))
  | [], _, i, h => by simp at h
  | c :: l, n, 0, _ => by simp [starts, flat]
  | c :: l, n, i + 1, h => by
    simp only [starts, List.getElem?_cons_succ, List.take_succ_cons]
    rw [starts_get l _ i (by simpa using h)]
    simp [flat, Nat.add_assoc]
theorem starts_bs (l : List Chunk) (c c' : Chunk) (n : Nat) : starts n (l ++ [c]) = starts n (l ++ [c']) := by rw [starts_snoc, starts_snoc]
structure Rep (w : World) (F : Nat → Prop) (b : Nat) (vl vf : Value) (l : List Chunk) : Prop where
  cell : w.heap[b]? = some (.cells #[vl, vf, .int .i64 ((flat l).length : Nat)] 80 (0, 0))
  own : w.ownsRow 0 81 1 vl l.length (l.map Chunk.val)
  frm : w.ownsRow 0 3 1 vf l.length (starts 0 l)
  fb : F b
  fl : ∀ k, vl.ownBlock = some k → F k
  ff : ∀ k, vf.ownBlock = some k → F k
  fc : ∀ c ∈ l, F c.g
  chunk : ∀ c ∈ l, c.At w
  once : (l.map Chunk.g).Nodup
theorem own_row_type {w : World} {base : Nat} {e : TypeId} {size n : Nat} {v : Value} {xs : List Value} (h : w.ownsRow base e size v n xs) {k : Nat} (hk : v.ownBlock = some k) : ∃ cur, w.heap[k]? = some (.cells cur e (0, 0)) := by
  rcases h.2 with ⟨rfl, _⟩ | ⟨g, cap, cur, rfl, hb, hg, _⟩
  · simp [Value.ownBlock] at hk
  · obtain rfl : g = k := by simpa [Value.ownBlock] using hk
    exact ⟨cur, hg⟩
theorem Chunk.At.keep {w w' : World} {c : Chunk} (h : c.At w) (hk : w'.heap[c.g]? = w.heap[c.g]?) : c.At w' := by
  obtain ⟨cur, h1, h2⟩ := h.row
  exact ⟨h.le, h.max, cur, hk.trans h1, h2⟩
theorem Chunk.At.lt {w : World} {c : Chunk} (h : c.At w) : c.g < w.heap.size := by
  obtain ⟨cur, h1, h2⟩ := h.row
  exact (Array.getElem?_eq_some_iff.1 h1).1
/-- blocks of different kinds -/
theorem ne_of_type {w : World} {k k' : Nat} {c c' : Array Value} {t t' : TypeId} {f f' : Nat × Nat} (h : w.heap[k]? = some (.cells c t f)) (h' : w.heap[k']? = some (.cells c' t' f')) (hne : t ≠ t') : k ≠ k' := by
  rintro rfl
  rw [h] at h'
  simp only [Option.some.injEq, Obj.cells.injEq] at h'
  exact hne h'.2.1
theorem Rep.lt {w : World} {F : Nat → Prop} {b : Nat} {vl vf : Value} {l : List Chunk} (h : Rep w F b vl vf l) : b < w.heap.size := (Array.getElem?_eq_some_iff.1 h.cell).1
theorem Rep.mono {w : World} {F G : Nat → Prop} {b : Nat} {vl vf : Value} {l : List Chunk} (h : Rep w F b vl vf l) (hs : ∀ k, F k → G k) : Rep w G b vl vf l :=
  ⟨h.cell, h.own, h.frm, hs _ h.fb, fun k hk => hs _ (h.fl k hk), fun k hk => hs _ (h.ff k hk), fun c hc => hs _ (h.fc c hc), h.chunk, h.once⟩
theorem Rep.keep {w w' : World} {F : Nat → Prop} {b : Nat} {vl vf : Value} {l : List Chunk} (h : Rep w F b vl vf l) (hk : ∀ k, k < w.heap.size → F k → w'.heap[k]? = w.heap[k]?) : Rep w' F b vl vf l :=
  ⟨(hk b h.lt h.fb).trans h.cell, own_keep h.own fun k hv => hk k (own_block_lt h.own hv).2 (h.fl k hv), own_keep h.frm fun k hv => hk k (own_block_lt h.frm hv).2 (h.ff k hv), h.fb, h.fl, h.ff, h.fc,
    fun c hc => (h.chunk c hc).keep (hk _ (h.chunk c hc).lt (h.fc c hc)), h.once⟩
/-- a chunk more, empty -/
theorem Rep.more {w w' : World} {F G : Nat → Prop} {b N cap : Nat} {vl vf vl' vf' : Value} {l : List Chunk} {cur : Array Value} (h : Rep w F b vl vf l)
    (hcell : w'.heap[b]? = some (.cells #[vl', vf', .int .i64 ((flat l).length : Nat)] 80 (0, 0)))
    (hown : w'.ownsRow 0 81 1 vl' (l.length + 1) (l.map Chunk.val ++ [.slice (some ⟨N, 0, none⟩) 0 cap])) (hfrm : w'.ownsRow 0 3 1 vf' (l.length + 1) (starts 0 l ++ [.int .i64 ((flat l).length : Nat)]))
    (hN : w'.heap[N]? = some (.cells cur 5 (0, 0))) (hcur : cur.size = cap) (hcap : cap ≤ maxLen) (hNew : w.heap.size ≤ N) (hk : ∀ c ∈ l, w'.heap[c.g]? = w.heap[c.g]?)
    (hF : ∀ k, F k → G k) (hl' : ∀ k, vl'.ownBlock = some k → G k) (hf' : ∀ k, vf'.ownBlock = some k → G k) (hGN : G N) : Rep w' G b vl' vf' (l ++ [⟨N, cap, []⟩]) := by
  refine ⟨?_, ?_, ?_, hF _ h.fb, hl', hf', ?_, ?_, ?_⟩
  · rw [flat_append]; simpa [flat] using hcell
  · rw [List.map_append, List.length_append]; exact hown
  · rw [starts_snoc, List.length_append, Nat.zero_add]; exact hfrm
  · intro c hc
    rcases List.mem_append.1 hc with hc | hc
    · exact hF _ (h.fc c hc)
    · rw [List.mem_singleton.1 hc]; exact hGN
  · intro c hc
    rcases List.mem_append.1 hc with hc | hc
    · exact (h.chunk c hc).keep (hk c hc)
    · rw [List.mem_singleton.1 hc]; exact ⟨Nat.zero_le _, hcap, cur, hN, hcur, rfl⟩
  · rw [List.map_append, List.nodup_append]
    refine ⟨h.once, by simp, fun x hx y hy => ?_⟩
    obtain ⟨c, hc, rfl⟩ := List.mem_map.1 hx
    have := (h.chunk c hc).lt
    simp only [List.map_cons, List.map_nil, List.mem_singleton] at hy
    omega
/-- the last chunk has got some bytes more -/
theorem Rep.fill {w w' : World} {F : Nat → Prop} {b gl capl : Nat} {vf : Value} {l : List Chunk} {c : Chunk} {ys : List UInt8} {curl cur' : Array Value} (h : Rep w F b (.slice (some ⟨gl, 0, none⟩) (l.length + 1) capl) vf (l ++ [c]))
    (hl : w.heap[gl]? = some (.cells curl 81 (0, 0)))
    (hcell : w'.heap[b]? = some (.cells #[.slice (some ⟨gl, 0, none⟩) (l.length + 1) capl, vf, .int .i64 (((flat (l ++ [c])).length + ys.length : Nat) : Int)] 80 (0, 0)))
    (hgl : w'.heap[gl]? = some (.cells (curl.setIfInBounds l.length (Chunk.val ⟨c.g, c.cap, c.bs ++ ys⟩)) 81 (0, 0)))
    (hrow : w'.heap[c.g]? = some (.cells cur' 5 (0, 0))) (hsz : cur'.size = c.cap) (htake : cur'.toList.take (c.bs.length + ys.length) = bc (c.bs ++ ys)) (hfit : c.bs.length + ys.length ≤ c.cap)
    (hk : ∀ k, k < w.heap.size → k ≠ b → k ≠ gl → k ≠ c.g → w'.heap[k]? = w.heap[k]?) : Rep w' F b (.slice (some ⟨gl, 0, none⟩) (l.length + 1) capl) vf (l ++ [⟨c.g, c.cap, c.bs ++ ys⟩]) := by
  have hcm : c ∈ l ++ [c] := by simp
  obtain ⟨curc, hcc, _⟩ := (h.chunk c hcm).row
  have hfne : ∀ k, vf.ownBlock = some k → k ≠ b ∧ k ≠ gl ∧ k ≠ c.g := by
    intro k hv
    obtain ⟨cf, hcf⟩ := own_row_type h.frm hv
    exact ⟨ne_of_type hcf h.cell (by decide), ne_of_type hcf hl (by decide), ne_of_type hcf hcc (by decide)⟩
  refine ⟨?_, ?_, ?_, h.fb, h.fl, h.ff, ?_, ?_, ?_⟩
  · rw [hcell]
    have : (flat (l ++ [⟨c.g, c.cap, c.bs ++ ys⟩])).length = (flat (l ++ [c])).length + ys.length := by simp [flat, Nat.add_assoc]
    rw [this]
  · rcases h.own.2 with ⟨h1, _⟩ | ⟨g, cap, cur, hv, _, hg, h1, h2, h3, h4⟩
    · cases h1
    · simp only [Value.slice.injEq, Option.some.injEq, Addr.mk.injEq, and_true] at hv
      obtain ⟨rfl, _, rfl⟩ := hv
      rw [hl] at hg
      simp only [Option.some.injEq, Obj.cells.injEq, and_true] at hg
      subst hg
      refine ⟨by simp, .inr ⟨gl, capl, _, by simp, Nat.zero_le _, hgl, by simpa using h1, h2, by simpa using h3, ?_⟩⟩
      rw [Array.toList_setIfInBounds, List.take_set]
      simp only [List.length_append, List.length_cons, List.length_nil, List.map_append, List.map_cons, List.map_nil] at h4 ⊢
      rw [h4]
      simp
  · have := own_keep (w' := w') h.frm fun k hv => hk k (own_block_lt h.frm hv).2 (hfne k hv).1 (hfne k hv).2.1 (hfne k hv).2.2
    rw [starts_bs l _ c]
    simpa using this
  · intro d hd
    rcases List.mem_append.1 hd with hd | hd
    · exact h.fc d (by simp [hd])
    · rw [List.mem_singleton.1 hd]; exact h.fc c hcm
  · intro d hd
    rcases List.mem_append.1 hd with hd | hd
    · have hd' : d ∈ l ++ [c] := by simp [hd]
      obtain ⟨cd, hcd, _⟩ := (h.chunk d hd').row
      have hne : d.g ≠ c.g := by
        have := h.once
        rw [List.map_append, List.nodup_append] at this
        exact this.2.2 d.g (List.mem_map_of_mem hd) c.g (by simp)
      exact (h.chunk d hd').keep (hk _ (h.chunk d hd').lt (ne_of_type hcd h.cell (by decide)) (ne_of_type hcd hl (by decide)) hne)
    · rw [List.mem_singleton.1 hd]
      exact ⟨by simpa using hfit, (h.chunk c hcm).max, cur', hrow, hsz, by simpa using htake⟩
  · have := h.once
    simpa using this
/-! ### the classes of a region's loads -/
def CR (L : List Nat) (tab : List (Nat × Addr × Value)) (i : Nat) (w : World) : Prop := i ∈ L → ∀ x ∈ tab, x.1 = i → w.cell? x.2.1 = some x.2.2
theorem CR.off {L : List Nat} {tab : List (Nat × Addr × Value)} (x : Nat) (h : x ∉ L) (w : World) : CR L tab x w := fun hx => absurd hx h
theorem CR.get {L : List Nat} {tab : List (Nat × Addr × Value)} {i : Nat} {w : World} (h : CR L tab i w) {a : Addr} {v : Value} (hL : i ∈ L) (hm : (i, a, v) ∈ tab) : w.cell? a = some v := h hL _ hm rfl
theorem CR.keep {L : List Nat} {tab : List (Nat × Addr × Value)} {i : Nat} {w w' : World} {b : Nat} (hb : ∀ x ∈ tab, x.2.1.block = b) (h : w'.heap[b]? = w.heap[b]?) (hc : CR L tab i w) : CR L tab i w' := fun hL x hx e => by
  have h1 := hc hL x hx e
  rw [World.cell?_of_block (w := w) (by rw [hb x hx]; exact h)]; exact h1
theorem CR.all {L : List Nat} {tab : List (Nat × Addr × Value)} {w : World} (h : ∀ x ∈ tab, w.cell? x.2.1 = some x.2.2) (i : Nat) : CR L tab i w := fun _ x hx _ => h x hx
theorem own_make_wp {P : Program} {w : World} {o : Oper} {a : Act} {K : Act → World → Prop} {Q : Exit → Act → World → Prop} (t e : TypeId) (l c : Operand) (ho : o.op = .makeSlice t l c) (i : TypeInfo) (z : Value)
    (ht : P.underlying t = some (.slice e)) (hi : P.info? e = some i) (hz : i.zero = some z) (hs : i.size = 1) (kl kc : IntKind) (n : Nat) (hl : a.eval l = .int kl 0) (hc : a.eval c = .int kc (n : Nat)) (hb : i.bytes * n ≤ 281474976710656) (h63 : n ≤ maxLen)
    (h : K (a.put o.dst (.slice (some ⟨w.heap.size, 0, none⟩) 0 n)) (w.alloc (.cells (madeCells z.cells (n * 1)) e))) : o.wp P a w K Q := by
  have h63' : (n : Int) ≤ 9223372036854775807 := by simp only [maxLen] at h63; omega
  have hb' : (i.bytes : Int) * (n : Int) ≤ 281474976710656 := by
    have h : ((i.bytes * n : Nat) : Int) ≤ 281474976710656 := by omega
    rwa [Int.natCast_mul] at h
  have hr := run_make (P := P) w t e i z ht hi hz kl kc 0 n (Int.le_refl _) (by omega) hb' h63'
  simp only [Int.toNat_zero, Int.toNat_natCast, hs] at hr
  unfold Oper.wp execOp
  simp only [ho, hl, hc, Sem.run_bind, Sem.run_pure, Result.andThen_ok, hr]
  exact h
theorem grown_trans {w w' w'' : World} {r r' : Option Nat} (h : w.grownBy w' r) (g : w'.grownBy w'' r') (hr : ∀ k, k < w.heap.size → some k ≠ r → some k ≠ r') : w.grownBy w'' r :=
  ⟨g.os.trans h.os, g.tape.trans h.tape, g.output.trans h.output, Nat.le_trans h.size g.size, fun k hk hn => by rw [g.block k (Nat.lt_of_lt_of_le hk h.size) (hr k hk hn)]; exact h.block k hk hn⟩
theorem Rep.b_ne_l {w : World} {F : Nat → Prop} {b : Nat} {vl vf : Value} {l : List Chunk} (R : Rep w F b vl vf l) : some b ≠ vl.ownBlock := fun e => by
  obtain ⟨c, hc⟩ := own_row_type R.own e.symm
  exact ne_of_type R.cell hc (by decide) rfl
theorem Rep.b_ne_f {w : World} {F : Nat → Prop} {b : Nat} {vl vf : Value} {l : List Chunk} (R : Rep w F b vl vf l) : some b ≠ vf.ownBlock := fun e => by
  obtain ⟨c, hc⟩ := own_row_type R.frm e.symm
  exact ne_of_type R.cell hc (by decide) rfl
theorem Rep.f_keep {w w' : World} {F : Nat → Prop} {b : Nat} {vl vf : Value} {l : List Chunk} (R : Rep w F b vl vf l) (G : w.grownBy w' vl.ownBlock) : w'.ownsRow 0 3 1 vf l.length (starts 0 l) :=
  own_keep R.frm fun k hk => G.block k (own_block_lt R.frm hk).2 fun e => by
    obtain ⟨c, hc⟩ := own_row_type R.frm hk
    obtain ⟨d, hd⟩ := own_row_type R.own e.symm
    exact ne_of_type hc hd (by decide) rfl
theorem Rep.more_end {w0 w4 w5 : World} {F : Nat → Prop} {b N n : Nat} {vl vf v1 v2 : Value} {l : List Chunk} {cur : Array Value} (R : Rep w0 F b vl vf l)
    (G4 : w0.grownBy w4 vl.ownBlock) (O4 : w4.ownsRow 0 81 1 v1 (l.length + 1) (l.map Chunk.val ++ [.slice (some ⟨N, 0, none⟩) 0 n])) (hv1 : ∀ k, v1.ownBlock = some k → vl.ownBlock = some k ∨ w0.heap.size ≤ k)
    (N4 : w4.heap[N]? = some (.cells cur 5 (0, 0))) (hcur : cur.size = n) (hn : n ≤ maxLen) (hN : w0.heap.size ≤ N)
    (O5 : w5.ownsRow 0 3 1 v2 (l.length + 1) (starts 0 l ++ [.int .i64 ((flat l).length : Nat)])) (G5 : w4.grownBy w5 vf.ownBlock) (hv2 : ∀ k, v2.ownBlock = some k → vf.ownBlock = some k ∨ w4.heap.size ≤ k) :
    Rep ((w5.setCell ⟨b, 0, none⟩ v1).setCell ⟨b, 1, none⟩ v2) (FN F w0 ((w5.setCell ⟨b, 0, none⟩ v1).setCell ⟨b, 1, none⟩ v2)) b v1 v2 (l ++ [⟨N, n, []⟩]) ∧ Fr F w0 ((w5.setCell ⟨b, 0, none⟩ v1).setCell ⟨b, 1, none⟩ v2) := by
  obtain ⟨wz, hwz⟩ : ∃ wz, wz = (w5.setCell ⟨b, 0, none⟩ v1).setCell ⟨b, 1, none⟩ v2 := ⟨_, rfl⟩
  have hsz : wz.heap.size = w5.heap.size := by rw [hwz]; simp [World.setCell]
  have hoth : ∀ k, k ≠ b → wz.heap[k]? = w5.heap[k]? := fun k hk => by rw [hwz, setCell_other _ hk, setCell_other _ hk]
  have b4 : w4.heap[b]? = w0.heap[b]? := G4.block b R.lt R.b_ne_l
  have hb4 : b < w4.heap.size := Nat.lt_of_lt_of_le R.lt G4.size
  have b5 : w5.heap[b]? = w0.heap[b]? := (G5.block b hb4 R.b_ne_f).trans b4
  have fk := R.f_keep G4
  have O4' : w5.ownsRow 0 81 1 v1 (l.length + 1) (l.map Chunk.val ++ [.slice (some ⟨N, 0, none⟩) 0 n]) := own_keep O4 fun k hk => G5.block k (own_block_lt O4 hk).2 fun e => by
    obtain ⟨c, hc⟩ := own_row_type O4 hk
    obtain ⟨d, hd⟩ := own_row_type fk e.symm
    exact ne_of_type hc hd (by decide) rfl
  have hbc : w5.heap[b]? = some (.cells #[vl, vf, .int .i64 ((flat l).length : Nat)] 80 (0, 0)) := b5.trans R.cell
  have hck : ∀ c ∈ l, w5.heap[c.g]? = w0.heap[c.g]? := fun c hc => by
    obtain ⟨cc, h1, _⟩ := (R.chunk c hc).row
    have hlt := (R.chunk c hc).lt
    have e4 := G4.block c.g hlt fun e => by
      obtain ⟨d, hd⟩ := own_row_type R.own e.symm
      exact ne_of_type h1 hd (by decide) rfl
    refine (G5.block c.g (Nat.lt_of_lt_of_le hlt G4.size) fun e => ?_).trans e4
    obtain ⟨d, hd⟩ := own_row_type R.frm e.symm
    exact ne_of_type h1 hd (by decide) rfl
  have hcb : ∀ c ∈ l, c.g ≠ b := fun c hc => by
    obtain ⟨cc, h1, _⟩ := (R.chunk c hc).row
    exact ne_of_type h1 R.cell (by decide)
  have hNlt : N < w4.heap.size := (Array.getElem?_eq_some_iff.1 N4).1
  have N5 : w5.heap[N]? = some (.cells cur 5 (0, 0)) := (G5.block N hNlt fun e => by
    obtain ⟨d, hd⟩ := own_row_type fk e.symm
    exact ne_of_type N4 hd (by decide) rfl).trans N4
  have z1 : wz.ownsRow 0 81 1 v1 (l.length + 1) (l.map Chunk.val ++ [.slice (some ⟨N, 0, none⟩) 0 n]) := own_keep O4' fun k hk => hoth k (by
    obtain ⟨c, hc⟩ := own_row_type O4' hk
    exact ne_of_type hc hbc (by decide))
  have z2 : wz.ownsRow 0 3 1 v2 (l.length + 1) (starts 0 l ++ [.int .i64 ((flat l).length : Nat)]) := own_keep O5 fun k hk => hoth k (by
    obtain ⟨c, hc⟩ := own_row_type O5 hk
    exact ne_of_type hc hbc (by decide))
  have zb : wz.heap[b]? = some (.cells #[v1, v2, .int .i64 ((flat l).length : Nat)] 80 (0, 0)) := by
    rw [hwz, setCell_same (setCell_same hbc v1) v2]; rfl
  rw [← hwz]
  refine ⟨R.more zb z1 z2 ((hoth N (by have := R.lt; omega)).trans N5) hcur hn hN (fun c hc => (hoth _ (hcb c hc)).trans (hck c hc)) FN.old (fun k hk => ?_) (fun k hk => ?_) (.inr ⟨hN, ?_⟩), ?_⟩
  · rcases hv1 k hk with h | h
    · exact .inl (R.fl k h)
    · exact .inr ⟨h, (own_block_lt z1 hk).2⟩
  · rcases hv2 k hk with h | h
    · exact .inl (R.ff k h)
    · exact .inr ⟨Nat.le_trans G4.size h, (own_block_lt z2 hk).2⟩
  · rw [hsz]; exact Nat.lt_of_lt_of_le hNlt G5.size
  · have f5 : Fr F w0 w5 := ((Fr.refl F w0).grown G4 fun k hk => .inl (R.fl k hk)).grown G5 fun k hk => .inl (R.ff k hk)
    rw [hwz]
    exact (f5.setCell _ _ (.inl R.fb)).setCell _ _ (.inl R.fb)
/-- a store that holds t -/
def Holds (w : World) (F : Nat → Prop) (b : Nat) (t : List UInt8) : Prop := ∃ vl vf l, Rep w F b vl vf l ∧ flat l = t ∧ ∀ c ∈ l, c.bs ≠ []
theorem Holds.keep {w w' : World} {F : Nat → Prop} {b : Nat} {t : List UInt8} (h : Holds w F b t) (hk : ∀ k, k < w.heap.size → F k → w'.heap[k]? = w.heap[k]?) : Holds w' F b t := by
  obtain ⟨vl, vf, l, h1, h2⟩ := h
  exact ⟨vl, vf, l, h1.keep hk, h2⟩
theorem Holds.mono {w : World} {F G : Nat → Prop} {b : Nat} {t : List UInt8} (h : Holds w F b t) (hs : ∀ k, F k → G k) : Holds w G b t := by
  obtain ⟨vl, vf, l, h1, h2⟩ := h
  exact ⟨vl, vf, l, h1.mono hs, h2⟩
theorem flat_le : ∀ (l : List Chunk), (∀ c ∈ l, c.bs ≠ []) → l.length ≤ (flat l).length
  | [], _ => Nat.zero_le _
  | c :: l, h => by
    have h1 := flat_le l (fun d hd => h d (by simp [hd]))
    have h2 := h c (by simp)
    have h3 : 0 < c.bs.length := List.length_pos_iff.2 h2
    have h4 : (flat (c :: l)).length = c.bs.length + (flat l).length := by simp [flat]
    rw [List.length_cons]
    omega
end Go.Own

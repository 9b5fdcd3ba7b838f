/- the balanced tree: the plain law. -/
import Derived.Test.YtemcffihfeaniaaLift
namespace Go.Own
open Go Go.RowKit
set_option linter.unusedVariables false
namespace Tr
theorem hi_nil : nil.hi = 0 := rfl
theorem hi_node (b : Nat) (k z h c s : Int) (l r : Tr) : (node b k z h c s l r).hi = h := rfl
theorem cnt_nil : nil.cnt = 0 := rfl
theorem cnt_node (b : Nat) (k z h c s : Int) (l r : Tr) : (node b k z h c s l r).cnt = c := rfl
theorem sum_nil : nil.sum = 0 := rfl
theorem sum_node (b : Nat) (k z h c s : Int) (l r : Tr) : (node b k z h c s l r).sum = s := rfl
/-- sides differ by one at most -/
def Bal : Tr → Prop
  | nil => True
  | node _ _ _ _ _ _ l r => Bal l ∧ Bal r ∧ l.hi ≤ r.hi + 1 ∧ r.hi ≤ l.hi + 1
def Sized : Tr → Prop
  | nil => True
  | node _ _ z _ _ _ l r => Sized l ∧ Sized r ∧ 0 ≤ z ∧ z ≤ 1099511627776
structure Good (t : Tr) : Prop where
  told : Told t
  bal : Bal t
  sized : Sized t
/-- even: what comes of a node and two sides -/
def rot (b : Nat) (k z : Int) (l r : Tr) : Tr :=
  if r.hi + 1 < l.hi then
    match l with
    | nil => mk b k z l r
    | node b2 k2 z2 _ _ _ x y =>
      if x.hi < y.hi then
        match y with
        | nil => mk b k z l r
        | node b3 k3 z3 _ _ _ p q => mk b3 k3 z3 (mk b2 k2 z2 x p) (mk b k z q r)
      else mk b2 k2 z2 x (mk b k z y r)
  else if l.hi + 1 < r.hi then
    match r with
    | nil => mk b k z l r
    | node b2 k2 z2 _ _ _ x y =>
      if y.hi < x.hi then
        match x with
        | nil => mk b k z l r
        | node b3 k3 z3 _ _ _ p q => mk b3 k3 z3 (mk b k z l p) (mk b2 k2 z2 q y)
      else mk b2 k2 z2 (mk b k z l x) y
  else mk b k z l r
theorem rot_items (b : Nat) (k z : Int) (l r : Tr) : (rot b k z l r).items = l.items ++ (k, z) :: r.items := by
  unfold rot
  repeat' split
  all_goals simp [mk, items]
theorem rot_blocks (b : Nat) (k z : Int) (l r : Tr) : (rot b k z l r).blocks.Perm (b :: (l.blocks ++ r.blocks)) := by
  unfold rot
  repeat' split
  all_goals simp only [mk, blocks]
  all_goals first
    | exact List.Perm.refl _
    | (rw [List.perm_iff_count]; intro a; simp only [List.count_cons, List.count_append]; omega)
theorem rot_told {b : Nat} {k z : Int} {l r : Tr} (hl : Told l) (hr : Told r) : Told (rot b k z l r) := by
  unfold rot
  repeat' split
  all_goals simp only [mk, Told] at hl hr ⊢
  all_goals simp only [hl, hr, and_self]
  all_goals simp_all
theorem rot_sized {b : Nat} {k z : Int} {l r : Tr} (hl : Sized l) (hr : Sized r) (h0 : 0 ≤ z) (h1 : z ≤ 1099511627776) : Sized (rot b k z l r) := by
  unfold rot
  repeat' split
  all_goals simp only [mk, Sized] at hl hr ⊢
  all_goals simp_all
theorem Told.hi_nonneg : ∀ {t : Tr}, Told t → 0 ≤ t.hi
  | nil, _ => Int.le_refl _
  | node _ _ _ h _ _ l r, ⟨h1, h2, h3, _⟩ => by
    have := Told.hi_nonneg h1
    simp only [hi_node]; omega
theorem Told.hi_zero : ∀ {t : Tr}, Told t → t.hi ≤ 0 → t = nil
  | nil, _, _ => rfl
  | node _ _ _ h _ _ l r, ⟨h1, h2, h3, _⟩, h0 => by
    have := Told.hi_nonneg h1
    simp only [hi_node] at h0; omega
theorem mk_bal {b : Nat} {k z : Int} {l r : Tr} (hl : Bal l) (hr : Bal r) (h1 : l.hi ≤ r.hi + 1) (h2 : r.hi ≤ l.hi + 1) : Bal (mk b k z l r) := ⟨hl, hr, h1, h2⟩
theorem mk_hi (b : Nat) (k z : Int) (l r : Tr) : (mk b k z l r).hi = 1 + max l.hi r.hi := rfl
theorem rot_bal {b : Nat} {k z : Int} {l r : Tr} (hl : Told l) (hr : Told r) (bl : Bal l) (br : Bal r) (h1 : l.hi ≤ r.hi + 2) (h2 : r.hi ≤ l.hi + 2) :
    Bal (rot b k z l r) ∧ max l.hi r.hi ≤ (rot b k z l r).hi ∧ (rot b k z l r).hi ≤ 1 + max l.hi r.hi ∧ (l.hi ≤ r.hi + 1 → r.hi ≤ l.hi + 1 → (rot b k z l r).hi = 1 + max l.hi r.hi) := by
  have nl := hl.hi_nonneg
  have nr := hr.hi_nonneg
  unfold rot
  split
  · split
    · (try simp only [hi_nil] at *); omega
    · rename_i b2 k2 z2 h' c' s' x y hlt
      obtain ⟨tx, ty, e1, _, _⟩ := hl
      obtain ⟨bx, by', g1, g2⟩ := bl
      have nx := tx.hi_nonneg
      have ny := ty.hi_nonneg
      simp only [hi_node] at h1 h2 nl
      split
      · rename_i hlt
        split
        · (try simp only [hi_nil, hi_node] at *); omega
        · rename_i p q h3
          obtain ⟨tp, tq, e2, _, _⟩ := ty
          obtain ⟨bp, bq, g3, g4⟩ := by'
          have np := tp.hi_nonneg
          have nq := tq.hi_nonneg
          try simp only [hi_node] at *
          refine ⟨mk_bal (mk_bal bx bp ?_ ?_) (mk_bal bq br ?_ ?_) ?_ ?_, ?_, ?_, ?_⟩
          all_goals (try intro _ _)
          all_goals (try simp only [mk_hi])
          all_goals (try omega)
      · rename_i hge
        try simp only [hi_node] at *
        refine ⟨mk_bal bx (mk_bal by' br ?_ ?_) ?_ ?_, ?_, ?_, ?_⟩
        all_goals (try intro _ _)
        all_goals (try simp only [mk_hi])
        all_goals (try omega)
  · split
    · split
      · (try simp only [hi_nil] at *); omega
      · rename_i b2 k2 z2 h' c' s' x y hn hlt
        obtain ⟨tx, ty, e1, _, _⟩ := hr
        obtain ⟨bx, by', g1, g2⟩ := br
        have nx := tx.hi_nonneg
        have ny := ty.hi_nonneg
        simp only [hi_node] at h1 h2 nr
        split
        · rename_i hlt
          split
          · (try simp only [hi_nil, hi_node] at *); omega
          · rename_i p q h3
            obtain ⟨tp, tq, e2, _, _⟩ := tx
            obtain ⟨bp, bq, g3, g4⟩ := bx
            have np := tp.hi_nonneg
            have nq := tq.hi_nonneg
            try simp only [hi_node] at *
            refine ⟨mk_bal (mk_bal bl bp ?_ ?_) (mk_bal bq by' ?_ ?_) ?_ ?_, ?_, ?_, ?_⟩
            all_goals (try intro _ _)
            all_goals (try simp only [mk_hi])
            all_goals (try omega)
        · rename_i hge
          try simp only [hi_node] at *
          refine ⟨mk_bal (mk_bal bl bx ?_ ?_) by' ?_ ?_, ?_, ?_, ?_⟩
          all_goals (try intro _ _)
          all_goals (try simp only [mk_hi])
          all_goals (try omega)
    · refine ⟨mk_bal bl br ?_ ?_, ?_, ?_, ?_⟩
      all_goals (try intro _ _)
      all_goals (try simp only [mk_hi])
      all_goals (try omega)
theorem rot_good {b : Nat} {k z : Int} {l r : Tr} (hl : Good l) (hr : Good r) (h0 : 0 ≤ z) (hz : z ≤ 1099511627776) (h1 : l.hi ≤ r.hi + 2) (h2 : r.hi ≤ l.hi + 2) : Good (rot b k z l r) :=
  ⟨rot_told hl.told hr.told, (rot_bal hl.told hr.told hl.bal hr.bal h1 h2).1, rot_sized hl.sized hr.sized h0 hz⟩
/-- put: a node more at a place -/
def put (b : Nat) (k z : Int) : Int → Tr → Tr
  | _, nil => mk b k z nil nil
  | i, node b' k' z' _ _ _ l r => if i ≤ l.cnt then rot b' k' z' (put b k z i l) r else rot b' k' z' l (put b k z (i - l.cnt - 1) r)
theorem put_good {b : Nat} {k z : Int} (h0 : 0 ≤ z) (hz : z ≤ 1099511627776) : ∀ (t : Tr) (i : Int), Good t → Good (put b k z i t) ∧ t.hi ≤ (put b k z i t).hi ∧ (put b k z i t).hi ≤ t.hi + 1
  | nil, i, _ => by
    refine ⟨⟨⟨trivial, trivial, rfl, rfl, rfl⟩, ⟨trivial, trivial, by simp [hi_nil], by simp [hi_nil]⟩, ⟨trivial, trivial, h0, hz⟩⟩, ?_, ?_⟩ <;> simp [put, mk, hi_node, hi_nil]
  | node b' k' z' h c s l r, i, ⟨⟨t1, t2, t3, t4, t5⟩, ⟨b1, b2, b3, b4⟩, ⟨s1, s2, s3, s4⟩⟩ => by
    simp only [put]
    split
    · obtain ⟨g, g1, g2⟩ := put_good h0 hz l i ⟨t1, b1, s1⟩
      have R := rot_bal (b := b') (k := k') (z := z') g.told t2 g.bal b2 (by omega) (by omega)
      refine ⟨rot_good g ⟨t2, b2, s2⟩ s3 s4 (by omega) (by omega), ?_, ?_⟩
      · simp only [hi_node]
        obtain ⟨_, r1, r2, r3⟩ := R
        by_cases hh : (put b k z i l).hi ≤ r.hi + 1
        · have := r3 hh (by omega); omega
        · omega
      · simp only [hi_node]
        obtain ⟨_, r1, r2, r3⟩ := R
        omega
    · obtain ⟨g, g1, g2⟩ := put_good h0 hz r (i - l.cnt - 1) ⟨t2, b2, s2⟩
      have R := rot_bal (b := b') (k := k') (z := z') t1 g.told b1 g.bal (by omega) (by omega)
      refine ⟨rot_good ⟨t1, b1, s1⟩ g s3 s4 (by omega) (by omega), ?_, ?_⟩
      · simp only [hi_node]
        obtain ⟨_, r1, r2, r3⟩ := R
        by_cases hh : (put b k z (i - l.cnt - 1) r).hi ≤ l.hi + 1
        · have := r3 (by omega) hh; omega
        · omega
      · simp only [hi_node]
        obtain ⟨_, r1, r2, r3⟩ := R
        omega
theorem put_blocks (b : Nat) (k z : Int) : ∀ (t : Tr) (i : Int), (put b k z i t).blocks.Perm (b :: t.blocks)
  | nil, i => by simp [put, mk, blocks]
  | node b' k' z' h c s l r, i => by
    simp only [put]
    split
    · refine (rot_blocks _ _ _ _ _).trans ?_
      have := List.perm_iff_count.1 (put_blocks b k z l i)
      rw [List.perm_iff_count]
      intro a
      have h1 := this a
      simp only [blocks, List.count_cons, List.count_append] at h1 ⊢
      omega
    · refine (rot_blocks _ _ _ _ _).trans ?_
      have := List.perm_iff_count.1 (put_blocks b k z r (i - l.cnt - 1))
      rw [List.perm_iff_count]
      intro a
      have h1 := this a
      simp only [blocks, List.count_cons, List.count_append] at h1 ⊢
      omega
/-- an item more in a list -/
def ins (l : List (Int × Int)) (i : Nat) (x : Int × Int) : List (Int × Int) := l.take i ++ x :: l.drop i
theorem put_items (b : Nat) (k z : Int) : ∀ (t : Tr) (i : Int), Told t → 0 ≤ i → i ≤ t.cnt → (put b k z i t).items = ins t.items i.toNat (k, z)
  | nil, i, _, _, _ => by simp [put, mk, items, ins]
  | node b' k' z' h c s l r, i, ⟨t1, t2, t3, t4, t5⟩, h0, h1 => by
    have cl := t1.cnt_eq
    have cr := t2.cnt_eq
    simp only [put, ins, items]
    simp only [cnt_node] at h1
    split
    · rename_i hle
      rw [rot_items, put_items b k z l i t1 h0 hle, ins, List.take_append_of_le_length (by omega), List.drop_append_of_le_length (by omega)]
      simp
    · rename_i hgt
      have hi2 : i.toNat = l.items.length + ((i - l.cnt - 1).toNat + 1) := by omega
      rw [rot_items, put_items b k z r (i - l.cnt - 1) t2 (by omega) (by omega), ins, hi2, List.take_length_add_append, List.drop_length_add_append]
      simp
/-- the node at a place -/
def nodeAt : Int → Tr → Nat × Int × Int
  | _, nil => (0, 0, 0)
  | i, node b k z _ _ _ l r => if i < l.cnt then nodeAt i l else if l.cnt < i then nodeAt (i - l.cnt - 1) r else (b, k, z)
theorem nodeAt_item : ∀ (t : Tr) (i : Int), Told t → 0 ≤ i → i < t.cnt → t.items[i.toNat]? = some (nodeAt i t).2
  | nil, i, _, h0, h1 => by simp only [cnt_nil] at h1; omega
  | node b k z h c s l r, i, ⟨t1, t2, t3, t4, t5⟩, h0, h1 => by
    have cl := t1.cnt_eq
    have cr := t2.cnt_eq
    simp only [cnt_node] at h1
    simp only [nodeAt, items]
    split
    · rw [List.getElem?_append_left (by omega)]
      exact nodeAt_item l i t1 h0 ‹_›
    · split
      · have hi2 : i.toNat = l.items.length + ((i - l.cnt - 1).toNat + 1) := by omega
        rw [hi2, List.getElem?_append_right (by omega)]
        simp only [Nat.add_sub_cancel_left, List.getElem?_cons_succ]
        exact nodeAt_item r _ t2 (by omega) (by omega)
      · have hi2 : i.toNat = l.items.length := by omega
        rw [hi2, List.getElem?_append_right (by omega)]
        simp
theorem nodeAt_mem : ∀ (t : Tr) (i : Int), Told t → 0 ≤ i → i < t.cnt → (nodeAt i t).1 ∈ t.blocks
  | nil, i, _, h0, h1 => by simp only [cnt_nil] at h1; omega
  | node b k z h c s l r, i, ⟨t1, t2, t3, t4, t5⟩, h0, h1 => by
    simp only [cnt_node] at h1
    simp only [nodeAt, blocks, List.mem_cons, List.mem_append]
    split
    · exact .inr (.inl (nodeAt_mem l i t1 h0 ‹_›))
    · split
      · exact .inr (.inr (nodeAt_mem r _ t2 (by omega) (by omega)))
      · exact .inl rfl
theorem nodeAt_size : ∀ (t : Tr) (i : Int), Told t → Sized t → 0 ≤ i → i < t.cnt → 0 ≤ (nodeAt i t).2.2 ∧ (nodeAt i t).2.2 ≤ 1099511627776
  | nil, i, _, _, h0, h1 => by simp only [cnt_nil] at h1; omega
  | node b k z h c s l r, i, ⟨t1, t2, t3, t4, t5⟩, ⟨s1, s2, s3, s4⟩, h0, h1 => by
    simp only [cnt_node] at h1
    simp only [nodeAt]
    split
    · exact nodeAt_size l i t1 s1 h0 ‹_›
    · split
      · exact nodeAt_size r _ t2 s2 (by omega) (by omega)
      · exact ⟨s3, s4⟩
/-- cut: without the node at a place -/
def cut : Int → Tr → Tr
  | _, nil => nil
  | i, node b k z _ _ _ l r => if i < l.cnt then rot b k z (cut i l) r else if l.cnt < i then rot b k z l (cut (i - l.cnt - 1) r)
    else match l with
      | nil => r
      | node .. => match r with
        | nil => l
        | node .. => rot (nodeAt 0 r).1 (nodeAt 0 r).2.1 (nodeAt 0 r).2.2 l (cut 0 r)
theorem Told.cnt_nonneg {t : Tr} (h : Told t) : 0 ≤ t.cnt := by have := h.cnt_eq; omega
theorem Told.cnt_pos {b : Nat} {k z h c s : Int} {l r : Tr} (ht : Told (node b k z h c s l r)) : 0 < (node b k z h c s l r).cnt := by
  have := ht.cnt_eq
  simp only [items, List.length_append, List.length_cons] at this
  omega
theorem cut_good : ∀ (t : Tr) (i : Int), Good t → 0 ≤ i → i < t.cnt → Good (cut i t) ∧ (cut i t).hi ≤ t.hi ∧ t.hi ≤ (cut i t).hi + 1
  | nil, i, _, h0, h1 => by simp only [cnt_nil] at h1; omega
  | node b k z h c s l r, i, ⟨⟨t1, t2, t3, t4, t5⟩, ⟨b1, b2, b3, b4⟩, ⟨s1, s2, s3, s4⟩⟩, h0, h1 => by
    have nl := t1.hi_nonneg
    have nr := t2.hi_nonneg
    simp only [cnt_node] at h1
    simp only [cut]
    split
    · obtain ⟨g, g1, g2⟩ := cut_good l i ⟨t1, b1, s1⟩ h0 ‹_›
      have R := rot_bal (b := b) (k := k) (z := z) g.told t2 g.bal b2 (by omega) (by omega)
      obtain ⟨_, r1, r2, r3⟩ := R
      refine ⟨rot_good g ⟨t2, b2, s2⟩ s3 s4 (by omega) (by omega), ?_, ?_⟩
      · simp only [hi_node]
        by_cases hh : r.hi ≤ (cut i l).hi + 1
        · have := r3 (by omega) hh; omega
        · omega
      · simp only [hi_node]
        by_cases hh : r.hi ≤ (cut i l).hi + 1
        · have := r3 (by omega) hh; omega
        · omega
    · split
      · obtain ⟨g, g1, g2⟩ := cut_good r (i - l.cnt - 1) ⟨t2, b2, s2⟩ (by omega) (by omega)
        have R := rot_bal (b := b) (k := k) (z := z) t1 g.told b1 g.bal (by omega) (by omega)
        obtain ⟨_, r1, r2, r3⟩ := R
        refine ⟨rot_good ⟨t1, b1, s1⟩ g s3 s4 (by omega) (by omega), ?_, ?_⟩
        · simp only [hi_node]
          by_cases hh : l.hi ≤ (cut (i - l.cnt - 1) r).hi + 1
          · have := r3 hh (by omega); omega
          · omega
        · simp only [hi_node]
          by_cases hh : l.hi ≤ (cut (i - l.cnt - 1) r).hi + 1
          · have := r3 hh (by omega); omega
          · omega
      · split
        · refine ⟨⟨t2, b2, s2⟩, ?_, ?_⟩ <;> try simp only [hi_nil, hi_node] at * <;> omega
        · split
          · refine ⟨⟨t1, b1, s1⟩, ?_, ?_⟩ <;> try simp only [hi_nil, hi_node] at * <;> omega
          · rename_i lb lk lz lh lc ls ll lr n1 n2 _ rb rk rz rh rc rs rl rr
            have hpos := t2.cnt_pos
            obtain ⟨g, g1, g2⟩ := cut_good _ 0 ⟨t2, b2, s2⟩ (Int.le_refl _) hpos
            obtain ⟨z1, z2⟩ := nodeAt_size _ 0 t2 s2 (Int.le_refl _) hpos
            generalize (node rb rk rz rh rc rs rl rr) = rr at *
            generalize (node lb lk lz lh lc ls ll lr) = ll at *
            have R := rot_bal (b := (nodeAt 0 rr).1) (k := (nodeAt 0 rr).2.1) (z := (nodeAt 0 rr).2.2) t1 g.told b1 g.bal (by omega) (by omega)
            obtain ⟨_, r1, r2, r3⟩ := R
            refine ⟨rot_good ⟨t1, b1, s1⟩ g z1 z2 (by omega) (by omega), ?_, ?_⟩
            · show _ ≤ h
              by_cases hh : ll.hi ≤ (cut 0 rr).hi + 1
              · have := r3 hh (by omega); omega
              · omega
            · show h ≤ _
              by_cases hh : ll.hi ≤ (cut 0 rr).hi + 1
              · have := r3 hh (by omega); omega
              · omega
theorem cut_blocks : ∀ (t : Tr) (i : Int), Told t → 0 ≤ i → i < t.cnt → ((nodeAt i t).1 :: (cut i t).blocks).Perm t.blocks
  | nil, i, _, h0, h1 => by simp only [cnt_nil] at h1; omega
  | node b k z h c s l r, i, ⟨t1, t2, t3, t4, t5⟩, h0, h1 => by
    simp only [cnt_node] at h1
    simp only [cut, nodeAt]
    split
    · have h2 := List.perm_iff_count.1 (cut_blocks l i t1 h0 ‹_›)
      have h3 := List.perm_iff_count.1 (rot_blocks b k z (cut i l) r)
      rw [List.perm_iff_count]
      intro a
      have h2 := h2 a
      have h3 := h3 a
      simp only [blocks, List.count_cons, List.count_append] at h2 h3 ⊢
      omega
    · split
      · have h2 := List.perm_iff_count.1 (cut_blocks r (i - l.cnt - 1) t2 (by omega) (by omega))
        have h3 := List.perm_iff_count.1 (rot_blocks b k z l (cut (i - l.cnt - 1) r))
        rw [List.perm_iff_count]
        intro a
        have h2 := h2 a
        have h3 := h3 a
        simp only [blocks, List.count_cons, List.count_append] at h2 h3 ⊢
        omega
      · split
        · simp [blocks]
        · split
          · simp [blocks]
          · rename_i lb lk lz lh lc ls ll lr n1 n2 _ rb rk rz rh rc rs rl rr
            have h2 := List.perm_iff_count.1 (cut_blocks _ 0 t2 (Int.le_refl _) t2.cnt_pos)
            generalize (node rb rk rz rh rc rs rl rr) = rr at *
            generalize (node lb lk lz lh lc ls ll lr) = ll at *
            have h3 := List.perm_iff_count.1 (rot_blocks (nodeAt 0 rr).1 (nodeAt 0 rr).2.1 (nodeAt 0 rr).2.2 ll (cut 0 rr))
            rw [List.perm_iff_count]
            intro a
            have h2 := h2 a
            have h3 := h3 a
            simp only [blocks, List.count_cons, List.count_append] at h2 h3 ⊢
            omega
theorem cut_items : ∀ (t : Tr) (i : Int), Told t → 0 ≤ i → i < t.cnt → (cut i t).items = t.items.eraseIdx i.toNat
  | nil, i, _, h0, h1 => by simp only [cnt_nil] at h1; omega
  | node b k z h c s l r, i, ⟨t1, t2, t3, t4, t5⟩, h0, h1 => by
    have cl := t1.cnt_eq
    have cr := t2.cnt_eq
    simp only [cnt_node] at h1
    simp only [cut, items]
    split
    · rw [rot_items, cut_items l i t1 h0 ‹_›, List.eraseIdx_append_of_lt_length (by omega)]
    · split
      · have hi2 : i.toNat = l.items.length + ((i - l.cnt - 1).toNat + 1) := by omega
        rw [rot_items, cut_items r (i - l.cnt - 1) t2 (by omega) (by omega), List.eraseIdx_append_of_length_le (by omega), hi2]
        simp
      · have hi2 : i.toNat = l.items.length := by omega
        rw [List.eraseIdx_append_of_length_le (by omega), hi2]
        simp only [Nat.sub_self, List.eraseIdx_cons_zero]
        split
        · simp [items]
        · split
          · simp [items]
          · rename_i lb lk lz lh lc ls ll lr n1 n2 _ rb rk rz rh rc rs rl rr
            have h2 := cut_items _ 0 t2 (Int.le_refl _) t2.cnt_pos
            have h3 := nodeAt_item _ 0 t2 (Int.le_refl _) t2.cnt_pos
            generalize (node rb rk rz rh rc rs rl rr) = rr at *
            rw [rot_items, h2]
            have h4 : rr.items = (nodeAt 0 rr).2 :: rr.items.tail := by
              cases hh : rr.items with
              | nil => rw [hh] at h3; simp at h3
              | cons x xs => rw [hh] at h3; simp at h3; rw [← h3]; rfl
            rw [h4]
            simp
theorem Good.hi_le : ∀ {t : Tr}, Told t → t.hi ≤ t.cnt
  | nil, _ => Int.le_refl _
  | node _ _ _ h c _ l r, ⟨h1, h2, h3, h4, _⟩ => by
    have a := Good.hi_le h1
    have b := Good.hi_le h2
    have c1 := h1.cnt_nonneg
    have c2 := h2.cnt_nonneg
    simp only [hi_node, cnt_node]; omega
theorem Good.sum_le : ∀ {t : Tr}, Told t → Sized t → 0 ≤ t.sum ∧ t.sum ≤ 1099511627776 * t.cnt
  | nil, _, _ => by simp [sum_nil, cnt_nil]
  | node _ _ z h c s l r, ⟨h1, h2, h3, h4, h5⟩, ⟨s1, s2, s3, s4⟩ => by
    have a := Good.sum_le h1 s1
    have b := Good.sum_le h2 s2
    simp only [sum_node, cnt_node]; omega
theorem Good.fit {t : Tr} (g : Good t) (hc : t.cnt ≤ 1000000) : Fit t := by
  have h1 := Good.hi_le g.told
  have h2 := Good.sum_le g.told g.sized
  have h3 := g.told.cnt_nonneg
  have h4 := g.told.hi_nonneg
  refine ⟨h4, ?_, h3, ?_, h2.1, ?_⟩ <;> omega
theorem Good.left {b : Nat} {k z h c s : Int} {l r : Tr} (g : Good (node b k z h c s l r)) : Good l := ⟨g.told.1, g.bal.1, g.sized.1⟩
theorem Good.right {b : Nat} {k z h c s : Int} {l r : Tr} (g : Good (node b k z h c s l r)) : Good r := ⟨g.told.2.1, g.bal.2.1, g.sized.2.1⟩
/-- the least number of items of a height -/
def least : Nat → Nat
  | 0 => 0
  | 1 => 1
  | n + 2 => least (n + 1) + least n + 1
theorem least_mono_succ : ∀ n, least n ≤ least (n + 1)
  | 0 => by decide
  | 1 => by decide
  | n + 2 => by
    have h1 := least_mono_succ n
    have h2 : least (n + 1) ≤ least (n + 2) := least_mono_succ (n + 1)
    show least (n + 2) ≤ least (n + 2) + least (n + 1) + 1
    omega
theorem least_mono {m n : Nat} (h : m ≤ n) : least m ≤ least n := by
  induction h with
  | refl => exact Nat.le_refl _
  | step _ ih => exact Nat.le_trans ih (least_mono_succ _)
theorem Good.least_le : ∀ {t : Tr}, Told t → Bal t → (least t.hi.toNat : Int) ≤ t.cnt
  | nil, _, _ => by simp [hi_nil, least, cnt_nil]
  | node _ _ z h c s l r, ⟨h1, h2, h3, h4, h5⟩, ⟨b1, b2, b3, b4⟩ => by
    have a := Good.least_le h1 b1
    have b := Good.least_le h2 b2
    have nl := h1.hi_nonneg
    have nr := h2.hi_nonneg
    simp only [hi_node, cnt_node]
    by_cases hle : l.hi ≤ r.hi
    · obtain ⟨m, hm⟩ : ∃ m : Nat, r.hi = m := ⟨r.hi.toNat, by omega⟩
      have e1 : h.toNat = m + 1 := by omega
      rw [hm, Int.toNat_natCast] at b
      rw [e1]
      cases m with
      | zero => simp only [least]; omega
      | succ m =>
        have := least_mono (m := m) (n := l.hi.toNat) (by omega)
        show ((least (m + 1) + least m + 1 : Nat) : Int) ≤ c
        omega
    · obtain ⟨m, hm⟩ : ∃ m : Nat, l.hi = m := ⟨l.hi.toNat, by omega⟩
      have e1 : h.toNat = m + 1 := by omega
      rw [hm, Int.toNat_natCast] at a
      rw [e1]
      cases m with
      | zero => simp only [least]; omega
      | succ m =>
        have := least_mono (m := m) (n := r.hi.toNat) (by omega)
        show ((least (m + 1) + least m + 1 : Nat) : Int) ≤ c
        omega
theorem Good.hi_small {t : Tr} (g : Good t) (hc : t.cnt ≤ 1000000) : t.hi ≤ 40 := by
  have h := Good.least_le g.told g.bal
  have hn := g.told.hi_nonneg
  by_cases hh : t.hi ≤ 40
  · exact hh
  · have := least_mono (m := 41) (n := t.hi.toNat) (by omega)
    have e : least 41 = 433494436 := by decide
    omega
theorem sum_items : ∀ {t : Tr}, Told t → t.sum = (t.items.map (·.2)).sum
  | nil, _ => rfl
  | node _ k z h c s l r, ⟨h1, h2, h3, h4, h5⟩ => by
    have a := sum_items h1
    have b := sum_items h2
    simp only [sum_node, items, List.map_append, List.map_cons, List.sum_append, List.sum_cons]
    omega
theorem sized_items : ∀ {t : Tr}, Sized t → ∀ x ∈ t.items, 0 ≤ x.2 ∧ x.2 ≤ 1099511627776
  | nil, _, x, hx => by simp [items] at hx
  | node _ k z h c s l r, ⟨h1, h2, h3, h4⟩, x, hx => by
    simp only [items, List.mem_append, List.mem_cons] at hx
    rcases hx with hx | rfl | hx
    · exact sized_items h1 x hx
    · exact ⟨h3, h4⟩
    · exact sized_items h2 x hx
end Tr
end Go.Own

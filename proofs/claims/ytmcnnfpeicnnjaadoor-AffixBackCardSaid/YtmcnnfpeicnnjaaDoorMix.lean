/- A region that draws its order: what is still (it yields one value in every world of a class) and what acts, the acts one behind the other. One walk in an order of one's own serves every order. -/
import Derived.Tactics
import Derived.Orders
import Derived.Deep.Quiet
import Derived.BigQuiet
import Derived.KernelRfl
namespace Go.Own
set_option linter.unusedVariables false
open Go
section
variable {P : Program} {ops : Array Oper} {C : Nat → World → Prop} {M L : List Nat} {Q : Exit → Act → World → Prop}

/-- In every world of the class it yields this value, and turns nothing. -/
def Still (P : Program) (o : Oper) (a : Act) (C : World → Prop) (v : Value) : Prop := ∀ w, C w → (execOp a.eval o).run P w = .ok (.value v) w

/-- which waits for which: a mask for each operation, checked edge by edge -/
def maskOf (M : List Nat) (i : Nat) : Nat := M.getD i 0
def reachOf (M : List Nat) (o : Oper) : Nat := o.after.toList.foldl (fun acc e => if Region.binds .any e then acc ||| (1 <<< e.on) ||| maskOf M e.on else acc) 0
def masksOk (ops : Array Oper) (M : List Nat) : Bool := (List.range ops.size).all fun i => match ops[i]? with
  | some o => maskOf M i &&& reachOf M o == maskOf M i
  | none => false
def dep (M : List Nat) (i j : Nat) : Bool := (maskOf M i).testBit j

/-- The walk of some operations (index and 'is it still?'), then what R asks. C: for each still operation the worlds in which it yields its value (L: those that ask anything); an act keeps what is asked of those that may come up behind it. -/
def MixR (P : Program) (ops : Array Oper) (C : Nat → World → Prop) (M L : List Nat) (Q : Exit → Act → World → Prop) (R : Act → World → Prop) : List (Nat × Bool) → Act → World → Prop
  | [], a, w => R a w
  | (i, q) :: l, a, w => ∃ o, ops[i]? = some o ∧
      if Region.wanted o (yielded ops a.tmps) then
        (if q then ∃ v, Still P o a (C i) v ∧ C i w ∧ MixR P ops C M L Q R l (a.put o.dst v) w else o.wp P a w (fun a' w' => (∀ x ∈ L, dep M i x = false → C x w → C x w') ∧ MixR P ops C M L Q R l a' w') Q)
      else MixR P ops C M L Q R l (a.put o.dst undef) w
/-- An order of one's own; where two acts may come up, both ways. -/
inductive Ord where
  | done
  | go (i : Nat) (q : Bool) (next : Ord)
  | fork (a b : Ord)
def Ord.run : List (Nat × Bool) → Ord → Ord
  | [], n => n
  | (i, q) :: l, n => .go i q (Ord.run l n)
def Mix (P : Program) (ops : Array Oper) (C : Nat → World → Prop) (M L : List Nat) (Q : Exit → Act → World → Prop) : Ord → Act → World → Prop
  | .done => fun a w => Q .normal a w
  | .go i q n => fun a w => MixR P ops C M L Q (Mix P ops C M L Q n) [(i, q)] a w
  | .fork x y => fun a w => Mix P ops C M L Q x a w ∧ Mix P ops C M L Q y a w

theorem mix_still {i : Nat} {n : Ord} {a : Act} {w : World} (o : Oper) (ho : ops[i]? = some o) (hw : Region.wanted o (yielded ops a.tmps) = true) (v : Value) (hs : Still P o a (C i) v) (hc : C i w)
    (k : Mix P ops C M L Q n (a.put o.dst v) w) : Mix P ops C M L Q (.go i true n) a w := ⟨o, ho, by rw [if_pos hw, if_pos rfl]; exact ⟨v, hs, hc, k⟩⟩
theorem mix_skip {i : Nat} {q : Bool} {n : Ord} {a : Act} {w : World} (o : Oper) (ho : ops[i]? = some o) (hw : Region.wanted o (yielded ops a.tmps) = false)
    (k : Mix P ops C M L Q n (a.put o.dst undef) w) : Mix P ops C M L Q (.go i q n) a w := ⟨o, ho, by rw [if_neg (by rw [hw]; exact Bool.false_ne_true)]; exact k⟩
theorem mix_act {i : Nat} {n : Ord} {a : Act} {w : World} (o : Oper) (ho : ops[i]? = some o) (hw : Region.wanted o (yielded ops a.tmps) = true)
    (k : o.wp P a w (fun a' w' => (∀ x ∈ L, dep M i x = false → C x w → C x w') ∧ Mix P ops C M L Q n a' w') Q) : Mix P ops C M L Q (.go i false n) a w := ⟨o, ho, by rw [if_pos hw, if_neg Bool.false_ne_true]; exact k⟩
theorem mix_fork {x y : Ord} {a : Act} {w : World} (hx : Mix P ops C M L Q x a w) (hy : Mix P ops C M L Q y a w) : Mix P ops C M L Q (.fork x y) a w := ⟨hx, hy⟩
theorem mixR_append (R : Act → World → Prop) : ∀ (l m : List (Nat × Bool)) (a : Act) (w : World), MixR P ops C M L Q R (l ++ m) a w = MixR P ops C M L Q (MixR P ops C M L Q R m) l a w
  | [], m, a, w => rfl
  | (i, q) :: l, m, a, w => by simp only [List.cons_append, MixR, mixR_append R l m]

/-- What an operation has left does not stand in another's way. -/
theorem wpOp_past {j : Nat} {oj : Oper} {dst : Option Tmp} {v : Value} (hj : ops[j]? = some oj) (h1 : ∀ d, dst = some d → d ∉ oj.looksAt ops) (h2 : ∀ d, dst = some d → oj.dst ≠ some d)
    (hsj : ∀ cs b, oj.op ≠ .select cs b) (hQ : ∀ c a w, Q (.panic c) (a.put dst v) w → Q (.panic c) a w) {K : Act → World → Prop} {a : Act} {w : World}
    (h : wpOp P ops Q j K (a.put dst v) w) : wpOp P ops Q j (fun a' w' => K (a'.put dst v) w') a w := by
  have hap : (⟨dst, .move (.const v), 0, "", #[], none⟩ : Oper).apart ops oj = true := by
    have e : (⟨dst, .move (.const v), 0, "", #[], none⟩ : Oper).looksAt ops = [] := by simp [Oper.looksAt, Op.operands]
    unfold Oper.apart
    rw [e]
    cases dst with
    | none => cases oj.dst <;> simp
    | some d =>
      have := h1 d rfl
      have := h2 d rfl
      cases hd : oj.dst <;> simp_all
  have hy : Yields P ops (⟨dst, .move (.const v), 0, "", #[], none⟩ : Oper) v a := by
    refine .inl ⟨by simp [Region.wanted], fun w => ?_⟩
    simp [execOp, Act.eval]
  exact wpOp_mono (fun _ _ h => h.2) (wpOp_put (oi := ⟨dst, .move (.const v), 0, "", #[], none⟩) hj hap (fun cs b => by simp) hsj hQ hy h)

theorem reach_spec (M : List Nat) (j : Nat) : ∀ (es : List Edge) (acc : Nat), (es.foldl (fun acc e => if Region.binds .any e then acc ||| (1 <<< e.on) ||| maskOf M e.on else acc) acc).testBit j = true →
    acc.testBit j = true ∨ ∃ e ∈ es, Region.binds .any e = true ∧ (e.on = j ∨ dep M e.on j = true) := by
  intro es
  induction es with
  | nil => intro acc h; exact .inl h
  | cons e es ih =>
    intro acc h
    rcases ih _ h with h | ⟨e', he', h⟩
    · dsimp only at h
      split at h
      · rename_i hb
        rw [Nat.testBit_or, Nat.testBit_or, Bool.or_eq_true, Bool.or_eq_true] at h
        rcases h with (h | h) | h
        · exact .inl h
        · refine .inr ⟨e, by simp, hb, .inl ?_⟩
          rw [Nat.testBit_shiftLeft] at h
          simp only [Bool.and_eq_true, decide_eq_true_eq] at h
          obtain ⟨h1, h2⟩ := h
          rw [Nat.testBit_one_eq_true_iff_self_eq_zero] at h2
          omega
        · exact .inr ⟨e, by simp, hb, .inr h⟩
      · exact .inl h
    · exact .inr ⟨e', by simp [he'], h⟩

theorem dep_spec {M : List Nat} (h : masksOk ops M = true) {i j : Nat} (hi : i < ops.size) (hd : dep M i j = true) : ∃ o, ops[i]? = some o ∧ ∃ e ∈ o.after, Region.binds .any e = true ∧ (e.on = j ∨ dep M e.on j = true) := by
  have h1 := List.all_eq_true.1 h i (List.mem_range.2 hi)
  have ho : ops[i]? = some ops[i] := Array.getElem?_eq_getElem hi
  rw [ho] at h1
  simp only [beq_iff_eq] at h1
  refine ⟨_, ho, ?_⟩
  have h2 : (reachOf M ops[i]).testBit j = true := by
    unfold dep at hd
    rw [← h1, Nat.testBit_and, Bool.and_eq_true] at hd
    exact hd.2
  rcases reach_spec M j _ 0 h2 with h3 | ⟨e, he, h3⟩
  · simp at h3
  · exact ⟨e, Array.mem_toList_iff.1 he, h3⟩

def onceB : List Nat → Bool
  | [] => true
  | x :: l => !l.contains x && onceB l
theorem onceB_nodup : ∀ l : List Nat, onceB l = true → l.Nodup
  | [], _ => List.nodup_nil
  | x :: l, h => by
    simp only [onceB, Bool.and_eq_true, Bool.not_eq_true'] at h
    refine List.nodup_cons.2 ⟨fun hm => ?_, onceB_nodup l h.2⟩
    have := List.contains_iff_mem.2 hm
    rw [h.1] at this; cases this
/-- may y come ahead of x though x stands ahead in the order of ours? never; or x is still, and they are apart -/
def pairOk (ops : Array Oper) (M : List Nat) (x y : Nat) : Bool :=
  match ops[x]?, ops[y]? with
  | some ox, some oy => dep M y x || ox.apart ops oy
  | _, _ => false
def Ord.names : Ord → List Nat
  | .done => []
  | .go i _ n => i :: n.names
  | .fork a _ => a.names
def edgeFree (ops : Array Oper) (x y : Nat) : Bool := match ops[x]? with
  | some ox => !(ox.after.any fun e => Region.binds .any e && e.on == y)
  | none => false
/-- pre: the still ones that may be pending; each later one may pass them; what stands behind an act waits for it; at a fork one of two is next -/
def Ord.ok (ops : Array Oper) (M : List Nat) : List Nat → Ord → Bool
  | _, .done => true
  | pre, .go i q n => pre.all (fun x => pairOk ops M x i) && n.names.all (fun j => edgeFree ops i j) && !n.names.contains i &&
      (if q then n.ok ops M (pre ++ [i]) else n.names.all (fun j => dep M j i) && n.ok ops M pre)
  | pre, .fork a b => match a, b with
      | .go i p n, .go j q m => (List.range ops.size).all (fun k => !(i :: n.names).contains k || k == i || k == j || dep M k i || dep M k j) &&
          pre.all (fun x => pairOk ops M x i && pairOk ops M x j) && (i :: n.names).all (fun k => (j :: m.names).contains k) && (j :: m.names).all (fun k => (i :: n.names).contains k) &&
          !n.names.contains i && !m.names.contains j && n.names.all (fun k => edgeFree ops i k) && n.ok ops M pre && m.ok ops M pre && decide (n.names.length = m.names.length) && onceB (j :: m.names)
      | _, _ => false
def edgesOk (ops : Array Oper) : Bool := (List.range ops.size).all fun i => match ops[i]? with
  | some o => o.after.all fun e => decide (e.on < ops.size) && e.on != i
  | none => false
def allOnce (n : Nat) (ord : List Nat) : Bool := (List.range n).all (fun i => ord.contains i) && ord.all (fun x => decide (x < n)) && (decide (ord.length = n) && onceB ord)
def mixOk (ops : Array Oper) (M : List Nat) (ord : Ord) : Bool :=
  Region.noSelect ops && masksOk ops M && edgesOk ops && ord.ok ops M [] && allOnce ops.size ord.names

theorem mixR_still {R : Act → World → Prop} {i : Nat} {l : List (Nat × Bool)} {a : Act} {w : World} (o : Oper) (ho : ops[i]? = some o) (hw : Region.wanted o (yielded ops a.tmps) = true) (v : Value) (hs : Still P o a (C i) v) (hc : C i w)
    (k : MixR P ops C M L Q R l (a.put o.dst v) w) : MixR P ops C M L Q R ((i, true) :: l) a w := ⟨o, ho, by rw [if_pos hw, if_pos rfl]; exact ⟨v, hs, hc, k⟩⟩
theorem mixR_skip {R : Act → World → Prop} {i : Nat} {q : Bool} {l : List (Nat × Bool)} {a : Act} {w : World} (o : Oper) (ho : ops[i]? = some o) (hw : Region.wanted o (yielded ops a.tmps) = false)
    (k : MixR P ops C M L Q R l (a.put o.dst undef) w) : MixR P ops C M L Q R ((i, q) :: l) a w := ⟨o, ho, by rw [if_neg (by rw [hw]; exact Bool.false_ne_true)]; exact k⟩
theorem mixR_mono {R R' : Act → World → Prop} (h : ∀ a w, R a w → R' a w) : ∀ (l : List (Nat × Bool)) (a : Act) (w : World), MixR P ops C M L Q R l a w → MixR P ops C M L Q R' l a w
  | [], a, w, hh => h a w hh
  | (i, q) :: l, a, w, hh => by
    obtain ⟨o, ho, hh⟩ := hh
    refine ⟨o, ho, ?_⟩
    split at hh
    · rename_i hw
      rw [if_pos hw]
      cases q with
      | true => simp only [if_true] at hh ⊢; obtain ⟨v, hs, hc, k⟩ := hh; exact ⟨v, hs, hc, mixR_mono h l _ _ k⟩
      | false => simp only [Bool.false_eq_true, if_false] at hh ⊢; exact Oper.wp_mono (fun a w hk => ⟨hk.1, mixR_mono h l a w hk.2⟩) hh
    · rename_i hw
      rw [if_neg hw]
      exact mixR_mono h l _ _ hh
/-- What may come up now comes up; what stood ahead of it in our order was still and is apart. -/
theorem mix_pull {R : Act → World → Prop} (hsel : Region.noSelect ops = true) (hQ : ∀ dst v c a w, Q (.panic c) (Act.put a dst v) w → Q (.panic c) a w) (hT : ∀ x, x ∉ L → ∀ w, C x w) {i : Nat} {q : Bool} {oi : Oper} (hi : ops[i]? = some oi) (post : List (Nat × Bool)) (pre : List (Nat × Bool)) :
    ∀ (a : Act) (w : World), (∀ x ∈ pre, x.2 = true ∧ dep M i x.1 = false ∧ ∃ ox, ops[x.1]? = some ox ∧ ox.apart ops oi = true) → MixR P ops C M L Q R (pre ++ (i, q) :: post) a w →
      wpOp P ops Q i (fun a' w' => (∀ x ∈ L, dep M i x = false → C x w → C x w') ∧ MixR P ops C M L Q R (pre ++ post) a' w') a w := by
  induction pre with
  | nil =>
    intro a w _ h
    obtain ⟨o, ho, h⟩ := h
    obtain rfl : oi = o := Option.some.inj (hi.symm.trans ho)
    unfold wpOp
    simp only [hi]
    split at h
    · rename_i hw
      rw [if_pos hw]
      left
      cases q with
      | false => simpa using h
      | true =>
        simp only [if_true] at h
        obtain ⟨v, hs, hc, k⟩ := h
        unfold Oper.wp
        rw [hs w hc]
        exact ⟨fun _ _ _ h => h, k⟩
    · rename_i hw
      rw [if_neg hw]
      exact ⟨fun _ _ _ h => h, h⟩
  | cons x pre ih =>
    intro a w hpre h
    obtain ⟨j, qj⟩ := x
    obtain ⟨hq, hdj, oj, hj, hap⟩ := hpre (j, qj) (by simp)
    simp only at hq hj hdj
    subst hq
    obtain ⟨o, ho, h⟩ := h
    obtain rfl : oj = o := Option.some.inj (hj.symm.trans ho)
    obtain ⟨p1, p2, p3⟩ := Oper.apart_spec hap
    have hsi := Region.noSelect_spec hsel i oi
    have hsj := Region.noSelect_spec hsel j oj
    have keepW : ∀ (a : Act) u, Region.wanted oj (yielded ops (a.put oi.dst u).tmps) = Region.wanted oj (yielded ops a.tmps) := fun a u => wanted_put oj a oi.dst u p3
    have core : ∀ (v : Value), (∀ a' : Act, (execOp a'.eval oj = execOp a.eval oj) → Region.wanted oj (yielded ops a'.tmps) = Region.wanted oj (yielded ops a.tmps) → ∀ w', (∀ x ∈ L, dep M i x = false → C x w → C x w') → MixR P ops C M L Q R (pre ++ post) (a'.put oj.dst v) w' → MixR P ops C M L Q R ((j, true) :: (pre ++ post)) a' w') →
        MixR P ops C M L Q R (pre ++ (i, q) :: post) (a.put oj.dst v) w → wpOp P ops Q i (fun a' w' => (∀ x ∈ L, dep M i x = false → C x w → C x w') ∧ MixR P ops C M L Q R ((j, true) :: (pre ++ post)) a' w') a w := by
      intro v back hrest
      have h1 := ih (a.put oj.dst v) w (fun x hx => hpre x (by simp [hx])) hrest
      have h2 := wpOp_past hi p1 p2 (fun cs b => hsi cs b hi) (fun c a w h => hQ _ _ c a w h) h1
      unfold wpOp at h2 ⊢
      simp only [hi] at h2 ⊢
      split
      · rename_i hw
        simp only [hw, if_true] at h2
        rcases h2 with h2 | h2
        case inr => exact .inr h2
        left
        unfold Oper.wp at h2 ⊢
        generalize (execOp a.eval oi).run P w = r at h2 ⊢
        cases r with
        | ok n w' =>
          cases n <;> simp only [Oper.upon] at h2 ⊢
          case value u => exact ⟨h2.1, back _ (execOp_put oj (fun cs b => hsj cs b hj) a oi.dst u p3) (keepW a u) _ h2.1 h2.2⟩
          case skip => exact ⟨h2.1, back _ (execOp_put oj (fun cs b => hsj cs b hj) a oi.dst undef p3) (keepW a undef) _ h2.1 h2.2⟩
          case defer d =>
            refine ⟨h2.1, back _ ?_ ?_ _ h2.1 h2.2⟩
            · exact (execOp_put oj (fun cs b => hsj cs b hj) { a with defers := d :: a.defers } oi.dst undef p3).trans rfl
            · exact (keepW { a with defers := d :: a.defers } undef).trans rfl
          case enter f args =>
            refine Calls.mono h2 fun e w'' he => ?_
            cases e with
            | returned u => exact ⟨he.1, back _ (execOp_put oj (fun cs b => hsj cs b hj) a oi.dst u p3) (keepW a u) _ he.1 he.2⟩
            | panicked c => exact he
            | outgrown => exact he
          case row row args => exact Rows.mono h2 fun u w'' he => ⟨he.1, back _ (execOp_put oj (fun cs b => hsj cs b hj) a oi.dst u p3) (keepW a u) _ he.1 he.2⟩
        | halt x w' => cases x <;> simp only [Oper.upon] at h2 ⊢ <;> exact h2
      · rename_i hw
        simp only [hw] at h2
        exact ⟨h2.1, back _ (execOp_put oj (fun cs b => hsj cs b hj) a oi.dst undef p3) (keepW a undef) _ h2.1 h2.2⟩
    split at h
    · rename_i hw
      simp only [if_true] at h
      obtain ⟨v, hs, hc, k⟩ := h
      refine core v (fun a' e1 e2 w' hk hm => mixR_still oj hj (e2.trans hw) v (fun w hw => ?_) ?_ hm) k
      · rw [e1]; exact hs w hw
      · by_cases hL : j ∈ L
        · exact hk j hL hdj hc
        · exact hT j hL w'
    · rename_i hw
      refine core undef (fun a' e1 e2 w' _ hk => mixR_skip oj hj (e2.trans (by simpa using hw)) hk) h

def stills (l : List Nat) : List (Nat × Bool) := l.map (·, true)
theorem ok_mono {M : List Nat} : ∀ (t : Ord) (pre pre' : List Nat), (∀ x ∈ pre', x ∈ pre) → t.ok ops M pre = true → t.ok ops M pre' = true
  | .done, _, _, _, _ => by simp [Ord.ok]
  | .go i q n, pre, pre', hs, h => by
    simp only [Ord.ok, Bool.and_eq_true, List.all_eq_true] at h ⊢
    obtain ⟨⟨⟨h1, h2⟩, h3⟩, h4⟩ := h
    refine ⟨⟨⟨fun x hx => h1 x (hs x hx), h2⟩, h3⟩, ?_⟩
    cases q with
    | true =>
      simp only [if_true] at h4 ⊢
      refine ok_mono n _ _ (fun x hx => ?_) h4
      rcases List.mem_append.1 hx with hx | hx
      · exact List.mem_append_left _ (hs x hx)
      · exact List.mem_append_right _ hx
    | false =>
      simp only [Bool.false_eq_true, if_false, Bool.and_eq_true] at h4 ⊢
      exact ⟨h4.1, ok_mono n _ _ hs h4.2⟩
  | .fork a b, pre, pre', hs, h => by
    cases a with
    | done => simp [Ord.ok] at h
    | fork _ _ => simp [Ord.ok] at h
    | go i p n =>
      cases b with
      | done => simp [Ord.ok] at h
      | fork _ _ => simp [Ord.ok] at h
      | go j q m =>
        simp only [Ord.ok, Bool.and_eq_true] at h ⊢
        obtain ⟨⟨⟨⟨⟨⟨⟨⟨⟨⟨h1, h2⟩, h3⟩, h4⟩, h5⟩, h6⟩, h7⟩, h8⟩, h9⟩, h10⟩, h11⟩ := h
        refine ⟨⟨⟨⟨⟨⟨⟨⟨⟨⟨h1, ?_⟩, h3⟩, h4⟩, h5⟩, h6⟩, h7⟩, ok_mono n _ _ hs h8⟩, ok_mono m _ _ hs h9⟩, h10⟩, h11⟩
        rw [List.all_eq_true] at h2 ⊢
        exact fun x hx => h2 x (hs x hx)

/-- what is left of an order of ours: pending still ones, and a tree -/
structure Sh (ops : Array Oper) (M : List Nat) (pre : List Nat) (t : Ord) : Prop where
  lt : ∀ i ∈ pre ++ t.names, i < ops.size
  once : (pre ++ t.names).Nodup
  ok : t.ok ops M pre = true
  pairs : pre.Pairwise (fun x y => pairOk ops M x y = true ∧ edgeFree ops x y = true)
  edges : ∀ x ∈ pre, ∀ y ∈ t.names, edgeFree ops x y = true

theorem apart_of_pairOk {M : List Nat} {x i : Nat} {oi : Oper} (hi : ops[i]? = some oi) (h : pairOk ops M x i = true) (hd : dep M i x = false) : ∃ ox, ops[x]? = some ox ∧ ox.apart ops oi = true := by
  unfold pairOk at h
  rw [hi] at h
  cases hx : ops[x]? with
  | none => rw [hx] at h; simp at h
  | some ox => rw [hx] at h; simp only [hd, Bool.false_or] at h; exact ⟨ox, rfl, h⟩

theorem ord_find (hsel : Region.noSelect ops = true) (hQ : ∀ dst v c a w, Q (.panic c) (Act.put a dst v) w → Q (.panic c) a w) (hT : ∀ x, x ∉ L → ∀ w, C x w) {i : Nat} {oi : Oper} (hi : ops[i]? = some oi) : ∀ (t : Ord) (pre : List Nat), Sh ops M pre t → i ∈ t.names →
    (∀ j ∈ pre ++ t.names, dep M i j = false) → ∃ pre' t', Sh ops M pre' t' ∧ (∀ k, k ∈ pre ++ t.names ↔ k = i ∨ k ∈ pre' ++ t'.names) ∧ i ∉ pre' ++ t'.names ∧ (pre ++ t.names).length = (pre' ++ t'.names).length + 1 ∧
      ∀ (a : Act) (w : World), MixR P ops C M L Q (Mix P ops C M L Q t) (stills pre) a w → wpOp P ops Q i (fun a' w' => (∀ x ∈ L, dep M i x = false → C x w → C x w') ∧ MixR P ops C M L Q (Mix P ops C M L Q t') (stills pre') a' w') a w
  | .done, pre, _, h, _ => by simp [Ord.names] at h
  | .go j q n, pre, sh, him, hnd => by
    have hok := sh.ok
    simp only [Ord.ok, Bool.and_eq_true, List.all_eq_true] at hok
    obtain ⟨⟨⟨h1, h2⟩, h3⟩, h4⟩ := hok
    have honce := sh.once
    simp only [Ord.names] at honce
    by_cases hij : j = i
    · subst hij
      have hn2 := List.nodup_append.1 honce
      have hni : j ∉ pre ++ n.names := by
        intro hm
        rcases List.mem_append.1 hm with hm | hm
        · exact hn2.2.2 j hm j (by simp) rfl
        · exact (List.nodup_cons.1 hn2.2.1).1 hm
      refine ⟨pre, n, ⟨fun k hk => sh.lt k ?_, ?_, ?_, sh.pairs, fun x hx y hy => sh.edges x hx y (by simp [Ord.names, hy])⟩, fun k => ?_, hni, by simp [Ord.names]; omega, fun a w h => ?_⟩
      · rcases List.mem_append.1 hk with hk | hk
        · exact List.mem_append_left _ hk
        · exact List.mem_append_right _ (by simp [Ord.names, hk])
      · rw [List.nodup_append]
        exact ⟨hn2.1, (List.nodup_cons.1 hn2.2.1).2, fun x hx y hy => hn2.2.2 x hx y (List.mem_cons_of_mem _ hy)⟩
      · cases q with
        | true => simp only [if_true] at h4; exact ok_mono n _ _ (fun x hx => List.mem_append_left _ hx) h4
        | false => simp only [Bool.false_eq_true, if_false, Bool.and_eq_true] at h4; exact h4.2
      · simp only [Ord.names, List.mem_append, List.mem_cons]
        constructor
        · rintro (h | h | h) <;> simp [h]
        · rintro (h | h | h) <;> simp [h]
      · have h' : MixR P ops C M L Q (Mix P ops C M L Q n) (stills pre ++ (j, q) :: []) a w := by rw [mixR_append]; exact h
        have := mix_pull (R := Mix P ops C M L Q n) hsel hQ hT hi [] (stills pre) a w (fun x hx => by
          obtain ⟨y, hy, rfl⟩ := List.mem_map.1 hx
          exact ⟨rfl, hnd y (List.mem_append_left _ hy), apart_of_pairOk hi (h1 y hy) (hnd y (List.mem_append_left _ hy))⟩) h'
        simpa using this
    · have him' : i ∈ n.names := by
        simp only [Ord.names, List.mem_cons] at him
        rcases him with h | h
        · exact absurd h.symm hij
        · exact h
      cases q with
      | false =>
        simp only [Bool.false_eq_true, if_false, Bool.and_eq_true, List.all_eq_true] at h4
        have := h4.1 i him'
        rw [hnd j (List.mem_append_right _ (by simp [Ord.names]))] at this
        cases this
      | true =>
        simp only [if_true] at h4
        have e : (pre ++ [j]) ++ n.names = pre ++ (Ord.go j true n).names := by simp [Ord.names]
        have sh' : Sh ops M (pre ++ [j]) n := by
          refine ⟨fun k hk => sh.lt k (by rw [← e]; exact hk), by rw [e]; exact sh.once, h4, ?_, fun x hx y hy => ?_⟩
          · rw [List.pairwise_append]
            exact ⟨sh.pairs, List.pairwise_singleton _ _, fun x hx y hy => by
              rw [List.mem_singleton.1 hy]
              exact ⟨h1 x hx, sh.edges x hx j (by simp [Ord.names])⟩⟩
          · rcases List.mem_append.1 hx with hx | hx
            · exact sh.edges x hx y (by simp [Ord.names, hy])
            · rw [List.mem_singleton.1 hx]; exact h2 y hy
        obtain ⟨pre', t', s1, s2, s3, s4, s5⟩ := ord_find hsel hQ hT hi n (pre ++ [j]) sh' him' (by rw [e]; exact hnd)
        refine ⟨pre', t', s1, by rw [← e]; exact s2, s3, by rw [← e]; exact s4, fun a w h => s5 a w ?_⟩
        unfold stills
        rw [List.map_append, mixR_append]
        exact h
  | .fork x y, pre, sh, him, hnd => by
    have hok := sh.ok
    cases x with
    | done => simp [Ord.ok] at hok
    | fork _ _ => simp [Ord.ok] at hok
    | go i1 p n =>
      cases y with
      | done => simp [Ord.ok] at hok
      | fork _ _ => simp [Ord.ok] at hok
      | go j1 q m =>
        simp only [Ord.ok, Bool.and_eq_true] at hok
        obtain ⟨⟨⟨⟨⟨⟨⟨⟨⟨⟨h1, h2⟩, h3⟩, h4⟩, h5⟩, h6⟩, h7⟩, h8⟩, h9⟩, h10⟩, h11⟩ := hok
        have enames : (Ord.fork (.go i1 p n) (.go j1 q m)).names = i1 :: n.names := rfl
        rw [enames] at him hnd
        have honce := sh.once
        rw [enames] at honce
        have hn2 := List.nodup_append.1 honce
        rw [List.all_eq_true] at h2 h3 h4 h7
        have j1mem : j1 ∈ i1 :: n.names := by have := h4 j1 (by simp); simpa using this
        have hcase : i = i1 ∨ i = j1 := by
          have hlt := sh.lt i (by rw [enames]; exact List.mem_append_right _ him)
          rw [List.all_eq_true] at h1
          have := h1 i (List.mem_range.2 hlt)
          simp only [Bool.or_eq_true, Bool.not_eq_true', beq_iff_eq] at this
          rcases this with (((h | h) | h) | h) | h
          · have h' : (i1 :: n.names).contains i = true := List.contains_iff_mem.2 him
            rw [h'] at h; cases h
          · exact .inl h
          · exact .inr h
          · rw [hnd i1 (by simp)] at h; cases h
          · rw [hnd j1 (List.mem_append_right _ j1mem)] at h; cases h
        rcases hcase with rfl | rfl
        · have hni : i ∉ pre ++ n.names := by
            intro hm
            rcases List.mem_append.1 hm with hm | hm
            · exact hn2.2.2 i hm i (by simp) rfl
            · exact (List.nodup_cons.1 hn2.2.1).1 hm
          refine ⟨pre, n, ⟨fun k hk => sh.lt k ?_, ?_, h8, sh.pairs, fun x hx y hy => sh.edges x hx y (by rw [enames]; simp [hy])⟩, fun k => ?_, hni, by rw [enames]; simp; omega, fun a w h => ?_⟩
          · rw [enames]
            rcases List.mem_append.1 hk with hk | hk
            · exact List.mem_append_left _ hk
            · exact List.mem_append_right _ (by simp [hk])
          · rw [List.nodup_append]
            exact ⟨hn2.1, (List.nodup_cons.1 hn2.2.1).2, fun x hx y hy => hn2.2.2 x hx y (List.mem_cons_of_mem _ hy)⟩
          · rw [enames]; simp only [List.mem_append, List.mem_cons]
            constructor
            · rintro (h | h | h) <;> simp [h]
            · rintro (h | h | h) <;> simp [h]
          · have h0 : MixR P ops C M L Q (Mix P ops C M L Q (.go i p n)) (stills pre) a w := mixR_mono (fun a w h => h.1) _ _ _ h
            have h' : MixR P ops C M L Q (Mix P ops C M L Q n) (stills pre ++ (i, p) :: []) a w := by rw [mixR_append]; exact h0
            have := mix_pull (R := Mix P ops C M L Q n) hsel hQ hT hi [] (stills pre) a w (fun x hx => by
              obtain ⟨y, hy, rfl⟩ := List.mem_map.1 hx
              have := h2 y hy
              simp only [Bool.and_eq_true] at this
              exact ⟨rfl, hnd y (List.mem_append_left _ hy), apart_of_pairOk hi this.1 (hnd y (List.mem_append_left _ hy))⟩) h'
            simpa using this
        · have hmo := onceB_nodup _ h11
          have mset : ∀ k, k ∈ i :: m.names ↔ k ∈ i1 :: n.names := by
            intro k
            constructor
            · intro hk; have := h4 k hk; simpa using this
            · intro hk; have := h3 k hk; simpa using this
          have hni : i ∉ pre ++ m.names := by
            intro hm
            rcases List.mem_append.1 hm with hm | hm
            · exact hn2.2.2 i hm i j1mem rfl
            · exact (List.nodup_cons.1 hmo).1 hm
          refine ⟨pre, m, ⟨fun k hk => sh.lt k ?_, ?_, h9, sh.pairs, fun x hx y hy => sh.edges x hx y (by rw [enames]; exact (mset y).1 (by simp [hy]))⟩, fun k => ?_, hni, by rw [enames]; simp at h10 ⊢; omega, fun a w h => ?_⟩
          · rw [enames]
            rcases List.mem_append.1 hk with hk | hk
            · exact List.mem_append_left _ hk
            · exact List.mem_append_right _ ((mset k).1 (by simp [hk]))
          · rw [List.nodup_append]
            exact ⟨hn2.1, (List.nodup_cons.1 hmo).2, fun x hx y hy => hn2.2.2 x hx y ((mset y).1 (List.mem_cons_of_mem _ hy))⟩
          · rw [enames, List.mem_append, ← mset k, List.mem_append, List.mem_cons]
            constructor
            · rintro (h | h | h) <;> simp [h]
            · rintro (h | h | h) <;> simp [h]
          · have h0 : MixR P ops C M L Q (Mix P ops C M L Q (.go i q m)) (stills pre) a w := mixR_mono (fun a w h => h.2) _ _ _ h
            have h' : MixR P ops C M L Q (Mix P ops C M L Q m) (stills pre ++ (i, q) :: []) a w := by rw [mixR_append]; exact h0
            have := mix_pull (R := Mix P ops C M L Q m) hsel hQ hT hi [] (stills pre) a w (fun x hx => by
              obtain ⟨y, hy, rfl⟩ := List.mem_map.1 hx
              have := h2 y hy
              simp only [Bool.and_eq_true] at this
              exact ⟨rfl, hnd y (List.mem_append_left _ hy), apart_of_pairOk hi this.2 (hnd y (List.mem_append_left _ hy))⟩) h'
            simpa using this

/-- how things stand: which operations are still to come up -/
structure MixInv (ops : Array Oper) (M : List Nat) (pre : List Nat) (t : Ord) (listed : Array Bool) : Prop where
  sh : Sh ops M pre t
  size : listed.size = ops.size
  un : ∀ i, i < ops.size → (listed.getD i true = false ↔ i ∈ pre ++ t.names)
  closed : ∀ i, i < ops.size → listed.getD i true = true → ∀ j, j < ops.size → dep M i j = true → listed.getD j true = true

/-- the first of what is left waits for nothing of it -/
theorem head_free {M : List Nat} {pre : List Nat} {t : Ord} (sh : Sh ops M pre t) {n : Nat} (hn : (pre ++ t.names).length = n + 1) : ∃ j ∈ pre ++ t.names, ∀ y ∈ pre ++ t.names, y = j ∨ edgeFree ops j y = true := by
  cases pre with
  | cons x pre =>
    refine ⟨x, by simp, fun y hy => ?_⟩
    simp only [List.cons_append, List.mem_cons, List.mem_append] at hy
    rcases hy with rfl | hy | hy
    · exact .inl rfl
    · exact .inr ((List.pairwise_cons.1 sh.pairs).1 y hy).2
    · exact .inr (sh.edges x (by simp) y hy)
  | nil =>
    cases t with
    | done => simp [Ord.names] at hn
    | go i q m =>
      have hok := sh.ok
      simp only [Ord.ok, Bool.and_eq_true, List.all_eq_true] at hok
      refine ⟨i, by simp [Ord.names], fun y hy => ?_⟩
      simp only [List.nil_append, Ord.names, List.mem_cons] at hy
      rcases hy with rfl | hy
      · exact .inl rfl
      · exact .inr (hok.1.1.2 y hy)
    | fork x y =>
      have hok := sh.ok
      cases x with
      | done => simp [Ord.ok] at hok
      | fork _ _ => simp [Ord.ok] at hok
      | go i1 p n1 =>
        cases y with
        | done => simp [Ord.ok] at hok
        | fork _ _ => simp [Ord.ok] at hok
        | go j1 q m =>
          simp only [Ord.ok, Bool.and_eq_true] at hok
          obtain ⟨⟨⟨⟨⟨⟨⟨⟨⟨⟨_, _⟩, _⟩, _⟩, _⟩, _⟩, h7⟩, _⟩, _⟩, _⟩, _⟩ := hok
          rw [List.all_eq_true] at h7
          refine ⟨i1, by simp [Ord.names], fun y hy => ?_⟩
          simp only [List.nil_append, Ord.names, List.mem_cons] at hy
          rcases hy with rfl | hy
          · exact .inl rfl
          · exact .inr (h7 y hy)

theorem mix_sound (hsel : Region.noSelect ops = true) (hm : masksOk ops M = true) (he : edgesOk ops = true) (hQ : ∀ dst v c a w, Q (.panic c) (Act.put a dst v) w → Q (.panic c) a w) (hT : ∀ x, x ∉ L → ∀ w, C x w) (n : Nat) :
    ∀ (pre : List Nat) (t : Ord) (listed : Array Bool) (a : Act) (w : World), (pre ++ t.names).length = n → MixInv ops M pre t listed → MixR P ops C M L Q (Mix P ops C M L Q t) (stills pre) a w → wpAny P .any ops Q n listed a w := by
  induction n with
  | zero =>
    intro pre t listed a w hl inv h
    have hnil := List.eq_nil_of_length_eq_zero hl
    obtain ⟨rfl, ht⟩ := List.append_eq_nil_iff.1 hnil
    have htd : t = .done := by
      cases t with
      | done => rfl
      | go i q n => simp [Ord.names] at ht
      | fork x y =>
        exfalso
        have hok := inv.sh.ok
        cases x with
        | done => simp [Ord.ok] at hok
        | fork _ _ => simp [Ord.ok] at hok
        | go i1 p n1 => simp [Ord.names] at ht
    subst htd
    refine ⟨?_, h⟩
    rw [List.eq_nil_iff_forall_not_mem]
    intro j hj
    obtain ⟨h1, o, ho, _⟩ := mem_ready.1 hj
    have := (inv.un j (Array.getElem?_eq_some_iff.1 ho).1).1 h1
    rw [hnil] at this
    cases this
  | succ n ih =>
    intro pre t listed a w hl inv h
    refine ⟨fun hr => ?_, fun i hi => ?_⟩
    · exfalso
      obtain ⟨j, hj, hfree⟩ := head_free inv.sh hl
      have hjlt := inv.sh.lt j hj
      have hoj : ops[j]? = some ops[j] := Array.getElem?_eq_getElem hjlt
      have hmem : j ∈ Region.ready .any ops listed := by
        refine mem_ready.2 ⟨(inv.un j hjlt).2 hj, _, hoj, fun e hee hb => ?_⟩
        have h1 := List.all_eq_true.1 he j (List.mem_range.2 hjlt)
        rw [hoj] at h1
        simp only [Array.all_eq_true_iff_forall_mem, Bool.and_eq_true, decide_eq_true_eq] at h1
        obtain ⟨h2, h3⟩ := h1 e hee
        cases hc : listed.getD e.on true with
        | true =>
          have : e.on < listed.size := by rw [inv.size]; exact h2
          simp [this] at hc ⊢; exact hc
        | false =>
          exfalso
          rcases hfree e.on ((inv.un e.on h2).1 hc) with h4 | h4
          · simp [h4] at h3
          · simp only [edgeFree, hoj, Bool.not_eq_true'] at h4
            rw [Array.any_eq_false'] at h4
            exact h4 e hee (by simp [hb])
      rw [hr] at hmem
      cases hmem
    · obtain ⟨hun, oi, hoi, hall⟩ := mem_ready.1 hi
      have hilt := (Array.getElem?_eq_some_iff.1 hoi).1
      have him := (inv.un i hilt).1 hun
      have listedOf : ∀ e ∈ oi.after, Region.binds .any e = true → e.on < ops.size ∧ listed.getD e.on true = true := by
        intro e hee hb
        have h1 := hall e hee hb
        have : e.on < listed.size := by
          rcases Nat.lt_or_ge e.on listed.size with h' | h'
          · exact h'
          · simp [Array.getElem?_eq_none h'] at h1
        refine ⟨by rw [← inv.size]; exact this, ?_⟩
        simp [this] at h1 ⊢; exact h1
      have depListed : ∀ j, j < ops.size → dep M i j = true → listed.getD j true = true := by
        intro j hj hd
        obtain ⟨o, ho, e, hee, hb, h1⟩ := dep_spec hm hilt hd
        obtain rfl : oi = o := Option.some.inj (hoi.symm.trans ho)
        obtain ⟨h2, h3⟩ := listedOf e hee hb
        rcases h1 with h1 | h1
        · rw [← h1]; exact h3
        · exact inv.closed _ h2 h3 j hj h1
      have nodep : ∀ j ∈ pre ++ t.names, dep M i j = false := by
        intro j hj
        cases hd : dep M i j with
        | false => rfl
        | true =>
          have hlt := inv.sh.lt j hj
          have h2 := depListed j hlt hd
          have h3 := (inv.un j hlt).2 hj
          rw [h2] at h3; cases h3
      -- how things stand behind it
      have key : ∃ pre' t', Sh ops M pre' t' ∧ (∀ k, k ∈ pre ++ t.names ↔ k = i ∨ k ∈ pre' ++ t'.names) ∧ i ∉ pre' ++ t'.names ∧ (pre ++ t.names).length = (pre' ++ t'.names).length + 1 ∧
          wpOp P ops Q i (fun a' w' => (∀ x ∈ L, dep M i x = false → C x w → C x w') ∧ MixR P ops C M L Q (Mix P ops C M L Q t') (stills pre') a' w') a w := by
        rcases List.mem_append.1 him with hip | hit
        · obtain ⟨p1, p2, rfl⟩ := List.append_of_mem hip
          have hpw := List.pairwise_append.1 inv.sh.pairs
          have hnd := inv.sh.once
          have hnotin : i ∉ p1 ++ p2 ++ t.names := by
            intro hm'
            rw [List.append_assoc, List.cons_append] at hnd
            have hn2 := List.nodup_append.1 hnd
            have hc := List.nodup_cons.1 hn2.2.1
            rw [List.append_assoc] at hm'
            rcases List.mem_append.1 hm' with h' | h'
            · exact hn2.2.2 i h' i (by simp) rfl
            · exact hc.1 h'
          refine ⟨p1 ++ p2, t, ⟨fun k hk => inv.sh.lt k ?_, ?_, ok_mono t _ _ (fun x hx => ?_) inv.sh.ok, ?_, fun x hx y hy => inv.sh.edges x ?_ y hy⟩, fun k => ?_, hnotin, by simp; omega, ?_⟩
          · simp only [List.mem_append, List.mem_cons] at hk ⊢
            rcases hk with (h | h) | h <;> simp [h]
          · rw [List.append_assoc, List.cons_append] at hnd
            have hn2 := List.nodup_append.1 hnd
            rw [List.append_assoc, List.nodup_append]
            exact ⟨hn2.1, (List.nodup_cons.1 hn2.2.1).2, fun x hx y hy => hn2.2.2 x hx y (List.mem_cons_of_mem _ hy)⟩
          · simp only [List.mem_append, List.mem_cons] at hx ⊢
            rcases hx with h | h <;> simp [h]
          · rw [List.pairwise_append]
            exact ⟨hpw.1, (List.pairwise_cons.1 hpw.2.1).2, fun x hx y hy => hpw.2.2 x hx y (List.mem_cons_of_mem _ hy)⟩
          · simp only [List.mem_append, List.mem_cons] at hx ⊢
            rcases hx with h | h <;> simp [h]
          · simp only [List.mem_append, List.mem_cons]
            constructor
            · rintro ((h | h | h) | h) <;> simp [h]
            · rintro (h | (h | h) | h) <;> simp [h]
          · have h' : MixR P ops C M L Q (Mix P ops C M L Q t) (stills p1 ++ (i, true) :: stills p2) a w := by
              have e : stills (p1 ++ i :: p2) = stills p1 ++ (i, true) :: stills p2 := by simp [stills]
              rw [← e]; exact h
            have := mix_pull (R := Mix P ops C M L Q t) hsel hQ hT hoi (stills p2) (stills p1) a w (fun x hx => by
              obtain ⟨y, hy, rfl⟩ := List.mem_map.1 hx
              exact ⟨rfl, nodep y (by simp [hy]), apart_of_pairOk hoi (hpw.2.2 y hy i (by simp)).1 (nodep y (by simp [hy]))⟩) h'
            have e : stills p1 ++ stills p2 = stills (p1 ++ p2) := by simp [stills]
            rw [← e]; exact this
        · obtain ⟨pre', t', s1, s2, s3, s4, s5⟩ := ord_find (P := P) (C := C) (L := L) (Q := Q) hsel hQ hT hoi t pre inv.sh hit nodep
          exact ⟨pre', t', s1, s2, s3, s4, s5 a w h⟩
      obtain ⟨pre', t', s1, s2, s3, s4, s5⟩ := key
      refine wpOp_mono (fun a' w' h' => ih pre' t' _ a' w' (by omega) ⟨s1, by simp [inv.size], fun j hj => ?_, fun j hj hjl k hk hd => ?_⟩ h'.2) s5
      · have hs : i < listed.size := by rw [inv.size]; exact hilt
        by_cases e : i = j
        · subst e
          constructor
          · intro h1; simp [hs] at h1
          · intro h1; exact absurd h1 s3
        · rw [getD_set_ne true e, inv.un j hj, s2 j]
          constructor
          · rintro (h1 | h1)
            · exact absurd h1.symm e
            · exact h1
          · exact fun h1 => .inr h1
      · have hs : i < listed.size := by rw [inv.size]; exact hilt
        by_cases e2 : i = k
        · subst e2; simp [hs]
        · rw [getD_set_ne true e2]
          by_cases e : i = j
          · subst e; exact depListed k hk hd
          · rw [getD_set_ne true e] at hjl
            exact inv.closed j hj hjl k hk hd

/-- **One walk in an order of one's own.** M: for each operation the mask of those that it waits for; ord: our order, with 'is it still?'. -/
theorem region_mix {id : Nat} {a : Act} {w : World} {l : List Oper} (C : Nat → World → Prop) (L : List Nat) (M : List Nat) (ord : Ord) (hm : P.follows .mixedOrders = true) (hok : mixOk l.toArray M ord = true)
    (hQ : ∀ dst v c a w, Q (.panic c) (Act.put a dst v) w → Q (.panic c) a w) (hT : ∀ x, x ∉ L → ∀ w, C x w) (h : Mix P l.toArray C M L Q ord a w.drew) : (Code.region id l.toArray true).wp P Q a w := by
  simp only [mixOk, Bool.and_eq_true] at hok
  obtain ⟨⟨⟨⟨hsel, hmask⟩, hed⟩, hord⟩, honce⟩ := hok
  simp only [allOnce, Bool.and_eq_true, List.all_eq_true, List.mem_range, decide_eq_true_eq] at honce
  obtain ⟨⟨h1, h2⟩, h3, h4⟩ := honce
  refine wp_region_any hm ?_
  refine mix_sound (M := M) hsel hmask hed hQ hT _ [] ord _ a w.drew (by simpa using h3) ⟨⟨by simpa using h2, by simpa using onceB_nodup _ h4, hord, List.Pairwise.nil, fun x hx => by cases hx⟩, by simp, fun i hi => ?_, fun i hi hl => ?_⟩ h
  · constructor
    · intro _; have := h1 i hi; simpa using this
    · intro _
      have : i < l.length := by simpa using hi
      simp [this]
  · have : i < l.length := by simpa using hi
    simp [this] at hl
/-! ### what is still in whatever world, many at a stretch -/
def silent (o : Oper) : Bool := match o.op with
  | .move _ | .assign _ | .pick .. | .binOp .. | .unOp .. | .convert .. | .fieldAddr .. | .field .. | .indexAddr .. | .index .. | .extract .. | .slice .. => true
  | .call { callee := .builtin .len, .. } | .call { callee := .builtin .cap, .. } | .call { callee := .builtin .min, .. } | .call { callee := .builtin .max, .. } => true
  | _ => false
theorem bind_value_run {s : Sem Value} {w w' : World} {n : Next} (h : (s >>= fun v => pure (Next.value v) : Sem Next).run P w = .ok n w') : ∃ u, n = .value u := by
  rw [Sem.run_bind] at h
  cases hs : s.run P w with
  | ok v w1 => rw [hs] at h; simp only [Result.andThen_ok, Sem.run_pure, Result.ok.injEq] at h; exact ⟨v, h.1.symm⟩
  | halt x w1 => rw [hs] at h; simp [Result.andThen] at h
theorem silent_run {o : Oper} {a : Act} {w w' : World} {n : Next} (hs : silent o = true) (h : (execOp a.eval o).run P w = .ok n w') : ∃ u, n = .value u := by
  obtain ⟨dst, op, type, pos, after, guard⟩ := o
  cases op <;> simp only [silent, Bool.false_eq_true] at hs <;> simp only [execOp] at h
  case move x => simp only [Sem.run_pure, Result.ok.injEq] at h; exact ⟨_, h.1.symm⟩
  case assign x => simp only [Sem.run_pure, Result.ok.injEq] at h; exact ⟨_, h.1.symm⟩
  case pick c x y =>
    rw [Sem.run_bind] at h
    cases hb : (asBool (a.eval c)).run P w with
    | ok b w1 => rw [hb] at h; simp only [Result.andThen_ok, Sem.run_pure, Result.ok.injEq] at h; exact ⟨_, h.1.symm⟩
    | halt x w1 => rw [hb] at h; simp [Result.andThen] at h
  case call c =>
    obtain ⟨callee, args, ats⟩ := c
    split at hs <;> simp_all
    all_goals (simp only [resolve, invoke, builtin, Sem.run_bind, Sem.run_pure, Result.andThen_ok] at h)
    all_goals exact bind_value_run (s := _) (by rw [Sem.run_bind]; exact h)
  all_goals exact bind_value_run h
/-- a silent operation, walked by the kit's own quiet step -/
theorem mix_blind {i : Nat} {n : Ord} {a : Act} {w : World} (o : Oper) (ho : ops[i]? = some o) (hs : silent o = true) (hc : C i w)
    (h : wpQuiet P ops (fun _ => True) (fun a' => Mix P ops C M L Q n a' w) [o] a) : Mix P ops C M L Q (.go i true n) a w := by
  simp only [wpQuiet] at h
  split at h
  · rename_i hw
    obtain ⟨v, hv, hk⟩ := h
    refine mix_still o ho hw v (fun w' _ => ?_) hc hk
    have h1 := hv w' trivial
    unfold Oper.quietAt at h1
    cases hr : (execOp a.eval o).run P w' with
    | ok n w1 =>
      obtain ⟨u, rfl⟩ := silent_run hs hr
      rw [hr] at h1
      obtain ⟨rfl, rfl⟩ := h1
      rfl
    | halt x w1 => rw [hr] at h1; exact h1.elim
  · rename_i hw
    exact mix_skip o ho (by simpa using hw) h
/-- a load, still in the class -/
theorem mix_load {i : Nat} {n : Ord} {a : Act} {w : World} (o : Oper) (ho : ops[i]? = some o) (hw : Region.wanted o (yielded ops a.tmps) = true) (v : Value) (h : ∀ w', C i w' → (execOp a.eval o).run P w' = .ok (.value v) w') (hc : C i w)
    (k : Mix P ops C M L Q n (a.put o.dst v) w) : Mix P ops C M L Q (.go i true n) a w := mix_still o ho hw v h hc k
/-- an act -/
theorem mix_do {i : Nat} {n : Ord} {a : Act} {w : World} (o : Oper) (ho : ops[i]? = some o) (hg : Region.wanted o (yielded ops a.tmps) = true) (h : ∀ K : Act → World → Prop, (∀ a' w', (∀ x ∈ L, dep M i x = false → C x w → C x w') → Mix P ops C M L Q n a' w' → K a' w') → o.wp P a w K Q) :
    Mix P ops C M L Q (.go i false n) a w := mix_act o ho hg (h _ (fun a' w' hc hm => ⟨hc, hm⟩))
end
section
variable {P : Program} {l : List Oper} {C : Nat → World → Prop} {M L : List Nat} {Q : Exit → Act → World → Prop} {i : Nat} {n : Ord} {a : Act} {w : World}
theorem at_list {o : Oper} (ho : l[i]? = some o) : l.toArray[i]? = some o := by rw [List.getElem?_toArray]; exact ho
/-- The steps, the operation read off the list. -/
theorem st_blind (o : Oper) (ho : l[i]? = some o) (hs : silent o = true) (hc : C i w) (h : wpQuiet P l.toArray (fun _ => True) (fun a' => Mix P l.toArray C M L Q n a' w) [o] a) : Mix P l.toArray C M L Q (.go i true n) a w := mix_blind o (at_list ho) hs hc h
theorem st_load (o : Oper) (ho : l[i]? = some o) (hw : Region.wanted o (yielded l.toArray a.tmps) = true) (v : Value) (h : ∀ w', C i w' → (execOp a.eval o).run P w' = .ok (.value v) w') (hc : C i w)
    (k : Mix P l.toArray C M L Q n (a.put o.dst v) w) : Mix P l.toArray C M L Q (.go i true n) a w := mix_still o (at_list ho) hw v h hc k
theorem st_skip {q : Bool} (o : Oper) (ho : l[i]? = some o) (hw : Region.wanted o (yielded l.toArray a.tmps) = false) (k : Mix P l.toArray C M L Q n (a.put o.dst undef) w) : Mix P l.toArray C M L Q (.go i q n) a w := mix_skip o (at_list ho) hw k
theorem st_do (o : Oper) (ho : l[i]? = some o) (hg : Region.wanted o (yielded l.toArray a.tmps) = true) (h : ∀ K : Act → World → Prop, (∀ a' w', (∀ x ∈ L, dep M i x = false → C x w → C x w') → Mix P l.toArray C M L Q n a' w' → K a' w') → o.wp P a w K Q) :
    Mix P l.toArray C M L Q (.go i false n) a w := mix_do o (at_list ho) hg h
theorem mix_done (h : Q .normal a w) : Mix P l.toArray C M L Q .done a w := h
end
end Go.Own

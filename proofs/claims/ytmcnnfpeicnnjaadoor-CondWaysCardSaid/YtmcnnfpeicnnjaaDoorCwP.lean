/- CondWays: items by numbers (plain), what the walk keeps. -/
import Derived.Test.YtmcnnfpeicnnjaaDoorCndL
import Derived.Test.YtmcnnfpeicnnjaaDoorPlace
namespace Go.Proofs.YtmcnnfpeicnnjaaDoor
open Go.RowKit Go.Deep Go.Own
set_option linter.unusedVariables false
def kW (v : Int) : Nat := (v % 1048576).toNat
def codeW (k : Nat) : Int := 97 + ((k % 20 : Nat) : Int)
def itemW (k : Nat) : ItP :=
  if k / 20 % 4 = 0 then ⟨true, false, []⟩ else if k / 20 % 4 = 1 then ⟨false, false, [codeW k]⟩ else if k / 20 % 4 = 2 then ⟨false, false, [122, codeW k, 121]⟩ else ⟨false, true, [codeW k + 1, 122]⟩
theorem has_own (k : Nat) : hasV (itemW k) (codeW k) = true := by
  have h : codeW k ≤ 116 ∧ 97 ≤ codeW k := by unfold codeW; omega
  unfold itemW hasV
  split
  · rfl
  · split
    · simp
    · split
      · simp
      · have h1 : ¬ codeW k = codeW k + 1 := by omega
        have h2 : ¬ codeW k = 122 := by omega
        simp [List.contains_iff_mem, h1, h2]
def badW (x : ItP) : Int := if x.neg = true then 122 else 65
theorem has_bad (k : Nat) : hasV (itemW k) (badW (itemW k)) = (itemW k).any := by
  have h : codeW k ≤ 116 ∧ 97 ≤ codeW k := by unfold codeW; omega
  unfold itemW hasV badW
  split
  · rfl
  · split
    · have h1 : ¬ (65 : Int) = codeW k := by omega
      simp [h1]
    · split
      · have h1 : ¬ (65 : Int) = codeW k := by omega
        simp [h1]
      · simp
def itsW (ks : List Nat) : List ItP := ks.map itemW
def csW (ks : List Nat) : List Int := ks.map codeW
theorem starts_w (ks : List Nat) (r : List Int) : startsV (itsW ks) (csW ks ++ r) = true := by
  refine starts_yes (by unfold itsW csW; rw [List.length_append, List.length_map, List.length_map]; omega) fun j x k h1 h2 => ?_
  unfold itsW at h1
  rw [List.getElem?_map] at h1
  obtain ⟨q, hq, rfl⟩ := Option.map_eq_some_iff.1 h1
  have hl := (List.getElem?_eq_some_iff.1 hq).1
  unfold csW at h2
  rw [List.getElem?_append_left (by rw [List.length_map]; exact hl), List.getElem?_map, hq] at h2
  obtain rfl := Option.some.inj h2
  exact has_own q
theorem starts_e (ks : List Nat) : startsV (itsW ks) (csW ks) = true := by
  have := starts_w ks []
  rwa [List.append_nil] at this
theorem ends_w (ks : List Nat) (r : List Int) : endsV (itsW ks) (r ++ csW ks) = true := by
  unfold endsV
  have e : (r ++ csW ks).length - (itsW ks).length = r.length := by unfold itsW csW; rw [List.length_append, List.length_map, List.length_map]; omega
  rw [e, List.drop_left' rfl, starts_e, Bool.and_true, decide_eq_true]
  unfold itsW csW
  rw [List.length_append, List.length_map, List.length_map]
  omega
theorem starts_short {l : List ItP} {cs : List Int} (h : cs.length < l.length) : startsV l cs = false := by
  unfold startsV
  rw [decide_eq_false (by omega), Bool.false_and]
theorem ends_short {l : List ItP} {cs : List Int} (h : cs.length < l.length) : endsV l cs = false := by
  unfold endsV
  rw [decide_eq_false (by omega), Bool.false_and]
theorem starts_bad (ks : List Nat) (i q : Nat) (hq : ks[i]? = some q) : startsV (itsW ks) ((csW ks).set i (badW (itemW q))) = (itemW q).any := by
  have hl := (List.getElem?_eq_some_iff.1 hq).1
  by_cases ha : (itemW q).any = true
  · rw [ha]
    refine starts_yes (by unfold itsW csW; rw [List.length_set, List.length_map, List.length_map]; exact Nat.le_refl _) fun j x k h1 h2 => ?_
    unfold itsW at h1
    rw [List.getElem?_map] at h1
    obtain ⟨q', hq', rfl⟩ := Option.map_eq_some_iff.1 h1
    by_cases hj : i = j
    · subst hj
      rw [hq] at hq'
      obtain rfl := Option.some.inj hq'
      unfold hasV
      rw [ha, Bool.true_or]
    · unfold csW at h2
      rw [List.getElem?_set_ne hj, List.getElem?_map, hq'] at h2
      obtain rfl := Option.some.inj h2
      exact has_own q'
  · have ha : (itemW q).any = false := by simpa using ha
    rw [ha]
    refine starts_no (j := i) (x := itemW q) (k := badW (itemW q)) (by unfold itsW; rw [List.getElem?_map, hq]; rfl) ?_ (by rw [has_bad, ha])
    unfold csW
    rw [List.getElem?_set_self (by rw [List.length_map]; exact hl)]
theorem ends_bad (ks : List Nat) (i q : Nat) (hq : ks[i]? = some q) : endsV (itsW ks) ((csW ks).set i (badW (itemW q))) = (itemW q).any := by
  unfold endsV
  have e : ((csW ks).set i (badW (itemW q))).length = (itsW ks).length := by unfold itsW csW; rw [List.length_set, List.length_map, List.length_map]
  rw [e, Nat.sub_self, List.drop_zero, starts_bad ks i q hq, decide_eq_true (Nat.le_refl _), Bool.true_and]
theorem small_w (ks : List Nat) (h : ks.length ≤ 8) : smallI (itsW ks) := by
  unfold itsW
  refine ⟨by rw [List.length_map]; omega, fun x hx => ?_⟩
  obtain ⟨k, _, rfl⟩ := List.mem_map.1 hx
  unfold itemW
  repeat' split
  all_goals (simp)
structure CwS (w wr : World) (iv cv : Value) (xs : List ItV) (cs : List Int) : Prop where
  it : CpS w wr iv xs
  co : OwnI wr w.heap.size 3 cv cs
  dis : ∀ x ∈ xs, ∀ q, x.v.ownBlock = some q → cv.ownBlock ≠ some q
theorem CwS.below {w wr wx : World} {iv cv : Value} {xs : List ItV} {cs : List Int} (h : CwS w wr iv cv xs cs) (hb : Below wr.heap.size wr wx) : CwS w wx iv cv xs cs := ⟨h.it.below hb, h.co.later hb, h.dis⟩
theorem kept_ty {w w5 : World} {base eb n m ex : Nat} {v u : Value} {xs ys : List Value} {e2 s2 : Nat} (h : w.ownsRow base e2 s2 u m ys) (hr : w.ownsRow base eb ex v n xs) (hne : e2 ≠ eb) (hg : w.grownBy w5 v.ownBlock) : w5.ownsRow base e2 s2 u m ys :=
  own_keep h fun i hi => by
    obtain ⟨c2, h2⟩ := own_row_type h hi
    exact hg.block i (Array.getElem?_eq_some_iff.1 h2).1 (fun e => by
      obtain ⟨c3, h3⟩ := own_row_type hr e.symm
      rw [h2] at h3
      injection h3 with h3
      injection h3 with _ h4 _
      exact hne h4)
theorem CwS.item {w wr w5 : World} {iv cv v5 : Value} {xs : List ItV} {cs : List Int} {x : ItV} (h : CwS w wr iv cv xs cs) (hx : OwnI wr w.heap.size 3 x.v x.p.set) (hd : ∀ q, x.v.ownBlock = some q → cv.ownBlock ≠ some q) (hg : wr.grownBy w5 iv.ownBlock)
    (O5 : w5.ownsRow w.heap.size 43 3 v5 (xs.length + 1) (xs.flatMap itCells ++ [.bool x.p.any, .bool x.p.neg, .slice x.A x.p.set.length x.c])) : CwS w w5 v5 cv (xs ++ [x]) cs :=
  ⟨h.it.push hx hg O5, kept_ty h.co h.it.e (by decide) hg, fun y hy => by
    rcases List.mem_append.1 hy with hy | hy
    · exact h.dis y hy
    · obtain rfl := List.mem_singleton.1 hy
      exact hd⟩
theorem CwS.code {w wr w5 : World} {iv cv v5 : Value} {xs : List ItV} {cs : List Int} {k : Int} (h : CwS w wr iv cv xs cs) (hg : wr.grownBy w5 cv.ownBlock) (O5 : OwnI w5 w.heap.size 3 v5 (cs ++ [k])) (V5 : ∀ k, v5.ownBlock = some k → cv.ownBlock = some k ∨ wr.heap.size ≤ k) : CwS w w5 iv v5 xs (cs ++ [k]) :=
  ⟨⟨kept_ty h.it.e h.co (by decide) hg, fun x hx => own_keep (h.it.f x hx) fun i hi => hg.block i (own_block_lt (h.it.f x hx) hi).2 (fun e => h.dis x hx i hi e.symm), h.it.bel.grown hg h.it.bel.size (fun q hq => (own_block_lt h.co hq).1)⟩, O5, fun x hx q hq e => by
    rcases V5 q e with h1 | h1
    · exact h.dis x hx q hq h1
    · have := (own_block_lt (h.it.f x hx) hq).2
      omega⟩
theorem src_ints {w : World} {A : Option Addr} {ys : List Int} {c : Nat} (h : Reads w A ys) (hc : ys.length ≤ c) : Src Tryd.prog 1 41 (.slice A ys.length c) ys.length (ys.map (Value.int .i64)) w := by
  by_cases h0 : ys.length = 0
  · have hd : ys = [] := List.length_eq_zero_iff.1 h0
    subst hd
    cases A with
    | none => exact Src.ofNil w Tryd.underlying41 _
    | some ad => exact Src.ofSlice w Tryd.underlying41 ad 0 _ [] rfl (fun j u hj => by simp at hj) (fun u hu => by cases hu)
  · obtain ⟨b, o, rfl, hcell⟩ := h (by omega)
    refine Src.ofSlice w Tryd.underlying41 _ ys.length c _ (by simp) (fun j u hj => ?_) (fun u hu => ?_)
    · rw [List.getElem?_map] at hj
      obtain ⟨k, hk, rfl⟩ := Option.map_eq_some_iff.1 hj
      have hl := (List.getElem?_eq_some_iff.1 hk).1
      have := hcell w (since_of_below (Below.refl _ _)) j hl
      rw [List.getD_eq_getElem?_getD, hk] at this
      have ha : (⟨b, o, none⟩ : Addr).add j = ⟨b, o + j, none⟩ := by unfold Addr.add; split <;> simp_all
      rw [ha]
      exact this
    · obtain ⟨k, _, rfl⟩ := List.mem_map.1 hu
      rfl
end Go.Proofs.YtmcnnfpeicnnjaaDoor

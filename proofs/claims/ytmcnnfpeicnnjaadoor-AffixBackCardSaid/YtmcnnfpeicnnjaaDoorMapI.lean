/- A map from int to int that a call made, as the function that it is. -/
import Derived.Maps.OwnSet
import Derived.WalkKit
set_option linter.unusedVariables false
namespace Go.Own
open Go Go.Maps Go.RowKit
def upd (f : Int → Option Int) (k v : Int) (x : Int) : Option Int := if x = k then some v else f x
def FunD (D : DataW Unit) (f : Int → Option Int) : Prop :=
  ∀ k, Maps.has D (.int .i64 k) = (f k).isSome ∧ ∀ v, f k = some v → D.atKey (.int .i64 k) (.lit (.int .i64 0)) = .lit (.int .i64 v)
theorem key_lit (k : Int) : WideAt.IsKeyLit (.int .i64 k) := trivial
theorem FunD.nil : FunD (.map []) (fun _ => none) := fun k => ⟨rfl, fun v h => by cases h⟩
theorem FunD.put {D : DataW Unit} {f : Int → Option Int} (h : FunD D f) (hD : IsMap D) (k v : Int) : FunD (D.put (.int .i64 k) (.lit (.int .i64 v))) (upd f k v) := fun x => by
  unfold upd
  by_cases e : x = k
  · subst e
    rw [if_pos rfl]
    exact ⟨has_put_same hD (key_lit _) _, fun v' hv => by
      obtain rfl : v = v' := by simpa using hv
      exact atKey_put_same hD (key_lit _) _ _⟩
  · rw [if_neg e]
    have hne : (Lit.int .i64 x) ≠ .int .i64 k := fun h => e (by injection h)
    exact ⟨(has_put_other hne _).trans (h x).1, fun v' hv => (atKey_put_other hne _ _).trans ((h x).2 v' hv)⟩
/-- what a look-up hands over -/
theorem FunD.look {D : DataW Unit} {f : Int → Option Int} (h : FunD D f) {k c : Int} (hat : D.atKey (.int .i64 k) (.lit (.int .i64 0)) = .lit (.int .i64 c)) : c = (f k).getD 0 ∧ Maps.has D (.int .i64 k) = (f k).isSome := by
  refine ⟨?_, (h k).1⟩
  cases hf : f k with
  | none =>
    have := atKey_of_not_has (k := .int .i64 k) (by rw [(h k).1, hf]; rfl : Maps.has D (.int .i64 k) = false) (.lit (.int .i64 0))
    rw [hat] at this
    injection this with h1
    injection h1
  | some v =>
    have := (h k).2 v hf
    rw [hat] at this
    injection this with h1
    injection h1
def MapF (P : Program) (w : World) (b : Nat) (f : Int → Option Int) (n : Nat) : Prop := ∃ D : DataW Unit, w.ownsMap P 3 (plainElem P 3) b n D ∧ FunD D f
theorem MapF.made (P : Program) (w : World) : MapF P (w.alloc (.map #[] 0)) w.heap.size (fun _ => none) 0 := ⟨_, World.ownsMap_made _ _ _ _, FunD.nil⟩
theorem MapF.keep {P : Program} {w w' : World} {b n : Nat} {f : Int → Option Int} (h : MapF P w b f n) (hk : w'.heap[b]? = w.heap[b]?) : MapF P w' b f n := by
  obtain ⟨D, ⟨es, clock, h1, h2, h3, h4⟩, hf⟩ := h
  exact ⟨D, ⟨es, clock, hk.trans h1, h2, h3, h4⟩, hf⟩
theorem MapF.lt {P : Program} {w : World} {b n : Nat} {f : Int → Option Int} (h : MapF P w b f n) : b < w.heap.size := by
  obtain ⟨D, ⟨es, clock, h1, _⟩, hf⟩ := h
  exact (Array.getElem?_eq_some_iff.1 h1).1
theorem MapF.mono {P : Program} {w : World} {b n m : Nat} {f : Int → Option Int} (h : MapF P w b f n) (hn : n ≤ m) : MapF P w b f m := by
  obtain ⟨D, h1, h2⟩ := h
  exact ⟨D, h1.mono hn, h2⟩
theorem MapF.ne {P : Program} {w : World} {b n k : Nat} {f : Int → Option Int} (h : MapF P w b f n) {c : Array Value} {t : TypeId} {fr : Nat × Nat} (hk : w.heap[k]? = some (.cells c t fr)) : k ≠ b := by
  rintro rfl
  obtain ⟨D, ⟨es, clock, h1, _⟩, hf⟩ := h
  rw [hk] at h1; cases h1
theorem MapF.put {P : Program} {w' : World} {b n : Nat} {D : DataW Unit} {f : Int → Option Int} {k v : Int} (hI : Maps.IsMap D) (hf : FunD D f) (h : w'.ownsMap P 3 (plainElem P 3) b (n + 1) (D.put (.int .i64 k) (.lit (.int .i64 v)))) : MapF P w' b (upd f k v) (n + 1) := ⟨_, h, hf.put hI k v⟩
theorem own_isMap {P : Program} {w : World} {k : TypeId} {R : Value → Option (DataW Unit × List MemPlace)} {b n : Nat} {D : DataW Unit} (h : w.ownsMap P k R b n D) : Maps.IsMap D := by
  obtain ⟨es, clock, _, _, _, hD⟩ := h
  exact ⟨_, hD⟩
end Go.Own

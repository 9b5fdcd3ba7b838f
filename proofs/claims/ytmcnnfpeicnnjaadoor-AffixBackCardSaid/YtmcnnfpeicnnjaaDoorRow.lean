/- Rows that a call owns: what they are. -/
import Derived.Test.YtmcnnfpeicnnjaaDoorRep
namespace Go.Own
set_option linter.unusedVariables false
open Go Go.RowKit Go.Deep
theorem own_is {w : World} {base : Nat} {e : TypeId} {size n : Nat} {v : Value} {xs : List Value} (h : w.ownsRow base e size v n xs) : ∃ A cap, v = .slice A n cap := by
  rcases h.2 with ⟨rfl, rfl⟩ | ⟨g, cap, cur, rfl, _⟩
  · exact ⟨none, 0, rfl⟩
  · exact ⟨_, _, rfl⟩
theorem row_is {w : World} {base e size n : Nat} {v : Value} {xs : List Value} (h : w.ownsRow base e size v n xs) : ∃ A cap, v = .slice A n cap ∧ n ≤ cap ∧ cap ≤ maxLen := by
  obtain ⟨hl, h⟩ := h
  rcases h with ⟨rfl, rfl⟩ | ⟨q, cap, cur, rfl, hb, hg, hc, hm, hs, ht⟩
  · exact ⟨none, 0, rfl, Nat.le_refl _, Nat.zero_le _⟩
  · exact ⟨_, cap, rfl, hc, hm⟩
theorem row_at {w : World} {base e size n : Nat} {v : Value} {xs : List Value} (h : w.ownsRow base e size v n xs) (hn : 0 < n) : ∃ q cap, v = .slice (some ⟨q, 0, none⟩) n cap ∧ base ≤ q ∧ q < w.heap.size ∧ n ≤ cap ∧ cap ≤ maxLen ∧ (∀ j u, xs[j]? = some u → w.cell? ⟨q, j, none⟩ = some u) ∧ ∀ j, w.frozen? ⟨q, j, none⟩ = false := by
  obtain ⟨hl, h⟩ := h
  rcases h with ⟨_, h0⟩ | ⟨q, cap, cur, rfl, hb, hg, hc, hm, hs, ht⟩
  · omega
  · refine ⟨q, cap, rfl, hb, (Array.getElem?_eq_some_iff.1 hg).1, hc, hm, fun j u hu => ?_, fun j => by simp [World.frozen?, hg]⟩
    rw [← ht, List.getElem?_take] at hu
    split at hu
    · simp [World.cell?, hg]; simpa using hu
    · cases hu
/-- the cells of a row of groups of three -/
theorem cells3 {α : Type} (f : α → List Value) (h3 : ∀ a, ∃ x y z, f a = [x, y, z]) : ∀ (l : List α) (j : Nat) (a : α) (x y z : Value), l[j]? = some a → f a = [x, y, z] → (l.flatMap f)[j * 3]? = some x ∧ (l.flatMap f)[j * 3 + 1]? = some y ∧ (l.flatMap f)[j * 3 + 2]? = some z
  | [], j, a, x, y, z, h, _ => by simp at h
  | r :: l, 0, a, x, y, z, h, e => by
    obtain rfl : r = a := by simpa using h
    simp [e]
  | r :: l, j + 1, a, x, y, z, h, e => by
    have ih := cells3 f h3 l j a x y z (by simpa using h) e
    obtain ⟨p, q, t, hr⟩ := h3 r
    have e1 : ∀ k, ((r :: l).flatMap f)[k + 3]? = (l.flatMap f)[k]? := fun k => by simp [hr]
    rw [show (j + 1) * 3 = j * 3 + 3 by omega, show j * 3 + 3 + 1 = (j * 3 + 1) + 3 by omega, show j * 3 + 3 + 2 = (j * 3 + 2) + 3 by omega, e1, e1, e1]
    exact ih
theorem run_sliced_fromN {P : Program} {t e : TypeId} (ht : P.underlying t = some (.slice e)) {z : Nat} (hs : ∀ w, (sizeOf e).run P w = .ok z w) (A : Option Addr) (n c k : Nat) (hk : k ≤ n) (hc : n ≤ c) (kd : IntKind) (w : World) :
    (Instr.slice t (.slice A n c) (some (.int kd (k : Nat))) none none).run P w = .ok (.slice (if c = k then A else A.map (·.add (k * z))) (n - k) (c - k)) w := by
  simp only [Instr.slice, Sem.run_bind, run_underlying ht, Result.andThen_ok, Instr.sliceBounds, Sem.run_pure]
  rw [run_sliceBound _ _ _ _ _ (by omega) (by omega)]
  simp [hs]
theorem run_sliced_toN {P : Program} {t e : TypeId} (ht : P.underlying t = some (.slice e)) {z : Nat} (hs : ∀ w, (sizeOf e).run P w = .ok z w) (A : Option Addr) (n c k : Nat) (hc : k ≤ c) (kd : IntKind) (w : World) :
    (Instr.slice t (.slice A n c) none (some (.int kd (k : Nat))) none).run P w = .ok (.slice A k c) w := by
  simp only [Instr.slice, Sem.run_bind, run_underlying ht, Result.andThen_ok, Instr.sliceBounds, Sem.run_pure]
  rw [run_sliceBound _ _ _ _ _ (by omega) (by omega)]
  have : (if c = 0 then A else A.map (·.add (0 * z))) = A := by
    split
    · rfl
    · cases A <;> simp [Addr.add]
  simp [hs] at this ⊢
  exact this
theorem cell3_of {w : World} {b : Nat} {x y z : Value} {t : TypeId} {fr : Nat × Nat} (h : w.heap[b]? = some (.cells #[x, y, z] t fr)) : w.cell? ⟨b, 0, none⟩ = some x ∧ w.cell? ⟨b, 1, none⟩ = some y ∧ w.cell? ⟨b, 2, none⟩ = some z := by
  simp [World.cell?, h]
end Go.Own

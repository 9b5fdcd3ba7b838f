/- A text's units as a list; the row that holds them. -/
import Derived.Test.YtmcnnfpeicnnjaaDoorUtf
namespace Go.Own
open Go
/-- the units from a place on -/
def unitsFrom (s : ByteArray) : Nat → Nat → List (Nat × Nat × Int)
  | 0, _ => []
  | f + 1, i => if i < s.size then (i, uLen s i, uCode s i) :: unitsFrom s f (i + uLen s i) else []
def units (s : ByteArray) : List (Nat × Nat × Int) := unitsFrom s s.size 0
def unitCells (u : Nat × Nat × Int) : List Value := [.int .i64 (u.1 : Nat), .int .i64 (u.2.1 : Nat), .int .i64 u.2.2]
theorem unitsFrom_end (s : ByteArray) (f i : Nat) (h : ¬ i < s.size) : unitsFrom s f i = [] := by
  cases f with
  | zero => rfl
  | succ f => unfold unitsFrom; rw [if_neg h]
theorem unitsFrom_len (s : ByteArray) : ∀ f i : Nat, (unitsFrom s f i).length ≤ f
  | 0, i => Nat.le_refl _
  | f + 1, i => by
    unfold unitsFrom
    split
    · rw [List.length_cons]; have := unitsFrom_len s f (i + uLen s i); omega
    · exact Nat.zero_le _
/-- enough fuel is enough -/
theorem unitsFrom_fuel (s : ByteArray) : ∀ (f g i : Nat), s.size ≤ i + f → s.size ≤ i + g → unitsFrom s f i = unitsFrom s g i
  | 0, g, i, hf, hg => by rw [unitsFrom_end s 0 i (by omega), unitsFrom_end s g i (by omega)]
  | f + 1, 0, i, hf, hg => by rw [unitsFrom_end s _ i (by omega), unitsFrom_end s 0 i (by omega)]
  | f + 1, g + 1, i, hf, hg => by
    unfold unitsFrom
    split
    · have h1 : 1 ≤ uLen s i := u_len1 s i
      rw [unitsFrom_fuel s f g (i + uLen s i) (by omega) (by omega)]
    · rfl
end Go.Own

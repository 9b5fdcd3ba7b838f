/- Units that are read. -/
import Derived.Test.YtmpckoincdkeeaaDoorUAll
namespace Go.Proofs.YtmpckoincdkeeaaDoor
open Go.RowKit Go.Deep Go.Own
set_option linter.unusedVariables false
/-- a slice of units that is read -/
def ReadsU (w : World) (A : Option Addr) (us : List (Nat × Nat × Int)) : Prop :=
  0 < us.length → ∃ q, A = some ⟨q, 0, none⟩ ∧ q < w.heap.size ∧ ∀ j u, us[j]? = some u → w.cell? ⟨q, j * 3, none⟩ = some (.int .i64 (u.1 : Nat)) ∧ w.cell? ⟨q, j * 3 + 1, none⟩ = some (.int .i64 (u.2.1 : Nat)) ∧ w.cell? ⟨q, j * 3 + 2, none⟩ = some (.int .i64 u.2.2)
theorem RowU.reads {w : World} {base n cap : Nat} {A : Option Addr} {us : List (Nat × Nat × Int)} (h : RowU w base (.slice A n cap) us) : n = us.length ∧ ReadsU w A us := by
  obtain ⟨A', c', hv⟩ := own_is h
  obtain ⟨rfl, rfl, rfl⟩ : A = A' ∧ n = us.length ∧ cap = c' := by simpa using hv
  refine ⟨rfl, fun h0 => ?_⟩
  obtain ⟨q, c, hv, _, hq, _, _, hc, _⟩ := row_at h h0
  obtain ⟨rfl, _, rfl⟩ : A = some ⟨q, 0, none⟩ ∧ True ∧ cap = c := by simpa using hv
  refine ⟨q, rfl, hq, fun j u hu => ?_⟩
  obtain ⟨h1, h2, h3⟩ := cells3 unitCells (fun a => ⟨_, _, _, rfl⟩) us j u _ _ _ hu rfl
  exact ⟨hc _ _ h1, hc _ _ h2, hc _ _ h3⟩
theorem ReadsU.below {w w' : World} {A : Option Addr} {us : List (Nat × Nat × Int)} (h : ReadsU w A us) (hb : Below w.heap.size w w') : ReadsU w' A us := fun h0 => by
  obtain ⟨q, e, hq, hc⟩ := h h0
  refine ⟨q, e, Nat.lt_of_lt_of_le hq hb.size, fun j u hu => ?_⟩
  obtain ⟨h1, h2, h3⟩ := hc j u hu
  exact ⟨(hb.cell (p := ⟨q, j * 3, none⟩) hq).trans h1, (hb.cell (p := ⟨q, j * 3 + 1, none⟩) hq).trans h2, (hb.cell (p := ⟨q, j * 3 + 2, none⟩) hq).trans h3⟩
theorem ReadsU.one {w : World} {M : Nat} {u : Nat × Nat × Int} (h : w.heap[M]? = some (.cells #[.int .i64 (u.1 : Nat), .int .i64 (u.2.1 : Nat), .int .i64 u.2.2] 73 (0, 0))) : ReadsU w (some ⟨M, 0, none⟩) [u] := fun _ => by
  refine ⟨M, rfl, (Array.getElem?_eq_some_iff.1 h).1, fun j v hv => ?_⟩
  match j, hv with
  | 0, hv => obtain rfl : u = v := by simpa using hv
             exact cell3_of h
  | j + 1, hv => simp at hv
theorem below_drewN (w : World) (n : Nat) : Below w.heap.size w (w.drewN n) := ⟨rfl, rfl, rfl, Nat.le_refl _, fun _ _ => rfl⟩
end Go.Proofs.YtmpckoincdkeeaaDoor

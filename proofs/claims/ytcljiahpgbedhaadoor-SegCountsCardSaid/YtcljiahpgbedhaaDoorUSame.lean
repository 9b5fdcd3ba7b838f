/- Units that are read; the law's same. -/
import Derived.Test.YtcljiahpgbedhaaDoorRAll
namespace Go.Proofs.YtcljiahpgbedhaaDoor
open Go.RowKit Go.Deep Go.Own
set_option linter.unusedVariables false
/-- a slice of units that is read -/
def ReadsU (w : World) (A : Option Addr) (us : List (Nat × Nat × Int)) : Prop :=
  0 < us.length → ∃ q, A = some ⟨q, 0, none⟩ ∧ q < w.heap.size ∧ ∀ j u, us[j]? = some u → w.cell? ⟨q, j * 3, none⟩ = some (.int .i64 (u.1 : Nat)) ∧ w.cell? ⟨q, j * 3 + 1, none⟩ = some (.int .i64 (u.2.1 : Nat)) ∧ w.cell? ⟨q, j * 3 + 2, none⟩ = some (.int .i64 u.2.2)
theorem RowU.reads {w : World} {base n cap : Nat} {A : Option Addr} {us : List (Nat × Nat × Int)} (h : RowU w base (.slice A n cap) us) : n = us.length ∧ ReadsU w A us := by
  obtain ⟨A', c', hv⟩ := own_is h
  obtain ⟨rfl, rfl, rfl⟩ : A = A' ∧ n = us.length ∧ cap = c' := by simpa using hv
  refine ⟨rfl, fun h0 => ?_⟩
  obtain ⟨q, c, hv, _, hq, _, _, hc, _⟩ := row_at h h0
  obtain ⟨rfl, _, rfl⟩ : A = some ⟨q, 0, none⟩ ∧ True ∧ cap = c := by simpa using hv
  refine ⟨q, rfl, hq, fun j u hu => ?_⟩
  obtain ⟨h1, h2, h3⟩ := cells3 unitCells (fun a => ⟨_, _, _, rfl⟩) us j u _ _ _ hu rfl
  exact ⟨hc _ _ h1, hc _ _ h2, hc _ _ h3⟩
theorem ReadsU.below {w w' : World} {A : Option Addr} {us : List (Nat × Nat × Int)} (h : ReadsU w A us) (hb : Below w.heap.size w w') : ReadsU w' A us := fun h0 => by
  obtain ⟨q, e, hq, hc⟩ := h h0
  refine ⟨q, e, Nat.lt_of_lt_of_le hq hb.size, fun j u hu => ?_⟩
  obtain ⟨h1, h2, h3⟩ := hc j u hu
  exact ⟨(hb.cell (p := ⟨q, j * 3, none⟩) hq).trans h1, (hb.cell (p := ⟨q, j * 3 + 1, none⟩) hq).trans h2, (hb.cell (p := ⟨q, j * 3 + 2, none⟩) hq).trans h3⟩
theorem ReadsU.one {w : World} {M : Nat} {u : Nat × Nat × Int} (h : w.heap[M]? = some (.cells #[.int .i64 (u.1 : Nat), .int .i64 (u.2.1 : Nat), .int .i64 u.2.2] 24 (0, 0))) : ReadsU w (some ⟨M, 0, none⟩) [u] := fun _ => by
  refine ⟨M, rfl, (Array.getElem?_eq_some_iff.1 h).1, fun j v hv => ?_⟩
  match j, hv with
  | 0, hv => obtain rfl : u = v := by simpa using hv
             exact cell3_of h
  | j + 1, hv => simp at hv
theorem below_drewN (w : World) (n : Nat) : Below w.heap.size w (w.drewN n) := ⟨rfl, rfl, rfl, Nat.le_refl _, fun _ _ => rfl⟩
set_option maxRecDepth 100000 in
set_option maxHeartbeats 4000000 in
theorem same_calls (us : List (Nat × Nat × Int)) (A B : Option Addr) (ca cb : Nat) (w : World) (hA : ReadsU w A us) (hB : ReadsU w B us) (hl : us.length ≤ 9223372036854775807) :
    Calls Tryd.prog 17 #[.slice A us.length ca, .slice B us.length cb] w fun e w' => e = .returned (.bool true) ∧ ∃ k, w' = w.drewN k := by
  have HA := Lib.hid hA
  have HB := Lib.hid hB
  clear hA hB
  go_enter Tryd.func17, Tryd.ntmps17
  go_wp2_with (fail)
  go_loopw [5] (fun iv wr => ∃ i k : Nat, i ≤ us.length ∧ iv = .int .i64 (i : Nat) ∧ wr = w.drewN k) (fun iv _ => us.length - (intOf iv).toNat)
  case atStart => exact ⟨0, 0, Nat.zero_le _, rfl, rfl⟩
  case round =>
    obtain ⟨i, k, hi, rfl, rfl⟩ := hrel
    by_cases hlt : i < us.length
    · have g1 : decide (i < us.length) = true := by simpa using hlt
      obtain ⟨qa, rfl, _, ha⟩ := HA.out (by omega)
      obtain ⟨qb, rfl, _, hb⟩ := HB.out (by omega)
      have hu : us[i]? = some us[i] := List.getElem?_eq_getElem hlt
      obtain ⟨⟨a, n, c⟩, hx⟩ : ∃ u, us[i] = u := ⟨_, rfl⟩
      rw [hx] at hu
      obtain ⟨a1, a2, a3⟩ := ha i _ hu
      obtain ⟨b1, b2, b3⟩ := hb i _ hu
      simp only at a1 a2 a3 b1 b2 b3
      clear hu hx ha hb
      go_wp2_with (fail)
      go_quiet (fail)
      go_wp2_with (fail)
      go_roundw
      case rel => exact ⟨i + 1, _, by omega, by go_num, rfl⟩
      case measure => simp [intOf]; omega
    · have g1 : decide (i < us.length) = false := by simpa using hlt
      go_wp2_with (fail)
      go_ret
      exact ⟨rfl, _, rfl⟩
set_option maxRecDepth 100000 in
set_option maxHeartbeats 4000000 in
theorem sameInts_calls (l : List Int) (A B : Option Addr) (ca cb : Nat) (w : World) (hA : Reads w A l) (hB : Reads w B l) (hl : l.length ≤ 9223372036854775807) :
    Calls Tryd.prog 22 #[.slice A l.length ca, .slice B l.length cb] w fun e w' => e = .returned (.bool true) ∧ ∃ k, w' = w.drewN k := by
  have HA := Lib.hid hA
  have HB := Lib.hid hB
  clear hA hB
  go_enter Tryd.func22, Tryd.ntmps22
  go_wp2_with (fail)
  go_loopw [5] (fun iv wr => ∃ i k : Nat, i ≤ l.length ∧ iv = .int .i64 (i : Nat) ∧ wr = w.drewN k) (fun iv _ => l.length - (intOf iv).toNat)
  case atStart => exact ⟨0, 0, Nat.zero_le _, rfl, rfl⟩
  case round =>
    obtain ⟨i, k, hi, rfl, rfl⟩ := hrel
    by_cases hlt : i < l.length
    · have g1 : decide (i < l.length) = true := by simpa using hlt
      obtain ⟨qa, oa, rfl, ha⟩ := HA.out (by omega)
      obtain ⟨qb, ob, rfl, hb⟩ := HB.out (by omega)
      have a1 := ha w (World.Since.refl _ _) i hlt
      have b1 := hb w (World.Since.refl _ _) i hlt
      obtain ⟨x, hx⟩ : ∃ x, l.getD i 0 = x := ⟨_, rfl⟩
      rw [hx] at a1 b1
      clear hx ha hb
      go_wp2_with (fail)
      go_quiet (fail)
      go_wp2_with (fail)
      go_roundw
      case rel => exact ⟨i + 1, _, by omega, by go_num, rfl⟩
      case measure => simp [intOf]; omega
    · have g1 : decide (i < l.length) = false := by simpa using hlt
      go_wp2_with (fail)
      go_ret
      exact ⟨rfl, _, rfl⟩
end Go.Proofs.YtcljiahpgbedhaaDoor

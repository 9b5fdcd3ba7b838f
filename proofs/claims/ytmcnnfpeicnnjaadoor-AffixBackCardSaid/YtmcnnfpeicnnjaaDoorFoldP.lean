/- A text of which some codes are turned: its codes (plain). -/
import Derived.Test.YtmcnnfpeicnnjaaDoorUCut
set_option linter.unusedVariables false
namespace Go.Own
open Go Go.Proofs.YtmcnnfpeicnnjaaDoor
def ValidC (c : Int) : Prop := (0 ≤ c ∧ c < 55296) ∨ (57344 ≤ c ∧ c ≤ 1114111)
def rawB (s : ByteArray) (u : Nat × Nat × Int) : ByteArray := s.extract u.1 (u.1 + u.2.1)
def isT (f : Int → Option Int) (most i : Nat) (c : Int) : Option Int := if i < most then f c else none
def pieceB (f : Int → Option Int) (s : ByteArray) (most i : Nat) (u : Nat × Nat × Int) : ByteArray := match isT f most i u.2.2 with | some c => enc c | none => rawB s u
def turnL (f : Int → Option Int) (s : ByteArray) (most : Nat) : Nat → List (Nat × Nat × Int) → ByteArray
  | _, [] => ⟨#[]⟩
  | i, u :: t => pieceB f s most i u ++ turnL f s most (i + 1) t
def turnS (f : Int → Option Int) (s : ByteArray) (most : Nat) : ByteArray := turnL f s most 0 (units s)
def turnCs (f : Int → Option Int) (most : Nat) : Nat → List Int → List Int
  | _, [] => []
  | i, c :: t => (isT f most i c).getD c :: turnCs f most (i + 1) t
theorem cont_bad (s : ByteArray) (i : Nat) (h : uB s i / 64 = 2) : uCode s i < 0 := by
  have hb : Utf8.decode s i = (65533, 1) := by
    rw [u_eq s i, if_neg (by omega), if_neg (by omega), if_neg (by omega), if_neg (by omega)]
  rw [uCode_bad (by rw [hb]; exact ⟨rfl, rfl⟩)]
  omega
theorem enc_first {c : Int} (h : ValidC c) : uB (enc c) 0 / 64 ≠ 2 ∧ 1 ≤ (enc c).size ∧ okU (enc c) = true ∧ codes (enc c) = [c] := by
  obtain ⟨n, rfl⟩ : ∃ n : Nat, c = (n : Int) := ⟨c.toNat, by rcases h with h | h <;> omega⟩
  have hv : n < 55296 ∨ (57344 ≤ n ∧ n ≤ 1114111) := by rcases h with h | h <;> omega
  obtain ⟨d, d1, _⟩ := dec_enc n hv
  have hu := units_enc n hv
  refine ⟨fun hh => ?_, d1, ok_enc n hv, codes_enc n hv⟩
  have h0 := cont_bad _ _ hh
  unfold units at hu
  obtain ⟨f, hf⟩ : ∃ f, (enc (n : Int)).size = f + 1 := ⟨(enc (n : Int)).size - 1, by omega⟩
  rw [hf, unitsFrom, if_pos (by omega)] at hu
  injection hu with h1 h2
  injection h1 with _ h3
  injection h3 with _ h4
  omega
theorem raw_size {s : ByteArray} {p : Nat} (h : p < s.size) : (rawB s (p, uLen s p, uCode s p)).size = uLen s p := by
  have h3 : p + uLen s p ≤ s.size := u_fits s p h
  unfold rawB
  rw [ByteArray.size_extract]
  show min (p + uLen s p) s.size - p = uLen s p
  omega
theorem raw_byte {s : ByteArray} {p k : Nat} (h : p < s.size) (hk : k < uLen s p) : uB (rawB s (p, uLen s p, uCode s p)) k = uB s (p + k) :=
  uB_part s p _ k (by show p + k < p + uLen s p; omega)
theorem raw_units {s : ByteArray} {p : Nat} (h : p < s.size) : units (rawB s (p, uLen s p, uCode s p)) = [(0, uLen s p, uCode s p)] := by
  have h3 : p + uLen s p ≤ s.size := u_fits s p h
  have := units_part s p (p + uLen s p) h3 [(p, uLen s p, uCode s p)] ⟨rfl, h, rfl⟩
  show units (s.extract p (p + uLen s p)) = _
  rw [this]
  show [(p - p, uLen s p, uCode s p)] = _
  rw [Nat.sub_self]
/-- continuation bytes at the begin of what is turned are those of the text -/
theorem turn_cont (f : Int → Option Int) (s : ByteArray) (most : Nat) (hf : ∀ c d, f c = some d → ValidC d) : ∀ (us : List (Nat × Nat × Int)) (p i : Nat), ChainU s p us s.size →
    ∀ n, (∀ k, k < n → k < (turnL f s most i us).size ∧ uB (turnL f s most i us) k / 64 = 2) → p + n ≤ s.size ∧ ∀ k, k < n → uB (turnL f s most i us) k = uB s (p + k)
  | [], p, i, hc, n, h => by
    unfold ChainU at hc
    cases n with
    | zero => exact ⟨by omega, fun k hk => by omega⟩
    | succ n => have := (h 0 (by omega)).1; exact absurd this (by show ¬ 0 < 0; omega)
  | u :: us, p, i, hc, n, h => by
    obtain ⟨hu, hp, hc2⟩ := hc
    subst hu
    have h3 : p + uLen s p ≤ s.size := u_fits s p hp
    have hT : turnL f s most i ((p, uLen s p, uCode s p) :: us) = pieceB f s most i (p, uLen s p, uCode s p) ++ turnL f s most (i + 1) us := rfl
    rw [hT] at h ⊢
    by_cases hn : n = 0
    · subst hn; exact ⟨by omega, fun k hk => by omega⟩
    unfold pieceB at h ⊢
    cases ht : isT f most i (uCode s p) with
    | some c =>
      simp only [ht] at h
      have hv : ValidC c := by unfold isT at ht; split at ht; exact hf _ _ ht; cases ht
      obtain ⟨e1, e2, _⟩ := enc_first hv
      have := (h 0 (by omega)).2
      rw [uB_append_left _ _ _ (by omega)] at this
      exact absurd this e1
    | none =>
      simp only [ht] at h ⊢
      have hz := raw_size hp
      have hleft : ∀ k, k < uLen s p → uB (rawB s (p, uLen s p, uCode s p) ++ turnL f s most (i + 1) us) k = uB s (p + k) := fun k hk => by
        rw [uB_append_left _ _ _ (by omega), raw_byte hp hk]
      by_cases hnl : n ≤ uLen s p
      · exact ⟨by omega, fun k hk => hleft k (by omega)⟩
      · have hr : ∀ k, uB (rawB s (p, uLen s p, uCode s p) ++ turnL f s most (i + 1) us) (uLen s p + k) = uB (turnL f s most (i + 1) us) k := fun k => by
          have := uB_append_right (rawB s (p, uLen s p, uCode s p)) (turnL f s most (i + 1) us) k
          rwa [hz] at this
        obtain ⟨a, b⟩ := turn_cont f s most hf us (p + uLen s p) (i + 1) hc2 (n - uLen s p) (fun k hk => by
          have := h (uLen s p + k) (by omega)
          rw [hr, ByteArray.size_append, hz] at this
          exact ⟨by omega, this.2⟩)
        refine ⟨by omega, fun k hk => ?_⟩
        by_cases hkl : k < uLen s p
        · exact hleft k hkl
        · have := b (k - uLen s p) (by omega)
          rw [← hr, show uLen s p + (k - uLen s p) = k by omega] at this
          rw [this]
          congr 1
          omega
theorem codes_bad1 (P T : ByteArray) (c : Int) (h1 : P.size = 1) (hc : uCode (P ++ T) 0 = c) (hl : uLen (P ++ T) 0 = 1) : codes (P ++ T) = c :: codes T := by
  unfold codes units
  rw [ByteArray.size_append, h1, Nat.add_comm, unitsFrom, if_pos (by rw [ByteArray.size_append]; omega), hl, hc]
  have := from_right P T T.size 0
  rw [h1] at this
  rw [show 0 + 1 = 1 + 0 by rfl, this, List.map_cons, List.map_map]
  rfl
theorem codes_turn (f : Int → Option Int) (s : ByteArray) (most : Nat) (hf : ∀ c d, f c = some d → ValidC d) : ∀ (us : List (Nat × Nat × Int)) (p i : Nat), ChainU s p us s.size →
    codes (turnL f s most i us) = turnCs f most i (us.map fun u => u.2.2)
  | [], p, i, hc => rfl
  | u :: us, p, i, hc => by
    have hcc := hc
    obtain ⟨hu, hp, hc2⟩ := hc
    subst hu
    have ih := codes_turn f s most hf us (p + uLen s p) (i + 1) hc2
    show codes (pieceB f s most i (p, uLen s p, uCode s p) ++ turnL f s most (i + 1) us) = (isT f most i (uCode s p)).getD (uCode s p) :: turnCs f most (i + 1) (us.map fun u => u.2.2)
    unfold pieceB
    cases ht : isT f most i (uCode s p) with
    | some c =>
      have hv : ValidC c := by unfold isT at ht; split at ht; exact hf _ _ ht; cases ht
      obtain ⟨e1, e2, e3, e4⟩ := enc_first hv
      simp only [ht]
      rw [codes_append _ _ e3, e4, ih]
      rfl
    | none =>
      simp only [ht]
      have hru := raw_units hp
      by_cases hv : 0 ≤ uCode s p
      · rw [codes_append _ _ (by unfold okU; rw [hru]; simp [hv]), ih]
        show (units _).map _ ++ _ = _
        rw [hru]
        rfl
      · have hbad : BadU s p := Classical.byContradiction fun hh => hv ((uCode_sign s p).2 hh)
        have hl : uLen s p = 1 := hbad.2
        have hz := raw_size hp
        rw [hl] at hz
        obtain ⟨P, hP⟩ : ∃ P, P = rawB s (p, uLen s p, uCode s p) := ⟨_, rfl⟩
        obtain ⟨T, hTT⟩ : ∃ T, T = turnL f s most (i + 1) us := ⟨_, rfl⟩
        have hz1 : P.size = 1 := by rw [hP, hl]; exact hz
        have hb0 : uB (P ++ T) 0 = uB s p := by
          rw [uB_append_left _ _ _ (by omega), hP]
          exact raw_byte hp (by omega)
        have hb1 : BadU (P ++ T) 0 := Classical.byContradiction fun hh => by
          have hcont : ∀ k, 0 < k → k < uLen (P ++ T) 0 → uB (P ++ T) (0 + k) / 64 = 2 := fun k a b => dec_cont (P ++ T) 0 k a b
          have hfit := u_fits (P ++ T) 0 (by rw [ByteArray.size_append]; omega)
          have hTr : ∀ k, uB (P ++ T) (1 + k) = uB T k := fun k => by have := uB_append_right P T k; rwa [hz1] at this
          obtain ⟨a, b⟩ := turn_cont f s most hf us (p + uLen s p) (i + 1) hc2 (uLen (P ++ T) 0 - 1) (fun k hk => by
            have := hcont (1 + k) (by omega) (by omega)
            rw [Nat.zero_add, hTr] at this
            rw [← hTT]
            refine ⟨?_, this⟩
            rw [ByteArray.size_append] at hfit
            unfold uLen at hk
            omega)
          rw [← hTT] at b
          have hl1 : 1 ≤ uLen (P ++ T) 0 := u_len1 _ _
          have e := dec_same (P ++ T) s 0 p (by rw [ByteArray.size_append]; omega) hh (fun k hk => by
            by_cases h0 : k = 0
            · subst h0; exact ⟨by omega, hb0.symm⟩
            · have := b (k - 1) (by unfold uLen; omega)
              rw [← hTr, show 1 + (k - 1) = 0 + k by omega] at this
              refine ⟨by unfold uLen at a; unfold uLen at hl; omega, ?_⟩
              rw [this]
              congr 1
              omega)
          unfold BadU at hbad hh
          rw [e] at hbad
          exact hh hbad
        rw [← hP, ← hTT, codes_bad1 P T (uCode s p) hz1 (by rw [uCode_bad hb1, uCode_bad hbad, hb0]) hb1.2, hTT, ih]
        rfl
/-- a text's own parts, all of them -/
theorem turn_none (f : Int → Option Int) (s : ByteArray) (most : Nat) : ∀ (us : List (Nat × Nat × Int)) (p i : Nat), ChainU s p us s.size → (∀ u ∈ us, f u.2.2 = none) → turnL f s most i us = s.extract p s.size
  | [], p, i, hc, h => by
    unfold ChainU at hc
    subst hc
    show (⟨#[]⟩ : ByteArray) = _
    apply ByteArray.ext
    rw [ByteArray.data_extract]
    simp
  | u :: us, p, i, hc, h => by
    obtain ⟨hu, hp, hc2⟩ := hc
    subst hu
    have h3 : p + uLen s p ≤ s.size := u_fits s p hp
    show pieceB f s most i (p, uLen s p, uCode s p) ++ turnL f s most (i + 1) us = _
    rw [turn_none f s most us (p + uLen s p) (i + 1) hc2 (fun u hu => h u (List.mem_cons_of_mem _ hu))]
    unfold pieceB isT
    have := h (p, uLen s p, uCode s p) List.mem_cons_self
    simp only at this
    simp only [this, ite_self]
    show s.extract p (p + uLen s p) ++ s.extract (p + uLen s p) s.size = _
    apply ByteArray.ext
    rw [ByteArray.data_append, ByteArray.data_extract, ByteArray.data_extract, ByteArray.data_extract]
    simp only [Array.extract_append_extract]
    rw [Nat.max_eq_right h3, Nat.min_eq_left (by omega)]
end Go.Own

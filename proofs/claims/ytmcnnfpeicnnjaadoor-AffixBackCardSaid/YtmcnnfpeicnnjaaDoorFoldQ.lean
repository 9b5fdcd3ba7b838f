/- A text is told by its codes; texts side by side (plain). -/
import Derived.Test.YtmcnnfpeicnnjaaDoorFoldP
import Derived.Test.YtmcnnfpeicnnjaaDoorMapI
set_option linter.unusedVariables false
namespace Go.Own
open Go Go.Proofs.YtmcnnfpeicnnjaaDoor
def encU (c : Int) : ByteArray := if c < 0 then ⟨#[(-1 - c).toNat.toUInt8]⟩ else enc c
def catU : List Int → ByteArray
  | [] => ⟨#[]⟩
  | c :: t => encU c ++ catU t
theorem ext_bytes {s t : ByteArray} (hz : s.size = t.size) (h : ∀ k, k < s.size → uB s k = uB t k) : s = t := by
  apply ByteArray.ext
  apply Array.ext (by simpa using hz)
  intro i h1 h2
  have := h i (by simpa using h1)
  rw [uB_list, uB_list] at this
  rw [List.getD_eq_getElem?_getD, List.getD_eq_getElem?_getD, Array.getElem?_toList, Array.getElem?_toList, Array.getElem?_eq_getElem h1, Array.getElem?_eq_getElem h2] at this
  exact UInt8.toNat_inj.1 this
theorem text_from (s : ByteArray) : ∀ (us : List (Nat × Nat × Int)) (p : Nat), ChainU s p us s.size → s.extract p s.size = catU (us.map fun u => u.2.2)
  | [], p, hc => by
    unfold ChainU at hc
    subst hc
    apply ByteArray.ext
    rw [ByteArray.data_extract]
    simp [catU]
  | u :: us, p, hc => by
    obtain ⟨hu, hp, hc2⟩ := hc
    subst hu
    have h3 : p + uLen s p ≤ s.size := u_fits s p hp
    have ih := text_from s us (p + uLen s p) hc2
    show _ = encU (uCode s p) ++ catU (us.map fun u => u.2.2)
    rw [← ih]
    have e : encU (uCode s p) = s.extract p (p + uLen s p) := by
      unfold encU
      by_cases hv : uCode s p < 0
      · rw [if_pos hv]
        have hbad : BadU s p := Classical.byContradiction fun hh => by have := (uCode_sign s p).2 hh; omega
        have hl : uLen s p = 1 := hbad.2
        have hc := uCode_bad hbad
        have hlt := uB_lt s p
        refine ext_bytes (by rw [ByteArray.size_extract, hl]; show 1 = min (p + 1) s.size - p; omega) fun k hk => ?_
        obtain rfl : k = 0 := by have : k < 1 := hk; omega
        rw [b1_0, uB_part s p _ 0 (by omega), hc, Nat.add_zero]
        omega
      · rw [if_neg hv]
        exact enc_dec s p hp (by omega)
    rw [e]
    apply ByteArray.ext
    rw [ByteArray.data_append, ByteArray.data_extract, ByteArray.data_extract, ByteArray.data_extract]
    simp only [Array.extract_append_extract]
    rw [Nat.max_eq_right h3, Nat.min_eq_left (by omega)]
/-- A TEXT IS TOLD BY ITS CODES -/
theorem text_codes (s : ByteArray) : s = catU (codes s) := by
  have := text_from s (units s) 0 (chain_units s)
  rw [show s.extract 0 s.size = s by apply ByteArray.ext; rw [ByteArray.data_extract]; exact Array.extract_size] at this
  exact this
theorem codes_inj {s t : ByteArray} (h : codes s = codes t) : s = t := by rw [text_codes s, text_codes t, h]
theorem codes_app (s t : ByteArray) (h : Starts t) : codes (s ++ t) = codes s ++ codes t := by
  unfold codes
  rw [units_app s t h, List.map_append, List.map_map]
  rfl
/-- the left one ended by a code below 128 -/
theorem code_left_end (s t : ByteArray) (i : Nat) (h : i < s.size) (he : uB s (s.size - 1) / 64 ≠ 2) (hq : uB s (s.size - 1) < 128) : uCode (s ++ t) i = uCode s i ∧ uLen (s ++ t) i = uLen s i := by
  have hw : ∀ k, i + k < s.size → i + k < (s ++ t).size ∧ uB s (i + k) = uB (s ++ t) (i + k) := fun k hk => ⟨by rw [ByteArray.size_append]; omega, (uB_append_left s t _ hk).symm⟩
  have hs : i < (s ++ t).size := by rw [ByteArray.size_append]; omega
  have hfit : i + uLen (s ++ t) i ≤ s.size := by
    by_cases hh : i + uLen (s ++ t) i ≤ s.size
    · exact hh
    · exfalso
      by_cases h1 : i = s.size - 1
      · have h2 : uB (s ++ t) i < 128 := by rw [uB_append_left s t i h, h1]; exact hq
        have h3 : (Utf8.decode (s ++ t) i).2 = 1 := by rw [u_eq, if_pos h2]
        unfold uLen at hh
        omega
      · have := dec_cont (s ++ t) i (s.size - 1 - i) (by omega) (by unfold uLen at hh; omega)
        rw [show i + (s.size - 1 - i) = s.size - 1 by omega, uB_append_left s t _ (by omega)] at this
        exact he this
  obtain ⟨a, b⟩ := dec_cut (s ++ t) s i i h hw hfit
  exact ⟨a.symm, b.symm⟩
theorem from_left_end (s t : ByteArray) (hq : 1 ≤ s.size → uB s (s.size - 1) < 128) : ∀ g f i : Nat, i ≤ s.size → s.size ≤ i + g → (s ++ t).size ≤ i + f →
    unitsFrom (s ++ t) f i = unitsFrom s g i ++ (units t).map (shiftU s.size)
  | 0, f, i, h1, h2, h3 => by
    obtain rfl : i = s.size := by omega
    have h4 := from_right s t f 0
    rw [Nat.add_zero] at h4
    rw [h4, unitsFrom_end s 0 _ (by omega), List.nil_append]
    rw [ByteArray.size_append] at h3
    congr 1
    exact unitsFrom_fuel t f t.size 0 (by omega) (by omega)
  | g + 1, f, i, h1, h2, h3 => by
    by_cases hi : i < s.size
    · obtain ⟨f, rfl⟩ : ∃ k, f = k + 1 := ⟨f - 1, by rw [ByteArray.size_append] at h3; omega⟩
      unfold unitsFrom
      rw [if_pos hi]
      have hq' := hq (by omega)
      obtain ⟨e1, e2⟩ := code_left_end s t i hi (by omega) hq'
      rw [if_pos (by rw [ByteArray.size_append]; omega), e1, e2]
      have hf : i + uLen s i ≤ s.size := u_fits s i hi
      have hl : 1 ≤ uLen s i := u_len1 s i
      rw [from_left_end s t hq g f (i + uLen s i) hf (by omega) (by omega)]
      rfl
    · obtain rfl : i = s.size := by omega
      have h4 := from_right s t f 0
      rw [Nat.add_zero] at h4
      rw [h4, unitsFrom_end s _ _ (by omega), List.nil_append]
      rw [ByteArray.size_append] at h3
      congr 1
      exact unitsFrom_fuel t f t.size 0 (by omega) (by omega)
theorem codes_app_end (s t : ByteArray) (hq : 1 ≤ s.size → uB s (s.size - 1) < 128) : codes (s ++ t) = codes s ++ codes t := by
  unfold codes units
  rw [from_left_end s t hq s.size (s ++ t).size 0 (Nat.zero_le _) (by omega) (by omega), List.map_append, List.map_map]
  rfl
theorem codes_turnS (f : Int → Option Int) (s : ByteArray) (most : Nat) (hf : ∀ c d, f c = some d → ValidC d) : codes (turnS f s most) = turnCs f most 0 (codes s) :=
  codes_turn f s most hf (units s) 0 0 (chain_units s)
/-- all of them turned -/
theorem turnCs_all (f : Int → Option Int) (most : Nat) : ∀ (cs : List Int) (i : Nat), i + cs.length ≤ most → turnCs f most i cs = cs.map fun c => (f c).getD c
  | [], i, h => rfl
  | c :: t, i, h => by
    rw [List.length_cons] at h
    unfold turnCs isT
    rw [if_pos (by omega), turnCs_all f most t (i + 1) (by omega)]
    rfl
theorem turnCs_past (f : Int → Option Int) (most : Nat) : ∀ (cs : List Int) (i : Nat), most ≤ i → turnCs f most i cs = cs
  | [], i, h => rfl
  | c :: t, i, h => by
    unfold turnCs isT
    rw [if_neg (by omega), turnCs_past f most t (i + 1) (by omega)]
    rfl
/-- the first of the pairs -/
def firstF (ps : List (Int × Int)) (c : Int) : Option Int := (ps.find? fun p => decide (p.1 = c)).map fun p => p.2
def putF (f : Int → Option Int) (k v : Int) : Int → Option Int := if (f k).isSome = true then f else upd f k v
theorem firstF_snoc (ps : List (Int × Int)) (k v : Int) : firstF (ps ++ [(k, v)]) = putF (firstF ps) k v := by
  funext c
  unfold putF firstF
  rw [List.find?_append]
  cases h : ps.find? (fun p => decide (p.1 = k)) with
  | some p =>
    rw [if_pos (by simp)]
    cases h2 : ps.find? (fun p => decide (p.1 = c)) with
    | some q => rfl
    | none =>
      have hne : k ≠ c := fun e => by rw [e, h2] at h; cases h
      simp [hne]
  | none =>
    rw [if_neg (by simp)]
    unfold upd
    by_cases e : c = k
    · subst e
      rw [if_pos rfl, h]
      simp
    · rw [if_neg e]
      simp [show ¬ k = c from fun h => e h.symm]
end Go.Own

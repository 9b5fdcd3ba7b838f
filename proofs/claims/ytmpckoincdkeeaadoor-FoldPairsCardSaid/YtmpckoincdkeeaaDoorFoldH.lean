/- FoldShapes: the texts, their codes, their shapes (plain). -/
import Derived.Test.YtmpckoincdkeeaaDoorFoldF
namespace Go.Proofs.YtmpckoincdkeeaaDoor
open Go.RowKit Go.Deep Go.Own Go.Maps
set_option linter.unusedVariables false
def smB (i : Nat) : UInt8 := (97 + i % 26).toUInt8
def grB (i : Nat) : UInt8 := (65 + i % 26).toUInt8
def shB (l : List Bool) (i : Nat) : UInt8 := if l.getD i false = true then grB i else smB i
def smT : Nat → ByteArray
  | 0 => ⟨#[]⟩
  | i + 1 => smT i ++ ⟨#[smB i]⟩
def shT (l : List Bool) : Nat → ByteArray
  | 0 => ⟨#[]⟩
  | i + 1 => shT l i ++ ⟨#[shB l i]⟩
def smC (i : Nat) : Int := 97 + ((i % 26 : Nat) : Int)
def grC (i : Nat) : Int := 65 + ((i % 26 : Nat) : Int)
def shC (l : List Bool) (i : Nat) : Int := if l.getD i false = true then grC i else smC i
def smCs (n : Nat) : List Int := (List.range n).map smC
def shCs (l : List Bool) (n : Nat) : List Int := (List.range n).map (shC l)
def cntL (l : List Bool) (n : Nat) : Nat := (List.range n).countP fun i => l.getD i false
theorem smT_size : ∀ n, (smT n).size = n
  | 0 => rfl
  | n + 1 => by unfold smT; rw [ByteArray.size_append, smT_size n]; rfl
theorem shT_size (l : List Bool) : ∀ n, (shT l n).size = n
  | 0 => rfl
  | n + 1 => by unfold shT; rw [ByteArray.size_append, shT_size l n]; rfl
theorem codes_byte : ∀ x : Fin 128, codes ⟨#[x.val.toUInt8]⟩ = [(x.val : Int)] ∧ uB ⟨#[x.val.toUInt8]⟩ 0 / 64 ≠ 2 ∧ uB ⟨#[x.val.toUInt8]⟩ 0 < 128 := by decide +kernel
theorem codes_b (x : Nat) (h : x < 128) : codes ⟨#[x.toUInt8]⟩ = [(x : Int)] := (codes_byte ⟨x, h⟩).1
theorem starts_b0 (x : Nat) (h : x < 128) : Starts ⟨#[x.toUInt8]⟩ := .inr (codes_byte ⟨x, h⟩).2.1
theorem codes_smT : ∀ n, codes (smT n) = smCs n
  | 0 => by decide +kernel
  | n + 1 => by
    unfold smCs
    show codes (smT n ++ ⟨#[(97 + n % 26).toUInt8]⟩) = _
    rw [codes_app _ _ (starts_b0 (97 + n % 26) (by omega)), codes_smT n, List.range_succ, List.map_append]
    show _ ++ codes ⟨#[(97 + n % 26).toUInt8]⟩ = _
    rw [codes_b _ (by omega)]
    rfl
theorem shB_is (l : List Bool) (i : Nat) : ∃ x : Nat, x < 128 ∧ shB l i = x.toUInt8 ∧ (x : Int) = shC l i := by
  unfold shB shC
  split
  · exact ⟨65 + i % 26, by omega, rfl, by unfold grC; omega⟩
  · exact ⟨97 + i % 26, by omega, rfl, by unfold smC; omega⟩
theorem codes_shT (l : List Bool) : ∀ n, codes (shT l n) = shCs l n
  | 0 => by show codes ⟨#[]⟩ = []; decide +kernel
  | n + 1 => by
    obtain ⟨x, hx, e1, e2⟩ := shB_is l n
    unfold shT shCs
    rw [e1, codes_app _ _ (starts_b0 x hx), codes_shT l n, List.range_succ, List.map_append, codes_b x hx, e2]
    rfl
theorem letters_are : ∀ k : Fin 26, smallF [] (65 + (k.val : Int)) = some (97 + (k.val : Int)) ∧ smallF [] (97 + (k.val : Int)) = none ∧ greatF [] (97 + (k.val : Int)) = some (65 + (k.val : Int)) ∧ greatF [] (65 + (k.val : Int)) = none := by decide +kernel
theorem letter_at (i : Nat) : smallF [] (grC i) = some (smC i) ∧ smallF [] (smC i) = none ∧ greatF [] (smC i) = some (grC i) ∧ greatF [] (grC i) = none := letters_are ⟨i % 26, Nat.mod_lt _ (by omega)⟩
theorem no33 : smallF [] 33 = none ∧ greatF [] 33 = none := by decide +kernel
theorem small_sh (l : List Bool) (n : Nat) : turnS (smallF []) (shT l n) (shT l n).size = smT n := by
  apply codes_inj
  rw [codes_turnS _ _ _ (small_v no_pairs), turnCs_all _ _ _ _ (by have := codes_len (shT l n); omega), codes_shT, codes_smT]
  unfold shCs smCs
  rw [List.map_map]
  apply List.map_congr_left
  intro i _
  obtain ⟨a, b, _⟩ := letter_at i
  show (smallF [] (shC l i)).getD (shC l i) = smC i
  unfold shC
  split
  · rw [a]; rfl
  · rw [b]; rfl
theorem cntS (l : List Bool) (n : Nat) : cntF (smallF []) (shCs l n) = cntL l n := by
  unfold cntF shCs cntL
  rw [List.countP_map]
  congr 1
  funext i
  obtain ⟨a, b, _⟩ := letter_at i
  show (smallF [] (shC l i)).isSome = l.getD i false
  unfold shC
  cases h : l.getD i false with
  | true => rw [if_pos rfl, a]; rfl
  | false => rw [if_neg (by decide), b]; rfl
theorem cntG (l : List Bool) (n : Nat) : cntF (greatF []) (shCs l n) + cntL l n = n := by
  have h : ∀ n, cntF (greatF []) (shCs l n) = (List.range n).countP fun i => !l.getD i false := fun n => by
    unfold cntF shCs
    rw [List.countP_map]
    congr 1
    funext i
    obtain ⟨_, _, a, b⟩ := letter_at i
    show (greatF [] (shC l i)).isSome = !l.getD i false
    unfold shC
    cases h : l.getD i false with
    | true => rw [if_pos rfl, b]; rfl
    | false => rw [if_neg (by decide), a]; rfl
  rw [h]
  unfold cntL
  have := List.length_eq_countP_add_countP (fun i => l.getD i false) (l := List.range n)
  rw [List.length_range] at this
  have e : (List.range n).countP (fun i => !l.getD i false) = (List.range n).countP (fun a => decide ¬(l.getD a false = true)) := by
    congr 1; funext i; cases l.getD i false <;> rfl
  omega
theorem cntL_le (l : List Bool) (n : Nat) : cntL l n ≤ n := by have := cntG l n; omega
theorem cntL_succ (l : List Bool) (n : Nat) : cntL l (n + 1) = cntL l n + (if l.getD n false = true then 1 else 0) := by
  unfold cntL
  rw [List.range_succ, List.countP_append, List.countP_singleton]
/-- what the statement wants -/
def wantL (l : List Bool) (n : Nat) : Int := if cntL l n = 0 then 0 else if cntL l n = 1 ∧ l.getD 0 false = true then 1 else if 2 ≤ cntL l n ∧ cntL l n = n then 2 else 3
theorem fst_sh (l : List Bool) (n : Nat) (t : List Int) (h : 0 < n) : fstF (smallF []) (shCs l n ++ t) = l.getD 0 false := by
  obtain ⟨m, rfl⟩ : ∃ m, n = m + 1 := ⟨n - 1, by omega⟩
  unfold shCs
  rw [List.range_succ_eq_map, List.map_cons, List.cons_append]
  show (smallF [] (shC l 0)).isSome = _
  obtain ⟨a, b, _⟩ := letter_at 0
  unfold shC
  cases h : l.getD 0 false with
  | true => rw [if_pos rfl, a]; rfl
  | false => rw [if_neg (by decide), b]; rfl
theorem shCs_len (l : List Bool) (n : Nat) : (shCs l n).length = n := by unfold shCs; rw [List.length_map, List.length_range]
theorem shape_gen (l : List Bool) (n : Nat) (t : List Int) (ht : cntF (smallF []) t = 0) (ht2 : cntF (greatF []) t = 0) : shapeOf (smallF []) (greatF []) (shCs l n ++ t) = wantL l n := by
  have e1 : cntF (smallF []) (shCs l n ++ t) = cntL l n := by
    have := cntS l n
    unfold cntF at *
    rw [List.countP_append]; omega
  have e2 : cntF (greatF []) (shCs l n ++ t) + cntL l n = n := by
    have := cntG l n
    unfold cntF at *
    rw [List.countP_append]; omega
  have e3 : (shCs l n ++ t).length = n + t.length := by rw [List.length_append, shCs_len]
  have hle := cntL_le l n
  unfold shapeOf wantL
  rw [e1]
  by_cases h0 : cntL l n = 0
  · rw [if_pos h0, if_pos h0]
  · rw [if_neg h0, if_neg h0, fst_sh l n t (by omega)]
    by_cases h1 : cntL l n = 1 ∧ l.getD 0 false = true
    · rw [if_pos h1, if_pos h1]
    · rw [if_neg h1, if_neg h1, e3]
      by_cases h2 : 2 ≤ cntL l n ∧ cntL l n = n
      · rw [if_pos h2, if_pos (by omega)]
      · rw [if_neg h2, if_neg (by omega)]
theorem shape_sh (l : List Bool) (n : Nat) : shapeOf (smallF []) (greatF []) (codes (shT l n)) = wantL l n := by
  have := shape_gen l n [] rfl rfl
  rw [List.append_nil] at this
  rw [codes_shT, this]
theorem shape_sh1 (l : List Bool) (n : Nat) : shapeOf (smallF []) (greatF []) (codes (shT l n ++ ⟨#[33]⟩)) = wantL l n := by
  rw [codes_app _ ⟨#[33]⟩ (show Starts ⟨#[33]⟩ from starts_b0 33 (by omega)), codes_shT, show codes ⟨#[33]⟩ = [33] by decide +kernel]
  exact shape_gen l n [33] (by decide +kernel) (by decide +kernel)
theorem ext_right (s t : ByteArray) : (s ++ t).extract s.size (s ++ t).size = t := by
  have hz : ((s ++ t).extract s.size (s ++ t).size).size = t.size := by rw [ByteArray.size_extract, ByteArray.size_append]; omega
  refine ext_bytes hz fun k hk => ?_
  rw [hz] at hk
  rw [uB_part (s ++ t) s.size _ k (by rw [ByteArray.size_append]; omega), uB_append_right]
theorem head_sm : ∀ n, ∃ t : ByteArray, smT (n + 1) = ⟨#[97]⟩ ++ t
  | 0 => ⟨⟨#[]⟩, by decide +kernel⟩
  | n + 1 => by
    obtain ⟨t, h⟩ := head_sm n
    exact ⟨t ++ ⟨#[smB (n + 1)]⟩, by rw [← ByteArray.append_assoc, ← h]; rfl⟩
theorem tail_sm (n : Nat) : ∃ t : ByteArray, smT (n + 1) = ⟨#[97]⟩ ++ t ∧ t = (smT (n + 1)).extract 1 (n + 1) := by
  obtain ⟨t, h⟩ := head_sm n
  have := ext_right ⟨#[97]⟩ t
  rw [← h, smT_size] at this
  exact ⟨t, h, this.symm⟩
theorem title_sm (n : Nat) : turnS (greatF []) (smT (n + 1)) 1 = ⟨#[65]⟩ ++ (smT (n + 1)).extract 1 (n + 1) := by
  obtain ⟨t, h, h2⟩ := tail_sm n
  rw [← h2, h]
  apply codes_inj
  rw [codes_turnS _ _ _ (great_v no_pairs), codes_append ⟨#[97]⟩ t (by decide +kernel), codes_append ⟨#[65]⟩ t (by decide +kernel), show codes ⟨#[97]⟩ = [97] by decide +kernel, show codes ⟨#[65]⟩ = [65] by decide +kernel]
  show (isT (greatF []) 1 0 97).getD 97 :: turnCs (greatF []) 1 (0 + 1) (codes t) = 65 :: codes t
  rw [turnCs_past _ 1 _ _ (by omega)]
  have : isT (greatF []) 1 0 97 = some 65 := by decide +kernel
  rw [this]
  rfl
end Go.Proofs.YtmpckoincdkeeaaDoor

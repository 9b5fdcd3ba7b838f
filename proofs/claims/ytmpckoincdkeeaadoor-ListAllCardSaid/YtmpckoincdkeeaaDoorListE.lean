/- list: texts made of lines (plain). -/
import Derived.Test.YtmpckoincdkeeaaDoorListD
namespace Go.Proofs.YtmpckoincdkeeaaDoor
open Go.RowKit Go.Deep Go.Own
set_option linter.unusedVariables false
def lnOk (l : List UInt8) : Prop := ∀ x ∈ l, x ≠ 10
def linesT : List (List UInt8) → List UInt8
  | [] => []
  | l :: t => l ++ 10 :: linesT t
theorem linesT_app : ∀ (a b : List (List UInt8)), linesT (a ++ b) = linesT a ++ linesT b
  | [], b => rfl
  | l :: t, b => by simp [linesT, linesT_app t b]
theorem cut_line : ∀ (l t : List UInt8), lnOk l → cutL 10 (l ++ 10 :: t) = l :: cutL 10 t
  | [], t, h => by simp [cutL]
  | x :: l, t, h => by
    have ih := cut_line l t (fun y hy => h y (List.mem_cons_of_mem _ hy))
    rw [List.cons_append, cutL, if_neg (h x List.mem_cons_self), ih]
    rfl
theorem cut_last : ∀ (l : List UInt8), lnOk l → cutL 10 l = [l]
  | [], h => rfl
  | x :: l, h => by
    have ih := cut_last l (fun y hy => h y (List.mem_cons_of_mem _ hy))
    rw [cutL, if_neg (h x List.mem_cons_self), ih]
    rfl
theorem cut_lines : ∀ (ls : List (List UInt8)) (w : List UInt8), (∀ l ∈ ls, lnOk l) → lnOk w → cutL 10 (linesT ls ++ w) = ls ++ [w]
  | [], w, h, hw => cut_last w hw
  | l :: t, w, h, hw => by
    have ih := cut_lines t w (fun y hy => h y (List.mem_cons_of_mem _ hy)) hw
    rw [linesT, List.append_assoc, List.cons_append, cut_line l _ (h l List.mem_cons_self), ih]
    rfl
theorem trim_none {l : List UInt8} (h : l.getLast? ≠ some 10) : Lib.trimSuffix l [10] = l := by
  unfold Lib.trimSuffix
  rw [if_neg]
  intro hs
  unfold Lib.hasSuffix at hs
  obtain ⟨t, rfl⟩ := List.isSuffixOf_iff_suffix.1 hs
  exact h (by simp)
theorem trim_one (l : List UInt8) : Lib.trimSuffix (l ++ [10]) [10] = l := by
  unfold Lib.trimSuffix
  rw [if_pos]
  · simp
  · unfold Lib.hasSuffix
    simp
theorem rows_last {s : ByteArray} (ls : List (List UInt8)) (w : List UInt8) (hs : s.data.toList = linesT ls ++ w) (h : ∀ l ∈ ls, lnOk l) (hw : lnOk w) (hne : w ≠ []) : rowsB s = (ls ++ [w]).map mkB := by
  unfold rowsB cutB trimN
  rw [mk_list, hs, trim_none, cut_lines ls w h hw]
  intro he
  rw [List.getLast?_append] at he
  cases hg : w.getLast? with
  | none => exact hne (List.getLast?_eq_none_iff.1 hg)
  | some x =>
    rw [hg] at he
    have hx : x = 10 := by simpa using he
    exact hw x (List.mem_of_getLast? hg) hx
theorem linesT_end : ∀ (ls : List (List UInt8)) (l : List UInt8), linesT (ls ++ [l]) = (linesT ls ++ l) ++ [10] := fun ls l => by
  rw [linesT_app]
  simp [linesT]
theorem rows_lines {s : ByteArray} (ls : List (List UInt8)) (hs : s.data.toList = linesT ls) (h : ∀ l ∈ ls, lnOk l) (hne : ls ≠ []) : rowsB s = ls.map mkB := by
  obtain ⟨a, l, rfl⟩ : ∃ a l, ls = a ++ [l] := ⟨ls.dropLast, ls.getLast hne, (List.dropLast_concat_getLast hne).symm⟩
  unfold rowsB cutB trimN
  rw [mk_list, hs, linesT_end, trim_one, cut_lines a l (fun x hx => h x (List.mem_append_left _ hx)) (h l (by simp))]
theorem goR_app : ∀ (a b : List ByteArray) (i : Nat) (es : List Ent) (bad : Nat), goR i es bad (a ++ b) = goR (i + a.length) (goR i es bad a).1 (goR i es bad a).2 b
  | [], b, i, es, bad => rfl
  | r :: a, b, i, es, bad => by
    rw [List.cons_append, goR, goR]
    have e : ∀ es bad, goR (i + 1) es bad (a ++ b) = goR (i + (r :: a).length) (goR (i + 1) es bad a).1 (goR (i + 1) es bad a).2 b := fun es bad => by
      rw [goR_app a b (i + 1) es bad, List.length_cons, show i + 1 + a.length = i + (a.length + 1) by omega]
    split
    · exact e _ _
    · split
      · exact e _ _
      · exact e _ _
theorem goR_len : ∀ (a : List ByteArray) (i : Nat) (es : List Ent) (bad : Nat), (goR i es bad a).1.length ≤ es.length + a.length
  | [], i, es, bad => Nat.le_refl _
  | r :: a, i, es, bad => by
    rw [goR, List.length_cons]
    split
    · have := goR_len a (i + 1) es bad; omega
    · split
      · have := goR_len a (i + 1) (es ++ [((entR r).1, (entR r).2.1)]) bad; rw [List.length_append, List.length_singleton] at this; omega
      · have := goR_len a (i + 1) es (if bad = 0 then i + 1 else bad); omega
/-- what comes of the lines -/
theorem parse_of {s : ByteArray} {es : List Ent} {bad : Nat} (hz : s.size ≤ 65536) (h : goR 0 [] 0 (rowsB s) = (es, bad)) (hl : es.length ≤ 2000) : parseV s = if 0 < bad then ([], bad, 5) else (es, 0, 0) := by
  unfold parseV
  rw [if_neg (by omega), h, if_neg (by simp only; omega)]
/-- ListWrong's texts -/
def pieceL (i : Nat) : List UInt8 := if i % 3 = 0 then [99, 97, 116, 47, 83] else if i % 3 = 1 then [] else [35, 32, 119, 111, 114, 100, 115]
def preL (n : Nat) : List (List UInt8) := (List.range n).map pieceL
def preT : Nat → ByteArray
  | 0 => ⟨#[]⟩
  | n + 1 => preT n ++ mkB (pieceL n ++ [10])
theorem preT_data : ∀ n, (preT n).data.toList = linesT (preL n)
  | 0 => rfl
  | n + 1 => by
    unfold preT preL
    rw [ByteArray.data_append, Array.toList_append, preT_data n, mk_list, List.range_succ, List.map_append, linesT_app]
    simp [linesT, preL]
theorem piece_ok (i : Nat) : lnOk (pieceL i) := by
  unfold pieceL lnOk
  split
  · decide
  · split <;> decide
theorem pre_ok (n : Nat) : ∀ l ∈ preL n, lnOk l := fun l hl => by
  unfold preL at hl
  obtain ⟨i, _, rfl⟩ := List.mem_map.1 hl
  exact piece_ok i
theorem piece_size (i : Nat) : (pieceL i).length ≤ 7 := by
  unfold pieceL
  split
  · decide
  · split <;> decide
theorem preT_size : ∀ n, (preT n).size ≤ 8 * n
  | 0 => Nat.le_refl _
  | n + 1 => by
    have := preT_size n
    have h2 := piece_size n
    unfold preT
    rw [ByteArray.size_append, mk_size, List.length_append, List.length_singleton]
    omega
def catE : Ent := (⟨#[99, 97, 116]⟩, [83])
theorem row_cat : skipR (mkB [99, 97, 116, 47, 83]) = false ∧ entR (mkB [99, 97, 116, 47, 83]) = (⟨#[99, 97, 116]⟩, [83], true) := by decide +kernel
theorem row_none : skipR (mkB []) = true ∧ skipR (mkB [35, 32, 119, 111, 114, 100, 115]) = true := by decide +kernel
theorem pre_go : ∀ n, goR 0 [] 0 ((preL n).map mkB) = (List.replicate ((n + 2) / 3) catE, 0)
  | 0 => rfl
  | n + 1 => by
    unfold preL
    rw [List.range_succ, List.map_append, List.map_append, goR_app]
    have ih := pre_go n
    unfold preL at ih
    rw [ih]
    simp only [List.map_cons, List.map_nil, List.length_map, List.length_range, Nat.zero_add]
    unfold pieceL
    by_cases h0 : n % 3 = 0
    · rw [if_pos h0, goR, row_cat.1, row_cat.2, if_neg (by decide), if_pos rfl, goR, show (n + 1 + 2) / 3 = (n + 2) / 3 + 1 by omega, List.replicate_succ']
      rfl
    · rw [if_neg h0, show (n + 1 + 2) / 3 = (n + 2) / 3 by omega]
      by_cases h1 : n % 3 = 1
      · rw [if_pos h1, goR, row_none.1, if_pos rfl, goR]
      · rw [if_neg h1, goR, row_none.2, if_pos rfl, goR]
def wrongL : List (List UInt8) := [[97, 32, 98], [47, 83], [97, 47], [97, 47, 49], [97, 47, 83, 83], [97, 47, 83, 47, 84], [97, 35], [255], [97, 9, 98], [97, 47, 195, 169]]
theorem wrong_row : ∀ w ∈ wrongL, skipR (mkB w) = false ∧ (entR (mkB w)).2.2 = false ∧ lnOk w ∧ w ≠ [] ∧ w.length ≤ 5 := by
  unfold lnOk
  decide +kernel
theorem good_row : skipR (mkB [103, 111, 111, 100, 47, 83, 97]) = false ∧ entR (mkB [103, 111, 111, 100, 47, 83, 97]) = (⟨#[103, 111, 111, 100]⟩, [83, 97], true) := by decide +kernel
theorem wrong_parse (n : Nat) (hn : n < 20) (w : List UInt8) (hw : w ∈ wrongL) : parseV (preT n ++ mkB w) = ([], n + 1, 5) := by
  obtain ⟨h1, h2, h3, h4, h5⟩ := wrong_row w hw
  have hz := preT_size n
  have hr : rowsB (preT n ++ mkB w) = (preL n ++ [w]).map mkB := rows_last (preL n) w (by rw [ByteArray.data_append, Array.toList_append, preT_data, mk_list]) (pre_ok n) h3 h4
  have hg : goR 0 [] 0 (rowsB (preT n ++ mkB w)) = (List.replicate ((n + 2) / 3) catE, n + 1) := by
    rw [hr, List.map_append, goR_app, pre_go]
    simp only [List.map_cons, List.map_nil, List.length_map, Nat.zero_add]
    rw [goR, h1, if_neg (by decide), h2, if_neg (by decide), if_pos rfl, goR]
    unfold preL
    rw [List.length_map, List.length_range]
  rw [parse_of (by rw [ByteArray.size_append, mk_size]; omega) hg (by rw [List.length_replicate]; omega), if_pos (by omega)]
theorem good_parse (n : Nat) (hn : n < 20) : parseV (preT n ++ mkB [103, 111, 111, 100, 47, 83, 97]) = (List.replicate ((n + 2) / 3) catE ++ [(⟨#[103, 111, 111, 100]⟩, [83, 97])], 0, 0) := by
  have hz := preT_size n
  have hr : rowsB (preT n ++ mkB [103, 111, 111, 100, 47, 83, 97]) = (preL n ++ [[103, 111, 111, 100, 47, 83, 97]]).map mkB := rows_last (preL n) _ (by rw [ByteArray.data_append, Array.toList_append, preT_data, mk_list]) (pre_ok n) (by unfold lnOk; decide) (by decide)
  have hg : goR 0 [] 0 (rowsB (preT n ++ mkB [103, 111, 111, 100, 47, 83, 97])) = (List.replicate ((n + 2) / 3) catE ++ [(⟨#[103, 111, 111, 100]⟩, [83, 97])], 0) := by
    rw [hr, List.map_append, goR_app, pre_go]
    simp only [List.map_cons, List.map_nil, List.length_map, Nat.zero_add]
    rw [goR, good_row.1, if_neg (by decide), good_row.2, if_pos rfl, goR]
  rw [parse_of (by rw [ByteArray.size_append, mk_size]; show _ + 7 ≤ _; omega) hg (by rw [List.length_append, List.length_replicate]; show _ + 1 ≤ _; omega), if_neg (by omega)]
end Go.Proofs.YtmpckoincdkeeaaDoor

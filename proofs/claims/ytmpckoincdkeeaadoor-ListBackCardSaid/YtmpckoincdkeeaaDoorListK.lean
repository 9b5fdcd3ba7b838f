/- the laws' lists: their entries; lines between (plain). -/
import Derived.Test.YtmpckoincdkeeaaDoorListJ
namespace Go.Proofs.YtmpckoincdkeeaaDoor
open Go.RowKit Go.Deep Go.Own
set_option linter.unusedVariables false
def lineABC (a : Nat) (b : Bool) (c : Nat) : List UInt8 := wordL a ++ if b = true then 47 :: flL c else []
theorem line_is (k : Nat) : lineK k = lineABC (k % 24) (decide (0 < k / 24 % 3)) (k / 72 % 6) := by
  unfold lineK lineABC
  by_cases h : 0 < k / 24 % 3
  · rw [if_pos h, decide_eq_true h, if_pos rfl]
  · rw [if_neg h, decide_eq_false h, if_neg (by decide)]
def eOf (r : ByteArray) : Ent := ((entR r).1, (entR r).2.1)
/-- an entry's line -/
def flagsT (f : List Int) : List UInt8 := f.map fun x => x.toNat.toUInt8
def entT (e : Ent) : List UInt8 := e.1.data.toList ++ (if e.2 = [] then [] else 47 :: flagsT e.2)
def noNL (l : List UInt8) : Bool := l.all fun x => x != 10
theorem noNL_ok {l : List UInt8} (h : noNL l = true) : lnOk l := fun x hx => by
  have := List.all_eq_true.1 h x hx
  simpa using this
theorem abc_all : ∀ a : Fin 24, ∀ b : Bool, ∀ c : Fin 6, skipR (mkB (lineABC a.val b c.val)) = false ∧ (entR (mkB (lineABC a.val b c.val))).2.2 = true ∧ noNL (lineABC a.val b c.val) = true ∧ lineABC a.val b c.val ≠ [] ∧ entT (eOf (mkB (lineABC a.val b c.val))) = lineABC a.val b c.val ∧ (eOf (mkB (lineABC a.val b c.val))).2.length ≤ 2 ∧ (eOf (mkB (lineABC a.val b c.val))).2.all (fun x => decide (0 ≤ x ∧ x < 128)) = true := by decide +kernel
structure LineOk (k : Nat) : Prop where
  skip : skipR (mkB (lineK k)) = false
  ok : (entR (mkB (lineK k))).2.2 = true
  nl : lnOk (lineK k)
  ne : lineK k ≠ []
  txt : entT (eOf (mkB (lineK k))) = lineK k
  fl2 : (eOf (mkB (lineK k))).2.length ≤ 2
  asc : ∀ x ∈ (eOf (mkB (lineK k))).2, 0 ≤ x ∧ x < 128
theorem line_ok (k : Nat) : LineOk k := by
  obtain ⟨h1, h2, h3, h4, h5, h6, h7⟩ := abc_all ⟨k % 24, Nat.mod_lt _ (by omega)⟩ (decide (0 < k / 24 % 3)) ⟨k / 72 % 6, Nat.mod_lt _ (by omega)⟩
  simp only at h1 h2 h3 h4 h5 h6 h7
  rw [← line_is] at h1 h2 h3 h4 h5 h6 h7
  exact ⟨h1, h2, noNL_ok h3, h4, h5, h6, fun x hx => of_decide_eq_true (List.all_eq_true.1 h7 x hx)⟩
def listE (l : List Int) : List Ent := (l.take 30).map fun v => eOf (mkB (lineK (kOfV v)))
theorem listE_len (l : List Int) : (listE l).length = min 30 l.length := by unfold listE; rw [List.length_map, List.length_take]
theorem list_nl (l : List Int) : ∀ x ∈ listL l, lnOk x := fun x hx => by
  unfold listL at hx
  obtain ⟨v, _, rfl⟩ := List.mem_map.1 hx
  exact (line_ok _).nl
theorem listT_size (l : List Int) : (listT l).size ≤ 270 := by
  have := line_at_size l 30
  unfold listT listL
  rw [mk_size]
  exact this
/-- rows that are lists' lines -/
def goodL (ls : List (List UInt8)) : Prop := ∀ x ∈ ls, ∃ k, x = lineK k
theorem list_good (l : List Int) : goodL (listL l) := fun x hx => by
  unfold listL at hx
  obtain ⟨v, _, rfl⟩ := List.mem_map.1 hx
  exact ⟨_, rfl⟩
theorem go_good : ∀ (ls : List (List UInt8)) (i : Nat) (es : List Ent) (bad : Nat), goodL ls → goR i es bad (ls.map mkB) = (es ++ ls.map (fun x => eOf (mkB x)), bad)
  | [], i, es, bad, h => by simp [goR]
  | x :: t, i, es, bad, h => by
    obtain ⟨k, rfl⟩ := h x List.mem_cons_self
    have hk := line_ok k
    rw [List.map_cons, goR, if_neg (by rw [hk.skip]; decide), hk.ok, if_pos rfl, go_good t (i + 1) _ bad (fun y hy => h y (List.mem_cons_of_mem _ hy)), List.append_assoc]
    rfl
theorem listE_is (l : List Int) : (listL l).map (fun x => eOf (mkB x)) = listE l := by unfold listL listE; rw [List.map_map]; rfl
theorem parse_empty : parseV ⟨#[]⟩ = ([], 0, 0) := by decide +kernel
theorem parse_good {s : ByteArray} (rows : List ByteArray) (es : List Ent) (hr : rowsB s = rows) (hg : goR 0 [] 0 rows = (es, 0)) (hz : s.size ≤ 65536) (hl : es.length ≤ 2000) : parseV s = (es, 0, 0) := by
  rw [parse_of hz (by rw [hr]; exact hg) hl, if_neg (by omega)]
theorem parse_list (l : List Int) : parseV (listT l) = (listE l, 0, 0) := by
  by_cases h : listL l = []
  · have e : listE l = [] := by rw [← listE_is, h]; rfl
    rw [e]
    unfold listT
    rw [h]
    exact parse_empty
  · refine parse_good _ _ (rows_lines (listL l) (by unfold listT; rw [mk_list]) (list_nl l) h) ?_ (by have := listT_size l; omega) (by rw [listE_len]; omega)
    rw [go_good _ 0 [] 0 (list_good l), List.nil_append, listE_is]
/-- what stands between -/
def gapL (k : Nat) : List (List UInt8) := if k = 0 then [] else if k = 1 then [[]] else if k = 2 then [[35, 32, 97, 32, 98, 47, 99]] else [[], [], [35]]
def gapN (gap : List Int) (n : Nat) : List (List UInt8) := match gap[n]? with | some v => gapL (v % 4).toNat | none => []
def inter (gap : List Int) : Nat → List (List UInt8) → List (List UInt8)
  | _, [] => []
  | n, l :: r => gapN gap n ++ l :: inter gap (n + 1) r
def buildT (gap : List Int) : Nat → Bool → List UInt8 → List UInt8
  | _, _, [] => []
  | n, st, c :: r => (if st = true then linesT (gapN gap n) else []) ++ c :: buildT gap (if st = true then n + 1 else n) (c == 10) r
theorem build_mid (gap : List Int) (n : Nat) : ∀ (l rest : List UInt8), lnOk l → buildT gap n false (l ++ 10 :: rest) = l ++ 10 :: buildT gap n true rest
  | [], rest, h => by simp [buildT]
  | x :: l, rest, h => by
    have ih := build_mid gap n l rest (fun y hy => h y (List.mem_cons_of_mem _ hy))
    have hx : (x == 10) = false := by simpa using h x List.mem_cons_self
    rw [List.cons_append, buildT, hx, if_neg (by decide), if_neg (by decide), ih]
    rfl
theorem build_line (gap : List Int) (n : Nat) (l rest : List UInt8) (h : lnOk l) : buildT gap n true (l ++ 10 :: rest) = linesT (gapN gap n) ++ (l ++ 10 :: buildT gap (n + 1) true rest) := by
  cases l with
  | nil => simp [buildT]
  | cons x l =>
    have hx : (x == 10) = false := by simpa using h x List.mem_cons_self
    rw [List.cons_append, buildT, hx, if_pos rfl, if_pos rfl, build_mid gap (n + 1) l rest (fun y hy => h y (List.mem_cons_of_mem _ hy))]
    rfl
theorem build_lines (gap : List Int) : ∀ (ls : List (List UInt8)) (n : Nat), (∀ l ∈ ls, lnOk l) → buildT gap n true (linesT ls) = linesT (inter gap n ls)
  | [], n, h => rfl
  | l :: t, n, h => by
    have ih := build_lines gap t (n + 1) fun x hx => h x (List.mem_cons_of_mem _ hx)
    rw [linesT, build_line gap n l _ (h l List.mem_cons_self), ih, inter, linesT_app]
    rfl
theorem gap_ok (k : Nat) : ∀ x ∈ gapL k, lnOk x ∧ skipR (mkB x) = true := by
  have key : ∀ L : List (List UInt8), (L.all fun x => noNL x && skipR (mkB x)) = true → ∀ x ∈ L, lnOk x ∧ skipR (mkB x) = true := fun L h x hx => by
    have := List.all_eq_true.1 h x hx
    rw [Bool.and_eq_true] at this
    exact ⟨noNL_ok this.1, this.2⟩
  refine key _ ?_
  unfold gapL
  split
  · rfl
  · split
    · decide +kernel
    · split <;> decide +kernel
theorem gapN_ok (gap : List Int) (n : Nat) : ∀ x ∈ gapN gap n, lnOk x ∧ skipR (mkB x) = true := by
  unfold gapN
  split
  · exact gap_ok _
  · exact fun x hx => absurd hx List.not_mem_nil
theorem go_skip' : ∀ (ls : List (List UInt8)) (i : Nat) (es : List Ent) (bad : Nat), (∀ x ∈ ls, skipR (mkB x) = true) → goR i es bad (ls.map mkB) = (es, bad)
  | [], i, es, bad, h => rfl
  | x :: t, i, es, bad, h => by
    rw [List.map_cons, goR, if_pos (h x List.mem_cons_self)]
    exact go_skip' t (i + 1) es bad fun y hy => h y (List.mem_cons_of_mem _ hy)
theorem go_inter (gap : List Int) : ∀ (ls : List (List UInt8)) (n i : Nat) (es : List Ent) (bad : Nat), goodL ls → goR i es bad ((inter gap n ls).map mkB) = (es ++ ls.map (fun x => eOf (mkB x)), bad)
  | [], n, i, es, bad, h => by simp [goR, inter]
  | x :: t, n, i, es, bad, h => by
    obtain ⟨k, rfl⟩ := h x List.mem_cons_self
    have hk := line_ok k
    rw [inter, List.map_append, goR_app, go_skip' _ _ _ _ (fun y hy => (gapN_ok gap n y hy).2), List.map_cons, goR, if_neg (by rw [hk.skip]; decide), hk.ok, if_pos rfl, go_inter gap t _ _ _ _ (fun y hy => h y (List.mem_cons_of_mem _ hy)), List.append_assoc]
    rfl
theorem inter_nl (gap : List Int) : ∀ (ls : List (List UInt8)) (n : Nat), goodL ls → ∀ x ∈ inter gap n ls, lnOk x
  | [], n, h, x, hx => absurd hx List.not_mem_nil
  | l :: t, n, h, x, hx => by
    rw [inter] at hx
    rcases List.mem_append.1 hx with h1 | h1
    · exact (gapN_ok gap n x h1).1
    · rcases List.mem_cons.1 h1 with rfl | h2
      · obtain ⟨k, rfl⟩ := h x List.mem_cons_self
        exact (line_ok k).nl
      · exact inter_nl gap t (n + 1) (fun y hy => h y (List.mem_cons_of_mem _ hy)) x h2
/-- ListLines' text -/
def interT (l gap : List Int) : ByteArray := mkB (linesT (inter gap 0 (listL l)))
theorem parse_inter (l gap : List Int) (hz : (interT l gap).size ≤ 65000) : parseV (interT l gap) = (listE l, 0, 0) := by
  by_cases h : inter gap 0 (listL l) = []
  · have e : listE l = [] := by
      rw [← listE_is]
      cases hl : listL l with
      | nil => rfl
      | cons a t => rw [hl, inter] at h; exact absurd h (by simp)
    rw [e]
    unfold interT
    rw [h]
    exact parse_empty
  · refine parse_good _ _ (rows_lines (inter gap 0 (listL l)) (by unfold interT; rw [mk_list]) (inter_nl gap _ 0 (list_good l)) h) ?_ (by omega) (by rw [listE_len]; omega)
    rw [go_inter gap _ 0 0 [] 0 (list_good l), List.nil_append, listE_is]
theorem skip_hash : skipR (mkB [35]) = true := by decide +kernel
theorem parse_hash (l gap : List Int) (hz : (interT l gap).size ≤ 65000) : parseV (interT l gap ++ ⟨#[35]⟩) = (listE l, 0, 0) := by
  refine parse_good _ _ (rows_last (inter gap 0 (listL l)) [35] (by unfold interT; rw [ByteArray.data_append, Array.toList_append, mk_list]) (inter_nl gap _ 0 (list_good l)) (by unfold lnOk; decide) (by decide)) ?_ (by rw [ByteArray.size_append]; show _ + 1 ≤ _; omega) (by rw [listE_len]; omega)
  rw [List.map_append, goR_app, go_inter gap _ 0 0 [] 0 (list_good l), List.nil_append, listE_is]
  show goR _ _ _ [mkB [35]] = _
  rw [goR, if_pos skip_hash, goR]
theorem parse_short (l : List Int) (h : listT l ≠ ⟨#[]⟩) : parseV ((listT l).extract 0 ((listT l).size - 1)) = (listE l, 0, 0) := by
  have hne : listL l ≠ [] := fun e => h (by unfold listT; rw [e]; rfl)
  obtain ⟨a, x, he⟩ : ∃ a x, listL l = a ++ [x] := ⟨(listL l).dropLast, (listL l).getLast hne, (List.dropLast_concat_getLast hne).symm⟩
  have hg := list_good l
  rw [he] at hg
  obtain ⟨k, hk⟩ := hg x (by simp)
  have hd : ((listT l).extract 0 ((listT l).size - 1)).data.toList = linesT a ++ x := by
    unfold listT
    rw [he, linesT_end, mk_size, ByteArray.data_extract]
    simp [mkB]
  refine parse_good _ _ (rows_last a x hd (fun y hy => by obtain ⟨k, rfl⟩ := hg y (List.mem_append_left _ hy); exact (line_ok k).nl) (by rw [hk]; exact (line_ok k).nl) (by rw [hk]; exact (line_ok k).ne)) ?_ (by rw [ByteArray.size_extract]; have := listT_size l; omega) (by rw [listE_len]; omega)
  rw [go_good _ 0 [] 0 hg, List.nil_append, ← he, listE_is]
end Go.Proofs.YtmpckoincdkeeaaDoor

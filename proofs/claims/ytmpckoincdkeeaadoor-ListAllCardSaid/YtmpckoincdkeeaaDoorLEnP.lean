/- The document's entries are the program's (plain). -/
import Derived.Test.YtmpckoincdkeeaaDoorLEnt
namespace Go.Proofs.YtmpckoincdkeeaaDoor
open Go.RowKit Go.Deep Go.Own
set_option linter.unusedVariables false
theorem u_high (s : ByteArray) (i : Nat) (h : 128 ≤ uB s i) : 128 ≤ (Utf8.decode s i).1 := by
  rw [u_eq, if_neg (by omega)]
  repeat' split
  all_goals (simp only; omega)
theorem code_high {s : ByteArray} {i : Nat} (h : 128 ≤ uB s i) : uCode s i < 0 ∨ 128 ≤ uCode s i := by
  have hd := u_high s i h
  unfold uCode
  split
  · left; omega
  · right; omega
theorem code_low {s : ByteArray} {i : Nat} (h : uB s i < 128) : uCode s i = (uB s i : Nat) ∧ uLen s i = 1 := ⟨(u_one s i h).2, (u_one s i h).1⟩
/-- a byte below 128 is a unit of its own -/
theorem bad_bytes (s : ByteArray) : ∀ (us : List (Nat × Nat × Int)) (p : Nat), ChainU s p us s.size → ((us.map fun u => u.2.2).any badU = true ↔ ∃ j, p ≤ j ∧ j < s.size ∧ (uB s j < 33 ∨ uB s j = 35))
  | [], p, h => by
    unfold ChainU at h
    simp
    intro j h1 h2
    omega
  | u :: us, p, h => by
    obtain ⟨hu, hp, hc⟩ := h
    subst hu
    have ih := bad_bytes s us _ hc
    have hf : p + uLen s p ≤ s.size := u_fits s p hp
    have h1 : 1 ≤ uLen s p := u_len1 s p
    have hhead : badU (uCode s p) = true ↔ (uB s p < 33 ∨ uB s p = 35) := by
      unfold badU badC
      by_cases hb : uB s p < 128
      · rw [(code_low hb).1]
        simp
        omega
      · have := code_high (s := s) (i := p) (by omega)
        simp
        omega
    show (badU (uCode s p) || _) = true ↔ _
    rw [Bool.or_eq_true, hhead, ih]
    constructor
    · rintro (h | ⟨j, h2, h3, h4⟩)
      · exact ⟨p, Nat.le_refl _, hp, h⟩
      · exact ⟨j, by omega, h3, h4⟩
    · rintro ⟨j, h2, h3, h4⟩
      by_cases hj : j = p
      · subst hj; exact .inl h4
      · by_cases hj2 : p + uLen s p ≤ j
        · exact .inr ⟨j, hj2, h3, h4⟩
        · exfalso
          have := dec_cont s p (j - p) (by omega) (by unfold uLen at hj2; omega)
          rw [show p + (j - p) = j by omega] at this
          omega
theorem bad_is (s : ByteArray) : hasBad s = true ↔ ∃ j, j < s.size ∧ (uB s j < 33 ∨ uB s j = 35) := by
  have := bad_bytes s (units s) 0 (chain_units s)
  unfold hasBad codes
  rw [this]
  exact ⟨fun ⟨j, _, h⟩ => ⟨j, h⟩, fun ⟨j, h⟩ => ⟨j, Nat.zero_le _, h⟩⟩
/-- the words are the same, where there is no '/' -/
theorem word_is {a : ByteArray} (h : ∀ j, j < a.size → uB a j ≠ 47) : wordR a = wordOk a := by
  unfold wordR wordOk
  have e : ((List.range a.size).all fun j => !badB (uB a j)) = !hasBad a := by
    rw [Bool.eq_iff_iff, List.all_eq_true]
    rw [Bool.not_eq_true', Bool.eq_false_iff, ne_eq, bad_is]
    unfold badB
    constructor
    · rintro hh ⟨j, h1, h2⟩
      have := hh j (List.mem_range.2 h1)
      simp at this
      omega
    · intro hh j hj
      have hj := List.mem_range.1 hj
      have h2 : ¬ (uB a j < 33 ∨ uB a j = 35) := fun x => hh ⟨j, hj, x⟩
      have h3 := h j hj
      simp
      omega
  rw [e]
  cases hasBad a <;> cases okU a <;> cases a.toList.isEmpty <;> rfl
theorem let_is (u : Nat) : letC (u : Int) = letB u := by
  unfold letC letB
  rw [Bool.eq_iff_iff]
  simp
  omega
theorem let_high {s : ByteArray} {p : Nat} (h : 128 ≤ uB s p) : letC (uCode s p) = false ∧ letB (uB s p) = false := by
  have := code_high h
  unfold letC letB
  constructor
  · simp; omega
  · simp; omega
theorem flB_is (s : ByteArray) : ∀ (us : List (Nat × Nat × Int)) (p : Nat) (acc : List Int), ChainU s p us s.size → flagsFrom acc (us.map fun u => u.2.2) = flB acc (s.data.toList.drop p)
  | [], p, acc, h => by
    unfold ChainU at h
    rw [List.drop_eq_nil_of_le (by simp; omega)]
    rfl
  | u :: us, p, acc, h => by
    obtain ⟨hu, hp, hc⟩ := h
    subst hu
    obtain ⟨x, hx, hxu⟩ := byte_at s hp
    have hdr : s.data.toList.drop p = x :: s.data.toList.drop (p + 1) := by
      obtain ⟨h1, h2⟩ := List.getElem?_eq_some_iff.1 hx
      rw [List.drop_eq_getElem_cons h1, h2]
    rw [hdr]
    show (if (letC (uCode s p) && !acc.contains (uCode s p)) = true then flagsFrom (acc ++ [uCode s p]) (us.map fun u => u.2.2) else none) = (if (letB x.toNat && !acc.contains (x.toNat : Int)) = true then flB (acc ++ [(x.toNat : Int)]) (s.data.toList.drop (p + 1)) else none)
    rw [hxu]
    by_cases hb : uB s p < 128
    · obtain ⟨e1, e2⟩ := code_low hb
      rw [e2] at hc
      rw [e1, let_is, flB_is s us (p + 1) _ hc]
    · obtain ⟨e1, e2⟩ := let_high (s := s) (p := p) (by omega)
      rw [e1, e2]
      rfl
theorem flags_is (b : ByteArray) : flagsV b = match flB [] b.data.toList with | none => ([], false) | some l => (l, decide (0 < l.length)) := by
  have := flB_is b (units b) 0 [] (chain_units b)
  rw [List.drop_zero] at this
  unfold flagsV codes
  rw [this]
  cases flB [] b.data.toList <;> rfl
theorem flB_slash : ∀ (l : List UInt8) (acc : List Int), (47 : UInt8) ∈ l → flB acc l = none
  | x :: t, acc, h => by
    show (if _ then _ else _) = _
    split
    · rename_i hc
      rcases List.mem_cons.1 h with rfl | h
      · rw [Bool.and_eq_true] at hc
        exact absurd hc.1 (show ¬ letB (UInt8.toNat 47) = true by decide)
      · exact flB_slash t _ h
    · rfl
def unEnt : Option Ent → Bool × Ent
  | none => (false, (⟨#[]⟩, []))
  | some e => (true, e)
theorem cut_two (c : UInt8) (l : List UInt8) (h : c ∈ l) : cutL c l = l.take (l.findIdx (· == c)) :: cutL c (l.drop (l.findIdx (· == c) + 1)) := by
  have hk : l.findIdx (· == c) < l.length := List.findIdx_lt_length.2 ⟨c, h, by simp⟩
  have hx : l[l.findIdx (· == c)] = c := by
    have := List.findIdx_getElem (w := hk)
    simpa using this
  have hn : noC c (l.take (l.findIdx (· == c))) := fun x hx' e => by
    obtain ⟨j, hj, hj2⟩ := List.mem_iff_getElem.1 hx'
    rw [List.length_take] at hj
    rw [List.getElem_take] at hj2
    have h2 := List.not_of_lt_findIdx (p := (· == c)) (xs := l) (i := j) (by omega)
    rw [hj2, e] at h2
    simp at h2
  have hs : l = l.take (l.findIdx (· == c)) ++ c :: l.drop (l.findIdx (· == c) + 1) := by
    have h1 := List.drop_eq_getElem_cons hk
    rw [hx] at h1
    rw [← h1, List.take_append_drop]
  have h2 := cut_part c (l.take (l.findIdx (· == c))) (l.drop (l.findIdx (· == c) + 1)) hn
  rw [← hs] at h2
  exact h2
theorem cut_many (c : UInt8) (l : List UInt8) (h : c ∈ l) : 2 ≤ (cutL c l).length := by
  rw [cut_two c l h]
  have := cutL_ne c (l.drop (l.findIdx (· == c) + 1))
  cases hh : cutL c (l.drop (l.findIdx (· == c) + 1)) with
  | nil => exact absurd hh this
  | cons a t => simp
/-- THE DOCUMENT'S ENTRY IS THE PROGRAM'S -/
theorem ent_is (r : ByteArray) : entW r = if (entR r).2.2 = true then some ((entR r).1, (entR r).2.1) else none := by
  have hz : r.data.toList.length = r.size := by simp
  obtain ⟨k, hk⟩ : ∃ k, k = slK r.data.toList := ⟨_, rfl⟩
  by_cases hs : (47 : UInt8) ∈ r.data.toList
  · have hkl : k < r.size := by
      rw [hk, ← hz]
      exact List.findIdx_lt_length.2 ⟨47, hs, by simp⟩
    obtain ⟨a, ha⟩ : ∃ a, a = mkB (r.data.toList.take k) := ⟨_, rfl⟩
    obtain ⟨b, hb⟩ : ∃ b, b = mkB (r.data.toList.drop (k + 1)) := ⟨_, rfl⟩
    have hcut : cutB 47 r = a :: cutB 47 b := by
      unfold cutB
      rw [cut_two 47 _ hs, List.map_cons, ha, hb, mk_list, hk]
      rfl
    have hae : r.extract 0 k = a := by
      rw [extract_list, ha]
      rfl
    have han : ∀ j, j < a.size → uB a j ≠ 47 := fun j hj e => by
      have hj2 : j < k := by rw [ha, mk_size, List.length_take] at hj; omega
      rw [← hae, uB_part r 0 k j (by omega), Nat.zero_add] at e
      rw [hk] at hj2
      obtain ⟨x, hx, hxu⟩ := byte_at r (i := j) (by omega)
      have h2 := List.not_of_lt_findIdx (p := (· == (47 : UInt8))) (xs := r.data.toList) (i := j) hj2
      have h3 := (List.getElem?_eq_some_iff.1 hx).2
      rw [h3] at h2
      have : x = 47 := UInt8.toNat_inj.1 (by rw [hxu, e]; rfl)
      rw [this] at h2
      simp at h2
    have hw := word_is han
    have hbl : b.data.toList = r.data.toList.drop (k + 1) := by rw [hb, mk_list]
    unfold entW entR
    rw [← hk, hae, hw, ← hbl, hcut]
    by_cases hok : wordOk a = true
    · rw [if_pos hok]
      by_cases hs2 : (47 : UInt8) ∈ b.data.toList
      · have h2 : 2 ≤ (cutB 47 b).length := by unfold cutB; rw [List.length_map]; exact cut_many 47 _ hs2
        rw [flB_slash _ [] hs2, oneV_many h2]
        rfl
      · have hone : cutB 47 b = [b] := by
          unfold cutB
          rw [cut_one 47 _ (fun x hx e => hs2 (e ▸ hx))]
          rfl
        rw [hone]
        unfold oneV
        simp only
        rw [if_pos hok]
        rw [flags_is]
        cases hf : flB [] b.data.toList with
        | none => rfl
        | some f =>
          simp only
          by_cases h0 : 0 < f.length
          · rw [if_pos (.inr h0), decide_eq_true h0, if_pos rfl]
          · rw [if_neg (by omega), decide_eq_false h0, if_neg (by decide)]
    · have hok : wordOk a = false := by simpa using hok
      rw [hok, oneV_bad hok]
      rfl
  · have hkl : k = r.size := by
      rw [hk, ← hz]
      exact List.findIdx_eq_length.2 fun x hx => by
        simp
        intro e
        exact hs (e ▸ hx)
    have hone : cutB 47 r = [r] := by
      unfold cutB
      rw [cut_one 47 _ (fun x hx e => hs (e ▸ hx))]
      rfl
    have hae : r.extract 0 k = r := by
      rw [hkl]
      apply ByteArray.ext
      rw [ByteArray.data_extract]
      exact Array.extract_size
    have han : ∀ j, j < r.size → uB r j ≠ 47 := fun j hj e => by
      obtain ⟨x, hx, hxu⟩ := byte_at r hj
      have : x = 47 := UInt8.toNat_inj.1 (by rw [hxu, e]; rfl)
      exact hs (this ▸ List.mem_of_getElem? hx)
    unfold entW entR
    rw [← hk, hae, word_is han, hone, List.drop_eq_nil_of_le (by omega)]
    unfold oneV
    simp only
    by_cases hok : wordOk r = true
    · rw [if_pos hok, if_pos hok]
      show (if k = r.size ∨ 0 < ([] : List Int).length then some (r, []) else none) = _
      rw [if_pos (.inl hkl)]
      rfl
    · rw [if_neg hok, if_neg hok]
      rfl
theorem cut_snoc (c : UInt8) : ∀ t : List UInt8, cutL c (t ++ [c]) = cutL c t ++ [[]]
  | [] => by simp [cutL]
  | x :: t => by
    have ih := cut_snoc c t
    rw [List.cons_append, cutL, cutL]
    split
    · rw [ih]; rfl
    · rw [ih]
      have := cutL_ne c t
      cases h : cutL c t with
      | nil => exact absurd h this
      | cons a r => rfl
theorem cut_end (c : UInt8) : ∀ l : List UInt8, l ≠ [] → l.getLast? ≠ some c → (cutL c l).getLast? ≠ some []
  | [], h, _ => absurd rfl h
  | x :: t, _, hl => by
    rw [cutL]
    cases t with
    | nil =>
      simp at hl
      rw [if_neg hl]
      simp [cutL, consH]
    | cons y t =>
      have ih := cut_end c (y :: t) (by simp) (by rwa [List.getLast?_cons_cons] at hl)
      have hne := cutL_ne c (y :: t)
      cases h : cutL c (y :: t) with
      | nil => exact absurd h hne
      | cons a r =>
        rw [h] at ih
        split
        · rw [List.getLast?_cons_cons]; exact ih
        · cases r with
          | nil => simp [consH]
          | cons b r => rw [consH, List.getLast?_cons_cons]; rw [List.getLast?_cons_cons] at ih; exact ih
theorem trim_snoc (l : List UInt8) : Lib.trimSuffix (l ++ [10]) [10] = l := by
  unfold Lib.trimSuffix
  rw [if_pos]
  · simp
  · unfold Lib.hasSuffix
    simp
theorem trim_same {l : List UInt8} (h : l.getLast? ≠ some 10) : Lib.trimSuffix l [10] = l := by
  unfold Lib.trimSuffix
  rw [if_neg]
  intro hs
  unfold Lib.hasSuffix at hs
  obtain ⟨t, rfl⟩ := List.isSuffixOf_iff_suffix.1 hs
  exact h (by simp)
/-- the document's lines are the program's, but of an empty text -/
theorem rows_is (s : ByteArray) (h : s ≠ ⟨#[]⟩) : (linesR s.data.toList).map mkB = rowsB s := by
  have hne : s.data.toList ≠ [] := fun e => h (ByteArray.ext (by rw [← Array.toList_inj, e]))
  unfold rowsB cutB trimN linesR
  rw [mk_list]
  obtain ⟨l, hl⟩ : ∃ l, l = s.data.toList := ⟨_, rfl⟩
  rw [← hl] at hne ⊢
  by_cases hh : l.getLast? = some 10
  · obtain ⟨t, rfl⟩ : ∃ t, l = t ++ [10] := by
      refine ⟨l.dropLast, ?_⟩
      rw [List.getLast?_eq_some_getLast hne] at hh
      have h2 := List.dropLast_concat_getLast hne
      rw [Option.some.inj hh] at h2
      exact h2.symm
    rw [trim_snoc, cut_snoc]
    simp
  · rw [trim_same hh, if_neg (cut_end 10 l hne hh)]
    congr 1
    have hc := cutL_ne 10 l
    rw [List.getLast?_eq_some_getLast hc]
    exact List.dropLast_concat_getLast hc
theorem go_rows (s : ByteArray) : goR 0 [] 0 ((linesR s.data.toList).map mkB) = goR 0 [] 0 (rowsB s) := by
  by_cases h : s = ⟨#[]⟩
  · subst h; decide +kernel
  · rw [rows_is s h]
end Go.Proofs.YtmpckoincdkeeaaDoor

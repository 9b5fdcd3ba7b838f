/- The document's Text of a list. -/
import Derived.Test.YtmpckoincdkeeaaDoorLEnP
import Derived.Test.YtmpckoincdkeeaaDoorListO
namespace Go.Proofs.YtmpckoincdkeeaaDoor
open Go.RowKit Go.Deep Go.Own
set_option linter.unusedVariables false
/-- what is read is small, its flags are letters -/
def EntOk (e : Ent) : Prop := e.1.size ≤ 65536 ∧ e.2.length ≤ 65536 ∧ ∀ c ∈ e.2, letC c = true
theorem flags_all : ∀ (cs acc l : List Int), flagsFrom acc cs = some l → (∀ x ∈ acc, letC x = true) → l.length = acc.length + cs.length ∧ ∀ x ∈ l, letC x = true
  | [], acc, l, h, ha => by
    obtain rfl : acc = l := by simpa [flagsFrom] using h
    exact ⟨rfl, ha⟩
  | c :: t, acc, l, h, ha => by
    unfold flagsFrom at h
    split at h
    · rename_i hc
      rw [Bool.and_eq_true] at hc
      obtain ⟨h1, h2⟩ := flags_all t _ l h (fun x hx => by
        rcases List.mem_append.1 hx with hx | hx
        · exact ha x hx
        · obtain rfl := List.mem_singleton.1 hx
          exact hc.1)
      refine ⟨?_, h2⟩
      rw [h1, List.length_append, List.length_cons]
      simp only [List.length_cons, List.length_nil]
      omega
    · cases h
theorem codes_len (s : ByteArray) : (codes s).length ≤ s.size := by
  unfold codes
  rw [List.length_map]
  have := (chain_le (chain_units s)).1
  omega
theorem flagsV_all (b : ByteArray) : (flagsV b).1.length ≤ b.size ∧ ∀ x ∈ (flagsV b).1, letC x = true := by
  unfold flagsV
  cases h : flagsFrom [] (codes b) with
  | none => exact ⟨Nat.zero_le _, fun x hx => absurd hx List.not_mem_nil⟩
  | some l =>
    obtain ⟨h1, h2⟩ := flags_all _ _ _ h (fun x hx => absurd hx List.not_mem_nil)
    refine ⟨?_, h2⟩
    have := codes_len b
    rw [List.length_nil] at h1
    show l.length ≤ _
    omega
theorem ent_ok {r : ByteArray} (h : r.size ≤ 65536) : EntOk ((entR r).1, (entR r).2.1) := by
  have hc : ∀ x ∈ cutB 47 r, x.size ≤ 65536 := fun x hx => Nat.le_trans (cutB_size hx) h
  have h0 : EntOk ((⟨#[]⟩ : ByteArray), []) := ⟨Nat.zero_le _, Nat.zero_le _, fun x hx => absurd hx List.not_mem_nil⟩
  unfold entR oneV
  split
  · rename_i a e
    split
    · exact ⟨hc a (by rw [e]; exact List.mem_cons_self), Nat.zero_le _, fun x hx => absurd hx List.not_mem_nil⟩
    · exact h0
  · rename_i a b e
    split
    · have := flagsV_all b
      exact ⟨hc a (by rw [e]; exact List.mem_cons_self), Nat.le_trans this.1 (hc b (by rw [e]; simp)), this.2⟩
    · exact h0
  · exact h0
theorem go_ok : ∀ (rows : List ByteArray) (i : Nat) (es : List Ent) (bad : Nat), (∀ r ∈ rows, r.size ≤ 65536) → (∀ e ∈ es, EntOk e) → ∀ e ∈ (goR i es bad rows).1, EntOk e
  | [], i, es, bad, _, h => h
  | r :: t, i, es, bad, hr, h => by
    have hr2 : ∀ r ∈ t, r.size ≤ 65536 := fun x hx => hr x (List.mem_cons_of_mem _ hx)
    rw [goR]
    split
    · exact go_ok t _ _ _ hr2 h
    · split
      · exact go_ok t _ _ _ hr2 (fun e he => by
          rcases List.mem_append.1 he with he | he
          · exact h e he
          · obtain rfl := List.mem_singleton.1 he
            exact ent_ok (hr r List.mem_cons_self))
      · exact go_ok t _ _ _ hr2 h
theorem parse_ok (s : ByteArray) : (parseV s).1.length ≤ 2000 ∧ ∀ e ∈ (parseV s).1, EntOk e := by
  have h0 : ([] : List Ent).length ≤ 2000 ∧ ∀ e ∈ ([] : List Ent), EntOk e := ⟨Nat.zero_le _, fun e he => absurd he List.not_mem_nil⟩
  unfold parseV
  split
  · exact h0
  · split
    · exact h0
    · split
      · exact h0
      · exact ⟨by simp only; omega, go_ok _ _ _ _ (fun r hr => by have := rows_size hr; omega) (fun e he => absurd he List.not_mem_nil)⟩
theorem parse_small (s : ByteArray) : smallE (parseV s).1 := by
  obtain ⟨h1, h2⟩ := parse_ok s
  exact ⟨by omega, fun e he => by have := (h2 e he).2.1; omega⟩
theorem enc_four (c : Int) : (enc c).data.toList.length ≤ 4 := by
  by_cases h : Utf8.valid c = true
  · rw [enc_valid h]
    unfold Utf8.encode
    simp only [h, if_true]
    repeat' split
    all_goals (show List.length _ ≤ 4; simp)
  · rw [enc_not h]
    exact Nat.zero_le _
theorem flT_bound (f : List Int) : (flT f).length ≤ 4 * f.length + 1 := by
  unfold flT
  have h : (f.flatMap fun c => (enc c).data.toList).length ≤ 4 * f.length := by
    induction f with
    | nil => exact Nat.zero_le _
    | cons c t ih =>
      rw [List.flatMap_cons, List.length_append, List.length_cons]
      have := enc_four c
      omega
  rw [List.length_append]
  split
  · rw [List.length_nil]; omega
  · rw [List.length_singleton]; omega
theorem textL_bound (a b : Nat) : ∀ es : List Ent, (∀ e ∈ es, e.1.size ≤ a ∧ e.2.length ≤ b) → (textL es).length ≤ es.length * (a + 4 * b + 2)
  | [], _ => by simp [textL]
  | e :: t, h => by
    have ih := textL_bound a b t (fun x hx => h x (List.mem_cons_of_mem _ hx))
    obtain ⟨h1, h2⟩ := h e List.mem_cons_self
    have h3 := flT_bound e.2
    have h4 : e.1.data.toList.length = e.1.size := by simp
    have h5 : textL (e :: t) = entL e ++ textL t := rfl
    rw [h5, List.length_append, List.length_cons, Nat.succ_mul]
    unfold entL
    rw [List.length_append, List.length_append, List.length_singleton]
    omega
theorem parse_text (s : ByteArray) : (textL (parseV s).1).length ≤ 1000000000 := by
  obtain ⟨h1, h2⟩ := parse_ok s
  have h3 := textL_bound 65536 65536 (parseV s).1 (fun e he => ⟨(h2 e he).1, (h2 e he).2.1⟩)
  have h4 : (parseV s).1.length * (65536 + 4 * 65536 + 2) ≤ 2000 * (65536 + 4 * 65536 + 2) := Nat.mul_le_mul_right _ h1
  omega
/-- a flag that is no letter's number: no text -/
theorem text_bad {es : List Ent} {i k : Nat} {e : Ent} {c : Int} (h1 : es[i]? = some e) (h2 : e.2[k]? = some c) (h3 : c < 0 ∨ 127 < c) : textV es = ⟨#[]⟩ := by
  unfold textV
  rw [if_neg]
  rintro ⟨_, he⟩
  have h4 := (parse_ok (mkB (textL es))).2 e (by rw [← he]; exact List.mem_of_getElem? h1)
  have h5 := h4.2.2 c (List.mem_of_getElem? h2)
  unfold letC at h5
  simp at h5
  omega
theorem enc_low (c : Nat) (h : c ≤ 127) : enc (c : Int) = ⟨#[c.toUInt8]⟩ := by
  have hv : Utf8.valid (c : Int) = true := (valid_int _).2 (by omega)
  rw [enc_valid hv]
  unfold Utf8.encode
  have h1 : ((c : Int).toNat) = c := by omega
  simp only [hv, if_true, h1]
  rw [if_pos (by omega)]
theorem mkB_app (a b : List UInt8) : mkB (a ++ b) = mkB a ++ mkB b := by
  apply ByteArray.ext
  rw [ByteArray.data_append, ← Array.toList_inj]
  simp [mkB]
end Go.Proofs.YtmpckoincdkeeaaDoor

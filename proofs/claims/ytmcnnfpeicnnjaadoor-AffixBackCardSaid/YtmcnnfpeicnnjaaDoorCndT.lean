/- Conditions as texts (plain). -/
import Derived.Test.YtmcnnfpeicnnjaaDoorCndP
import Derived.Test.YtmcnnfpeicnnjaaDoorCutP
namespace Go.Proofs.YtmcnnfpeicnnjaaDoor
open Go.RowKit Go.Deep Go.Own
set_option linter.unusedVariables false
theorem code_val (s : ByteArray) (i : Nat) (hv : 0 ≤ uCode s i) : ValidC (uCode s i) := by
  have hg := (uCode_sign s i).1 hv
  rw [uCode_good hg]
  have h1 := u_max s i
  unfold ValidC
  have key : (Utf8.decode s i).1 < 55296 ∨ 57344 ≤ (Utf8.decode s i).1 := by
    rw [u_eq]
    repeat' split
    all_goals first
      | (simp only; omega)
      | (rename_i hh; have := (valid_iff _).1 hh.2; simp only; omega)
  omega
theorem codes_val (s : ByteArray) : ∀ (f i : Nat) (c : Int), c ∈ (unitsFrom s f i).map (fun u => u.2.2) → 0 ≤ c → ValidC c
  | 0, i, c, h, _ => by simp [unitsFrom] at h
  | f + 1, i, c, h, h0 => by
    unfold unitsFrom at h
    split at h
    · rcases List.mem_cons.1 h with rfl | h
      · exact code_val s i h0
      · exact codes_val s f _ c h h0
    · cases h
def bytesC (l : List Int) : List UInt8 := l.flatMap fun c => (enc c).data.toList
theorem bytesC_app (a b : List Int) : bytesC (a ++ b) = bytesC a ++ bytesC b := by unfold bytesC; rw [List.flatMap_append]
theorem bytesC_cons (c : Int) (l : List Int) : bytesC (c :: l) = (enc c).data.toList ++ bytesC l := rfl
theorem mk_both (a b : List UInt8) : mkB (a ++ b) = mkB a ++ mkB b := by
  apply ByteArray.ext
  rw [ByteArray.data_append, ← Array.toList_inj]
  simp [mkB]
theorem codes_bytesC : ∀ l : List Int, (∀ c ∈ l, ValidC c) → codes (mkB (bytesC l)) = l ∧ okU (mkB (bytesC l)) = true
  | [], _ => ⟨rfl, rfl⟩
  | c :: t, h => by
    have hc := h c List.mem_cons_self
    obtain ⟨_, _, h3, h4⟩ := enc_first hc
    obtain ⟨i1, i2⟩ := codes_bytesC t (fun d hd => h d (List.mem_cons_of_mem _ hd))
    rw [bytesC_cons, mk_both, mk_data]
    constructor
    · rw [codes_append _ _ h3, h4, i1]
      rfl
    · rw [okU_append _ _ h3]
      exact i2
theorem enc_small (c : Nat) (h : c < 128) : (enc (c : Int)).data.toList = [c.toUInt8] := by
  have hv : Utf8.valid (c : Int) = true := (valid_int _).2 (by omega)
  rw [enc_valid hv]
  unfold Utf8.encode
  have h1 : ((c : Int).toNat) = c := by omega
  simp only [hv, if_true, h1]
  rw [if_pos (by omega)]
/-- an item as a text -/
def textI (x : ItP) : List UInt8 := if x.any = true then [46] else if x.neg = true then [91, 94] ++ bytesC x.set ++ [93] else if plainS x.set = true then bytesC x.set else [91] ++ bytesC x.set ++ [93]
def textIs (l : List ItP) : List UInt8 := l.flatMap textI
theorem textI_is (x : ItP) : textI x = bytesC (itemC x) := by
  have e46 : (enc 46).data.toList = [46] := enc_small 46 (by omega)
  have e91 : (enc 91).data.toList = [91] := enc_small 91 (by omega)
  have e93 : (enc 93).data.toList = [93] := enc_small 93 (by omega)
  have e94 : (enc 94).data.toList = [94] := enc_small 94 (by omega)
  have n0 : bytesC [] = [] := rfl
  unfold textI itemC
  split
  · rw [bytesC_cons, e46, n0]; rfl
  · split
    · rw [bytesC_cons, bytesC_cons, bytesC_app, bytesC_cons, e91, e94, e93, n0, List.append_assoc]; rfl
    · split
      · rfl
      · rw [bytesC_cons, bytesC_app, bytesC_cons, e91, e93, n0, List.append_assoc]; rfl
theorem textIs_is (l : List ItP) : textIs l = bytesC (l.flatMap itemC) := by
  unfold textIs
  induction l with
  | nil => rfl
  | cons x t ih => rw [List.flatMap_cons, List.flatMap_cons, bytesC_app, ih, textI_is]
/-- an item whose codes are codes -/
def ValI (x : ItP) : Prop := GoodI x ∧ ∀ c ∈ x.set, ValidC c
theorem itemC_val {x : ItP} (h : ValI x) : ∀ c ∈ itemC x, ValidC c := by
  have v : ∀ n : Nat, n < 128 → ValidC (n : Int) := fun n hn => .inl (by omega)
  have v46 : ValidC 46 := v 46 (by omega)
  have v91 : ValidC 91 := v 91 (by omega)
  have v93 : ValidC 93 := v 93 (by omega)
  have v94 : ValidC 94 := v 94 (by omega)
  intro c hc
  unfold itemC at hc
  split at hc
  · simp at hc; subst hc; exact v46
  · split at hc
    · simp at hc
      rcases hc with rfl | rfl | hc | rfl
      · exact v91
      · exact v94
      · exact h.2 c hc
      · exact v93
    · split at hc
      · exact h.2 c hc
      · simp at hc
        rcases hc with rfl | hc | rfl
        · exact v91
        · exact h.2 c hc
        · exact v93
theorem codes_textIs {l : List ItP} (h : ∀ x ∈ l, ValI x) : codes (mkB (textIs l)) = l.flatMap itemC := by
  rw [textIs_is]
  refine (codes_bytesC _ fun c hc => ?_).1
  obtain ⟨x, hx, hcx⟩ := List.mem_flatMap.1 hc
  exact itemC_val (h x hx) c hcx
/-- WHAT IS WRITTEN IS READ AS THAT -/
theorem cond_text {l : List ItP} (h : ∀ x ∈ l, ValI x) (hne : l ≠ []) (hl : l.length ≤ 8) : condV (mkB (textIs l)) = some l := by
  unfold condV
  rw [codes_textIs h]
  exact parseC_text l [] 10 (fun x hx => (h x hx).1) (by rw [List.length_nil]; omega) (by omega) (by simpa using hne)
theorem oneC_sub {cs r : List Int} {x : ItP} (h : oneC cs = some (x, r)) : (∀ c ∈ x.set, c ∈ cs) ∧ (∀ c ∈ r, c ∈ cs) ∧ r.length < cs.length ∧ x.set.length ≤ cs.length := by
  have hset : ∀ (neg : Bool) (l : List Int), setC neg l = some (x, r) → (∀ c ∈ x.set, c ∈ l) ∧ (∀ c ∈ r, c ∈ l) ∧ r.length < l.length ∧ x.set.length ≤ l.length := fun neg l h => by
    unfold setC at h
    cases hc : cutC 93 l with
    | none => rw [hc] at h; cases h
    | some q =>
      obtain ⟨a, r'⟩ := q
      rw [hc] at h
      simp only at h
      split at h
      · cases h
        obtain ⟨h1, h2⟩ := cutC_some hc
        rw [h1]
        simp only [List.length_append, List.length_cons]
        exact ⟨fun c hc => by simp [hc], fun c hc => by simp [hc], by omega, by omega⟩
      · cases h
  cases cs with
  | nil => cases h
  | cons c t =>
    rw [oneC] at h
    by_cases h46 : c = 46
    · rw [if_pos h46] at h
      cases h
      exact ⟨fun c hc => absurd hc List.not_mem_nil, fun c hc => List.mem_cons_of_mem _ hc, by simp, by simp⟩
    · rw [if_neg h46] at h
      by_cases h91 : c = 91
      · rw [if_pos h91] at h
        by_cases hh : t.head? = some 94
        · rw [if_pos hh] at h
          obtain ⟨h1, h2, h3, h4⟩ := hset _ _ h
          have ht : ∀ d ∈ t.tail, d ∈ c :: t := fun d hd => List.mem_cons_of_mem _ (List.mem_of_mem_tail hd)
          rw [List.length_tail] at h3 h4
          rw [List.length_cons]
          exact ⟨fun d hd => ht d (h1 d hd), fun d hd => ht d (h2 d hd), by omega, by omega⟩
        · rw [if_neg hh] at h
          obtain ⟨h1, h2, h3, h4⟩ := hset _ _ h
          rw [List.length_cons]
          exact ⟨fun d hd => List.mem_cons_of_mem _ (h1 d hd), fun d hd => List.mem_cons_of_mem _ (h2 d hd), by omega, by omega⟩
      · rw [if_neg h91] at h
        by_cases hb : 0 ≤ c ∧ c ≠ 93
        · rw [if_pos hb] at h
          cases h
          exact ⟨fun d hd => by obtain rfl := List.mem_singleton.1 hd; exact List.mem_cons_self, fun c hc => List.mem_cons_of_mem _ hc, by simp, by simp⟩
        · rw [if_neg hb] at h
          cases h
theorem parseC_sub : ∀ (f : Nat) (acc : List ItP) (cs : List Int) (l : List ItP) (P : Int → Prop) (n : Nat), parseC f acc cs = some l → (∀ x ∈ acc, (∀ c ∈ x.set, P c) ∧ x.set.length ≤ n) → (∀ c ∈ cs, P c) → cs.length ≤ n → ∀ x ∈ l, (∀ c ∈ x.set, P c) ∧ x.set.length ≤ n
  | 0, acc, cs, l, P, n, h, _, _, _ => by cases h
  | f + 1, acc, cs, l, P, n, h, ha, hc, hn => by
    unfold parseC at h
    split at h
    · split at h
      · cases h
      · cases h
        exact ha
    · cases ho : oneC cs with
      | none => rw [ho] at h; cases h
      | some q =>
        obtain ⟨x, r⟩ := q
        rw [ho] at h
        simp only at h
        obtain ⟨s1, s2, s3, s4⟩ := oneC_sub ho
        split at h
        · cases h
        · refine parseC_sub f _ r l P n h (fun y hy => ?_) (fun c hcr => hc c (s2 c hcr)) (by omega)
          rcases List.mem_append.1 hy with hy | hy
          · exact ha y hy
          · obtain rfl := List.mem_singleton.1 hy
            exact ⟨fun c hcx => hc c (s1 c hcx), by omega⟩
theorem codes_count (s : ByteArray) : (codes s).length ≤ s.size := by
  unfold codes
  rw [List.length_map]
  have := (chain_le (chain_units s)).1
  omega
/-- what was read -/
theorem cond_read {s : ByteArray} {l : List ItP} (h : condV s = some l) : (∀ x ∈ l, ValI x) ∧ l ≠ [] ∧ l.length ≤ 8 ∧ ∀ x ∈ l, x.set.length ≤ s.size := by
  unfold condV at h
  obtain ⟨h1, h2, h3⟩ := parseC_good 10 [] _ l h (fun x hx => absurd hx List.not_mem_nil) (by simp)
  have h4 := parseC_sub 10 [] _ l (fun c => 0 ≤ c → ValidC c) s.size h (fun x hx => absurd hx List.not_mem_nil) (fun c hc h0 => codes_val s s.size 0 c hc h0) (codes_count s)
  exact ⟨fun x hx => ⟨h1 x hx, fun c hc => (h4 x hx).1 c hc ((h1 x hx).nn c hc)⟩, h2, h3, fun x hx => (h4 x hx).2⟩
def condT (l : List ItP) : ByteArray := if condV (mkB (textIs l)) = some l then mkB (textIs l) else ⟨#[]⟩
theorem condT_read {s : ByteArray} {l : List ItP} (h : condV s = some l) : condT l = mkB (textIs l) ∧ condV (condT l) = some l := by
  obtain ⟨h1, h2, h3, _⟩ := cond_read h
  have h4 := cond_text h1 h2 h3
  have : condT l = mkB (textIs l) := if_pos h4
  exact ⟨this, by rw [this]; exact h4⟩
end Go.Proofs.YtmcnnfpeicnnjaaDoor

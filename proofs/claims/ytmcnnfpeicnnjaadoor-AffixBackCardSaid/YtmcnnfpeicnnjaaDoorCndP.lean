/- Conditions by their codes (plain). -/
import Derived.Test.YtmcnnfpeicnnjaaDoorFoldQ
namespace Go.Proofs.YtmcnnfpeicnnjaaDoor
open Go.RowKit Go.Deep Go.Own
set_option linter.unusedVariables false
/-- an item -/
structure ItP where
  any : Bool
  neg : Bool
  set : List Int
deriving DecidableEq
/-- what is ahead of the first c, what is behind it -/
def cutC (c : Int) : List Int → Option (List Int × List Int)
  | [] => none
  | x :: t => if x = c then some ([], t) else (cutC c t).map fun r => (x :: r.1, r.2)
def setC (neg : Bool) (cs : List Int) : Option (ItP × List Int) :=
  match cutC 93 cs with
  | none => none
  | some (a, r) => if (a.all (fun c => decide (0 ≤ c)) && !a.isEmpty) = true then some (⟨false, neg, a⟩, r) else none
def oneC : List Int → Option (ItP × List Int)
  | [] => none
  | c :: t =>
    if c = 46 then some (⟨true, false, []⟩, t) else
    if c = 91 then (if t.head? = some 94 then setC true t.tail else setC false t) else
    if 0 ≤ c ∧ c ≠ 93 then some (⟨false, false, [c]⟩, t) else none
def parseC : Nat → List ItP → List Int → Option (List ItP)
  | 0, _, _ => none
  | f + 1, acc, cs => if cs = [] then (if acc = [] then none else some acc) else
    match oneC cs with
    | none => none
    | some (x, r) => if 8 ≤ acc.length then none else parseC f (acc ++ [x]) r
def condV (s : ByteArray) : Option (List ItP) := parseC 10 [] (codes s)
theorem cutC_some {c : Int} : ∀ {l a r : List Int}, cutC c l = some (a, r) → l = a ++ c :: r ∧ c ∉ a
  | [], a, r, h => by cases h
  | x :: t, a, r, h => by
    unfold cutC at h
    split at h
    · rename_i e
      cases h
      subst e
      exact ⟨rfl, List.not_mem_nil⟩
    · rename_i e
      cases hc : cutC c t with
      | none => rw [hc] at h; cases h
      | some q =>
        obtain ⟨a', r'⟩ := q
        rw [hc] at h
        cases h
        obtain ⟨h1, h2⟩ := cutC_some hc
        refine ⟨by rw [h1]; rfl, fun hm => ?_⟩
        rcases List.mem_cons.1 hm with e2 | hm
        · exact e e2.symm
        · exact h2 hm
theorem cutC_of {c : Int} : ∀ {a : List Int} (r : List Int), c ∉ a → cutC c (a ++ c :: r) = some (a, r)
  | [], r, h => by simp [cutC]
  | x :: t, r, h => by
    have ih := cutC_of (a := t) r (fun hm => h (List.mem_cons_of_mem _ hm))
    have hne : ¬ x = c := fun e => h (by rw [← e]; exact List.mem_cons_self)
    rw [List.cons_append, cutC, if_neg hne, ih]
    rfl
theorem cutC_none {c : Int} : ∀ {l : List Int}, c ∉ l → cutC c l = none
  | [], h => rfl
  | x :: t, h => by
    have hne : ¬ x = c := fun e => h (by rw [← e]; exact List.mem_cons_self)
    rw [cutC, if_neg hne, cutC_none (fun hm => h (List.mem_cons_of_mem _ hm))]
    rfl
/-- an item as it is written, in codes -/
def plainS (l : List Int) : Bool := decide (l.length = 1) && !(l.contains 46 || l.contains 91 || l.contains 93)
def itemC (x : ItP) : List Int := if x.any = true then [46] else if x.neg = true then 91 :: 94 :: (x.set ++ [93]) else if plainS x.set = true then x.set else 91 :: (x.set ++ [93])
/-- an item that was read -/
structure GoodI (x : ItP) : Prop where
  any : x.any = true → x.neg = false ∧ x.set = []
  ne : x.any = false → x.set ≠ []
  nn : ∀ c ∈ x.set, 0 ≤ c
  nb : ∀ c ∈ x.set, c ≠ 93
  hd : x.neg = false → x.set.head? = some 94 → x.set = [94]
theorem setC_good {neg : Bool} {cs r : List Int} {x : ItP} (h : setC neg cs = some (x, r)) (hd : neg = false → cs.head? ≠ some 94) : GoodI x := by
  unfold setC at h
  cases hc : cutC 93 cs with
  | none => rw [hc] at h; cases h
  | some q =>
    obtain ⟨a, r'⟩ := q
    rw [hc] at h
    simp only at h
    split at h
    · rename_i ha
      cases h
      obtain ⟨h1, h2⟩ := cutC_some hc
      rw [Bool.and_eq_true] at ha
      have hne : a ≠ [] := fun e => by subst e; simp at ha
      refine ⟨fun e => (by cases e), fun _ => hne, fun c hc' => ?_, fun c hc' e => h2 (e ▸ hc'), fun hn hh => ?_⟩
      · have := List.all_eq_true.1 ha.1 c hc'
        simpa using this
      · exfalso
        refine hd hn ?_
        rw [h1]
        cases a with
        | nil => exact absurd rfl hne
        | cons y t => exact hh
    · cases h
theorem oneC_good {cs r : List Int} {x : ItP} (h : oneC cs = some (x, r)) : GoodI x := by
  cases cs with
  | nil => cases h
  | cons c t =>
    rw [oneC] at h
    by_cases h46 : c = 46
    · rw [if_pos h46] at h
      cases h
      exact ⟨fun _ => ⟨rfl, rfl⟩, fun e => (by cases e), fun c hc => absurd hc List.not_mem_nil, fun c hc => absurd hc List.not_mem_nil, fun _ e => (by cases e)⟩
    · rw [if_neg h46] at h
      by_cases h91 : c = 91
      · rw [if_pos h91] at h
        by_cases hh : t.head? = some 94
        · rw [if_pos hh] at h
          exact setC_good h (fun e => by cases e)
        · rw [if_neg hh] at h
          exact setC_good h (fun _ => hh)
      · rw [if_neg h91] at h
        by_cases hb : 0 ≤ c ∧ c ≠ 93
        · rw [if_pos hb] at h
          cases h
          exact ⟨fun e => (by cases e), fun _ => (by simp), fun d hd => (by obtain rfl := List.mem_singleton.1 hd; exact hb.1), fun d hd => (by obtain rfl := List.mem_singleton.1 hd; exact hb.2), fun _ e => (by simp at e; rw [e])⟩
        · rw [if_neg hb] at h
          cases h
theorem setC_of {neg : Bool} {a r : List Int} (h0 : a ≠ []) (h1 : ∀ c ∈ a, 0 ≤ c) (h2 : ∀ c ∈ a, c ≠ 93) : setC neg (a ++ 93 :: r) = some (⟨false, neg, a⟩, r) := by
  unfold setC
  rw [cutC_of r (fun hm => h2 93 hm rfl)]
  simp only
  rw [if_pos]
  rw [Bool.and_eq_true]
  refine ⟨List.all_eq_true.2 fun c hc => by simpa using h1 c hc, ?_⟩
  cases a with
  | nil => exact absurd rfl h0
  | cons x t => rfl
/-- WHAT IS WRITTEN IS READ AS THAT -/
theorem oneC_text {x : ItP} (h : GoodI x) (r : List Int) : oneC (itemC x ++ r) = some (x, r) := by
  obtain ⟨any, neg, set⟩ := x
  have hne := h.ne
  have hnn := h.nn
  have hnb := h.nb
  have hhd := h.hd
  have hany := h.any
  simp only at hne hnn hnb hhd hany
  unfold itemC
  simp only
  cases any with
  | true =>
    obtain ⟨rfl, rfl⟩ := hany rfl
    rfl
  | false =>
    have hne := hne rfl
    rw [if_neg (by decide)]
    cases neg with
    | true =>
      rw [if_pos rfl]
      show oneC (91 :: 94 :: (set ++ [93] ++ r)) = _
      rw [oneC, if_neg (by decide), if_pos rfl, if_pos (show (94 :: (set ++ [93] ++ r)).head? = some 94 from rfl), List.tail_cons, List.append_assoc]
      exact setC_of hne hnn hnb
    | false =>
      rw [if_neg (by decide)]
      by_cases hp : plainS set = true
      · rw [if_pos hp]
        unfold plainS at hp
        rw [Bool.and_eq_true, decide_eq_true_eq] at hp
        obtain ⟨c, rfl⟩ : ∃ c, set = [c] := List.length_eq_one_iff.1 hp.1
        have hp2 := hp.2
        simp at hp2
        have h1 := hnn c List.mem_cons_self
        have h2 := hnb c List.mem_cons_self
        show oneC (c :: r) = _
        rw [oneC, if_neg (fun e => by omega), if_neg (fun e => by omega), if_pos ⟨h1, h2⟩]
      · rw [if_neg hp]
        show oneC (91 :: (set ++ [93] ++ r)) = _
        have hh : (set ++ [93] ++ r).head? ≠ some 94 := fun e => by
          cases set with
          | nil => exact hne rfl
          | cons y t =>
            have e1 : y = 94 := by simpa using e
            have := hhd rfl (by rw [e1]; rfl)
            subst e1
            obtain rfl : t = [] := by simpa using this
            exact hp (by decide)
        rw [oneC, if_neg (by decide), if_pos rfl, if_neg hh, List.append_assoc]
        exact setC_of hne hnn hnb
theorem itemC_ne {x : ItP} (h : GoodI x) : itemC x ≠ [] := by
  have := oneC_text h []
  intro e
  rw [e] at this
  cases this
theorem parseC_text : ∀ (l acc : List ItP) (f : Nat), (∀ x ∈ l, GoodI x) → acc.length + l.length ≤ 8 → l.length < f → (acc ++ l ≠ []) → parseC f acc (l.flatMap itemC) = some (acc ++ l)
  | [], acc, 0, _, _, hf, _ => absurd hf (Nat.not_lt_zero _)
  | [], acc, f + 1, _, _, _, hne => by
    rw [List.append_nil] at hne ⊢
    rw [List.flatMap_nil, parseC, if_pos rfl, if_neg hne]
  | x :: t, acc, 0, _, _, hf, _ => absurd hf (Nat.not_lt_zero _)
  | x :: t, acc, f + 1, hg, hl, hf, hne => by
    have hx := hg x List.mem_cons_self
    have hxe := itemC_ne hx
    rw [List.length_cons] at hl hf
    rw [List.flatMap_cons, parseC, if_neg (fun e => hxe (List.append_eq_nil_iff.1 e).1), oneC_text hx]
    simp only
    rw [if_neg (by omega), parseC_text t (acc ++ [x]) f (fun y hy => hg y (List.mem_cons_of_mem _ hy)) (by rw [List.length_append, List.length_singleton]; omega) (by omega) (by simp)]
    rw [List.append_assoc]
    rfl
theorem parseC_good : ∀ (f : Nat) (acc : List ItP) (cs : List Int) (l : List ItP), parseC f acc cs = some l → (∀ x ∈ acc, GoodI x) → acc.length ≤ 8 → (∀ x ∈ l, GoodI x) ∧ l ≠ [] ∧ l.length ≤ 8
  | 0, acc, cs, l, h, _, _ => by cases h
  | f + 1, acc, cs, l, h, hg, hl => by
    unfold parseC at h
    split at h
    · split at h
      · cases h
      · rename_i hne
        cases h
        exact ⟨hg, hne, hl⟩
    · cases ho : oneC cs with
      | none => rw [ho] at h; cases h
      | some q =>
        obtain ⟨x, r⟩ := q
        rw [ho] at h
        simp only at h
        split at h
        · cases h
        · refine parseC_good f _ r l h (fun y hy => ?_) (by rw [List.length_append, List.length_singleton]; omega)
          rcases List.mem_append.1 hy with hy | hy
          · exact hg y hy
          · obtain rfl := List.mem_singleton.1 hy
            exact oneC_good ho
/-- codes of a text, its first one ahead -/
theorem codes_head (s : ByteArray) (h : 0 < s.size) : codes s = uCode s 0 :: codes (s.extract (uLen s 0) s.size) := by
  have hc := chain_units s
  unfold codes
  cases hu : units s with
  | nil => rw [hu] at hc; unfold ChainU at hc; omega
  | cons u m =>
    rw [hu] at hc
    obtain ⟨e1, _, h2⟩ := hc
    subst e1
    rw [Nat.zero_add] at h2
    rw [units_part s (uLen s 0) s.size (Nat.le_refl _) m h2]
    simp only [List.map_cons, List.map_map]
    rfl
theorem code_low' {s : ByteArray} {i : Nat} (h : uB s i < 128) : uCode s i = (uB s i : Nat) ∧ uLen s i = 1 := ⟨(u_one s i h).2, (u_one s i h).1⟩
theorem u_high' (s : ByteArray) (i : Nat) (h : 128 ≤ uB s i) : 128 ≤ (Utf8.decode s i).1 := by
  rw [u_eq, if_neg (by omega)]
  repeat' split
  all_goals (simp only; omega)
theorem code_high' {s : ByteArray} {i : Nat} (h : 128 ≤ uB s i) : uCode s i < 0 ∨ 128 ≤ uCode s i := by
  have hd := u_high' s i h
  unfold uCode
  split
  · left; omega
  · right; omega
theorem code_at (s : ByteArray) (i c : Nat) (hc : c < 128) : uCode s i = (c : Nat) ↔ uB s i = c := by
  by_cases h : uB s i < 128
  · rw [(code_low' h).1]
    omega
  · have := code_high' (s := s) (i := i) (by omega)
    omega
theorem code_byte (s : ByteArray) (c : Nat) (hc : c < 128) : ∀ (us : List (Nat × Nat × Int)) (p : Nat), ChainU s p us s.size → (c : Int) ∈ us.map (fun u => u.2.2) → ∃ j, p ≤ j ∧ j < s.size ∧ uB s j = c
  | [], p, h, hm => by simp at hm
  | u :: us, p, h, hm => by
    obtain ⟨hu, hp, hch⟩ := h
    subst hu
    rcases List.mem_cons.1 hm with e | hm
    · exact ⟨p, Nat.le_refl _, hp, (code_at s p c hc).1 e.symm⟩
    · obtain ⟨j, h1, h2, h3⟩ := code_byte s c hc us _ hch hm
      exact ⟨j, by omega, h2, h3⟩
theorem codes_byte {s : ByteArray} {c : Nat} (hc : c < 128) (h : (c : Int) ∈ codes s) : ∃ j, j < s.size ∧ uB s j = c := by
  obtain ⟨j, _, h2, h3⟩ := code_byte s c hc (units s) 0 (chain_units s) h
  exact ⟨j, h2, h3⟩
theorem ext_three (s : ByteArray) (k : Nat) (hk : k < s.size) : s = s.extract 0 k ++ (s.extract k (k + 1) ++ s.extract (k + 1) s.size) := by
  apply ByteArray.ext
  rw [← Array.toList_inj]
  simp only [ByteArray.data_append, ByteArray.data_extract, Array.toList_append, Array.toList_extract, List.extract_eq_take_drop]
  have e : s.data.toList.length = s.size := by simp
  rw [List.drop_zero, Nat.sub_zero, Nat.add_sub_cancel_left, List.take_of_length_le (l := s.data.toList.drop (k + 1)) (by rw [List.length_drop]; omega), ← List.drop_drop, List.take_append_drop, List.take_append_drop]
/-- a text cut at a byte below 128 -/
theorem codes_cut (s : ByteArray) (k c : Nat) (hk : k < s.size) (hc : uB s k = c) (h128 : c < 128) : codes s = codes (s.extract 0 k) ++ (c : Int) :: codes (s.extract (k + 1) s.size) := by
  have hb : uB (s.extract k (k + 1)) 0 = c := by rw [uB_part s k (k + 1) 0 (by omega), Nat.add_zero]; exact hc
  have hz : (s.extract k (k + 1)).size = 1 := by rw [ByteArray.size_extract]; omega
  have h1 : codes (s.extract k (k + 1) ++ s.extract (k + 1) s.size) = codes (s.extract k (k + 1)) ++ codes (s.extract (k + 1) s.size) := codes_app_end _ _ (fun _ => by rw [hz]; show uB (s.extract k (k + 1)) 0 < 128; omega)
  have h2 : codes (s.extract k (k + 1)) = [(c : Int)] := by
    rw [codes_head _ (by omega), (code_low' (s := s.extract k (k + 1)) (i := 0) (by omega)).1, (code_low' (s := s.extract k (k + 1)) (i := 0) (by omega)).2, hb, hz]
    have : codes ((s.extract k (k + 1)).extract 1 1) = [] := by
      unfold codes units
      have : ((s.extract k (k + 1)).extract 1 1).size = 0 := by rw [ByteArray.size_extract]; omega
      rw [this]
      rfl
    rw [this]
  have h3 : Starts (s.extract k (k + 1) ++ s.extract (k + 1) s.size) := .inr (by rw [uB_append_left _ _ 0 (by omega), hb]; omega)
  have h4 := codes_app (s.extract 0 k) _ h3
  rw [← ext_three s k hk] at h4
  rw [h4, h1, h2]
  rfl
theorem cutC_is (s : ByteArray) (k c : Nat) (hk : k < s.size) (hc : uB s k = c) (h128 : c < 128) (hf : ∀ j, j < k → uB s j ≠ c) : cutC c (codes s) = some (codes (s.extract 0 k), codes (s.extract (k + 1) s.size)) := by
  rw [codes_cut s k c hk hc h128]
  refine cutC_of _ fun hm => ?_
  obtain ⟨j, h1, h2⟩ := codes_byte h128 hm
  have hz : (s.extract 0 k).size = k := by rw [ByteArray.size_extract]; omega
  rw [uB_part s 0 k j (by omega), Nat.zero_add] at h2
  exact hf j (by omega) h2
theorem cutC_no (s : ByteArray) (c : Nat) (h128 : c < 128) (hf : ∀ j, j < s.size → uB s j ≠ c) : cutC c (codes s) = none :=
  cutC_none fun hm => by
    obtain ⟨j, h1, h2⟩ := codes_byte h128 hm
    exact hf j h1 h2
end Go.Proofs.YtmcnnfpeicnnjaaDoor

/- Rules by their lines (plain). -/
import Derived.Test.YtmcnnfpeicnnjaaDoorCndT
namespace Go.Proofs.YtmcnnfpeicnnjaaDoor
open Go.RowKit Go.Deep Go.Own
set_option linter.unusedVariables false
structure RuP where
  pfx : Bool
  flag : Nat
  cross : Bool
  strip : ByteArray
  add : ByteArray
  cond : List ItP
deriving DecidableEq
def letU (u : Nat) : Bool := decide (97 ≤ u ∧ u ≤ 122) || decide (65 ≤ u ∧ u ≤ 90)
def affV (w : ByteArray) : Option ByteArray := if w = ⟨#[48]⟩ then some ⟨#[]⟩ else if w ≠ ⟨#[]⟩ ∧ w.size ≤ 20 ∧ okU w = true then some w else none
def bPFX : ByteArray := ⟨#[80, 70, 88]⟩
def bSFX : ByteArray := ⟨#[83, 70, 88]⟩
def bY : ByteArray := ⟨#[89]⟩
def bN : ByteArray := ⟨#[78]⟩
def fieldsV (a b c d e f : ByteArray) : Option RuP :=
  if b.size = 1 ∧ letU (uB b 0) = true ∧ (a = bPFX ∨ a = bSFX) ∧ (c = bY ∨ c = bN) then
    match affV d, affV e, condV f with
    | some s, some t, some l => some ⟨decide (a = bPFX), uB b 0, decide (c = bY), s, t, l⟩
    | _, _, _ => none
  else none
def ruleV (s : ByteArray) : Option RuP :=
  match cutB 32 s with
  | [a, b, c, d, e, f] => fieldsV a b c d e f
  | _ => none
def or0 (s : ByteArray) : ByteArray := if s = ⟨#[]⟩ then ⟨#[48]⟩ else s
/-- a rule's line, its condition as a text -/
def lineL (r : RuP) (t : ByteArray) : List UInt8 := (if r.pfx = true then bPFX else bSFX).data.toList ++ 32 :: r.flag.toUInt8 :: 32 :: (if r.cross = true then bY else bN).data.toList ++ 32 :: (or0 r.strip).data.toList ++ 32 :: (or0 r.add).data.toList ++ 32 :: t.data.toList
structure ValR (r : RuP) : Prop where
  flag : letU r.flag = true
  strip : affV (or0 r.strip) = some r.strip
  add : affV (or0 r.add) = some r.add
  strip32 : ∀ x ∈ r.strip.data.toList, x ≠ 32
  add32 : ∀ x ∈ r.add.data.toList, x ≠ 32
  cond : ∀ x ∈ r.cond, ValI x
  ne : r.cond ≠ []
  len : r.cond.length ≤ 8
  c32 : ∀ x ∈ r.cond, ∀ c ∈ x.set, c ≠ 32
theorem cutL_no {c : UInt8} : ∀ {l : List UInt8}, (∀ x ∈ l, x ≠ c) → ∀ t, cutL c (l ++ c :: t) = l :: cutL c t
  | [], h, t => by simp [cutL]
  | x :: l, h, t => by
    have ih := cutL_no (l := l) (fun y hy => h y (List.mem_cons_of_mem _ hy)) t
    rw [List.cons_append, cutL, if_neg (h x List.mem_cons_self), ih]
    rfl
theorem cutL_all {c : UInt8} : ∀ {l : List UInt8}, (∀ x ∈ l, x ≠ c) → cutL c l = [l]
  | [], h => rfl
  | x :: l, h => by
    have ih := cutL_all (l := l) (fun y hy => h y (List.mem_cons_of_mem _ hy))
    rw [cutL, if_neg (h x List.mem_cons_self), ih]
    rfl
theorem cutL_mem {c : UInt8} : ∀ {l p : List UInt8}, p ∈ cutL c l → ∀ x ∈ p, x ≠ c ∧ x ∈ l
  | [], p, h, x, hx => by simp [cutL] at h; subst h; cases hx
  | y :: t, p, h, x, hx => by
    have ih := fun q hq => cutL_mem (c := c) (l := t) (p := q) hq
    unfold cutL at h
    split at h
    · rcases List.mem_cons.1 h with rfl | h
      · cases hx
      · exact ⟨(ih p h x hx).1, List.mem_cons_of_mem _ (ih p h x hx).2⟩
    · rename_i hy
      cases hc : cutL c t with
      | nil => exact absurd hc (cutL_ne c t)
      | cons a r =>
        rw [hc] at h ih
        rcases List.mem_cons.1 h with rfl | h
        · rcases List.mem_cons.1 hx with rfl | hx
          · exact ⟨hy, List.mem_cons_self⟩
          · have := ih a List.mem_cons_self x hx
            exact ⟨this.1, List.mem_cons_of_mem _ this.2⟩
        · have := ih p (List.mem_cons_of_mem _ h) x hx
          exact ⟨this.1, List.mem_cons_of_mem _ this.2⟩
theorem uB_mem (s : ByteArray) (j : Nat) (h : j < s.size) : ∃ x ∈ s.data.toList, x.toNat = uB s j := by
  have hl : j < s.data.toList.length := by simpa using h
  refine ⟨s.data.toList[j], List.getElem_mem hl, ?_⟩
  rw [uB_list, List.getD_eq_getElem?_getD, List.getElem?_eq_getElem hl]
  rfl
theorem mem_uB {s : ByteArray} {x : UInt8} (h : x ∈ s.data.toList) : ∃ j, j < s.size ∧ uB s j = x.toNat := by
  obtain ⟨j, hj, e⟩ := List.mem_iff_getElem.1 h
  refine ⟨j, by simpa using hj, ?_⟩
  rw [uB_list, List.getD_eq_getElem?_getD, List.getElem?_eq_getElem hj, ← e]
  rfl
/-- a byte below 128 stands in a text just where that code does -/
theorem byte_code {s : ByteArray} {x : UInt8} (h : x.toNat < 128) : x ∈ s.data.toList ↔ (x.toNat : Int) ∈ codes s := by
  constructor
  · intro hx
    obtain ⟨j, hj, e⟩ := mem_uB hx
    rw [codes_cut s j x.toNat hj e h]
    simp
  · intro hc
    obtain ⟨j, hj, e⟩ := codes_byte h hc
    obtain ⟨y, hy, hy2⟩ := uB_mem s j hj
    rw [e] at hy2
    exact (UInt8.toNat_inj.1 hy2) ▸ hy
theorem text_no32 {l : List ItP} (h : ∀ x ∈ l, ValI x) (h2 : ∀ x ∈ l, ∀ c ∈ x.set, c ≠ 32) : ∀ x ∈ textIs l, x ≠ 32 := by
  intro x hx e
  subst e
  have h3 : (32 : UInt8) ∈ (mkB (textIs l)).data.toList := by rw [mk_list]; exact hx
  have h4 := (byte_code (x := 32) (by decide)).1 h3
  rw [codes_textIs h] at h4
  obtain ⟨y, hy, hcy⟩ := List.mem_flatMap.1 h4
  unfold itemC at hcy
  have h5 := h2 y hy 32
  split at hcy
  · simp at hcy
  · split at hcy
    · simp at hcy; exact h5 hcy rfl
    · split at hcy
      · exact h5 hcy rfl
      · simp at hcy; exact h5 hcy rfl
theorem no32_mk {s : ByteArray} (h : ∀ x ∈ s.data.toList, x ≠ 32) : ∀ x ∈ (or0 s).data.toList, x ≠ 32 := by
  unfold or0
  split
  · intro x hx
    simp at hx
    subst hx
    decide
  · exact h
theorem let_byte {u : Nat} (h : letU u = true) : u < 128 ∧ u ≠ 32 ∧ u.toUInt8.toNat = u := by
  unfold letU at h
  simp at h
  have : u < 256 := by omega
  exact ⟨by omega, by omega, by rw [toNat8]; omega⟩
theorem fields_line {r : RuP} (h : ValR r) : cutB 32 (mkB (lineL r (mkB (textIs r.cond)))) = [if r.pfx = true then bPFX else bSFX, ⟨#[r.flag.toUInt8]⟩, if r.cross = true then bY else bN, or0 r.strip, or0 r.add, mkB (textIs r.cond)] := by
  have e0 : ∀ x ∈ (if r.pfx = true then bPFX else bSFX).data.toList, x ≠ 32 := by
    split <;> decide
  have e1 : ∀ x ∈ [r.flag.toUInt8], x ≠ 32 := fun x hx e => by
    obtain rfl := List.mem_singleton.1 hx
    obtain ⟨_, h2, h3⟩ := let_byte h.flag
    rw [e] at h3
    exact h2 h3.symm
  have e2 : ∀ x ∈ (if r.cross = true then bY else bN).data.toList, x ≠ 32 := by
    split <;> decide
  have e3 := no32_mk h.strip32
  have e4 := no32_mk h.add32
  have e5 := text_no32 h.cond h.c32
  unfold cutB lineL
  rw [mk_list, mk_list]
  have s1 : ∀ (a c d e f : List UInt8) (b : UInt8), a ++ 32 :: b :: 32 :: c ++ 32 :: d ++ 32 :: e ++ 32 :: f = a ++ 32 :: ([b] ++ 32 :: (c ++ 32 :: (d ++ 32 :: (e ++ 32 :: f)))) := fun a c d e f b => by simp
  rw [s1, cutL_no e0, cutL_no e1, cutL_no e2, cutL_no e3, cutL_no e4, cutL_all e5]
  simp only [List.map_cons, List.map_nil, mk_data]
  rfl
theorem rule_line {r : RuP} (h : ValR r) : ruleV (mkB (lineL r (mkB (textIs r.cond)))) = some r := by
  unfold ruleV
  rw [fields_line h]
  simp only
  unfold fieldsV
  obtain ⟨h1, h2, h3⟩ := let_byte h.flag
  have hb : uB ⟨#[r.flag.toUInt8]⟩ 0 = r.flag := by rw [b1_0]; omega
  rw [hb, h.strip, h.add, cond_text h.cond h.ne h.len, if_pos ⟨rfl, h.flag, by cases r.pfx <;> simp, by cases r.cross <;> simp⟩]
  obtain ⟨pfx, flag, cross, strip, add, cond⟩ := r
  simp only
  have p1 : decide ((if pfx = true then bPFX else bSFX) = bPFX) = pfx := by cases pfx <;> decide
  have p2 : decide ((if cross = true then bY else bN) = bY) = cross := by cases cross <;> decide
  rw [p1, p2]
theorem aff_read {w s : ByteArray} (h : affV w = some s) : affV (or0 s) = some s ∧ s.size ≤ 20 ∧ (or0 s).size ≤ w.size := by
  unfold affV at h
  split at h
  · rename_i e
    cases h
    subst e
    exact ⟨by decide, Nat.zero_le _, by decide⟩
  · rename_i h0
    split at h
    · rename_i h1
      cases h
      unfold or0
      rw [if_neg h1.1]
      exact ⟨by unfold affV; rw [if_neg h0, if_pos h1], h1.2.1, Nat.le_refl _⟩
    · cases h
theorem aff_no32 {w s : ByteArray} (h : affV w = some s) (hw : ∀ x ∈ w.data.toList, x ≠ 32) : ∀ x ∈ s.data.toList, x ≠ 32 := by
  unfold affV at h
  split at h
  · cases h
    intro x hx
    cases hx
  · split at h
    · cases h
      exact hw
    · cases h
theorem cond_no32 {f : ByteArray} {l : List ItP} (h : condV f = some l) (hf : ∀ x ∈ f.data.toList, x ≠ 32) : ∀ x ∈ l, ∀ c ∈ x.set, c ≠ 32 := by
  unfold condV at h
  have h4 := parseC_sub 10 [] _ l (fun c => c ≠ 32) f.size h (fun x hx => absurd hx List.not_mem_nil) (fun c hc e => by
    subst e
    exact hf 32 ((byte_code (x := 32) (by decide)).2 hc) rfl) (codes_count f)
  exact fun x hx => (h4 x hx).1
theorem cut_no32 {s p : ByteArray} (h : p ∈ cutB 32 s) : ∀ x ∈ p.data.toList, x ≠ 32 := by
  unfold cutB at h
  obtain ⟨l, hl, rfl⟩ := List.mem_map.1 h
  rw [mk_list]
  exact fun x hx => (cutL_mem hl x hx).1
/-- WHAT WAS READ -/
theorem rule_read {s : ByteArray} {r : RuP} (h : ruleV s = some r) : ValR r := by
  unfold ruleV at h
  split at h
  · rename_i a b c d e f hc
    have hm : ∀ p ∈ [a, b, c, d, e, f], ∀ x ∈ p.data.toList, x ≠ 32 := fun p hp => cut_no32 (s := s) (by rw [hc]; exact hp)
    unfold fieldsV at h
    split at h
    · rename_i hb
      cases hd : affV d with
      | none => rw [hd] at h; cases h
      | some s1 =>
        cases he : affV e with
        | none => rw [hd, he] at h; cases h
        | some s2 =>
          cases hf : condV f with
          | none => rw [hd, he, hf] at h; cases h
          | some l =>
            rw [hd, he, hf] at h
            cases h
            obtain ⟨c1, c2, c3, _⟩ := cond_read hf
            exact ⟨hb.2.1, (aff_read hd).1, (aff_read he).1, aff_no32 hd (hm d (by simp)), aff_no32 he (hm e (by simp)), c1, c2, c3, cond_no32 hf (hm f (by simp))⟩
    · cases h
  · cases h
theorem line_ne {r : RuP} (t : ByteArray) : mkB (lineL r t) ≠ ⟨#[]⟩ := fun e => by
  have h : (lineL r t).length = 0 := by
    have := congrArg ByteArray.size e
    rw [mk_size] at this
    exact this
  unfold lineL at h
  simp only [List.length_append, List.length_cons] at h
  omega
/-- a rule's line, and what its text is -/
def lineT (r : RuP) : ByteArray := mkB (lineL r (condT r.cond))
def ruleT (r : RuP) : ByteArray := match ruleV (lineT r) with | some x => if x.pfx = r.pfx ∧ x.flag = r.flag ∧ x.cross = r.cross ∧ x.strip = r.strip ∧ x.add = r.add ∧ condT x.cond = condT r.cond then lineT r else ⟨#[]⟩ | none => ⟨#[]⟩
theorem condT_val {l : List ItP} (h : ∀ x ∈ l, ValI x) (hne : l ≠ []) (hl : l.length ≤ 8) : condT l = mkB (textIs l) := if_pos (cond_text h hne hl)
theorem ruleT_val {r : RuP} (h : ValR r) : ruleT r = lineT r ∧ ruleV (lineT r) = some r ∧ lineT r ≠ ⟨#[]⟩ := by
  have e : ruleV (lineT r) = some r := by
    unfold lineT
    rw [condT_val h.cond h.ne h.len]
    exact rule_line h
  refine ⟨?_, e, line_ne _⟩
  unfold ruleT
  rw [e]
  exact if_pos ⟨rfl, rfl, rfl, rfl, rfl, rfl⟩
end Go.Proofs.YtmcnnfpeicnnjaaDoor

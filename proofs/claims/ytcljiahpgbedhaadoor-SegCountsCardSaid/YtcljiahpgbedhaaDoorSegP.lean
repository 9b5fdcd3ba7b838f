/- Kinds and tokens of texts side by side; what a token begins and ends with (plain). -/
import Derived.Test.YtcljiahpgbedhaaDoorSegE
import Derived.Test.YtcljiahpgbedhaaDoorUCut
namespace Go.Proofs.YtcljiahpgbedhaaDoor
open Go.RowKit Go.Deep Go.Own
set_option linter.unusedVariables false
abbrev UL := List (Nat × Nat × Int)
def lastC (rs : List Rng) : Int → UL → Int
  | was, [] => was
  | _, u :: t => lastC rs (clsOf rs u.2.2) t
theorem strong_next_nil (rs : List Rng) : strongB (nextC rs []) = false := rfl
theorem nextC_app (rs : List Rng) : ∀ (us vs : UL), us ≠ [] → nextC rs (us ++ vs) = nextC rs us
  | [], vs, h => absurd rfl h
  | u :: t, vs, _ => rfl
theorem kinds_app (rs : List Rng) (vs : UL) : ∀ (us : UL) (was : Int), (strongB (nextC rs vs) = false ∨ lastC rs was us ≠ 3) →
    kindsFrom rs was (us ++ vs) = kindsFrom rs was us ++ kindsFrom rs (lastC rs was us) vs
  | [], was, h => rfl
  | [u], was, h => by
    show _ :: _ = _ :: _
    congr 1
    show Kd.mk _ _ _ _ _ = Kd.mk _ _ _ _ _
    congr 1
    show solidB was _ (nextC rs vs) = solidB was _ (nextC rs [])
    unfold solidB
    rcases h with h | h
    · rw [h, strong_next_nil]
    · have : (clsOf rs u.2.2 == 3) = false := by simpa [lastC] using h
      rw [this, Bool.false_and, Bool.false_and]
  | u :: v :: t, was, h => by
    have ih := kinds_app rs vs (v :: t) (clsOf rs u.2.2) h
    show _ :: kindsFrom rs (clsOf rs u.2.2) ((v :: t) ++ vs) = (_ :: kindsFrom rs (clsOf rs u.2.2) (v :: t)) ++ _
    rw [ih]
    rfl
def shK (d : Nat) (k : Kd) : Kd := ⟨d + k.at', k.len, k.code, k.cls, k.solid⟩
def shT (d : Nat) (t : Tok) : Tok := ⟨d + t.f, d + t.t, t.word⟩
theorem kinds_shift (rs : List Rng) (d : Nat) : ∀ (us : UL) (was : Int), kindsFrom rs was (us.map (shiftU d)) = (kindsFrom rs was us).map (shK d)
  | [], was => rfl
  | [u], was => rfl
  | u :: v :: t, was => by
    have ih := kinds_shift rs d (v :: t) (clsOf rs u.2.2)
    show _ :: kindsFrom rs (clsOf rs u.2.2) ((v :: t).map (shiftU d)) = _ :: _
    rw [ih]
    rfl
theorem step_shift (d : Nat) (k : Kd) (b : Bool) (ts0 ts : List Tok) (h : b = true → ts ≠ []) :
    tokStep (b, ts0 ++ ts.map (shT d)) (shK d k) = ((tokStep (b, ts) k).1, ts0 ++ (tokStep (b, ts) k).2.map (shT d)) := by
  have e : ∀ t : Tok, upTok (shK d k) (shT d t) = shT d (upTok k t) := fun t => by
    unfold upTok shK shT
    simp only [Tok.mk.injEq]
    refine ⟨?_, ?_, ?_⟩ <;> first | rfl | trivial | omega
  unfold tokStep
  by_cases hs : k.solid = true
  · rw [if_pos (show (shK d k).solid = true from hs), if_pos hs]
    cases b with
    | false =>
      simp only [Bool.false_eq_true, if_false]
      rw [upLast_snoc, upLast_snoc, show upTok (shK d k) ⟨(shK d k).at', (shK d k).at', true⟩ = shT d (upTok k ⟨k.at', k.at', true⟩) from e ⟨k.at', k.at', true⟩, List.map_append, List.append_assoc]
      rfl
    | true =>
      simp only [if_true]
      obtain ⟨pr, t, rfl⟩ : ∃ pre t, ts = pre ++ [t] := ⟨_, _, (List.dropLast_concat_getLast (h rfl)).symm⟩
      rw [upLast_snoc, List.map_append, ← List.append_assoc, List.map_cons, List.map_nil, upLast_snoc, e, List.map_append, ← List.append_assoc]
      rfl
  · rw [if_neg (show ¬ (shK d k).solid = true from hs), if_neg hs]
theorem fold_shift (d : Nat) (ts0 : List Tok) : ∀ (ks : List Kd) (b : Bool) (ts : List Tok), (b = true → ts ≠ []) →
    (ks.map (shK d)).foldl tokStep (b, ts0 ++ ts.map (shT d)) = ((ks.foldl tokStep (b, ts)).1, ts0 ++ (ks.foldl tokStep (b, ts)).2.map (shT d))
  | [], b, ts, h => rfl
  | k :: ks, b, ts, h => by
    rw [List.map_cons, List.foldl_cons, List.foldl_cons, step_shift d k b ts0 ts h]
    exact fold_shift d ts0 ks _ _ (tokStep_open (b, ts) k h)
/-- a token: from a letter or a digit to one -/
def Good (rs : List Rng) (s : ByteArray) (t : Tok) : Prop :=
  ∃ (m : UL) (x y : Nat × Nat × Int), ChainU s t.f m t.t ∧ m.head? = some x ∧ m.getLast? = some y ∧ strongB (clsOf rs x.2.2) = true ∧ strongB (clsOf rs y.2.2) = true
theorem Good.lt {rs : List Rng} {s : ByteArray} {t : Tok} (h : Good rs s t) : t.f < t.t ∧ t.t ≤ s.size := by
  obtain ⟨m, x, y, h1, h2, _⟩ := h
  have h3 := chain_le h1
  cases m with
  | nil => simp at h2
  | cons u m => exact ⟨by have := h3.1; rw [List.length_cons] at this; omega, h3.2 (by simp)⟩
def TI (rs : List Rng) (s : ByteArray) (e : Nat) (was : Int) (rest : UL) : Bool → List Tok → Prop
  | false, ts => (∀ t ∈ ts, Good rs s t ∧ t.t < e) ∧ ts.Pairwise (fun t u => t.t < u.f) ∧ strongB was = false
  | true, ts => ∃ (pr : List Tok) (T : Tok) (m : UL) (x : Nat × Nat × Int) (y : Nat × Nat × Int), ts = pr ++ [T] ∧ (∀ t ∈ pr, Good rs s t ∧ t.t < T.f) ∧ pr.Pairwise (fun t u => t.t < u.f) ∧
      ChainU s T.f m e ∧ m.head? = some x ∧ strongB (clsOf rs x.2.2) = true ∧ m.getLast? = some y ∧ was = clsOf rs y.2.2 ∧ T.t = e ∧ (strongB was = true ∨ strongB (nextC rs rest) = true)
theorem chain_snoc {s : ByteArray} : ∀ {m : UL} {p e : Nat}, ChainU s p m e → e < s.size → ChainU s p (m ++ [(e, uLen s e, uCode s e)]) (e + uLen s e)
  | [], p, e, h, he => by
    unfold ChainU at h
    subst h
    exact ⟨rfl, he, rfl⟩
  | u :: m, p, e, h, he => ⟨h.1, h.2.1, chain_snoc h.2.2 he⟩
theorem toks_good (rs : List Rng) (s : ByteArray) : ∀ (us : UL) (p : Nat) (was : Int) (b : Bool) (ts : List Tok), ChainU s p us s.size → TI rs s p was us b ts →
    (∀ t ∈ ((kindsFrom rs was us).foldl tokStep (b, ts)).2, Good rs s t) ∧ ((kindsFrom rs was us).foldl tokStep (b, ts)).2.Pairwise (fun t u => t.t < u.f)
  | [], p, was, false, ts, hc, h => ⟨fun t ht => (h.1 t ht).1, h.2.1⟩
  | [], p, was, true, ts, hc, h => by
    obtain ⟨pr, T, m, x, y, rfl, h1, h2, h3, h4, h5, h6, h7, h8, h9⟩ := h
    have hs : strongB was = true := by rcases h9 with h | h; exact h; rw [strong_next_nil] at h; cases h
    refine ⟨fun t ht => ?_, ?_⟩
    · rcases List.mem_append.1 ht with ht | ht
      · exact (h1 t ht).1
      · obtain rfl := List.mem_singleton.1 ht
        exact ⟨m, x, y, by rw [h8]; exact h3, h4, h6, h5, by rw [← h7]; exact hs⟩
    · exact List.pairwise_append.2 ⟨h2, List.pairwise_singleton _ _, fun t ht u hu => by obtain rfl := List.mem_singleton.1 hu; exact (h1 t ht).2⟩
  | u :: us, p, was, b, ts, hc, h => by
    obtain ⟨hu, hp, hc2⟩ := hc
    subst hu
    have hl : 1 ≤ uLen s p := u_len1 s p
    show (∀ t ∈ ((kindsFrom rs (clsOf rs (uCode s p)) us).foldl tokStep (tokStep (b, ts) ⟨p, uLen s p, uCode s p, clsOf rs (uCode s p), solidB was (clsOf rs (uCode s p)) (nextC rs us)⟩)).2, Good rs s t) ∧ ((kindsFrom rs (clsOf rs (uCode s p)) us).foldl tokStep (tokStep (b, ts) ⟨p, uLen s p, uCode s p, clsOf rs (uCode s p), solidB was (clsOf rs (uCode s p)) (nextC rs us)⟩)).2.Pairwise (fun t u => t.t < u.f)
    obtain ⟨c, hcc⟩ : ∃ c, c = clsOf rs (uCode s p) := ⟨_, rfl⟩
    rw [← hcc]
    by_cases hs : solidB was c (nextC rs us) = true
    · have hs' := hs
      unfold solidB at hs'
      simp only [Bool.or_eq_true, Bool.and_eq_true] at hs'
      cases b with
      | false =>
        have hst : strongB c = true := by
          have hw0 : strongB was = false := h.2.2
          rcases hs' with h' | h'
          · exact h'
          · rw [hw0] at h'; exact absurd h'.2.1 (by simp)
        have e : tokStep (false, ts) ⟨p, uLen s p, uCode s p, c, solidB was c (nextC rs us)⟩ = (true, ts ++ [upTok ⟨p, uLen s p, uCode s p, c, solidB was c (nextC rs us)⟩ ⟨p, p, true⟩]) := by
          unfold tokStep
          rw [if_pos hs]
          simp only [Bool.false_eq_true, if_false]
          rw [upLast_snoc]
        rw [e]
        refine toks_good rs s us (p + uLen s p) c true _ hc2 ⟨ts, _, [(p, uLen s p, uCode s p)], _, _, rfl, h.1, h.2.1, ⟨rfl, hp, rfl⟩, rfl, by rw [← hcc]; exact hst, rfl, hcc, rfl, .inl hst⟩
      | true =>
        obtain ⟨pr, T, m, x, y, rfl, h1, h2, h3, h4, h5, h6, h7, h8, h9⟩ := h
        have e : tokStep (true, pr ++ [T]) ⟨p, uLen s p, uCode s p, c, solidB was c (nextC rs us)⟩ = (true, pr ++ [upTok ⟨p, uLen s p, uCode s p, c, solidB was c (nextC rs us)⟩ T]) := by
          unfold tokStep
          rw [if_pos hs]
          simp only [if_true]
          rw [upLast_snoc]
        rw [e]
        refine toks_good rs s us (p + uLen s p) c true _ hc2 ⟨pr, _, m ++ [(p, uLen s p, uCode s p)], x, (p, uLen s p, uCode s p), rfl, h1, h2, chain_snoc h3 hp, ?_, h5, by simp, hcc, rfl, ?_⟩
        · cases m with
          | nil => simp at h4
          | cons v m => simpa using h4
        · rcases hs' with h | h
          · exact .inl h
          · exact .inr h.2.2
    · have hns : strongB c = false := by
        cases hh : strongB c with
        | false => rfl
        | true => exact absurd (by unfold solidB; rw [hh]; rfl) hs
      have e : tokStep (b, ts) ⟨p, uLen s p, uCode s p, c, solidB was c (nextC rs us)⟩ = (false, ts) := by
        unfold tokStep
        rw [if_neg hs]
      rw [e]
      refine toks_good rs s us (p + uLen s p) c false ts hc2 ?_
      cases b with
      | false => exact ⟨fun t ht => ⟨(h.1 t ht).1, by have := (h.1 t ht).2; omega⟩, h.2.1, hns⟩
      | true =>
        obtain ⟨pr, T, m, x, y, rfl, h1, h2, h3, h4, h5, h6, h7, h8, h9⟩ := h
        have hw : strongB was = true := by
          rcases h9 with h | h
          · exact h
          · rw [show nextC rs ((p, uLen s p, uCode s p) :: us) = c from hcc.symm, hns] at h; cases h
        have hT : Good rs s T := ⟨m, x, y, by rw [h8]; exact h3, h4, h6, h5, by rw [← h7]; exact hw⟩
        refine ⟨fun t ht => ?_, List.pairwise_append.2 ⟨h2, List.pairwise_singleton _ _, fun t ht u hu => by obtain rfl := List.mem_singleton.1 hu; exact (h1 t ht).2⟩, hns⟩
        rcases List.mem_append.1 ht with ht | ht
        · have a := (h1 t ht).2
          have b := hT.lt.1
          exact ⟨(h1 t ht).1, by omega⟩
        · obtain rfl := List.mem_singleton.1 ht
          exact ⟨hT, by omega⟩
/-- TOKENS: each from a letter or digit to one; they rise, apart -/
theorem toksOf_good (rs : List Rng) (s : ByteArray) : (∀ t ∈ toksOf rs s, Good rs s t) ∧ (toksOf rs s).Pairwise (fun t u => t.t < u.f) :=
  toks_good rs s (units s) 0 0 false [] (chain_units s) ⟨fun t ht => absurd ht List.not_mem_nil, List.Pairwise.nil, rfl⟩
/-- s, a blank, s again -/
theorem toks_twice (rs : List Rng) (s : ByteArray) (h : clsOf rs 32 = 0) : (toksOf rs (s ++ ⟨#[32]⟩ ++ s)).length = 2 * (toksOf rs s).length := by
  have e1 : units (s ++ ⟨#[32]⟩ ++ s) = units s ++ ((0 + s.size, 1, (32 : Int)) :: (units s).map (shiftU (s.size + 1))) := by
    rw [ByteArray.append_assoc, units_app s (⟨#[32]⟩ ++ s) (.inr (by
      rw [uB_append_left _ _ _ (by decide)]; decide)), units_append ⟨#[32]⟩ s (by decide +kernel), show units ⟨#[32]⟩ = [(0, 1, 32)] by decide +kernel]
    congr 1
    rw [List.map_append, List.map_map]
    show (s.size + 0, 1, (32 : Int)) :: _ = (0 + s.size, 1, (32 : Int)) :: _
    rw [Nat.add_comm]
    congr 1
    apply List.map_congr_left
    intro u _
    show (s.size + (1 + u.1), u.2) = (s.size + 1 + u.1, u.2)
    rw [Nat.add_assoc]
  unfold toksOf kindsL
  rw [e1, kinds_app rs _ (units s) 0 (.inl (by show strongB (clsOf rs 32) = false; rw [h]; rfl))]
  show (toksSt (_ ++ (⟨0 + s.size, 1, 32, clsOf rs 32, solidB _ (clsOf rs 32) _⟩ :: kindsFrom rs (clsOf rs 32) ((units s).map (shiftU (s.size + 1)))))).2.length = _
  rw [h, kinds_shift]
  unfold toksSt
  rw [List.foldl_append, List.foldl_cons]
  have e2 : ∀ (st : Bool × List Tok) (x y : Int), tokStep st ⟨0 + s.size, 1, 32, 0, solidB x 0 y⟩ = (false, st.2) := fun st x y => by
    unfold tokStep
    exact if_neg (by show ¬ solidB x 0 y = true; unfold solidB; simp [strongB])
  rw [e2]
  have := fold_shift (s.size + 1) ((kindsFrom rs 0 (units s)).foldl tokStep (false, [])).2 (kindsFrom rs 0 (units s)) false [] (fun h => by cases h)
  rw [List.map_nil, List.append_nil] at this
  rw [this, List.length_append, List.length_map]
  omega
end Go.Proofs.YtcljiahpgbedhaaDoor

/- FoldTwice: plain law. -/
import Derived.Test.YtmpckoincdkeeaaDoorRAffP
namespace Go.Proofs.YtmpckoincdkeeaaDoor
open Go.RowKit Go.Deep Go.Own Go.Maps
set_option linter.unusedVariables false
theorem GoodPs.pairsV {ps : List (Int × Int)} (h : GoodPs ps) : PairsV ps := fun p hp => by
  obtain ⟨i, hi⟩ := List.mem_iff_getElem?.1 hp
  exact ⟨(h i p hi).vg, (h i p hi).vh⟩
theorem letters_mem {c d : Int} (h : (c, d) ∈ lettersL) : 65 ≤ c ∧ c ≤ 90 ∧ 97 ≤ d ∧ d ≤ 122 := by
  unfold lettersL at h
  obtain ⟨i, hi, e⟩ := List.mem_map.1 h
  have := List.mem_range.1 hi
  injection e with e1 e2
  omega
theorem good_small {ps : List (Int × Int)} (h : GoodPs ps) {c d : Int} (hc : smallF ps c = some d) : smallF ps d = none := by
  cases hd : smallF ps d with
  | none => rfl
  | some e =>
    exfalso
    have m1 := firstF_mem hc
    have m2 := firstF_mem hd
    have hl : ∀ p ∈ ps, letC p.1 = false ∧ letC p.2 = false := fun p hp => by
      obtain ⟨i, hi⟩ := List.mem_iff_getElem?.1 hp
      exact ⟨(h i p hi).pg, (h i p hi).ph⟩
    rcases List.mem_append.1 m1 with m1 | m1
    · rcases List.mem_append.1 m2 with m2 | m2
      · obtain ⟨i, hi⟩ := List.mem_iff_getElem?.1 m1
        obtain ⟨j, hj⟩ := List.mem_iff_getElem?.1 m2
        have hin : ∀ {a b : Nat} {p : Int × Int}, ps[a]? = some p → a < b → p ∈ ps.take b := fun {a b p} ha hab => by
          refine List.mem_iff_getElem?.2 ⟨a, ?_⟩
          rw [List.getElem?_take, if_pos hab]
          exact ha
        rcases Nat.lt_trichotomy i j with hlt | heq | hgt
        · exact ((h j _ hj).new _ (hin hi hlt)).2.2.1 rfl
        · subst heq
          rw [hi] at hj
          injection hj with hj
          injection hj with e1 e2
          exact (h i _ hi).ne e1
        · exact ((h i _ hi).new _ (hin hj hgt)).2.1 rfl
      · have := (hl _ m1).2
        have hb := letters_mem m2
        simp only [letC] at this
        simp at this
        omega
    · rcases List.mem_append.1 m2 with m2 | m2
      · have := (hl _ m2).1
        have hb := letters_mem m1
        simp only [letC] at this
        simp at this
        omega
      · have h1 := letters_mem m1
        have h2 := letters_mem m2
        omega
/-- the codes of the small text are none that small turns -/
theorem good_codes {ps : List (Int × Int)} (h : GoodPs ps) (s : ByteArray) : ∀ c ∈ codes (turnS (smallF ps) s s.size), smallF ps c = none := fun c hc => by
  rw [codes_turnS _ _ _ (small_v h.pairsV), turnCs_all _ _ _ _ (by have := codes_len s; omega)] at hc
  obtain ⟨x, _, rfl⟩ := List.mem_map.1 hc
  cases hx : smallF ps x with
  | none => exact hx
  | some d => exact good_small h hx
theorem turn_same (f : Int → Option Int) (hf : ∀ c d, f c = some d → ValidC d) (t : ByteArray) (h : ∀ c ∈ codes t, f c = none) : turnS f t t.size = t := by
  apply codes_inj
  rw [codes_turnS _ _ _ hf, turnCs_all _ _ _ _ (by have := codes_len t; omega)]
  conv => rhs; rw [← List.map_id (codes t)]
  refine List.map_congr_left fun c hc => ?_
  rw [h c hc]
  rfl
theorem cnt_none {f : Int → Option Int} {cs : List Int} (h : ∀ c ∈ cs, f c = none) : cntF f cs = 0 := by
  unfold cntF
  rw [List.countP_eq_zero]
  intro c hc
  rw [h c hc]
  decide
theorem shape_none {f g : Int → Option Int} {cs : List Int} (h : ∀ c ∈ cs, f c = none) : shapeOf f g cs = 0 := by
  unfold shapeOf
  rw [if_pos (cnt_none h)]
theorem shape_title {f g : Int → Option Int} (hg : ∀ c d, g c = some d → ValidC d) (t : ByteArray) (h : ∀ c ∈ codes t, f c = none) : shapeOf f g (codes (turnS g t 1)) = 0 ∨ shapeOf f g (codes (turnS g t 1)) = 1 := by
  rw [codes_turnS _ _ _ hg]
  cases hc : codes t with
  | nil => exact .inl rfl
  | cons c l =>
    show shapeOf f g ((isT g 1 0 c).getD c :: turnCs g 1 (0 + 1) l) = 0 ∨ shapeOf f g ((isT g 1 0 c).getD c :: turnCs g 1 (0 + 1) l) = 1
    rw [turnCs_past g 1 _ _ (by omega)]
    have hl : cntF f l = 0 := cnt_none fun x hx => h x (by rw [hc]; exact List.mem_cons_of_mem _ hx)
    obtain ⟨d, hd⟩ : ∃ d, d = (isT g 1 0 c).getD c := ⟨_, rfl⟩
    rw [← hd]
    have e : cntF f (d :: l) = if (f d).isSome = true then 1 else 0 := by
      unfold cntF at hl ⊢
      rw [List.countP_cons, hl]
      simp
    unfold shapeOf
    rw [e]
    by_cases hs : (f d).isSome = true
    · rw [if_pos hs, if_neg (by omega), if_pos ⟨rfl, hs⟩]
      exact .inr rfl
    · rw [if_neg hs, if_pos rfl]
      exact .inl rfl
theorem turnL_fine (f : Int → Option Int) (s : ByteArray) (most : Nat) (hf : ∀ c d, f c = some d → ValidC d) : ∀ (us : List (Nat × Nat × Int)) (p i : Nat), ChainU s p us s.size → (turnL f s most i us).size + p ≤ s.size + 4 * us.length
  | [], p, i, hc => by
    unfold ChainU at hc
    show 0 + p ≤ _
    omega
  | u :: us, p, i, hc => by
    unfold ChainU at hc
    obtain ⟨hu, hp, hc2⟩ := hc
    have ih := turnL_fine f s most hf us _ (i + 1) hc2
    have hu2 : u.2.1 = uLen s p := by rw [hu]
    show (pieceB f s most i u ++ turnL f s most (i + 1) us).size + p ≤ _
    rw [ByteArray.size_append, List.length_cons]
    have hpz : (pieceB f s most i u).size ≤ u.2.1 + 4 := by
      unfold pieceB
      cases ht : isT f most i u.2.2 with
      | some c =>
        have := enc_size4 (show ValidC c by unfold isT at ht; split at ht; exact hf _ _ ht; cases ht)
        simp only
        omega
      | none => simp only; unfold rawB; rw [ByteArray.size_extract]; omega
    omega
theorem turnS_fine (f : Int → Option Int) (s : ByteArray) (most : Nat) (hf : ∀ c d, f c = some d → ValidC d) : (turnS f s most).size ≤ 5 * s.size := by
  have h := turnL_fine f s most hf (units s) 0 0 (chain_units s)
  have h2 : (units s).length ≤ s.size := unitsFrom_len s s.size 0
  unfold turnS
  omega
end Go.Proofs.YtmpckoincdkeeaaDoor

/- FoldPairs: the texts, their codes (plain). -/
import Derived.Test.YtmpckoincdkeeaaDoorFoldH
namespace Go.Proofs.YtmpckoincdkeeaaDoor
open Go.RowKit Go.Deep Go.Own Go.Maps
set_option linter.unusedVariables false
def tlB : ByteArray := ⟨#[255, 32, 230, 188, 162]⟩
def xT (a : ByteArray) : Nat → ByteArray
  | 0 => a ++ tlB
  | k + 1 => xT a k ++ a
def xC (c : Int) (k : Nat) : List Int := [c, -256, 32, 28450] ++ List.replicate k c
theorem enc_starts {c : Int} (h : ValidC c) : Starts (enc c) := .inr (enc_first h).1
theorem codes_xT {c : Int} (h : ValidC c) : ∀ k, codes (xT (enc c) k) = xC c k
  | 0 => by
    unfold xT
    rw [codes_app _ _ (.inr (by decide +kernel)), (enc_first h).2.2.2, show codes tlB = [-256, 32, 28450] by decide +kernel]
    rfl
  | k + 1 => by
    unfold xT
    rw [codes_app _ _ (enc_starts h), codes_xT h k, (enc_first h).2.2.2]
    unfold xC
    rw [List.replicate_succ', List.append_assoc]
theorem xT_size (a : ByteArray) : ∀ k, (xT a k).size = a.size + 5 + k * a.size
  | 0 => by unfold xT; rw [ByteArray.size_append]; show a.size + 5 = _; omega
  | k + 1 => by unfold xT; rw [ByteArray.size_append, xT_size a k, Nat.succ_mul]; omega
theorem letters_none {c : Int} (h : c < 65 ∨ 122 < c) : firstF lettersL c = none ∧ firstF (swapL lettersL) c = none := by
  constructor
  · cases e : firstF lettersL c with
    | none => rfl
    | some d =>
      have := firstF_mem e
      unfold lettersL at this
      obtain ⟨i, hi, he⟩ := List.mem_map.1 this
      have := List.mem_range.1 hi
      injection he with e1 e2
      omega
  · cases e : firstF (swapL lettersL) c with
    | none => rfl
    | some d =>
      have := firstF_mem e
      unfold swapL lettersL at this
      rw [List.map_map] at this
      obtain ⟨i, hi, he⟩ := List.mem_map.1 this
      have := List.mem_range.1 hi
      simp only [Function.comp] at he
      injection he with e1 e2
      omega
structure PairF (g s : Int) : Prop where
  g1 : 12288 ≤ g
  g2 : g < 13288
  s1 : 20480 ≤ s
  s2 : s < 21480
section
variable {g s : Int} (h : PairF g s)
include h
theorem pf_vg : ValidC g := .inl (by have := h.g1; have := h.g2; omega)
theorem pf_vs : ValidC s := .inl (by have := h.s1; have := h.s2; omega)
theorem pf_v : PairsV [(g, s)] := fun p hp => by
  obtain rfl := List.mem_singleton.1 hp
  exact ⟨pf_vg h, pf_vs h⟩
theorem pf_small (c : Int) (hc : c < 65 ∨ 122 < c) : smallF [(g, s)] c = if c = g then some s else none := by
  show firstF ((g, s) :: lettersL) c = _
  by_cases e : c = g
  · subst e; rw [if_pos rfl]; simp [firstF]
  · rw [if_neg e, firstF_skip (by show g ≠ c; exact fun x => e x.symm)]; exact (letters_none hc).1
theorem pf_great (c : Int) (hc : c < 65 ∨ 122 < c) : greatF [(g, s)] c = if c = s then some g else none := by
  show firstF ((s, g) :: swapL lettersL) c = _
  by_cases e : c = s
  · subst e; rw [if_pos rfl]; simp [firstF]
  · rw [if_neg e, firstF_skip (by show s ≠ c; exact fun x => e x.symm)]; exact (letters_none hc).2
theorem pf_sx (k : Nat) : turnS (smallF [(g, s)]) (xT (enc g) k) (xT (enc g) k).size = xT (enc s) k := by
  have := h.g1; have := h.g2; have := h.s1; have := h.s2
  apply codes_inj
  rw [codes_turnS _ _ _ (small_v (pf_v h)), turnCs_all _ _ _ _ (by have := codes_len (xT (enc g) k); omega), codes_xT (pf_vg h), codes_xT (pf_vs h)]
  unfold xC
  rw [List.map_append, List.map_replicate]
  simp only [List.map_cons, List.map_nil]
  rw [pf_small h g (by omega), pf_small h (-256) (by omega), pf_small h 32 (by omega), pf_small h 28450 (by omega), if_pos rfl, if_neg (by omega), if_neg (by omega), if_neg (by omega)]
  rfl
theorem pf_cnt (k : Nat) : cntF (smallF [(g, s)]) (xC g k) = 1 + k ∧ cntF (greatF [(g, s)]) (xC g k) = 0 ∧ cntF (smallF [(g, s)]) (xC s k) = 0 := by
  have := h.g1; have := h.g2; have := h.s1; have := h.s2
  have a1 := pf_small h g (by omega)
  have a2 := pf_small h (-256) (by omega)
  have a3 := pf_small h 32 (by omega)
  have a4 := pf_small h 28450 (by omega)
  have a5 := pf_small h s (by omega)
  have b1 := pf_great h g (by omega)
  have b2 := pf_great h (-256) (by omega)
  have b3 := pf_great h 32 (by omega)
  have b4 := pf_great h 28450 (by omega)
  rw [if_pos rfl] at a1
  rw [if_neg (by omega)] at a2 a3 a4 a5 b1 b2 b3 b4
  unfold cntF xC
  refine ⟨?_, ?_, ?_⟩
  · simp [List.countP_cons, List.countP_replicate, a1, a2, a3, a4]; omega
  · simp [List.countP_cons, List.countP_replicate, b1, b2, b3, b4]
  · simp [List.countP_cons, List.countP_replicate, a5, a2, a3, a4]
theorem pf_shx (k : Nat) : shapeOf (smallF [(g, s)]) (greatF [(g, s)]) (codes (xT (enc g) k)) = if 0 < k then 2 else 1 := by
  obtain ⟨e1, e2, _⟩ := pf_cnt h k
  have := h.g1; have := h.g2
  have hl : (xC g k).length = k + 4 := by unfold xC; simp
  have hf : fstF (smallF [(g, s)]) (xC g k) = true := by
    show (smallF [(g, s)] g).isSome = true
    rw [pf_small h g (by omega), if_pos rfl]; rfl
  rw [codes_xT (pf_vg h)]
  unfold shapeOf
  rw [e1, e2, hl, hf, if_neg (by omega)]
  by_cases hk : 0 < k
  · rw [if_neg (by omega), if_pos (by omega), if_pos hk]
  · rw [if_pos ⟨by omega, rfl⟩, if_neg hk]
theorem pf_shy (k : Nat) : shapeOf (smallF [(g, s)]) (greatF [(g, s)]) (codes (xT (enc s) k)) = 0 := by
  obtain ⟨_, _, e3⟩ := pf_cnt h k
  rw [codes_xT (pf_vs h)]
  unfold shapeOf
  rw [e3, if_pos rfl]
theorem pf_none (k : Nat) : turnS (smallF []) (xT (enc g) k) (xT (enc g) k).size = xT (enc g) k := by
  have := h.g1; have := h.g2
  apply codes_inj
  rw [codes_turnS _ _ _ (small_v no_pairs), turnCs_all _ _ _ _ (by have := codes_len (xT (enc g) k); omega), codes_xT (pf_vg h)]
  have e : ∀ c : Int, (c < 65 ∨ 122 < c) → smallF [] c = none := fun c hc => (letters_none hc).1
  unfold xC
  rw [List.map_append, List.map_replicate]
  simp only [List.map_cons, List.map_nil]
  rw [e g (by omega), e (-256) (by omega), e 32 (by omega), e 28450 (by omega)]
  rfl
end
theorem xT_head (b : ByteArray) : ∀ k, ∃ t, xT b k = b ++ t
  | 0 => ⟨_, rfl⟩
  | k + 1 => by
    obtain ⟨t, h⟩ := xT_head b k
    exact ⟨t ++ b, by unfold xT; rw [h, ByteArray.append_assoc]⟩
theorem pf_title {g s : Int} (h : PairF g s) (k : Nat) : turnS (greatF [(g, s)]) (xT (enc s) k) 1 = enc g ++ (xT (enc s) k).extract (enc s).size (xT (enc s) k).size := by
  have := h.s1; have := h.s2
  obtain ⟨t, e⟩ := xT_head (enc s) k
  rw [e, ext_right]
  apply codes_inj
  rw [codes_turnS _ _ _ (great_v (pf_v h)), codes_append _ t (enc_first (pf_vs h)).2.2.1, codes_append _ t (enc_first (pf_vg h)).2.2.1, (enc_first (pf_vs h)).2.2.2, (enc_first (pf_vg h)).2.2.2]
  show (isT (greatF [(g, s)]) 1 0 s).getD s :: turnCs (greatF [(g, s)]) 1 (0 + 1) (codes t) = g :: codes t
  rw [turnCs_past _ 1 _ _ (by omega)]
  unfold isT
  rw [if_pos (by omega), pf_great h s (by omega), if_pos rfl]
  rfl
theorem title_empty (ps : List (Int × Int)) : turnS (greatF ps) ⟨#[]⟩ 1 = ⟨#[]⟩ := rfl
end Go.Proofs.YtmpckoincdkeeaaDoor

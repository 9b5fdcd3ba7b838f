/- FoldSides. -/
import Derived.Test.YtmpckoincdkeeaaDoorFoldE
namespace Go.Proofs.YtmpckoincdkeeaaDoor
open Go.RowKit Go.Deep Go.Own Go.Maps
set_option linter.unusedVariables false
theorem firstF_skip {p : Int × Int} {l : List (Int × Int)} {c : Int} (h : p.1 ≠ c) : firstF (p :: l) c = firstF l c := by
  unfold firstF
  rw [List.find?_cons_of_neg (by simpa using h)]
theorem small32 (g : Int) (hg : 1024 ≤ g) : smallF [(g, g + 200)] 32 = none := by
  show firstF ((g, g + 200) :: lettersL) 32 = none
  rw [firstF_skip (by show g ≠ 32; omega)]
  decide +kernel
theorem great32 (g : Int) (hg : 1024 ≤ g) : greatF [(g, g + 200)] 32 = none := by
  show firstF ((g + 200, g) :: swapL lettersL) 32 = none
  rw [firstF_skip (by show g + 200 ≠ 32; omega)]
  decide +kernel
theorem turnL_app (f : Int → Option Int) (s : ByteArray) (most : Nat) : ∀ (us vs : List (Nat × Nat × Int)) (i : Nat), turnL f s most i (us ++ vs) = turnL f s most i us ++ turnL f s most (i + us.length) vs
  | [], vs, i => by
    show turnL f s most i vs = ⟨#[]⟩ ++ turnL f s most (i + 0) vs
    apply ByteArray.ext
    rw [ByteArray.data_append]
    simp
  | u :: us, vs, i => by
    show pieceB f s most i u ++ turnL f s most (i + 1) (us ++ vs) = (pieceB f s most i u ++ turnL f s most (i + 1) us) ++ _
    rw [turnL_app f s most us vs (i + 1), ByteArray.append_assoc, List.length_cons, show i + 1 + us.length = i + (us.length + 1) by omega]
theorem turn_end (f : Int → Option Int) (a : ByteArray) (most : Nat) (h : f 32 = none) : ∃ T : ByteArray, turnS f (a ++ ⟨#[32]⟩) most = T ++ ⟨#[32]⟩ := by
  unfold turnS
  have hu : units (a ++ ⟨#[32]⟩) = units a ++ [(a.size, 1, 32)] := by
    rw [units_app a ⟨#[32]⟩ (.inr (by decide)), show units ⟨#[32]⟩ = [(0, 1, 32)] by decide +kernel]
    rfl
  rw [hu, turnL_app]
  refine ⟨turnL f (a ++ ⟨#[32]⟩) most 0 (units a), ?_⟩
  congr 1
  show pieceB f (a ++ ⟨#[32]⟩) most _ (a.size, 1, 32) ++ ⟨#[]⟩ = ⟨#[32]⟩
  have hp : ∀ i, pieceB f (a ++ ⟨#[32]⟩) most i (a.size, 1, 32) = ⟨#[32]⟩ := fun i => by
    unfold pieceB isT
    simp only [h, ite_self]
    unfold rawB
    refine ext_bytes (by rw [ByteArray.size_extract, ByteArray.size_append]; show min (a.size + 1) (a.size + 1) - a.size = 1; omega) fun k hk => ?_
    rw [ByteArray.size_extract, ByteArray.size_append] at hk
    have hk0 : k = 0 := by
      have : k < min (a.size + 1) (a.size + 1) - a.size := hk
      omega
    subst hk0
    rw [uB_part _ _ _ 0 (by show a.size + 0 < a.size + 1; omega)]
    exact uB_append_right a ⟨#[32]⟩ 0
  rw [hp]
  rfl
theorem last32 (T : ByteArray) : 1 ≤ (T ++ ⟨#[32]⟩ : ByteArray).size → uB (T ++ ⟨#[32]⟩) ((T ++ ⟨#[32]⟩ : ByteArray).size - 1) < 128 := fun _ => by
  rw [ByteArray.size_append]
  show uB (T ++ ⟨#[32]⟩) (T.size + 1 - 1) < 128
  rw [show T.size + 1 - 1 = T.size + 0 by omega, uB_append_right]
  decide
theorem codes_len (s : ByteArray) : (codes s).length ≤ s.size := by unfold codes; rw [List.length_map]; exact unitsFrom_len s s.size 0
/-- of two texts each by itself -/
theorem turn_sides (f : Int → Option Int) (hf : ∀ c d, f c = some d → ValidC d) (h : f 32 = none) (a b : ByteArray) :
    turnS f (a ++ ⟨#[32]⟩ ++ (b ++ ⟨#[32]⟩)) (a ++ ⟨#[32]⟩ ++ (b ++ ⟨#[32]⟩) : ByteArray).size = turnS f (a ++ ⟨#[32]⟩) (a ++ ⟨#[32]⟩ : ByteArray).size ++ turnS f (b ++ ⟨#[32]⟩) (b ++ ⟨#[32]⟩ : ByteArray).size := by
  apply codes_inj
  obtain ⟨T, hT⟩ := turn_end f a (a ++ ⟨#[32]⟩ : ByteArray).size h
  rw [codes_turnS f _ _ hf, turnCs_all _ _ _ _ (by have := codes_len (a ++ ⟨#[32]⟩ ++ (b ++ ⟨#[32]⟩)); omega), codes_app_end _ _ (last32 a), List.map_append]
  have e : codes (turnS f (a ++ ⟨#[32]⟩) (a ++ ⟨#[32]⟩ : ByteArray).size ++ turnS f (b ++ ⟨#[32]⟩) (b ++ ⟨#[32]⟩ : ByteArray).size) = codes (turnS f (a ++ ⟨#[32]⟩) (a ++ ⟨#[32]⟩ : ByteArray).size) ++ codes (turnS f (b ++ ⟨#[32]⟩) (b ++ ⟨#[32]⟩ : ByteArray).size) := by
    rw [hT]; exact codes_app_end _ _ (last32 T)
  rw [e, codes_turnS f _ _ hf, codes_turnS f _ _ hf, turnCs_all _ _ _ _ (by have := codes_len (a ++ ⟨#[32]⟩); omega), turnCs_all _ _ _ _ (by have := codes_len (b ++ ⟨#[32]⟩); omega)]
theorem title_blank (f : Int → Option Int) (hf : ∀ c d, f c = some d → ValidC d) (h : f 32 = none) (a : ByteArray) : turnS f (⟨#[32]⟩ ++ a) 1 = ⟨#[32]⟩ ++ a := by
  apply codes_inj
  rw [codes_turnS f _ _ hf, codes_append ⟨#[32]⟩ a (by decide +kernel), show codes ⟨#[32]⟩ = [32] by decide +kernel]
  show (isT f 1 0 32).getD 32 :: turnCs f 1 (0 + 1) (codes a) = 32 :: codes a
  rw [turnCs_past f 1 _ _ (by omega)]
  unfold isT
  rw [if_pos (by omega), h]
  rfl
end Go.Proofs.YtmpckoincdkeeaaDoor

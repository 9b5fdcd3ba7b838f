/- Words with something between: the tokens (plain). -/
import Derived.Test.YtcljiahpgbedhaaDoorSegP
import Derived.Test.YtcljiahpgbedhaaDoorPlace
namespace Go.Proofs.YtcljiahpgbedhaaDoor
open Go.RowKit Go.Deep Go.Own
set_option linter.unusedVariables false
def abcS : ByteArray := ⟨#[97, 98, 99, 100, 101, 102, 103, 104, 105]⟩
def gapL : List ByteArray := [⟨#[32]⟩, ⟨#[44, 32]⟩, ⟨#[45]⟩, ⟨#[255]⟩, ⟨#[32, 39, 32]⟩]
def gapB (g : Nat) : ByteArray := gapL.getD g ⟨#[]⟩
def blk (k g : Nat) : ByteArray := abcS.extract 0 k ++ gapB g
set_option maxRecDepth 100000 in
theorem blk_facts : ∀ k, k < 9 → ∀ g, g < 5 → uB (blk (1 + k) g) 0 / 64 ≠ 2 ∧ (toksSt (kindsL tableL (blk (1 + k) g))).1 = false ∧ (toksSt (kindsL tableL (blk (1 + k) g))).2 = [⟨0, 1 + k, true⟩] ∧ lastC tableL 0 (units (blk (1 + k) g)) = 0 ∧ (blk (1 + k) g).size ≤ 12 := by decide +kernel
theorem lastC_app (rs : List Rng) : ∀ (us vs : UL) (was : Int), lastC rs was (us ++ vs) = lastC rs (lastC rs was us) vs
  | [], vs, was => rfl
  | u :: us, vs, was => lastC_app rs us vs (clsOf rs u.2.2)
theorem lastC_shift (rs : List Rng) (d : Nat) : ∀ (us : UL) (was : Int), lastC rs was (us.map (shiftU d)) = lastC rs was us
  | [], was => rfl
  | u :: us, was => lastC_shift rs d us (clsOf rs u.2.2)
/-- of the words so far -/
def kOf (v : Int) : Nat := 1 + (v % 9).toNat
structure WordsI (g : Nat) (l : List Int) (s : ByteArray) (es : List Int) : Prop where
  len : es.length = l.length
  tl : (toksOf tableL s).length = l.length
  each : ∀ (i : Nat) (v : Int), l[i]? = some v → ∃ f : Nat, (toksOf tableL s)[i]? = some (Tok.mk f (f + kOf v) true) ∧ es[i]? = some (Int.ofNat (f + kOf v))
  size : s.size ≤ 12 * l.length
  shut : (toksSt (kindsL tableL s)).1 = false
  last : lastC tableL 0 (units s) = 0
theorem WordsI.nil (g : Nat) : WordsI g [] ⟨#[]⟩ [] :=
  ⟨rfl, by decide +kernel, fun i v h => by simp at h, by decide, by decide +kernel, by decide +kernel⟩
theorem WordsI.snoc {g : Nat} {l : List Int} {s : ByteArray} {es : List Int} (h : WordsI g l s es) (hg : g < 5) (v : Int) :
    WordsI g (l ++ [v]) (s ++ abcS.extract 0 (kOf v) ++ gapB g) (es ++ [((s ++ abcS.extract 0 (kOf v)).size : Int)]) := by
  have hk : (v % 9).toNat < 9 := by omega
  obtain ⟨b1, b2, b3, b4, b5⟩ := blk_facts (v % 9).toNat hk g hg
  have hkv : 1 + (v % 9).toNat = kOf v := rfl
  rw [hkv] at b1 b2 b3 b4 b5
  have hk1 : kOf v ≤ 9 := by unfold kOf; omega
  obtain ⟨B, hB⟩ : ∃ B, B = blk (kOf v) g := ⟨_, rfl⟩
  have eB : s ++ abcS.extract 0 (kOf v) ++ gapB g = s ++ B := by rw [hB, ByteArray.append_assoc]; rfl
  have hz : (s ++ abcS.extract 0 (kOf v)).size = s.size + kOf v := by
    rw [ByteArray.size_append, ByteArray.size_extract]
    show s.size + (min (kOf v) 9 - 0) = _
    omega
  rw [← hB] at b1 b2 b3 b4 b5
  have e1 : units (s ++ B) = units s ++ (units B).map (shiftU s.size) := units_app s B (.inr b1)
  have e2 : kindsL tableL (s ++ B) = kindsL tableL s ++ (kindsL tableL B).map (shK s.size) := by
    unfold kindsL
    rw [e1, kinds_app tableL _ (units s) 0 (.inr (by rw [h.last]; decide)), h.last, kinds_shift]
  have e3 : toksSt (kindsL tableL (s ++ B)) = (false, toksOf tableL s ++ [⟨s.size, s.size + kOf v, true⟩]) := by
    have h1 := h.shut
    have h2 : toksSt (kindsL tableL s) = (false, toksOf tableL s) := by rw [← h1]; rfl
    unfold toksSt at h2 b2 b3 ⊢
    rw [e2, List.foldl_append, h2]
    have := fold_shift s.size (toksOf tableL s) (kindsL tableL B) false [] (fun h => by cases h)
    rw [List.map_nil, List.append_nil] at this
    rw [this, b2, b3]
    rfl
  have e4 : toksOf tableL (s ++ B) = toksOf tableL s ++ [⟨s.size, s.size + kOf v, true⟩] := by
    show (toksSt (kindsL tableL (s ++ B))).2 = _
    rw [e3]
  rw [eB, hz]
  refine ⟨by simp [h.len], by rw [e4]; simp [h.tl], fun i x hx => ?_, ?_, by rw [e3], by rw [e1, lastC_app, h.last, lastC_shift, b4]⟩
  · by_cases hi : i < l.length
    · rw [List.getElem?_append_left hi] at hx
      obtain ⟨f, a, b⟩ := h.each i x hx
      exact ⟨f, by rw [e4, List.getElem?_append_left (by rw [h.tl]; exact hi)]; exact a, by rw [List.getElem?_append_left (by rw [h.len]; exact hi)]; exact b⟩
    · have hlt := (List.getElem?_eq_some_iff.1 hx).1
      rw [List.length_append, List.length_singleton] at hlt
      obtain rfl : i = l.length := by omega
      rw [List.getElem?_append_right (Nat.le_refl _), Nat.sub_self] at hx
      obtain rfl : v = x := by simpa using hx
      refine ⟨s.size, ?_, ?_⟩
      · rw [e4, List.getElem?_append_right (by rw [h.tl]; exact Nat.le_refl _), h.tl, Nat.sub_self]; rfl
      · rw [List.getElem?_append_right (by rw [h.len]; exact Nat.le_refl _), h.len, Nat.sub_self]; rfl
  · have := h.size
    rw [ByteArray.size_append, List.length_append, List.length_singleton]
    omega
end Go.Proofs.YtcljiahpgbedhaaDoor

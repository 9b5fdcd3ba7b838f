/- Texts cut at a byte; small lemmas (plain). -/
import Derived.Test.YtmcnnfpeicnnjaaDoorUCodes
import Derived.Test.YtmcnnfpeicnnjaaDoorUCut
import Derived.Lib.SplitLaws
import Derived.Lib.TrimUEq
namespace Go.Proofs.YtmcnnfpeicnnjaaDoor
open Go.RowKit Go.Deep Go.Own
set_option linter.unusedVariables false
def mkB (l : List UInt8) : ByteArray := ⟨l.toArray⟩
theorem mk_data (s : ByteArray) : mkB s.data.toList = s := rfl
theorem mk_list (l : List UInt8) : (mkB l).data.toList = l := by simp [mkB]
theorem mk_size (l : List UInt8) : (mkB l).size = l.length := by show l.toArray.size = _; simp
/-- cut at each c -/
def consH (x : UInt8) : List (List UInt8) → List (List UInt8)
  | [] => [[x]]
  | h :: r => (x :: h) :: r
def cutL (c : UInt8) : List UInt8 → List (List UInt8)
  | [] => [[]]
  | x :: t => if x = c then [] :: cutL c t else consH x (cutL c t)
def cutB (c : UInt8) (s : ByteArray) : List ByteArray := (cutL c s.data.toList).map mkB
theorem cutL_ne (c : UInt8) (l : List UInt8) : cutL c l ≠ [] := by
  cases l with
  | nil => simp [cutL]
  | cons x t =>
    unfold cutL
    split
    · simp
    · unfold consH; split <;> simp
theorem index_cons_ne {x c : UInt8} (h : x ≠ c) (t : List UInt8) : Lib.index (x :: t) [c] = if Lib.index t [c] == -1 then -1 else Lib.index t [c] + 1 := by
  have : (List.isPrefixOf [c] (x :: t)) = false := by simp [List.isPrefixOf]; exact fun e => h e.symm
  rw [Lib.index, this]
  rfl
theorem split_cut (c : UInt8) : ∀ s : List UInt8, Lib.splitK [c] 0 (Lib.count s [c]) s = cutL c s
  | [] => by
    rw [Lib.count_one]
    rfl
  | x :: t => by
    have ih := split_cut c t
    by_cases h : x = c
    · subst h
      rw [Lib.count_cons_eq, Nat.add_comm, Lib.splitK]
      have h0 : Lib.index (x :: t) [x] = 0 := by
        rw [Lib.index]
        simp [List.isPrefixOf]
      rw [h0, if_neg (by decide)]
      unfold cutL
      rw [if_pos rfl, ← ih]
      rfl
    · rw [Lib.count_cons_ne x c t h]
      unfold cutL
      rw [if_neg h, ← ih]
      cases hk : Lib.count t [c] with
      | zero => rfl
      | succ k =>
        obtain ⟨i, hi⟩ := Lib.index_of_count (s := t) (old := [c]) (by omega)
        have h1 : Lib.index (x :: t) [c] = ((i + 1 : Nat) : Int) := by
          rw [index_cons_ne h, hi, if_neg (by first | (simp; done) | (simp; omega))]
          omega
        rw [Lib.splitK, Lib.splitK, h1, hi, if_neg (by first | (simp; done) | (simp; omega)), if_neg (by first | (simp; done) | (simp; omega))]
        rfl
theorem split_is (c : UInt8) (s : ByteArray) : Lib.splitB ⟨#[c]⟩ 0 (Lib.countB s ⟨#[c]⟩) s = cutB c s := by
  unfold cutB
  rw [← split_cut]
  have := Lib.splitB_data ⟨#[c]⟩ 0 (Lib.countB s ⟨#[c]⟩) s
  show _ = List.map mkB (Lib.splitK (⟨#[c]⟩ : ByteArray).data.toList 0 (Lib.countB s ⟨#[c]⟩) s.data.toList)
  rw [← this, List.map_map]
  have e : (mkB ∘ fun x : ByteArray => x.data.toList) = id := by funext x; rfl
  rw [e, List.map_id]
theorem split_len (c : UInt8) (s : ByteArray) : Lib.countB s ⟨#[c]⟩ + 1 = (cutB c s).length := by
  rw [← split_is, Lib.splitB_all ⟨#[c]⟩ (Nat.le_refl 1) 0 _ s rfl]
theorem cutL_len (c : UInt8) : ∀ l : List UInt8, (cutL c l).length ≤ l.length + 1
  | [] => Nat.le_refl _
  | x :: t => by
    have ih := cutL_len c t
    unfold cutL
    split
    · simp; omega
    · cases h : cutL c t with
      | nil => simp [consH]
      | cons a r => rw [h] at ih; simp [consH] at *; omega
theorem cutL_size (c : UInt8) : ∀ (l : List UInt8) (x : List UInt8), x ∈ cutL c l → x.length ≤ l.length
  | [], x, h => by simp [cutL] at h; subst h; simp
  | y :: t, x, h => by
    have ih := cutL_size c t
    unfold cutL at h
    split at h
    · rcases List.mem_cons.1 h with rfl | h
      · simp
      · have := ih x h; simp; omega
    · cases hc : cutL c t with
      | nil => rw [hc] at h; simp [consH] at h; subst h; simp
      | cons a r =>
        rw [hc] at h ih
        simp only [consH] at h
        rcases List.mem_cons.1 h with rfl | h
        · have := ih a List.mem_cons_self; simp; omega
        · have := ih x (List.mem_cons_of_mem _ h); simp; omega
theorem cutB_size {c : UInt8} {s x : ByteArray} (h : x ∈ cutB c s) : x.size ≤ s.size := by
  unfold cutB at h
  obtain ⟨l, hl, rfl⟩ := List.mem_map.1 h
  have := cutL_size c _ l hl
  rw [mk_size]
  have e : s.data.toList.length = s.size := by simp
  omega
theorem cutB_len (c : UInt8) (s : ByteArray) : (cutB c s).length ≤ s.size + 1 := by
  unfold cutB
  rw [List.length_map]
  have := cutL_len c s.data.toList
  have e : s.data.toList.length = s.size := by simp
  omega
theorem cutB_ne (c : UInt8) (s : ByteArray) : ∃ a t, cutB c s = a :: t := by
  cases h : cutB c s with
  | nil => unfold cutB at h; exact absurd (List.map_eq_nil_iff.1 h) (cutL_ne c _)
  | cons a t => exact ⟨a, t, rfl⟩
/-- a file's lines -/
def trimN (s : ByteArray) : ByteArray := mkB (Lib.trimSuffix s.data.toList [10])
theorem trimN_size (s : ByteArray) : (trimN s).size ≤ s.size := by
  unfold trimN Lib.trimSuffix
  rw [mk_size]
  have e : s.data.toList.length = s.size := by simp
  split
  · rw [List.length_take]; omega
  · omega
def rowsB (s : ByteArray) : List ByteArray := cutB 10 (trimN s)
theorem isEmpty_of {S : ByteArray} (h : S = ⟨#[]⟩) : S.toList.isEmpty = true := by rw [h, ByteArray.toList_eq]; rfl
theorem isEmpty_not {S : ByteArray} (h : S ≠ ⟨#[]⟩) : S.toList.isEmpty = false := by
  rw [ByteArray.toList_eq]
  cases hh : S.data.toList with
  | nil => exact absurd (ByteArray.ext (by rw [← Array.toList_inj, hh])) h
  | cons x t => rfl
theorem belowN (w : World) (n : Nat) : Below w.heap.size w (w.drewN n) := ⟨rfl, rfl, rfl, Nat.le_refl _, fun _ _ => rfl⟩
theorem reads_at {w w' : World} {A : Option Addr} {l : List Int} (h : Reads w A l) (hb : Below w.heap.size w w') {i : Nat} {v : Int} (hi : l[i]? = some v) : ∃ b o, A = some ⟨b, o, none⟩ ∧ w'.cell? ⟨b, o + i, none⟩ = some (.int .i64 v) := by
  have hl := (List.getElem?_eq_some_iff.1 hi).1
  obtain ⟨b, o, e, hc⟩ := h (by omega)
  refine ⟨b, o, e, ?_⟩
  have := hc w' (since_of_below hb) i hl
  rwa [List.getD_eq_getElem?_getD, hi] at this
end Go.Proofs.YtmcnnfpeicnnjaaDoor

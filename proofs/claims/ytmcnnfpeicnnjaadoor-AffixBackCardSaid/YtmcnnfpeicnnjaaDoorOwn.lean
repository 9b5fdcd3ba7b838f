/- Small words for walks: min and max of whole numbers as functions that the walk leaves alone. -/
import Derived.Test.YtmcnnfpeicnnjaaDoorReg
import Derived.WalkKit
import Derived.Deep.OwnRows
import Derived.Deep.Draws
namespace Go.Own
open Go Go.RowKit Go.Deep
set_option linter.unusedVariables false
/-- The smaller, the greater of two whole numbers. -/
def imin (a b : Int) : Int := if b < a then b else a
def imax (a b : Int) : Int := if a < b then b else a
theorem imin_eq (a b : Int) : imin a b = min a b := by unfold imin; split <;> omega
theorem imax_eq (a b : Int) : imax a b = max a b := by unfold imax; split <;> omega
theorem own_max2 (k k' : IntKind) (x y : Int) : Builtin.max2 (.int k x) (.int k' y) = pure (.int k (imax x y)) := by simp only [Builtin.max2, gt_iff_lt, imax]
theorem own_min2 (k k' : IntKind) (x y : Int) : Builtin.min2 (.int k x) (.int k' y) = pure (.int k (imin x y)) := by simp only [Builtin.min2, imin]
theorem own_max_two (ats : Array TypeId) (ty : TypeId) (a b : Value) : Builtin.max_ ats ty #[a, b] = (Builtin.max2 a b >>= fun s => pure s) := by simp only [Builtin.max_, List.foldlM_cons, List.foldlM_nil]
theorem own_min_two (ats : Array TypeId) (ty : TypeId) (a b : Value) : Builtin.min_ ats ty #[a, b] = (Builtin.min2 a b >>= fun s => pure s) := by simp only [Builtin.min_, List.foldlM_cons, List.foldlM_nil]
theorem own_max_three (ats : Array TypeId) (ty : TypeId) (a b c : Value) : Builtin.max_ ats ty #[a, b, c] = (Builtin.max2 a b >>= fun s => Builtin.max2 s c >>= fun s => pure s) := by simp only [Builtin.max_, List.foldlM_cons, List.foldlM_nil]
theorem own_min_three (ats : Array TypeId) (ty : TypeId) (a b c : Value) : Builtin.min_ ats ty #[a, b, c] = (Builtin.min2 a b >>= fun s => Builtin.min2 s c >>= fun s => pure s) := by simp only [Builtin.min_, List.foldlM_cons, List.foldlM_nil]
theorem drew_any1 (w : World) (a : Nat) : ∃ n, w.drewN a = w.drewN n := ⟨a, rfl⟩
theorem drew_any2 (w : World) (a b : Nat) : ∃ n, (w.drewN a).drewN b = w.drewN n := ⟨a + b, by simp⟩
theorem drew_any3 (w : World) (a b c : Nat) : ∃ n, ((w.drewN a).drewN b).drewN c = w.drewN n := ⟨a + b + c, by simp⟩
theorem drew_any4 (w : World) (a b c d : Nat) : ∃ n, (((w.drewN a).drewN b).drewN c).drewN d = w.drewN n := ⟨a + b + c + d, by simp⟩
/-- a slice of whole numbers that is read -/
def Reads (w : World) (A : Option Addr) (l : List Int) : Prop :=
  0 < l.length → ∃ b o, A = some ⟨b, o, none⟩ ∧ ∀ w' : World, w.Since w.heap.size w' → ∀ i, i < l.length → w'.cell? ⟨b, o + i, none⟩ = some (.int .i64 (l.getD i 0))
theorem since_of_below {B : Nat} {w w' : World} (h : Below B w w') : w.Since B w' := ⟨h.os, h.tape, h.output, h.size, h.block⟩
theorem below_of_since {B : Nat} {w w' : World} (h : w.Since B w') : Below B w w' := ⟨h.os, h.tape, h.output, h.size, h.block⟩
theorem Reads.lt {w : World} {b o : Nat} {l : List Int} (h : ∀ w' : World, w.Since w.heap.size w' → ∀ i, i < l.length → w'.cell? ⟨b, o + i, none⟩ = some (.int .i64 (l.getD i 0))) (hl : 0 < l.length) : b < w.heap.size :=
  World.block_lt_of_cell? _ _ (h w (World.Since.refl _ _) 0 hl)
theorem Reads.later {w w1 : World} {A : Option Addr} {l : List Int} (h : Reads w A l) (hb : Below w.heap.size w w1) : Reads w1 A l := by
  intro hl
  obtain ⟨b, o, e, hc⟩ := h hl
  have hlt := Reads.lt hc hl
  refine ⟨b, o, e, fun w' hs i hi => ?_⟩
  rw [hs.cell (a := ⟨b, o + i, none⟩) (Nat.lt_of_lt_of_le hlt hb.size)]
  exact hc w1 (since_of_below hb) i hi
/-- a slice that a text's own literal makes -/
theorem Reads.lit (w : World) (c : Array Value) (t b : Nat) (l : List Int) (hb : w.heap[b]? = some (.cells c t (0, 0))) (hc : ∀ i, i < l.length → c[i]? = some (.int .i64 (l.getD i 0))) : Reads w (some ⟨b, 0, none⟩) l := by
  intro _
  refine ⟨b, 0, rfl, fun w' hs i hi => ?_⟩
  have hlt : b < w.heap.size := (Array.getElem?_eq_some_iff.1 hb).1
  rw [hs.cell (a := ⟨b, 0 + i, none⟩) hlt]
  simp [World.cell?, hb, hc i hi]
theorem reads2 (w : World) (x y : Int) (t : TypeId := 3) : Reads (w.alloc (.cells #[.int .i64 x, .int .i64 y] t)) (some ⟨w.heap.size, 0, none⟩) [x, y] :=
  Reads.lit _ #[.int .i64 x, .int .i64 y] t _ _ (blk_alloc_new _ _) (fun i hi => match i, hi with | 0, _ => rfl | 1, _ => rfl)
theorem reads3 (w : World) (x y z : Int) (t : TypeId := 3) : Reads (w.alloc (.cells #[.int .i64 x, .int .i64 y, .int .i64 z] t)) (some ⟨w.heap.size, 0, none⟩) [x, y, z] :=
  Reads.lit _ #[.int .i64 x, .int .i64 y, .int .i64 z] t _ _ (blk_alloc_new _ _) (fun i hi => match i, hi with | 0, _ => rfl | 1, _ => rfl | 2, _ => rfl)
theorem Reads.alloc {w : World} {A : Option Addr} {l : List Int} (h : Reads w A l) (o : Obj) : Reads (w.alloc o) A l := h.later ((Below.refl _ _).alloc (Nat.le_refl _) _)
/-- what a row of whole numbers that came in reads as -/
def IsRow (k : IntKind) (w : World) (a : Option Addr) (len cap : Nat) (zs : List Int) : Prop :=
  (a = none ∧ len = 0 ∧ cap = 0 ∧ zs = []) ∨
  ∃ x, a = some x ∧ len ≤ cap ∧ cap ≤ maxLen ∧ zs.length = cap ∧ (∀ i, i < zs.length → w.cell? (x.add i) = some (.int k (zs.getD i 0))) ∧ ∀ n ∈ zs, (Lit.int k n).wf = true
theorem ret_int {k : IntKind} {a b : Int} (h : a = b) : Ending.returned (.int k a) = .returned (.int k b) := by rw [h]
theorem ret_bool {a b : Bool} (h : a = b) : Ending.returned (.bool a) = .returned (.bool b) := by rw [h]
theorem cell_plain {w : World} {x : Addr} {v : Value} (h : w.cell? x = some v) : ∃ b o, x = ⟨b, o, none⟩ := by
  obtain ⟨b, o, s⟩ := x
  cases s with
  | none => exact ⟨b, o, rfl⟩
  | some s => simp [World.cell?] at h; split at h <;> simp_all
theorem Reads.of_row {w : World} {A : Option Addr} {len cap : Nat} {zs : List Int} (h : IsRow .i64 w A len cap zs) : Reads w A (zs.take len) ∧ (zs.take len).length = len := by
  rcases h with ⟨rfl, rfl, rfl, rfl⟩ | ⟨x, rfl, hl, _, hz, hc, _⟩
  · exact ⟨fun h => by simp at h, rfl⟩
  · have hlen : (zs.take len).length = len := by rw [List.length_take]; omega
    refine ⟨fun h0 => ?_, hlen⟩
    rw [hlen] at h0
    have h1 := hc 0 (by omega)
    rw [show x.add 0 = x from by simp [Addr.add]] at h1
    obtain ⟨b, o, rfl⟩ := cell_plain h1
    refine ⟨b, o, rfl, fun w' hs i hi => ?_⟩
    rw [hlen] at hi
    have hci := hc i (by omega)
    rw [show (⟨b, o, none⟩ : Addr).add i = ⟨b, o + i, none⟩ from by unfold Addr.add; split <;> simp_all] at hci
    rw [hs.cell (a := ⟨b, o + i, none⟩) (World.block_lt_of_cell? _ _ hci), hci]
    rw [List.getD_eq_getElem?_getD, List.getD_eq_getElem?_getD, List.getElem?_take, if_pos hi]
end Go.Own

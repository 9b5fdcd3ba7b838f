/- DistKnown's walk. -/
import Derived.Test.YtenfaneaihdppaaDistC
import Derived.Test.YtenfaneaihdppaaAp2
namespace Go.Proofs.Ytenfaneaihdppaa
set_option linter.unusedVariables false
open Go.RowKit Go.Deep Go.Own
def tA : List (Array UInt8) := [#[], #[97, 98, 99], #[97, 98, 99], #[97, 98, 99, 100], #[99, 97], #[107, 105, 116, 116, 101, 110], #[97, 98, 99, 100, 101, 102], #[97, 98], #[97, 97, 97, 97], #[97, 98, 97, 98]]
def tB : List (Array UInt8) := [#[97, 98, 99], #[97, 98, 99], #[97, 99, 98], #[98, 97, 100, 99], #[97, 98, 99], #[115, 105, 116, 116, 105, 110, 103], #[102, 101, 100, 99, 98, 97], #[98, 97], #[98, 98, 98, 98], #[98, 97, 98, 97]]
def tW : List Int := [3, 0, 1, 2, 3, 3, 5, 1, 4, 2]
def sA (k : Nat) : ByteArray := ⟨tA.getD k #[]⟩
def sB (k : Nat) : ByteArray := ⟨tB.getD k #[]⟩
def wN (k : Nat) : Int := tW.getD k 0
def codes (s : ByteArray) : List Int := s.data.toList.map fun c => (c.toNat : Int)
theorem codes_length (s : ByteArray) : (codes s).length = s.size := by simp [codes]
theorem codes_snoc (s : ByteArray) (i : Nat) (h : i < s.size) : (codes s).take (i + 1) = (codes s).take i ++ [(s[i].toNat : Int)] := by
  have hl : i < (codes s).length := by rw [codes_length]; exact h
  rw [List.take_succ_eq_append_getElem hl]
  congr 2
  simp [codes]
  rfl
theorem idxA0 (w : World) : (Instr.index 31 (.agg #[Value.string { data := #[] }, Value.string { data := #[97, 98, 99] }, Value.string { data := #[97, 98, 99] }, Value.string { data := #[97, 98, 99, 100] }, Value.string { data := #[99, 97] }, Value.string { data := #[107, 105, 116, 116, 101, 110] }, Value.string { data := #[97, 98, 99, 100, 101, 102] }, Value.string { data := #[97, 98] }, Value.string { data := #[97, 97, 97, 97] }, Value.string { data := #[97, 98, 97, 98] }]) (.int .i64 ((0 : Nat) : Int))).run Try.prog w = .ok (.string (sA 0)) w := by kernel_rfl
theorem idxA1 (w : World) : (Instr.index 31 (.agg #[Value.string { data := #[] }, Value.string { data := #[97, 98, 99] }, Value.string { data := #[97, 98, 99] }, Value.string { data := #[97, 98, 99, 100] }, Value.string { data := #[99, 97] }, Value.string { data := #[107, 105, 116, 116, 101, 110] }, Value.string { data := #[97, 98, 99, 100, 101, 102] }, Value.string { data := #[97, 98] }, Value.string { data := #[97, 97, 97, 97] }, Value.string { data := #[97, 98, 97, 98] }]) (.int .i64 ((1 : Nat) : Int))).run Try.prog w = .ok (.string (sA 1)) w := by kernel_rfl
theorem idxA2 (w : World) : (Instr.index 31 (.agg #[Value.string { data := #[] }, Value.string { data := #[97, 98, 99] }, Value.string { data := #[97, 98, 99] }, Value.string { data := #[97, 98, 99, 100] }, Value.string { data := #[99, 97] }, Value.string { data := #[107, 105, 116, 116, 101, 110] }, Value.string { data := #[97, 98, 99, 100, 101, 102] }, Value.string { data := #[97, 98] }, Value.string { data := #[97, 97, 97, 97] }, Value.string { data := #[97, 98, 97, 98] }]) (.int .i64 ((2 : Nat) : Int))).run Try.prog w = .ok (.string (sA 2)) w := by kernel_rfl
theorem idxA3 (w : World) : (Instr.index 31 (.agg #[Value.string { data := #[] }, Value.string { data := #[97, 98, 99] }, Value.string { data := #[97, 98, 99] }, Value.string { data := #[97, 98, 99, 100] }, Value.string { data := #[99, 97] }, Value.string { data := #[107, 105, 116, 116, 101, 110] }, Value.string { data := #[97, 98, 99, 100, 101, 102] }, Value.string { data := #[97, 98] }, Value.string { data := #[97, 97, 97, 97] }, Value.string { data := #[97, 98, 97, 98] }]) (.int .i64 ((3 : Nat) : Int))).run Try.prog w = .ok (.string (sA 3)) w := by kernel_rfl
theorem idxA4 (w : World) : (Instr.index 31 (.agg #[Value.string { data := #[] }, Value.string { data := #[97, 98, 99] }, Value.string { data := #[97, 98, 99] }, Value.string { data := #[97, 98, 99, 100] }, Value.string { data := #[99, 97] }, Value.string { data := #[107, 105, 116, 116, 101, 110] }, Value.string { data := #[97, 98, 99, 100, 101, 102] }, Value.string { data := #[97, 98] }, Value.string { data := #[97, 97, 97, 97] }, Value.string { data := #[97, 98, 97, 98] }]) (.int .i64 ((4 : Nat) : Int))).run Try.prog w = .ok (.string (sA 4)) w := by kernel_rfl
theorem idxA5 (w : World) : (Instr.index 31 (.agg #[Value.string { data := #[] }, Value.string { data := #[97, 98, 99] }, Value.string { data := #[97, 98, 99] }, Value.string { data := #[97, 98, 99, 100] }, Value.string { data := #[99, 97] }, Value.string { data := #[107, 105, 116, 116, 101, 110] }, Value.string { data := #[97, 98, 99, 100, 101, 102] }, Value.string { data := #[97, 98] }, Value.string { data := #[97, 97, 97, 97] }, Value.string { data := #[97, 98, 97, 98] }]) (.int .i64 ((5 : Nat) : Int))).run Try.prog w = .ok (.string (sA 5)) w := by kernel_rfl
theorem idxA6 (w : World) : (Instr.index 31 (.agg #[Value.string { data := #[] }, Value.string { data := #[97, 98, 99] }, Value.string { data := #[97, 98, 99] }, Value.string { data := #[97, 98, 99, 100] }, Value.string { data := #[99, 97] }, Value.string { data := #[107, 105, 116, 116, 101, 110] }, Value.string { data := #[97, 98, 99, 100, 101, 102] }, Value.string { data := #[97, 98] }, Value.string { data := #[97, 97, 97, 97] }, Value.string { data := #[97, 98, 97, 98] }]) (.int .i64 ((6 : Nat) : Int))).run Try.prog w = .ok (.string (sA 6)) w := by kernel_rfl
theorem idxA7 (w : World) : (Instr.index 31 (.agg #[Value.string { data := #[] }, Value.string { data := #[97, 98, 99] }, Value.string { data := #[97, 98, 99] }, Value.string { data := #[97, 98, 99, 100] }, Value.string { data := #[99, 97] }, Value.string { data := #[107, 105, 116, 116, 101, 110] }, Value.string { data := #[97, 98, 99, 100, 101, 102] }, Value.string { data := #[97, 98] }, Value.string { data := #[97, 97, 97, 97] }, Value.string { data := #[97, 98, 97, 98] }]) (.int .i64 ((7 : Nat) : Int))).run Try.prog w = .ok (.string (sA 7)) w := by kernel_rfl
theorem idxA8 (w : World) : (Instr.index 31 (.agg #[Value.string { data := #[] }, Value.string { data := #[97, 98, 99] }, Value.string { data := #[97, 98, 99] }, Value.string { data := #[97, 98, 99, 100] }, Value.string { data := #[99, 97] }, Value.string { data := #[107, 105, 116, 116, 101, 110] }, Value.string { data := #[97, 98, 99, 100, 101, 102] }, Value.string { data := #[97, 98] }, Value.string { data := #[97, 97, 97, 97] }, Value.string { data := #[97, 98, 97, 98] }]) (.int .i64 ((8 : Nat) : Int))).run Try.prog w = .ok (.string (sA 8)) w := by kernel_rfl
theorem idxA9 (w : World) : (Instr.index 31 (.agg #[Value.string { data := #[] }, Value.string { data := #[97, 98, 99] }, Value.string { data := #[97, 98, 99] }, Value.string { data := #[97, 98, 99, 100] }, Value.string { data := #[99, 97] }, Value.string { data := #[107, 105, 116, 116, 101, 110] }, Value.string { data := #[97, 98, 99, 100, 101, 102] }, Value.string { data := #[97, 98] }, Value.string { data := #[97, 97, 97, 97] }, Value.string { data := #[97, 98, 97, 98] }]) (.int .i64 ((9 : Nat) : Int))).run Try.prog w = .ok (.string (sA 9)) w := by kernel_rfl
theorem idxA (k : Nat) (hk : k < 10) (w : World) : (Instr.index 31 (.agg #[Value.string { data := #[] }, Value.string { data := #[97, 98, 99] }, Value.string { data := #[97, 98, 99] }, Value.string { data := #[97, 98, 99, 100] }, Value.string { data := #[99, 97] }, Value.string { data := #[107, 105, 116, 116, 101, 110] }, Value.string { data := #[97, 98, 99, 100, 101, 102] }, Value.string { data := #[97, 98] }, Value.string { data := #[97, 97, 97, 97] }, Value.string { data := #[97, 98, 97, 98] }]) (.int .i64 (k : Nat))).run Try.prog w = .ok (.string (sA k)) w := by
  have hh : k = 0 ∨ k = 1 ∨ k = 2 ∨ k = 3 ∨ k = 4 ∨ k = 5 ∨ k = 6 ∨ k = 7 ∨ k = 8 ∨ k = 9 := by omega
  rcases hh with rfl | rfl | rfl | rfl | rfl | rfl | rfl | rfl | rfl | rfl
  · exact idxA0 w
  · exact idxA1 w
  · exact idxA2 w
  · exact idxA3 w
  · exact idxA4 w
  · exact idxA5 w
  · exact idxA6 w
  · exact idxA7 w
  · exact idxA8 w
  · exact idxA9 w
theorem idxB0 (w : World) : (Instr.index 31 (.agg #[Value.string { data := #[97, 98, 99] }, Value.string { data := #[97, 98, 99] }, Value.string { data := #[97, 99, 98] }, Value.string { data := #[98, 97, 100, 99] }, Value.string { data := #[97, 98, 99] }, Value.string { data := #[115, 105, 116, 116, 105, 110, 103] }, Value.string { data := #[102, 101, 100, 99, 98, 97] }, Value.string { data := #[98, 97] }, Value.string { data := #[98, 98, 98, 98] }, Value.string { data := #[98, 97, 98, 97] }]) (.int .i64 ((0 : Nat) : Int))).run Try.prog w = .ok (.string (sB 0)) w := by kernel_rfl
theorem idxB1 (w : World) : (Instr.index 31 (.agg #[Value.string { data := #[97, 98, 99] }, Value.string { data := #[97, 98, 99] }, Value.string { data := #[97, 99, 98] }, Value.string { data := #[98, 97, 100, 99] }, Value.string { data := #[97, 98, 99] }, Value.string { data := #[115, 105, 116, 116, 105, 110, 103] }, Value.string { data := #[102, 101, 100, 99, 98, 97] }, Value.string { data := #[98, 97] }, Value.string { data := #[98, 98, 98, 98] }, Value.string { data := #[98, 97, 98, 97] }]) (.int .i64 ((1 : Nat) : Int))).run Try.prog w = .ok (.string (sB 1)) w := by kernel_rfl
theorem idxB2 (w : World) : (Instr.index 31 (.agg #[Value.string { data := #[97, 98, 99] }, Value.string { data := #[97, 98, 99] }, Value.string { data := #[97, 99, 98] }, Value.string { data := #[98, 97, 100, 99] }, Value.string { data := #[97, 98, 99] }, Value.string { data := #[115, 105, 116, 116, 105, 110, 103] }, Value.string { data := #[102, 101, 100, 99, 98, 97] }, Value.string { data := #[98, 97] }, Value.string { data := #[98, 98, 98, 98] }, Value.string { data := #[98, 97, 98, 97] }]) (.int .i64 ((2 : Nat) : Int))).run Try.prog w = .ok (.string (sB 2)) w := by kernel_rfl
theorem idxB3 (w : World) : (Instr.index 31 (.agg #[Value.string { data := #[97, 98, 99] }, Value.string { data := #[97, 98, 99] }, Value.string { data := #[97, 99, 98] }, Value.string { data := #[98, 97, 100, 99] }, Value.string { data := #[97, 98, 99] }, Value.string { data := #[115, 105, 116, 116, 105, 110, 103] }, Value.string { data := #[102, 101, 100, 99, 98, 97] }, Value.string { data := #[98, 97] }, Value.string { data := #[98, 98, 98, 98] }, Value.string { data := #[98, 97, 98, 97] }]) (.int .i64 ((3 : Nat) : Int))).run Try.prog w = .ok (.string (sB 3)) w := by kernel_rfl
theorem idxB4 (w : World) : (Instr.index 31 (.agg #[Value.string { data := #[97, 98, 99] }, Value.string { data := #[97, 98, 99] }, Value.string { data := #[97, 99, 98] }, Value.string { data := #[98, 97, 100, 99] }, Value.string { data := #[97, 98, 99] }, Value.string { data := #[115, 105, 116, 116, 105, 110, 103] }, Value.string { data := #[102, 101, 100, 99, 98, 97] }, Value.string { data := #[98, 97] }, Value.string { data := #[98, 98, 98, 98] }, Value.string { data := #[98, 97, 98, 97] }]) (.int .i64 ((4 : Nat) : Int))).run Try.prog w = .ok (.string (sB 4)) w := by kernel_rfl
theorem idxB5 (w : World) : (Instr.index 31 (.agg #[Value.string { data := #[97, 98, 99] }, Value.string { data := #[97, 98, 99] }, Value.string { data := #[97, 99, 98] }, Value.string { data := #[98, 97, 100, 99] }, Value.string { data := #[97, 98, 99] }, Value.string { data := #[115, 105, 116, 116, 105, 110, 103] }, Value.string { data := #[102, 101, 100, 99, 98, 97] }, Value.string { data := #[98, 97] }, Value.string { data := #[98, 98, 98, 98] }, Value.string { data := #[98, 97, 98, 97] }]) (.int .i64 ((5 : Nat) : Int))).run Try.prog w = .ok (.string (sB 5)) w := by kernel_rfl
theorem idxB6 (w : World) : (Instr.index 31 (.agg #[Value.string { data := #[97, 98, 99] }, Value.string { data := #[97, 98, 99] }, Value.string { data := #[97, 99, 98] }, Value.string { data := #[98, 97, 100, 99] }, Value.string { data := #[97, 98, 99] }, Value.string { data := #[115, 105, 116, 116, 105, 110, 103] }, Value.string { data := #[102, 101, 100, 99, 98, 97] }, Value.string { data := #[98, 97] }, Value.string { data := #[98, 98, 98, 98] }, Value.string { data := #[98, 97, 98, 97] }]) (.int .i64 ((6 : Nat) : Int))).run Try.prog w = .ok (.string (sB 6)) w := by kernel_rfl
theorem idxB7 (w : World) : (Instr.index 31 (.agg #[Value.string { data := #[97, 98, 99] }, Value.string { data := #[97, 98, 99] }, Value.string { data := #[97, 99, 98] }, Value.string { data := #[98, 97, 100, 99] }, Value.string { data := #[97, 98, 99] }, Value.string { data := #[115, 105, 116, 116, 105, 110, 103] }, Value.string { data := #[102, 101, 100, 99, 98, 97] }, Value.string { data := #[98, 97] }, Value.string { data := #[98, 98, 98, 98] }, Value.string { data := #[98, 97, 98, 97] }]) (.int .i64 ((7 : Nat) : Int))).run Try.prog w = .ok (.string (sB 7)) w := by kernel_rfl
theorem idxB8 (w : World) : (Instr.index 31 (.agg #[Value.string { data := #[97, 98, 99] }, Value.string { data := #[97, 98, 99] }, Value.string { data := #[97, 99, 98] }, Value.string { data := #[98, 97, 100, 99] }, Value.string { data := #[97, 98, 99] }, Value.string { data := #[115, 105, 116, 116, 105, 110, 103] }, Value.string { data := #[102, 101, 100, 99, 98, 97] }, Value.string { data := #[98, 97] }, Value.string { data := #[98, 98, 98, 98] }, Value.string { data := #[98, 97, 98, 97] }]) (.int .i64 ((8 : Nat) : Int))).run Try.prog w = .ok (.string (sB 8)) w := by kernel_rfl
theorem idxB9 (w : World) : (Instr.index 31 (.agg #[Value.string { data := #[97, 98, 99] }, Value.string { data := #[97, 98, 99] }, Value.string { data := #[97, 99, 98] }, Value.string { data := #[98, 97, 100, 99] }, Value.string { data := #[97, 98, 99] }, Value.string { data := #[115, 105, 116, 116, 105, 110, 103] }, Value.string { data := #[102, 101, 100, 99, 98, 97] }, Value.string { data := #[98, 97] }, Value.string { data := #[98, 98, 98, 98] }, Value.string { data := #[98, 97, 98, 97] }]) (.int .i64 ((9 : Nat) : Int))).run Try.prog w = .ok (.string (sB 9)) w := by kernel_rfl
theorem idxB (k : Nat) (hk : k < 10) (w : World) : (Instr.index 31 (.agg #[Value.string { data := #[97, 98, 99] }, Value.string { data := #[97, 98, 99] }, Value.string { data := #[97, 99, 98] }, Value.string { data := #[98, 97, 100, 99] }, Value.string { data := #[97, 98, 99] }, Value.string { data := #[115, 105, 116, 116, 105, 110, 103] }, Value.string { data := #[102, 101, 100, 99, 98, 97] }, Value.string { data := #[98, 97] }, Value.string { data := #[98, 98, 98, 98] }, Value.string { data := #[98, 97, 98, 97] }]) (.int .i64 (k : Nat))).run Try.prog w = .ok (.string (sB k)) w := by
  have hh : k = 0 ∨ k = 1 ∨ k = 2 ∨ k = 3 ∨ k = 4 ∨ k = 5 ∨ k = 6 ∨ k = 7 ∨ k = 8 ∨ k = 9 := by omega
  rcases hh with rfl | rfl | rfl | rfl | rfl | rfl | rfl | rfl | rfl | rfl
  · exact idxB0 w
  · exact idxB1 w
  · exact idxB2 w
  · exact idxB3 w
  · exact idxB4 w
  · exact idxB5 w
  · exact idxB6 w
  · exact idxB7 w
  · exact idxB8 w
  · exact idxB9 w
theorem idxW0 (w : World) : (Instr.index 32 (.agg #[Value.int IntKind.i64 3, Value.int IntKind.i64 0, Value.int IntKind.i64 1, Value.int IntKind.i64 2, Value.int IntKind.i64 3, Value.int IntKind.i64 3, Value.int IntKind.i64 5, Value.int IntKind.i64 1, Value.int IntKind.i64 4, Value.int IntKind.i64 2]) (.int .i64 ((0 : Nat) : Int))).run Try.prog w = .ok (.int .i64 (wN 0)) w := by kernel_rfl
theorem idxW1 (w : World) : (Instr.index 32 (.agg #[Value.int IntKind.i64 3, Value.int IntKind.i64 0, Value.int IntKind.i64 1, Value.int IntKind.i64 2, Value.int IntKind.i64 3, Value.int IntKind.i64 3, Value.int IntKind.i64 5, Value.int IntKind.i64 1, Value.int IntKind.i64 4, Value.int IntKind.i64 2]) (.int .i64 ((1 : Nat) : Int))).run Try.prog w = .ok (.int .i64 (wN 1)) w := by kernel_rfl
theorem idxW2 (w : World) : (Instr.index 32 (.agg #[Value.int IntKind.i64 3, Value.int IntKind.i64 0, Value.int IntKind.i64 1, Value.int IntKind.i64 2, Value.int IntKind.i64 3, Value.int IntKind.i64 3, Value.int IntKind.i64 5, Value.int IntKind.i64 1, Value.int IntKind.i64 4, Value.int IntKind.i64 2]) (.int .i64 ((2 : Nat) : Int))).run Try.prog w = .ok (.int .i64 (wN 2)) w := by kernel_rfl
theorem idxW3 (w : World) : (Instr.index 32 (.agg #[Value.int IntKind.i64 3, Value.int IntKind.i64 0, Value.int IntKind.i64 1, Value.int IntKind.i64 2, Value.int IntKind.i64 3, Value.int IntKind.i64 3, Value.int IntKind.i64 5, Value.int IntKind.i64 1, Value.int IntKind.i64 4, Value.int IntKind.i64 2]) (.int .i64 ((3 : Nat) : Int))).run Try.prog w = .ok (.int .i64 (wN 3)) w := by kernel_rfl
theorem idxW4 (w : World) : (Instr.index 32 (.agg #[Value.int IntKind.i64 3, Value.int IntKind.i64 0, Value.int IntKind.i64 1, Value.int IntKind.i64 2, Value.int IntKind.i64 3, Value.int IntKind.i64 3, Value.int IntKind.i64 5, Value.int IntKind.i64 1, Value.int IntKind.i64 4, Value.int IntKind.i64 2]) (.int .i64 ((4 : Nat) : Int))).run Try.prog w = .ok (.int .i64 (wN 4)) w := by kernel_rfl
theorem idxW5 (w : World) : (Instr.index 32 (.agg #[Value.int IntKind.i64 3, Value.int IntKind.i64 0, Value.int IntKind.i64 1, Value.int IntKind.i64 2, Value.int IntKind.i64 3, Value.int IntKind.i64 3, Value.int IntKind.i64 5, Value.int IntKind.i64 1, Value.int IntKind.i64 4, Value.int IntKind.i64 2]) (.int .i64 ((5 : Nat) : Int))).run Try.prog w = .ok (.int .i64 (wN 5)) w := by kernel_rfl
theorem idxW6 (w : World) : (Instr.index 32 (.agg #[Value.int IntKind.i64 3, Value.int IntKind.i64 0, Value.int IntKind.i64 1, Value.int IntKind.i64 2, Value.int IntKind.i64 3, Value.int IntKind.i64 3, Value.int IntKind.i64 5, Value.int IntKind.i64 1, Value.int IntKind.i64 4, Value.int IntKind.i64 2]) (.int .i64 ((6 : Nat) : Int))).run Try.prog w = .ok (.int .i64 (wN 6)) w := by kernel_rfl
theorem idxW7 (w : World) : (Instr.index 32 (.agg #[Value.int IntKind.i64 3, Value.int IntKind.i64 0, Value.int IntKind.i64 1, Value.int IntKind.i64 2, Value.int IntKind.i64 3, Value.int IntKind.i64 3, Value.int IntKind.i64 5, Value.int IntKind.i64 1, Value.int IntKind.i64 4, Value.int IntKind.i64 2]) (.int .i64 ((7 : Nat) : Int))).run Try.prog w = .ok (.int .i64 (wN 7)) w := by kernel_rfl
theorem idxW8 (w : World) : (Instr.index 32 (.agg #[Value.int IntKind.i64 3, Value.int IntKind.i64 0, Value.int IntKind.i64 1, Value.int IntKind.i64 2, Value.int IntKind.i64 3, Value.int IntKind.i64 3, Value.int IntKind.i64 5, Value.int IntKind.i64 1, Value.int IntKind.i64 4, Value.int IntKind.i64 2]) (.int .i64 ((8 : Nat) : Int))).run Try.prog w = .ok (.int .i64 (wN 8)) w := by kernel_rfl
theorem idxW9 (w : World) : (Instr.index 32 (.agg #[Value.int IntKind.i64 3, Value.int IntKind.i64 0, Value.int IntKind.i64 1, Value.int IntKind.i64 2, Value.int IntKind.i64 3, Value.int IntKind.i64 3, Value.int IntKind.i64 5, Value.int IntKind.i64 1, Value.int IntKind.i64 4, Value.int IntKind.i64 2]) (.int .i64 ((9 : Nat) : Int))).run Try.prog w = .ok (.int .i64 (wN 9)) w := by kernel_rfl
theorem idxW (k : Nat) (hk : k < 10) (w : World) : (Instr.index 32 (.agg #[Value.int IntKind.i64 3, Value.int IntKind.i64 0, Value.int IntKind.i64 1, Value.int IntKind.i64 2, Value.int IntKind.i64 3, Value.int IntKind.i64 3, Value.int IntKind.i64 5, Value.int IntKind.i64 1, Value.int IntKind.i64 4, Value.int IntKind.i64 2]) (.int .i64 (k : Nat))).run Try.prog w = .ok (.int .i64 (wN k)) w := by
  have hh : k = 0 ∨ k = 1 ∨ k = 2 ∨ k = 3 ∨ k = 4 ∨ k = 5 ∨ k = 6 ∨ k = 7 ∨ k = 8 ∨ k = 9 := by omega
  rcases hh with rfl | rfl | rfl | rfl | rfl | rfl | rfl | rfl | rfl | rfl
  · exact idxW0 w
  · exact idxW1 w
  · exact idxW2 w
  · exact idxW3 w
  · exact idxW4 w
  · exact idxW5 w
  · exact idxW6 w
  · exact idxW7 w
  · exact idxW8 w
  · exact idxW9 w
/-- the known pairs, with so much behind -/
def okAt (k m : Nat) : Bool := let x := codes (sA k); let y := codes (sB k); let e := Dst.far x (y ++ List.replicate m 122)
  decide (((Dst.far x y : Nat) : Int) = wN k) && decide (((m : Int) + (sB k).size - (sA k).size) ≤ (e : Nat)) && decide (((e : Nat) : Int) ≤ wN k + m) && decide ((sA k).size ≤ 7) && decide ((sB k).size ≤ 7)
theorem ok_all : ((List.range 10).all fun k => (List.range 9).all fun m => okAt k m) = true := by kernel_rfl
theorem ok_at (k m : Nat) (hk : k < 10) (hm : m < 9) : okAt k m = true := List.all_eq_true.1 (List.all_eq_true.1 ok_all k (List.mem_range.2 hk)) m (List.mem_range.2 hm)
set_option maxRecDepth 100000 in
set_option maxHeartbeats 4000000 in
theorem distKnown_walk (a n : Int) (W : World) (ha : (Lit.int .i64 a).wf = true) (hn : (Lit.int .i64 n).wf = true) :
    Calls Try.prog 6 #[.int .i64 a, .int .i64 n] W fun e w' => e = .returned (.bool true) ∧ Below W.heap.size W w' := by
  clear ha hn
  obtain ⟨k, hk⟩ : ∃ k : Nat, a % 10 = (k : Int) := ⟨(a % 10).toNat, by have := Int.emod_nonneg a (show (10 : Int) ≠ 0 by decide); omega⟩
  obtain ⟨m, hm⟩ : ∃ m : Nat, n % 9 = (m : Int) := ⟨(n % 9).toNat, by have := Int.emod_nonneg n (show (9 : Int) ≠ 0 by decide); omega⟩
  have hk10 : k < 10 := by have := Int.emod_lt_of_pos a (show (0 : Int) < 10 by decide); omega
  have hm9 : m < 9 := by have := Int.emod_lt_of_pos n (show (0 : Int) < 9 by decide); omega
  have HK := Lib.hid hk
  have HM := Lib.hid hm
  clear hk hm
  have ca : ∀ w : World, Calls Try.prog 12 #[.int .i64 a, .int .i64 10] w fun e w' => e = .returned (.int .i64 (k : Nat)) ∧ w = w' := fun w => by rw [← HK.out]; exact place_calls a 10 _ (by decide) (by decide)
  have cn : ∀ w : World, Calls Try.prog 12 #[.int .i64 n, .int .i64 9] w fun e w' => e = .returned (.int .i64 (m : Nat)) ∧ w = w' := fun w => by rw [← HM.out]; exact place_calls n 9 _ (by decide) (by decide)
  have hok := ok_at k m hk10 hm9
  simp only [okAt, Bool.and_eq_true, decide_eq_true_eq] at hok
  obtain ⟨⟨⟨⟨o1, o2⟩, o3⟩, o4⟩, o5⟩ := hok
  have fA := idxA k hk10
  have fB := idxB k hk10
  have fW := idxW k hk10
  have l1 := codes_length (sA k)
  have l2 := codes_length (sB k)
  have L1 := Lib.hid l1
  have L2 := Lib.hid l2
  clear l1 l2
  have O1 := Lib.hid o1
  clear o1
  revert fA fB fW o2 o3 o4 o5 O1 L1 L2
  generalize sA k = sa
  generalize sB k = sb
  generalize wN k = wn
  intro o5 o4 o3 o2 fA fB fW L1 L2 O1
  obtain ⟨i0, hi, hz0, hz1, hz2⟩ := info_parts info3
  go_enter Try.func6, Try.ntmps6
  go_wp2_with (first | (go_at_call 12; refine (ca _).mono ?_; rintro e w' ⟨rfl, rfl⟩))
  clear fA fB fW
  have m8 : ∀ j : Nat, j ≤ 20 → j + 1 ≤ maxLen := fun j h => by simp only [maxLen]; omega
  have m9 : ∀ j : Nat, j ≤ 20 → (j + 1) * 8 ≤ 140737488355328 := fun j h => by omega
  have M8 := Lib.hid m8
  have M9 := Lib.hid m9
  clear m8 m9
  go_loopw [9, 11] (fun s t wr => ∃ i : Nat, i ≤ sa.size ∧ t = .int .i64 (i : Nat) ∧ OwnI wr W.heap.size 3 s ((codes sa).take i) ∧ Below W.heap.size W wr) (fun _ t _ => sa.size - (intOf t).toNat)
  case atStart => exact ⟨0, by omega, rfl, OwnI.nil _ _ _, Below.refl _ _⟩
  case round =>
    obtain ⟨i, hi5, rfl, hO, hbl⟩ := hrel
    by_cases his : i < sa.size
    · have hlen : ((codes sa).take i).length = i := by rw [List.length_take, L1.out]; omega
      have hO' : _ := hO
      unfold OwnI at hO'
      rw [hlen] at hO'
      clear hO
      have SN := Lib.hid (codes_snoc sa i his)
      have WR := Lib.hid (show wrap64 (sa[i].toNat : Nat) = (sa[i].toNat : Nat) from by have := sa[i].toNat_lt; unfold wrap64; omega)
      have b0 : W.heap.size ≤ (wr.alloc (.cells #[.int .i64 (wrap64 (sa[i].toNat : Nat))] 3)).heap.size := by have := hbl.size; simp; omega
      have b1 : Below W.heap.size W (wr.alloc (.cells #[.int .i64 (wrap64 (sa[i].toNat : Nat))] 3)) := hbl.alloc hbl.size _
      go_wp2_with (first
        | (at_builtin; refine own_append (o := ⟨some 41, _, _, _, _, _⟩) rfl (.tmp 35) (.tmp 40) 22 22 rfl W.heap.size 3 i0 (.int .i64 0) 1 8 Try.underlying22 hi hz0 hz1 hz2 rfl (by decide) _ i _ rfl (hO'.alloc _) _ rfl 1 _ (src_one (x := .int .i64 (wrap64 (sa[i].toNat : Nat))) Try.underlying22 rfl (cell_new1 _ _ _)) (M8.out i (by omega)) (M9.out i (by omega)) b0 ?_; intro v1 w1 o1 g1x; have B1 := b1.trans (below_grown g1x b0 (fun k h => (own_block_lt hO' h).1)); clear g1x hO'))
      go_roundw
      case rel =>
        refine ⟨i + 1, by omega, by go_num, ?_, B1⟩
        have hl1 : ((codes sa).take (i + 1)).length = i + 1 := by rw [List.length_take, L1.out]; omega
        unfold OwnI
        rw [hl1, SN.out, List.map_append]
        rw [WR.out] at o1
        exact o1
      case measure => simp [intOf]; omega
    · have hie : (codes sa).take i = codes sa := List.take_of_length_le (by rw [L1.out]; omega)
      rw [hie] at hO
      clear hie
      have HX := Lib.hid hO
      clear hO
      go_wp2
      obtain ⟨wo, rfl⟩ : ∃ wo : World, wo = wr := ⟨_, rfl⟩
      clear his hi5
      go_loopw [10, 12] (fun s t wr => ∃ i : Nat, i ≤ sb.size ∧ t = .int .i64 (i : Nat) ∧ OwnI wr wo.heap.size 3 s ((codes sb).take i) ∧ Below wo.heap.size wo wr) (fun _ t _ => sb.size - (intOf t).toNat)
      case atStart => exact ⟨0, by omega, rfl, OwnI.nil _ _ _, Below.refl _ _⟩
      case round =>
        obtain ⟨i, hi5, rfl, hO, hbl2⟩ := hrel
        by_cases his : i < sb.size
        · have hlen : ((codes sb).take i).length = i := by rw [List.length_take, L2.out]; omega
          have hO' : _ := hO
          unfold OwnI at hO'
          rw [hlen] at hO'
          clear hO
          have SN := Lib.hid (codes_snoc sb i his)
          have WR := Lib.hid (show wrap64 (sb[i].toNat : Nat) = (sb[i].toNat : Nat) from by have := sb[i].toNat_lt; unfold wrap64; omega)
          have b0 : wo.heap.size ≤ (wr.alloc (.cells #[.int .i64 (wrap64 (sb[i].toNat : Nat))] 3)).heap.size := by have := hbl2.size; simp; omega
          have b1 : Below wo.heap.size wo (wr.alloc (.cells #[.int .i64 (wrap64 (sb[i].toNat : Nat))] 3)) := hbl2.alloc hbl2.size _
          go_wp2_with (first
            | (at_builtin; refine own_append (o := ⟨some 54, _, _, _, _, _⟩) rfl (.tmp 48) (.tmp 53) 22 22 rfl wo.heap.size 3 i0 (.int .i64 0) 1 8 Try.underlying22 hi hz0 hz1 hz2 rfl (by decide) _ i _ rfl (hO'.alloc _) _ rfl 1 _ (src_one (x := .int .i64 (wrap64 (sb[i].toNat : Nat))) Try.underlying22 rfl (cell_new1 _ _ _)) (M8.out i (by omega)) (M9.out i (by omega)) b0 ?_; intro v1 w1 o1 g1x; have B1 := b1.trans (below_grown g1x b0 (fun k h => (own_block_lt hO' h).1)); clear g1x hO'))
          go_roundw
          case rel =>
            refine ⟨i + 1, by omega, by go_num, ?_, B1⟩
            have hl1 : ((codes sb).take (i + 1)).length = i + 1 := by rw [List.length_take, L2.out]; omega
            unfold OwnI
            rw [hl1, SN.out, List.map_append]
            rw [WR.out] at o1
            exact o1
          case measure => simp [intOf]; omega
        · have hie : (codes sb).take i = codes sb := List.take_of_length_le (by rw [L2.out]; omega)
          rw [hie] at hO
          clear hie
          obtain ⟨AX, cx, rfl, hcx, rX⟩ := (HX.out.later hbl2).reads
          obtain ⟨AY, cy, rfl, hcy, rY⟩ := hO.reads
          have RX := Lib.hid rX
          have RY := Lib.hid rY
          have HO := Lib.hid hO
          have lx : (codes sa).length ≤ 1000 := by rw [L1.out]; omega
          have ly : (codes sb).length ≤ 1000 := by rw [L2.out]; omega
          have wb := Dst.far_le (codes sa) (codes sb)
          rw [L1.out, L2.out] at wb
          have wn0 : 0 ≤ wn := by have := O1.out; omega
          have wn1 : wn ≤ 7 := by have := O1.out; omega
          obtain ⟨E, hE⟩ : ∃ E, E = Dst.far (codes sa) (codes sb ++ List.replicate m 122) := ⟨_, rfl⟩
          rw [← hE] at o2 o3
          have HE := Lib.hid hE
          have cf := far_calls AX AY cx cy (codes sa) (codes sb) wr lx ly RX.out RY.out
          rw [O1.out] at cf
          have CF := Lib.hid cf
          clear rX rY hO hE cf wb hcx hcy
          go_wp2_with fail
          refine CF.out.mono ?_
          rintro e w7 ⟨rfl, b7⟩
          have P7 := Lib.hid (HO.out.later b7)
          have B7 := hbl2.trans (b7.mono hbl2.size)
          clear CF HO RY hbl2 RX
          go_wp2
          go_loopw [10, 14] (fun s t wz => ∃ j : Nat, j ≤ m ∧ t = .int .i64 (j : Nat) ∧ OwnI wz wo.heap.size 3 s (codes sb ++ List.replicate j 122) ∧ Below wo.heap.size wo wz) (fun _ t _ => m - (intOf t).toNat)
          case atStart => exact ⟨0, by omega, rfl, by simpa using P7.out, B7⟩
          case round =>
            clear P7 B7 b7
            obtain ⟨j, hj, rfl, hO, hbl3⟩ := hrel
            by_cases hjm : j < m
            · have hlen : (codes sb ++ List.replicate j 122).length = sb.size + j := by rw [List.length_append, L2.out, List.length_replicate]
              have hO' : _ := hO
              unfold OwnI at hO'
              rw [hlen] at hO'
              clear hO
              have b0 : wo.heap.size ≤ (wr.alloc (.cells #[.int .i64 122] 3)).heap.size := by have := hbl3.size; simp; omega
              have b1 : Below wo.heap.size wo (wr.alloc (.cells #[.int .i64 122] 3)) := hbl3.alloc hbl3.size _
              go_wp2_with (first
                | (go_at_call 12; refine (cn _).mono ?_; rintro e w' ⟨rfl, rfl⟩)
                | (at_builtin; refine own_append (o := ⟨some 66, _, _, _, _, _⟩) rfl (.tmp 64) (.tmp 65) 22 22 rfl wo.heap.size 3 i0 (.int .i64 0) 1 8 Try.underlying22 hi hz0 hz1 hz2 rfl (by decide) _ (sb.size + j) _ rfl (hO'.alloc _) _ rfl 1 _ (src_one (x := .int .i64 122) Try.underlying22 rfl (cell_new1 _ _ _)) (M8.out (sb.size + j) (by omega)) (M9.out (sb.size + j) (by omega)) b0 ?_; intro v1 w1 o1 g1x; have B1 := b1.trans (below_grown g1x b0 (fun k h => (own_block_lt hO' h).1)); clear g1x hO'))
              go_roundw
              case rel =>
                refine ⟨j + 1, by omega, by go_num, ?_, B1⟩
                have hl1 : (codes sb ++ List.replicate (j + 1) 122).length = sb.size + j + 1 := by rw [List.length_append, L2.out, List.length_replicate]; omega
                unfold OwnI
                rw [hl1, List.replicate_succ', ← List.append_assoc, List.map_append]
                exact o1
              case measure => simp [intOf]; omega
            · have hjm' : j = m := by omega
              subst hjm'
              obtain ⟨AZ, cz, rfl, hcz, rZ⟩ := hO.reads
              have RX := Lib.hid (show Reads wr AX (codes sa) by
                obtain ⟨A2, c2, e2, _, r2⟩ := (HX.out.later hbl3).reads
                simp only [Value.slice.injEq] at e2
                rw [e2.1]; exact r2)
              have RZ := Lib.hid rZ
              have lz : (codes sb ++ List.replicate j 122).length ≤ 1000 := by rw [List.length_append, L2.out, List.length_replicate]; omega
              have cf := far_calls AX AZ cx cz (codes sa) (codes sb ++ List.replicate j 122) wr lx lz RX.out RZ.out
              rw [← HE.out] at cf
              have CF := Lib.hid cf
              obtain ⟨LZ, hLZ⟩ : ∃ n, n = (codes sb ++ List.replicate j 122).length := ⟨_, rfl⟩
              rw [← hLZ] at cf
              have cnr : ∀ w : World, Below wr.heap.size wr w → Calls Try.prog 9 #[.slice AX (codes sa).length cx, .slice AZ LZ cz, .int .i64 ((E : Int) - 1)] w fun e w' => e = .returned (.tuple #[.int .i64 0, .bool false]) ∧ Below w.heap.size w w' := by
                intro w hb
                have := near_calls AX AZ cx cz (codes sa) (codes sb ++ List.replicate j 122) ((E : Int) - 1) w lx lz (RX.out.later hb) (RZ.out.later hb)
                rw [← HE.out, if_pos (by omega), decide_eq_false (by omega), ← hLZ] at this
                exact this
              have CNR := Lib.hid cnr
              have CF := Lib.hid cf
              have g1 : decide ((j : Int) + (sb.size : Int) - (sa.size : Int) ≤ (E : Nat)) = true := by simp; omega
              have g2 : decide (((E : Nat) : Int) ≤ wn + (j : Int)) = true := by simp; omega
              have eb : E ≤ 20 := by omega
              have HLZ := Lib.hid hLZ
              rw [← hLZ]
              clear hO rZ cf cnr hLZ hcz
              go_wp2_with (go_at_call 12; refine (cn _).mono ?_; rintro e w' ⟨rfl, rfl⟩)
              refine CF.out.mono ?_
              rintro e w8 ⟨rfl, b8⟩
              go_wp2_with fail
              refine (CNR.out _ b8).mono ?_
              rintro e w9 ⟨rfl, b9⟩
              go_wp2_with (first | (go_at_call 12; refine (cn _).mono ?_; rintro e w' ⟨rfl, rfl⟩) | (go_at_call 7; refine (awake_calls _).mono ?_; rintro e w10 ⟨rfl, b10⟩))
              go_ret
              have c1 : Below W.heap.size W wr := hbl.trans (hbl3.mono hbl.size)
              have c2 := c1.trans (b8.mono c1.size)
              have c3 := c2.trans (b9.mono c2.size)
              exact ⟨rfl, c3.trans (b10.mono c3.size)⟩
end Go.Proofs.Ytenfaneaihdppaa

/- copy out of a string. -/
import Derived.Test.YtemcffihfeaniaaRep
import Derived.Laws.CopyOwn
namespace Go.Own
open Go Go.RowKit Go.Deep
set_option linter.unusedVariables false
theorem firstCells_part {P : Program} (s : ByteArray) (n : Nat) (h : n ≤ s.size) (w' : World) : (Builtin.firstCells 1 n (.string s)).run P w' = .ok (bc (s.data.toList.take n)).toArray w' := by
  simp [Builtin.firstCells, bc]
  apply Array.ext'
  simp
theorem run_copy_string {P : Program} (w : World) (dT sT ty elem : TypeId) (hu : P.underlying dT = some (.slice elem)) (hsz : ∀ w, (sizeOf elem).run P w = .ok 1 w) (g off dLen dCap : Nat) (s : ByteArray) (cur : Array Value) (t : TypeId)
    (hg : w.heap[g]? = some (.cells cur t (0, 0))) (k : Nat) (hk : k = Nat.min s.size dLen) (hfit : off + k ≤ cur.size) :
    (Builtin.copy_ #[dT, sT] ty #[.slice (some ⟨g, off, none⟩) dLen dCap, .string s]).run P w = .ok (goInt k) (w.setRow g (cur.toList.take off ++ bc (s.data.toList.take k) ++ cur.toList.drop (off + k)).toArray) := by
  have hks : k ≤ s.size := by rw [hk]; exact Nat.min_le_left _ _
  have hl : (bc (s.data.toList.take k)).length = k := by rw [bc_length, List.length_take]; simp; omega
  have h1 := run_storeCells_at P g off t (bc (s.data.toList.take k)) 0 cur w hg (by rw [hl]; omega) (bc_one _)
  rw [hl, Nat.add_zero] at h1
  simp [Builtin.copy_, run_underlying hu, Builtin.lenOf, hsz, ← hk, firstCells_part s k hks, h1]
theorem own_copy_string {P : Program} {w : World} {ops : Array Oper} {rest : List Oper} {o : Oper} {a : Act} {Q : Exit → Act → World → Prop} (hgd : o.guard = none) (d s : Operand) (dT sT : TypeId)
    (ho : o.op = .call { callee := .builtin .copy, args := #[d, s], argTypes := #[dT, sT] }) (elem : TypeId) (hu : P.underlying dT = some (.slice elem)) (hsz : ∀ w, (sizeOf elem).run P w = .ok 1 w)
    (g off dLen dCap : Nat) (x : ByteArray) (hd : a.eval d = .slice (some ⟨g, off, none⟩) dLen dCap) (hs : a.eval s = .string x) (cur : Array Value) (t : TypeId)
    (hg : w.heap[g]? = some (.cells cur t (0, 0))) (k : Nat) (hk : k = Nat.min x.size dLen) (hfit : off + k ≤ cur.size)
    (h : wpList P ops Q rest (a.put o.dst (goInt k)) (w.setRow g (cur.toList.take off ++ bc (x.data.toList.take k) ++ cur.toList.drop (off + k)).toArray)) : wpList P ops Q (o :: rest) a w := by
  refine wpList_plain hgd fun K hK => ?_
  have hrun := run_copy_string (P := P) w dT sT o.type elem hu hsz g off dLen dCap x cur t hg k hk hfit
  unfold Oper.wp
  simp [execOp, ho, resolve, invoke, builtin, hd, hs, hrun, Result.andThen]
  simp only [List.append_assoc] at h
  exact hK _ _ h
end Go.Own
namespace Go.Own
open Go Go.RowKit Go.Deep
theorem run_sliced_mid {P : Program} {t e : TypeId} (ht : P.underlying t = some (.slice e)) (hs : ∀ w, (sizeOf e).run P w = .ok 1 w) (g n c l h : Nat) (hl : l ≤ h) (hh : h ≤ c) (hlc : l < c) (w : World) :
    (Instr.slice t (.slice (some ⟨g, 0, none⟩) n c) (some (.int .i64 (l : Nat))) (some (.int .i64 (h : Nat))) none).run P w = .ok (.slice (some ⟨g, l, none⟩) (h - l) (c - l)) w := by
  simp only [Instr.slice, Sem.run_bind, run_underlying ht, Result.andThen_ok, Instr.sliceBounds, Sem.run_pure]
  rw [run_sliceBound _ _ _ _ _ (by omega) (by omega)]
  simp only [Result.andThen_ok]
  rw [run_sliceBound _ _ _ _ _ (by omega) (by omega)]
  have hne : c ≠ l := by omega
  simp [hs, hne, Addr.add]
  exact fun h => h.symm
end Go.Own

/- the balanced tree: how it lies in memory; what is read off a node. -/
import Derived.Test.YtemcffihfeaniaaStoreC
namespace Go.Own
open Go Go.RowKit Go.Deep
set_option linter.unusedVariables false
/-- a tree with its nodes' blocks; h, c, s: what a node tells of height, count, sum -/
inductive Tr where
  | nil
  | node (b : Nat) (key size h c s : Int) (l r : Tr)
namespace Tr
def ptr : Tr → Value
  | nil => .pointer none
  | node b _ _ _ _ _ _ _ => .pointer (some ⟨b, 0, none⟩)
def hi : Tr → Int
  | nil => 0
  | node _ _ _ h _ _ _ _ => h
def cnt : Tr → Int
  | nil => 0
  | node _ _ _ _ c _ _ _ => c
def sum : Tr → Int
  | nil => 0
  | node _ _ _ _ _ s _ _ => s
def blocks : Tr → List Nat
  | nil => []
  | node b _ _ _ _ _ l r => b :: (l.blocks ++ r.blocks)
/-- the items in their order -/
def items : Tr → List (Int × Int)
  | nil => []
  | node _ k z _ _ _ l r => l.items ++ (k, z) :: r.items
/-- the nodes lie there -/
def In (w : World) : Tr → Prop
  | nil => True
  | node b k z h c s l r => w.heap[b]? = some (.cells #[l.ptr, r.ptr, .int .i64 k, .int .i64 z, .int .i64 h, .int .i64 c, .int .i64 s] 89 (0, 0)) ∧ In w l ∧ In w r
theorem In.keep {w w' : World} : ∀ {t : Tr}, In w t → (∀ k ∈ t.blocks, w'.heap[k]? = w.heap[k]?) → In w' t
  | nil, _, _ => trivial
  | node b k z h c s l r, ⟨h1, h2, h3⟩, hk => ⟨(hk b (by simp [blocks])).trans h1, In.keep h2 (fun k hk' => hk k (by simp [blocks, hk'])), In.keep h3 (fun k hk' => hk k (by simp [blocks, hk']))⟩
theorem In.lt {w : World} : ∀ {t : Tr}, In w t → ∀ k ∈ t.blocks, k < w.heap.size
  | nil, _, k, hk => by simp [blocks] at hk
  | node b _ _ _ _ _ l r, ⟨h1, h2, h3⟩, k, hk => by
    simp only [blocks, List.mem_cons, List.mem_append] at hk
    rcases hk with rfl | hk | hk
    · exact (Array.getElem?_eq_some_iff.1 h1).1
    · exact In.lt h2 k hk
    · exact In.lt h3 k hk
theorem In.cells {w : World} {b : Nat} {k z h c s : Int} {l r : Tr} (hi : In w (node b k z h c s l r)) : w.cell? ⟨b, 0, none⟩ = some l.ptr ∧ w.cell? ⟨b, 1, none⟩ = some r.ptr ∧ w.cell? ⟨b, 2, none⟩ = some (.int .i64 k) ∧ w.cell? ⟨b, 3, none⟩ = some (.int .i64 z) ∧
    w.cell? ⟨b, 4, none⟩ = some (.int .i64 h) ∧ w.cell? ⟨b, 5, none⟩ = some (.int .i64 c) ∧ w.cell? ⟨b, 6, none⟩ = some (.int .i64 s) ∧ ∀ j, w.frozen? ⟨b, j, none⟩ = false := by
  have := hi.1
  refine ⟨?_, ?_, ?_, ?_, ?_, ?_, ?_, fun j => ?_⟩ <;> first | (simp [World.cell?, this]) | (simp [World.frozen?, this])
/-- what each node tells is so -/
def Told : Tr → Prop
  | nil => True
  | node _ _ z h c s l r => Told l ∧ Told r ∧ h = 1 + max l.hi r.hi ∧ c = 1 + l.cnt + r.cnt ∧ s = z + l.sum + r.sum
theorem Told.cnt_eq : ∀ {t : Tr}, Told t → t.cnt = t.items.length
  | nil, _ => rfl
  | node _ _ _ _ _ _ l r, ⟨h1, h2, _, h4, _⟩ => by
    have e1 := Told.cnt_eq h1
    have e2 := Told.cnt_eq h2
    show _ = _
    simp only [cnt, items, List.length_append, List.length_cons]
    omega
end Tr
end Go.Own
namespace Go.Proofs.Ytemcffihfeaniaa
open Go.RowKit Go.Deep Go.Own
set_option linter.unusedVariables false
set_option maxRecDepth 100000 in
theorem high_calls (t : Tr) (w : World) (hi : t.In w) : Calls Try.prog 54 #[t.ptr] w fun e w' => e = .returned (.int .i64 t.hi) ∧ w = w' := by
  cases t with
  | nil =>
    simp only [Tr.ptr, Tr.hi]
    go_enter Try.func54, Try.ntmps54
    go_wp2
    go_ret
    exact ⟨rfl, rfl⟩
  | node b k z h c s l r =>
    obtain ⟨_, _, _, _, c4, c5, c6, _⟩ := hi.cells
    simp only [Tr.ptr, Tr.hi]
    go_enter Try.func54, Try.ntmps54
    go_wp2
    go_ret
    exact ⟨rfl, rfl⟩
set_option maxRecDepth 100000 in
theorem many_calls (t : Tr) (w : World) (hi : t.In w) : Calls Try.prog 52 #[t.ptr] w fun e w' => e = .returned (.int .i64 t.cnt) ∧ w = w' := by
  cases t with
  | nil =>
    simp only [Tr.ptr, Tr.cnt]
    go_enter Try.func52, Try.ntmps52
    go_wp2
    go_ret
    exact ⟨rfl, rfl⟩
  | node b k z h c s l r =>
    obtain ⟨_, _, _, _, c4, c5, c6, _⟩ := hi.cells
    simp only [Tr.ptr, Tr.cnt]
    go_enter Try.func52, Try.ntmps52
    go_wp2
    go_ret
    exact ⟨rfl, rfl⟩
set_option maxRecDepth 100000 in
theorem all_calls (t : Tr) (w : World) (hi : t.In w) : Calls Try.prog 51 #[t.ptr] w fun e w' => e = .returned (.int .i64 t.sum) ∧ w = w' := by
  cases t with
  | nil =>
    simp only [Tr.ptr, Tr.sum]
    go_enter Try.func51, Try.ntmps51
    go_wp2
    go_ret
    exact ⟨rfl, rfl⟩
  | node b k z h c s l r =>
    obtain ⟨_, _, _, _, c4, c5, c6, _⟩ := hi.cells
    simp only [Tr.ptr, Tr.sum]
    go_enter Try.func51, Try.ntmps51
    go_wp2
    go_ret
    exact ⟨rfl, rfl⟩
end Go.Proofs.Ytemcffihfeaniaa

/- the words of the laws (abecedarylaw00.words, Word): only the size of what comes. -/
import Derived.Test.YtmpckoincdkeeaaDoorPlace
import Derived.Handy
import Derived.Deep.Cut
import Derived.Deep.WholeRow
namespace Go.Own
open Go
def wdA : Array Value := #[.string ⟨#[99, 97, 116]⟩, .string ⟨#[100, 111, 103]⟩, .string ⟨#[99, 105, 116, 121]⟩, .string ⟨#[100, 111]⟩, .string ⟨#[100, 111, 110, 101]⟩, .string ⟨#[80, 97, 114, 105, 115]⟩, .string ⟨#[105, 116, 39, 115]⟩, .string ⟨#[104, 111, 112, 101]⟩, .string ⟨#[109, 97, 107, 101]⟩, .string ⟨#[116, 97, 112]⟩, .string ⟨#[116, 111, 112]⟩, .string ⟨#[116, 111, 112, 115]⟩, .string ⟨#[116, 97, 112, 115]⟩, .string ⟨#[98, 101]⟩, .string ⟨#[195, 150, 108]⟩, .string ⟨#[195, 182, 100, 101]⟩, .string ⟨#[78, 65, 84, 79]⟩, .string ⟨#[97]⟩, .string ⟨#[114, 117, 110]⟩, .string ⟨#[114, 117, 110, 115]⟩, .string ⟨#[116, 114, 121]⟩, .string ⟨#[116, 114, 105, 101, 115]⟩, .string ⟨#[104, 111, 117, 115, 101]⟩, .string ⟨#[109, 111, 117, 115, 101]⟩]
theorem wpl_frame {P : Program} {ops : Array Oper} {l : List Oper} {a a' : Act} {w : World} {Q : Exit → Act → World → Prop} (ha : a = a') (h : wpList P ops Q l a' w) : wpList P ops Q l a w := ha ▸ h
end Go.Own
namespace Go.Proofs.YtmpckoincdkeeaaDoor
open Go.RowKit Go.Deep Go.Own
set_option linter.unusedVariables false
set_option maxRecDepth 100000 in
theorem wd_index (i : Int) (h0 : 0 ≤ i) (h1 : i < 24) : ∃ s : ByteArray, 1 ≤ s.size ∧ s.size ≤ 5 ∧ ∀ w : World, (Instr.index 81 (.agg wdA) (.int .i64 i)).run Tryd.prog w = .ok (.string s) w := by
  obtain ⟨n, rfl⟩ : ∃ n : Nat, i = (n : Int) := ⟨i.toNat, by omega⟩
  have h2 : n < 24 := by omega
  clear h0 h1
  have key : ∀ (k : Nat) (s : ByteArray), (k : Int) = n → 1 ≤ s.size → s.size ≤ 5 → (∀ w : World, (Instr.index 81 (.agg wdA) (.int .i64 (k : Int))).run Tryd.prog w = .ok (.string s) w) → ∃ s : ByteArray, 1 ≤ s.size ∧ s.size ≤ 5 ∧ ∀ w : World, (Instr.index 81 (.agg wdA) (.int .i64 (n : Int))).run Tryd.prog w = .ok (.string s) w := by
    intro k s h a b c
    rw [← h]
    exact ⟨s, a, b, c⟩
  by_cases h : n = 0
  · exact key 0 ⟨#[99, 97, 116]⟩ (by omega) (by decide) (by decide) (fun w => by kernel_rfl)
  by_cases h : n = 1
  · exact key 1 ⟨#[100, 111, 103]⟩ (by omega) (by decide) (by decide) (fun w => by kernel_rfl)
  by_cases h : n = 2
  · exact key 2 ⟨#[99, 105, 116, 121]⟩ (by omega) (by decide) (by decide) (fun w => by kernel_rfl)
  by_cases h : n = 3
  · exact key 3 ⟨#[100, 111]⟩ (by omega) (by decide) (by decide) (fun w => by kernel_rfl)
  by_cases h : n = 4
  · exact key 4 ⟨#[100, 111, 110, 101]⟩ (by omega) (by decide) (by decide) (fun w => by kernel_rfl)
  by_cases h : n = 5
  · exact key 5 ⟨#[80, 97, 114, 105, 115]⟩ (by omega) (by decide) (by decide) (fun w => by kernel_rfl)
  by_cases h : n = 6
  · exact key 6 ⟨#[105, 116, 39, 115]⟩ (by omega) (by decide) (by decide) (fun w => by kernel_rfl)
  by_cases h : n = 7
  · exact key 7 ⟨#[104, 111, 112, 101]⟩ (by omega) (by decide) (by decide) (fun w => by kernel_rfl)
  by_cases h : n = 8
  · exact key 8 ⟨#[109, 97, 107, 101]⟩ (by omega) (by decide) (by decide) (fun w => by kernel_rfl)
  by_cases h : n = 9
  · exact key 9 ⟨#[116, 97, 112]⟩ (by omega) (by decide) (by decide) (fun w => by kernel_rfl)
  by_cases h : n = 10
  · exact key 10 ⟨#[116, 111, 112]⟩ (by omega) (by decide) (by decide) (fun w => by kernel_rfl)
  by_cases h : n = 11
  · exact key 11 ⟨#[116, 111, 112, 115]⟩ (by omega) (by decide) (by decide) (fun w => by kernel_rfl)
  by_cases h : n = 12
  · exact key 12 ⟨#[116, 97, 112, 115]⟩ (by omega) (by decide) (by decide) (fun w => by kernel_rfl)
  by_cases h : n = 13
  · exact key 13 ⟨#[98, 101]⟩ (by omega) (by decide) (by decide) (fun w => by kernel_rfl)
  by_cases h : n = 14
  · exact key 14 ⟨#[195, 150, 108]⟩ (by omega) (by decide) (by decide) (fun w => by kernel_rfl)
  by_cases h : n = 15
  · exact key 15 ⟨#[195, 182, 100, 101]⟩ (by omega) (by decide) (by decide) (fun w => by kernel_rfl)
  by_cases h : n = 16
  · exact key 16 ⟨#[78, 65, 84, 79]⟩ (by omega) (by decide) (by decide) (fun w => by kernel_rfl)
  by_cases h : n = 17
  · exact key 17 ⟨#[97]⟩ (by omega) (by decide) (by decide) (fun w => by kernel_rfl)
  by_cases h : n = 18
  · exact key 18 ⟨#[114, 117, 110]⟩ (by omega) (by decide) (by decide) (fun w => by kernel_rfl)
  by_cases h : n = 19
  · exact key 19 ⟨#[114, 117, 110, 115]⟩ (by omega) (by decide) (by decide) (fun w => by kernel_rfl)
  by_cases h : n = 20
  · exact key 20 ⟨#[116, 114, 121]⟩ (by omega) (by decide) (by decide) (fun w => by kernel_rfl)
  by_cases h : n = 21
  · exact key 21 ⟨#[116, 114, 105, 101, 115]⟩ (by omega) (by decide) (by decide) (fun w => by kernel_rfl)
  by_cases h : n = 22
  · exact key 22 ⟨#[104, 111, 117, 115, 101]⟩ (by omega) (by decide) (by decide) (fun w => by kernel_rfl)
  by_cases h : n = 23
  · exact key 23 ⟨#[109, 111, 117, 115, 101]⟩ (by omega) (by decide) (by decide) (fun w => by kernel_rfl)
  omega
set_option maxRecDepth 100000 in
theorem words_calls (w : World) : Calls Tryd.prog 35 #[] w fun e w' => e = .returned (.agg wdA) ∧ Below w.heap.size w w' := by
  go_enter Tryd.func35, Tryd.ntmps35
  go_upto_region 1 with (fail)
  apply wp_region_lit
  refine wpList_build rfl 81 _ rfl (by as_aux_lemma => kernel_rfl) ?_
  refine Go.Own.wpl_frame (a' := { tmps := #[.pointer (some ⟨w.heap.size, 0, none⟩), .agg wdA], defers := [] }) (by kernel_rfl) ?_
  refine wpList_store_row rfl 81 _ _ rfl w.heap.size wdA rfl rfl 81 _ (heap_alloc_last w _) (by kernel_rfl) (by kernel_rfl) (by kernel_rfl) ?_
  refine Go.Own.wpl_frame (a' := { tmps := #[.pointer (some ⟨w.heap.size, 0, none⟩), .agg wdA], defers := [] }) rfl ?_
  rw [World.setRow_alloc_new]
  refine wpList_nil ?_
  go_wp2_with (fail)
  refine bodyPost_ret (v := .agg wdA) ?_ rfl ⟨rfl, (Below.refl _ _).alloc (Nat.le_refl _) _⟩
  have hld := run_loadVar_new (P := Tryd.prog) w 81 wdA _ _ Tryd.underlying81 (by kernel_rfl)
  have hr : Tryd.f35.results = #[.cell 0 81] := by kernel_rfl
  simp [results, hr, Sem.run_bind, asAddr, Result.andThen, hld]
end Go.Proofs.YtmpckoincdkeeaaDoor

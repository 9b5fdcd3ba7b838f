/- RuleKnown: rules and words that are known. -/
import Derived.Test.YtmcnnfpeicnnjaaDoorRulG
import Derived.Test.YtmcnnfpeicnnjaaDoorPlace
namespace Go.Proofs.YtmcnnfpeicnnjaaDoor
open Go.RowKit Go.Deep Go.Own
set_option linter.unusedVariables false
def knA : Array Value := #[.string ⟨#[83, 70, 88, 32, 83, 32, 89, 32, 48, 32, 115, 32, 46]⟩, .string ⟨#[83, 70, 88, 32, 83, 32, 89, 32, 121, 32, 105, 101, 115, 32, 91, 94, 97, 101, 105, 111, 117, 93, 121]⟩, .string ⟨#[83, 70, 88, 32, 83, 32, 89, 32, 121, 32, 105, 101, 115, 32, 91, 94, 97, 101, 105, 111, 117, 93, 121]⟩, .string ⟨#[83, 70, 88, 32, 68, 32, 89, 32, 101, 32, 105, 110, 103, 32, 101]⟩, .string ⟨#[80, 70, 88, 32, 85, 32, 89, 32, 48, 32, 117, 110, 32, 46]⟩, .string ⟨#[80, 70, 88, 32, 85, 32, 89, 32, 97, 32, 117, 110, 32, 97]⟩, .string ⟨#[80, 70, 88, 32, 85, 32, 89, 32, 98, 32, 117, 110, 32, 46]⟩, .string ⟨#[83, 70, 88, 32, 83, 32, 89, 32, 97, 32, 48, 32, 46]⟩, .string ⟨#[83, 70, 88, 32, 83, 32, 89, 32, 195, 169, 32, 101, 32, 46]⟩, .string ⟨#[83, 70, 88, 32, 83, 32, 89, 32, 48, 32, 115, 32, 91, 94, 115, 93]⟩, .string ⟨#[83, 70, 88, 32, 83, 32, 89, 32, 48, 32, 115, 32, 46, 46]⟩, .string ⟨#[83, 70, 88, 32, 83, 32, 89, 32, 97, 98, 32, 99, 100, 32, 97, 98]⟩]
def knB : Array Value := #[.string ⟨#[99, 97, 116]⟩, .string ⟨#[99, 105, 116, 121]⟩, .string ⟨#[98, 111, 121]⟩, .string ⟨#[109, 97, 107, 101]⟩, .string ⟨#[100, 111]⟩, .string ⟨#[97, 98, 99]⟩, .string ⟨#[97, 98, 99]⟩, .string ⟨#[97]⟩, .string ⟨#[99, 97, 102, 195, 169]⟩, .string ⟨#[98, 117, 115]⟩, .string ⟨#[97]⟩, .string ⟨#[97, 98]⟩]
def knC : Array Value := #[.string ⟨#[99, 97, 116, 115]⟩, .string ⟨#[99, 105, 116, 105, 101, 115]⟩, .string ⟨#[]⟩, .string ⟨#[109, 97, 107, 105, 110, 103]⟩, .string ⟨#[117, 110, 100, 111]⟩, .string ⟨#[117, 110, 98, 99]⟩, .string ⟨#[]⟩, .string ⟨#[]⟩, .string ⟨#[99, 97, 102, 101]⟩, .string ⟨#[]⟩, .string ⟨#[]⟩, .string ⟨#[99, 100]⟩]
structure Kn (n : Nat) (L X R : ByteArray) (r : RuP) : Prop where
  a : ∀ w : World, (Instr.index 53 (.agg knA) (.int .i64 (n : Nat))).run Tryd.prog w = .ok (.string L) w
  b : ∀ w : World, (Instr.index 53 (.agg knB) (.int .i64 (n : Nat))).run Tryd.prog w = .ok (.string X) w
  c : ∀ w : World, (Instr.index 53 (.agg knC) (.int .i64 (n : Nat))).run Tryd.prog w = .ok (.string R) w
  read : ruleV L = some r
  app : applyV r X = (R, neB R)
  no : (applyV r (⟨#[255]⟩ ++ X)).2 = false
  zl : L.size ≤ 50
  zx : X.size ≤ 20
set_option maxRecDepth 100000 in
theorem kn_all (n : Nat) (h : n < 12) : ∃ L X R r, Kn n L X R r := by
  have h : n = 0 ∨ n = 1 ∨ n = 2 ∨ n = 3 ∨ n = 4 ∨ n = 5 ∨ n = 6 ∨ n = 7 ∨ n = 8 ∨ n = 9 ∨ n = 10 ∨ n = 11 := by omega
  rcases h with rfl | rfl | rfl | rfl | rfl | rfl | rfl | rfl | rfl | rfl | rfl | rfl
  · exact ⟨⟨#[83, 70, 88, 32, 83, 32, 89, 32, 48, 32, 115, 32, 46]⟩, ⟨#[99, 97, 116]⟩, ⟨#[99, 97, 116, 115]⟩, ((ruleV ⟨#[83, 70, 88, 32, 83, 32, 89, 32, 48, 32, 115, 32, 46]⟩).getD zeroR), fun w => by kernel_rfl, fun w => by kernel_rfl, fun w => by kernel_rfl, by decide +kernel, by decide +kernel, by decide +kernel, by decide, by decide⟩
  · exact ⟨⟨#[83, 70, 88, 32, 83, 32, 89, 32, 121, 32, 105, 101, 115, 32, 91, 94, 97, 101, 105, 111, 117, 93, 121]⟩, ⟨#[99, 105, 116, 121]⟩, ⟨#[99, 105, 116, 105, 101, 115]⟩, ((ruleV ⟨#[83, 70, 88, 32, 83, 32, 89, 32, 121, 32, 105, 101, 115, 32, 91, 94, 97, 101, 105, 111, 117, 93, 121]⟩).getD zeroR), fun w => by kernel_rfl, fun w => by kernel_rfl, fun w => by kernel_rfl, by decide +kernel, by decide +kernel, by decide +kernel, by decide, by decide⟩
  · exact ⟨⟨#[83, 70, 88, 32, 83, 32, 89, 32, 121, 32, 105, 101, 115, 32, 91, 94, 97, 101, 105, 111, 117, 93, 121]⟩, ⟨#[98, 111, 121]⟩, ⟨#[]⟩, ((ruleV ⟨#[83, 70, 88, 32, 83, 32, 89, 32, 121, 32, 105, 101, 115, 32, 91, 94, 97, 101, 105, 111, 117, 93, 121]⟩).getD zeroR), fun w => by kernel_rfl, fun w => by kernel_rfl, fun w => by kernel_rfl, by decide +kernel, by decide +kernel, by decide +kernel, by decide, by decide⟩
  · exact ⟨⟨#[83, 70, 88, 32, 68, 32, 89, 32, 101, 32, 105, 110, 103, 32, 101]⟩, ⟨#[109, 97, 107, 101]⟩, ⟨#[109, 97, 107, 105, 110, 103]⟩, ((ruleV ⟨#[83, 70, 88, 32, 68, 32, 89, 32, 101, 32, 105, 110, 103, 32, 101]⟩).getD zeroR), fun w => by kernel_rfl, fun w => by kernel_rfl, fun w => by kernel_rfl, by decide +kernel, by decide +kernel, by decide +kernel, by decide, by decide⟩
  · exact ⟨⟨#[80, 70, 88, 32, 85, 32, 89, 32, 48, 32, 117, 110, 32, 46]⟩, ⟨#[100, 111]⟩, ⟨#[117, 110, 100, 111]⟩, ((ruleV ⟨#[80, 70, 88, 32, 85, 32, 89, 32, 48, 32, 117, 110, 32, 46]⟩).getD zeroR), fun w => by kernel_rfl, fun w => by kernel_rfl, fun w => by kernel_rfl, by decide +kernel, by decide +kernel, by decide +kernel, by decide, by decide⟩
  · exact ⟨⟨#[80, 70, 88, 32, 85, 32, 89, 32, 97, 32, 117, 110, 32, 97]⟩, ⟨#[97, 98, 99]⟩, ⟨#[117, 110, 98, 99]⟩, ((ruleV ⟨#[80, 70, 88, 32, 85, 32, 89, 32, 97, 32, 117, 110, 32, 97]⟩).getD zeroR), fun w => by kernel_rfl, fun w => by kernel_rfl, fun w => by kernel_rfl, by decide +kernel, by decide +kernel, by decide +kernel, by decide, by decide⟩
  · exact ⟨⟨#[80, 70, 88, 32, 85, 32, 89, 32, 98, 32, 117, 110, 32, 46]⟩, ⟨#[97, 98, 99]⟩, ⟨#[]⟩, ((ruleV ⟨#[80, 70, 88, 32, 85, 32, 89, 32, 98, 32, 117, 110, 32, 46]⟩).getD zeroR), fun w => by kernel_rfl, fun w => by kernel_rfl, fun w => by kernel_rfl, by decide +kernel, by decide +kernel, by decide +kernel, by decide, by decide⟩
  · exact ⟨⟨#[83, 70, 88, 32, 83, 32, 89, 32, 97, 32, 48, 32, 46]⟩, ⟨#[97]⟩, ⟨#[]⟩, ((ruleV ⟨#[83, 70, 88, 32, 83, 32, 89, 32, 97, 32, 48, 32, 46]⟩).getD zeroR), fun w => by kernel_rfl, fun w => by kernel_rfl, fun w => by kernel_rfl, by decide +kernel, by decide +kernel, by decide +kernel, by decide, by decide⟩
  · exact ⟨⟨#[83, 70, 88, 32, 83, 32, 89, 32, 195, 169, 32, 101, 32, 46]⟩, ⟨#[99, 97, 102, 195, 169]⟩, ⟨#[99, 97, 102, 101]⟩, ((ruleV ⟨#[83, 70, 88, 32, 83, 32, 89, 32, 195, 169, 32, 101, 32, 46]⟩).getD zeroR), fun w => by kernel_rfl, fun w => by kernel_rfl, fun w => by kernel_rfl, by decide +kernel, by decide +kernel, by decide +kernel, by decide, by decide⟩
  · exact ⟨⟨#[83, 70, 88, 32, 83, 32, 89, 32, 48, 32, 115, 32, 91, 94, 115, 93]⟩, ⟨#[98, 117, 115]⟩, ⟨#[]⟩, ((ruleV ⟨#[83, 70, 88, 32, 83, 32, 89, 32, 48, 32, 115, 32, 91, 94, 115, 93]⟩).getD zeroR), fun w => by kernel_rfl, fun w => by kernel_rfl, fun w => by kernel_rfl, by decide +kernel, by decide +kernel, by decide +kernel, by decide, by decide⟩
  · exact ⟨⟨#[83, 70, 88, 32, 83, 32, 89, 32, 48, 32, 115, 32, 46, 46]⟩, ⟨#[97]⟩, ⟨#[]⟩, ((ruleV ⟨#[83, 70, 88, 32, 83, 32, 89, 32, 48, 32, 115, 32, 46, 46]⟩).getD zeroR), fun w => by kernel_rfl, fun w => by kernel_rfl, fun w => by kernel_rfl, by decide +kernel, by decide +kernel, by decide +kernel, by decide, by decide⟩
  · exact ⟨⟨#[83, 70, 88, 32, 83, 32, 89, 32, 97, 98, 32, 99, 100, 32, 97, 98]⟩, ⟨#[97, 98]⟩, ⟨#[99, 100]⟩, ((ruleV ⟨#[83, 70, 88, 32, 83, 32, 89, 32, 97, 98, 32, 99, 100, 32, 97, 98]⟩).getD zeroR), fun w => by kernel_rfl, fun w => by kernel_rfl, fun w => by kernel_rfl, by decide +kernel, by decide +kernel, by decide +kernel, by decide, by decide⟩
set_option maxRecDepth 100000 in
set_option maxHeartbeats 16000000 in
theorem ruleKnown_walk (how : Int) (w : World) (_ : (Lit.int .i64 how).wf = true) (hT : TabsL w) : Calls Tryd.prog 8 #[.int .i64 how] w fun e w' => e = .returned (.bool true) ∧ Below w.heap.size w w' := by
  obtain ⟨k, hk, _, cp⟩ := place_nat how 12 (by omega) (by omega)
  obtain ⟨L, X, R, r, hK⟩ := kn_all k hk
  have CP := Lib.hid cp
  have HK := Lib.hid hK
  have HT := Lib.hid hT
  have CR := Lib.hid (rparse_got L w (by have := hK.zl; omega) hT)
  unfold GRPost at CR
  have HF := Lib.hid (fit_read hK.read (by have := hK.zl; omega))
  have zx := hK.zx
  clear cp hT hK
  go_enter Tryd.func8, Tryd.ntmps8
  go_wp2_with (fail)
  refine (CP.out _).mono ?_
  rintro e w0 ⟨rfl, hw0⟩
  subst hw0
  clear CP
  have HI := HK.out.a
  unfold knA at HI
  generalize hag : Value.agg _ = ag at HI
  go_upto_region 3 with (fail)
  clear HI hag
  have HI := HK.out.b
  unfold knB at HI
  generalize hag : Value.agg _ = ag at HI
  go_upto_region 4 with (fail)
  clear HI hag
  have HI := HK.out.c
  unfold knC at HI
  generalize hag : Value.agg _ = ag at HI
  go_upto_region 5 with (fail)
  clear HI hag
  go_wp2_with (fail)
  refine CR.out.mono ?_
  rintro e w1 ⟨⟨cs, r2, ok, rfl, g1, h1, h2⟩, b1⟩
  have hok : ok = true := by
    cases ok with
    | true => rfl
    | false => have := HK.out.read.symm.trans (h2 rfl).1; cases this
  subst hok
  have hr : r2 = r := (Option.some.inj (HK.out.read.symm.trans (h1 rfl))).symm
  subst hr
  obtain ⟨w2, hw2⟩ : ∃ w2, w2 = w1.alloc (.cells cs 47) := ⟨_, rfl⟩
  obtain ⟨M, hM⟩ : ∃ M, M = w1.heap.size := ⟨_, rfl⟩
  have b2 : Below w1.heap.size w1 w2 := by rw [hw2]; exact (Below.refl _ _).alloc (Nat.le_refl _) _
  have m2 : w2.heap[M]? = some (.cells cs 47 (0, 0)) := by rw [hw2, hM]; exact blk_alloc_new _ _
  have B2 := Lib.hid (b1.trans (b2.mono b1.size))
  have G2 := Lib.hid (g1.below b2)
  have C2 := Lib.hid (fun wx (hb : Below w2.heap.size w2 wx) => apply_calls r2 cs X wx (G2.out.below hb) HF.out.small (by omega) (by have := HF.out.add; omega) ((HT.out.below B2.out).below hb))
  have C3 := Lib.hid (fun wx (hb : Below w2.heap.size w2 wx) => apply_calls r2 cs (⟨#[255]⟩ ++ X) wx (G2.out.below hb) HF.out.small (by rw [ByteArray.size_append]; show 1 + X.size ≤ _; omega) (by have := HF.out.add; omega) ((HT.out.below B2.out).below hb))
  rw [HK.out.app] at C2
  rw [HK.out.no] at C3
  simp only at C2
  unfold neB at C2
  obtain ⟨V, hV⟩ : ∃ V, V = (applyV r2 (⟨#[255]⟩ ++ X)).1 := ⟨_, rfl⟩
  rw [← hV] at C3
  have HM := Lib.hid (fun wx (hb : Below w2.heap.size w2 wx) => (hb.block _ (Array.getElem?_eq_some_iff.1 m2).1).trans m2)
  have HW2 := Lib.hid (And.intro hw2 hM)
  have CA := Lib.hid (fun wx (hb : Below w2.heap.size w2 wx) => awake10_calls wx ((HT.out.below B2.out).below hb))
  obtain ⟨A, c, hcs, _⟩ := g1.out
  subst hcs
  clear CR h1 h2 g1 b1 b2 hw2 hM m2 HF G2 HK hV
  go_upto_region 6 with (fail)
  rw [← HW2.out.1, ← HW2.out.2]
  clear HW2
  obtain ⟨m0, mm1, m2, m3, m4, m5⟩ := cell6_of (HM.out _ (Below.refl _ _))
  go_wp2_with (fail)
  refine (C2.out _ (Below.refl _ _)).mono ?_
  rintro e w3 ⟨rfl, b3⟩
  have B3 := Lib.hid b3
  clear C2 b3 m0 mm1 m2 m3 m4 m5
  obtain ⟨m0, mm1, m2, m3, m4, m5⟩ := cell6_of (HM.out _ B3.out)
  go_wp2_with (fail)
  refine (C3.out _ B3.out).mono ?_
  rintro e w4 ⟨rfl, b4⟩
  have B4 := Lib.hid (B3.out.trans (b4.mono B3.out.size))
  clear C3 b4 m0 mm1 m2 m3 m4 m5 HM
  go_wp2_with (fail)
  refine (CA.out _ B4.out).mono ?_
  rintro e w5 ⟨rfl, b5⟩
  have B5 := Lib.hid (B2.out.trans ((B4.out.trans (b5.mono B4.out.size)).mono B2.out.size))
  clear CA b5
  go_wp2_with (fail)
  go_ret
  exact ⟨rfl, B5.out⟩
end Go.Proofs.YtmcnnfpeicnnjaaDoor

/- EditApplies holds for every text and every edit: the row, out of the pure statement and the walk; the edit opened by hand. -/
import Derived.Test.YtedjfmlmoommnaaRows
import Derived.Test.YtedjfmlmoommnaaQ7
import Derived.Test.YtedjfmlmoommnaaPureEditApplies
import Derived.WalkKit
import Derived.ProofKit
import Derived.OpenShut
import Derived.ShutString
import Derived.ChangeOld
import Derived.Below
import Derived.SizedLaws
import Derived.Lib.SmallJoins
namespace Go.Proofs.Ytedjfmlmoommnaa.editApplies
open Go.ChangeShapes Go.WideShapes Go.ChangeAt Go.RowKit Go.Deep Go.Joins
open Go.ChangeMaps (open_string shut_string)
set_option linter.unusedVariables false
theorem own : ownKnob Try.prog.godebug = none := by kernel_rfl
theorem laidOut : laidOutB Try.prog = true := by kernel_rfl
theorem wit {H : Type} {P : Program} {ts : List TypeId} {ds : List (DataW H)} (h : (DataW.weightsEach P ts ds).all (· ≤ reachBytes) = true) {j : Nat} {t : TypeId} {f0 f1 f2 : Field} {x : DataW H} {b1 b2 : List UInt8} (ht : ts[j]? = some t)
    (hd : ds[j]? = some (.agg [x, .lit (.string b1), .lit (.string b2)])) (hu : P.underlying t = some (.struct #[f0, f1, f2])) : b1.length ≤ reachBytes ∧ b2.length ≤ reachBytes := by
  have a1 := List.all_eq_true.1 h _ (DataW.weights_mem_each ht hd b1.length (by simp [DataW.weights, DataW.weightsEach, hu]))
  have a2 := List.all_eq_true.1 h _ (DataW.weights_mem_each ht hd b2.length (by simp [DataW.weights, DataW.weightsEach, hu]))
  exact ⟨by simpa using a1, by simpa using a2⟩
set_option maxRecDepth 100000 in
theorem lifted (os : Os) (started : os.Started) (H : Type) (enc : TypeId × Value → H) :
    ReturnsInHanded {} Try.checked os 3 .any (Rows.editAppliesSpec.pre6 enc Try.prog Try.f3 Rows.editAppliesRow.domain false) (Rows.editAppliesSpec.post enc Try.prog Try.f3 false true false false) := by
  refine returnsInHanded_of_change_sized (C := Try.checked) own started (by kernel_rfl) Try.func3
    (ChangeSpec.witness6 (enc := enc) (C := Try.checked) false ⟨#[], #[.string ⟨#[]⟩, .agg #[.int .i64 0, .string ⟨#[]⟩, .string ⟨#[]⟩]], []⟩ 8 (by kernel_rfl) (by kernel_rfl) (by kernel_rfl) (by kernel_rfl)) ?_
  intro W base args ds gs before hval0 hW hcnd hsz0 _
  have hsz : (DataW.weightsEach Try.prog (Try.f3.params.toList ++ Rows.editAppliesSpec.plain.varTypes Try.prog) (ds ++ gs)).all (· ≤ reachBytes) = true := hsz0
  have hval : ∀ (j : Nat) t v, Try.f3.params[j]? = some t → args[j]? = some v → Value.okWide Try.prog W .any base t v := hval0
  have hW' := hW
  obtain ⟨p, q, hA0, hV, rfl, hfz, hnd⟩ := hW
  have hA : DataW.TrodAll enc Try.prog W 0 (fun _ => true) true Try.f3.params.toList args.toList ds p := hA0
  rw [Try.params3] at hA hval hsz
  obtain ⟨v0, vs0, d0, ds0, p0, q0, hargs, rfl, rfl, h0, r0⟩ := trodAll_cons hA
  obtain ⟨v1, vs1, d1, ds1, p1, q1, rfl, rfl, rfl, h1, r1⟩ := trodAll_cons r0
  obtain ⟨rfl, rfl, rfl⟩ := trodAll_nil r1
  obtain rfl : args = #[v0, v1] := by cases args; simp_all
  obtain ⟨rfl, rfl⟩ := trodVars_none hV
  have hC : Try.prog.cellsOf 23 = 5 ∨ Try.prog.cellsOf 23 = 3 := by right; kernel_rfl
  obtain ⟨a0, rfl, rfl, rfl, w0⟩ := open_string Try.underlying9 (hval 0 9 v0 rfl rfl) h0
  have k1 := h1
  have lt1 : ∀ x ∈ p1, x.block < W.heap.size := by obtain ⟨m, hm⟩ := k1; exact DataW.trod_lt m _ _ _ hm
  obtain ⟨u0, u1, u2, y0, y1, y2, n, rfl, rfl, rfl, t0, t1, t2⟩ := open_agg3 Try.underlying23 (by kernel_rfl) (by kernel_rfl) (hval 1 23 v1 rfl rfl) h1
  obtain ⟨x, e0, rfl, wx⟩ := DataW.trod_int Try.underlying3 t0
  obtain ⟨s1, e1, rfl, z1⟩ := DataW.trod_string Try.underlying9 t1
  obtain ⟨s2, e2, rfl, z2⟩ := DataW.trod_string Try.underlying9 t2
  simp at e0 e1 e2
  subst e0 e1 e2
  have y0 : a0.data.toList.length ≤ reachBytes := sized_string hsz (j := 0) rfl rfl
  have y1 := wit hsz (j := 1) rfl rfl Try.underlying23
  have rb : reachBytes ≤ 140737488355328 := by decide
  have y01 : a0.size ≤ 140737488355328 := by have := Array.length_toList (xs := a0.data); have : a0.size = a0.data.size := rfl; omega
  have y11 : s1.size ≤ 140737488355328 := by have := Array.length_toList (xs := s1.data); have : s1.size = s1.data.size := rfl; omega
  have y12 : s2.size ≤ 140737488355328 := by have := Array.length_toList (xs := s2.data); have : s2.size = s2.data.size := rfl; omega
  clear hA0 hval0 hsz0 hsz
  obtain ⟨k, hk⟩ := Pure.EditApplies a0 x s1 s2 y01 y11 y12
  refine (Q.abecedarylaw07_EditApplies.calls k a0 x s1 s2 true W hk).mono fun e W' ⟨he, bel⟩ => ?_
  subst he
  exact ⟨_, rfl, _, _, _, [], _, [], hW', trodAll_mk1 (shut_bool Try.underlying4 _), (trodAll_cons_mk (shut_string Try.underlying9 w0) (trodAll_cons_mk (Below.trod laidOut (by kernel_rfl) (of_decide_eq_true (by kernel_rfl)) k1 bel lt1) trodAll_mk0)), rfl, bel.frame _, fun h => by cases h⟩
theorem over : Rows.editAppliesRow.holds Try.pinned (OpenSpec.ofChange Rows.editAppliesSpec) :=
  OpenClaim.holds_of_wide 3 Try.f3 rfl rfl rfl rfl rfl rfl rfl ⟨rfl, rfl, rfl, rfl, rfl⟩ rfl rfl rfl rfl rfl (by kernel_rfl) Try.func3 (by kernel_rfl)
    (of_decide_eq_true (by kernel_rfl)) (by unfold Func.isWrapper; first | (rw [if_pos (by decide +kernel)]; kernel_rfl) | (rw [if_neg (by decide +kernel)]; exact ⟨rfl, rfl⟩))
    (fun os started H enc _ => lifted os started H enc)
theorem proved : Rows.EditAppliesSaid := over
#print axioms proved
end Go.Proofs.Ytedjfmlmoommnaa.editApplies
namespace Go.Proofs.Ytedjfmlmoommnaa
/-- The row, under a short name, for the claim. -/
theorem editApplies_holds : Rows.EditAppliesSaid := editApplies.proved
end Go.Proofs.Ytedjfmlmoommnaa

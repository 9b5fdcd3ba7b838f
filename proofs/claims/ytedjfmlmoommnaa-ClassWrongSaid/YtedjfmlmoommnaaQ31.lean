-- made by wip/xprint.py of this claim's own repo
import Derived.Test.YtedjfmlmoommnaaQ0
namespace Go.Proofs.Ytedjfmlmoommnaa.Q
open Go.RowKit Go.Proofs.YtedjfmlmoommnaaW.PrintWords Go.Proofs.YtedjfmlmoommnaaW.PrintLast Go.Proofs.YtedjfmlmoommnaaW.PrintMore
attribute [local go_sem] max2_int min2_int max_two min_two max_three min_three max_four min_four   -- for this text's walks alone
set_option linter.unusedVariables false
set_option linter.unusedSimpArgs false

/-! ### abecedarylaw00_Table: function 29 -/
def abecedarylaw00_Table.f  : Option ((List (S43))) := some (([(⟨39, 39, 3⟩ : S43), (⟨48, 57, 2⟩ : S43), (⟨65, 90, 1⟩ : S43), (⟨97, 122, 1⟩ : S43), (⟨192, 591, 1⟩ : S43)] : List (S43)))
set_option maxHeartbeats 8000000 in
set_option maxRecDepth 100000 in
theorem abecedarylaw00_Table.calls  (r : List (S43)) (w : World) (h : abecedarylaw00_Table.f  = some r) :
    Calls Try.prog 29 #[] w fun e w' => ∃ v0_ : Value, e = .returned (v0_) ∧ Kd.R k43 43 w' w.heap.size (fun _ => True) v0_ r ∧ Below w.heap.size w w' := by
  have hu43 := Try.underlying43
  have HB := Aside0.mk (Below.refl w.heap.size w)
  have H : (some (([(⟨39, 39, 3⟩ : S43), (⟨48, 57, 2⟩ : S43), (⟨65, 90, 1⟩ : S43), (⟨97, 122, 1⟩ : S43), (⟨192, 591, 1⟩ : S43)] : List (S43)))) = some r := h
  clear h
  obtain ⟨y338, hy338⟩ : ∃ y_ : List (S43), y_ = (([(⟨39, 39, 3⟩ : S43), (⟨48, 57, 2⟩ : S43), (⟨65, 90, 1⟩ : S43), (⟨97, 122, 1⟩ : S43), (⟨192, 591, 1⟩ : S43)] : List (S43))) := ⟨_, rfl⟩
  replace H : (some y338) = some r := by first | (rw [hy338]; with_reducible exact H) | (have H2_ := (Option.bind_some _ _).symm.trans H; rw [hy338]; with_reducible exact H2_) | (have H2_ := (Option.bind_some _ _).symm.trans H; with_reducible exact H2_) | with_reducible exact H | (rw [hy338]; exact H) | exact H
  have Ny338 := Aside0.mk hy338
  clear hy338
  obtain rfl := Option.some.inj H
  go_enter Try.func29, Try.ntmps29
  go_wp2_with (first | ((with_reducible refine gate_dst (N := 6) rfl ?_); refine Kd.R_lit k43 _ 43 ?hg (N := 6) ?hd (xs := ([(⟨39, 39, 3⟩ : S43), (⟨48, 57, 2⟩ : S43), (⟨65, 90, 1⟩ : S43), (⟨97, 122, 1⟩ : S43), (⟨192, 591, 1⟩ : S43)] : List (S43))) (inner := [.int .i64 39, .int .i64 39, .int .i64 3, .int .i64 48, .int .i64 57, .int .i64 2, .int .i64 65, .int .i64 90, .int .i64 1, .int .i64 97, .int .i64 122, .int .i64 1, .int .i64 192, .int .i64 591, .int .i64 1]) (ok := fun _ => True) (okp := fun _ => True) ?hr ?hp (fun _ hk => hk) trivial (Below.refl _ _) (Nat.le_refl _) (by simp) ?_; (case hd => rfl); (case hg => rfl); (case hr => first | (go_simp; done) | (go_simp; rfl)); (case hp => exact (Reps.c3 (show Kd.M k43 _ _ _ (⟨39, 39, 3⟩ : S43) [.int .i64 39, .int .i64 39, .int .i64 3] from (k43_mkM _ _ _ (⟨39, 39, 3⟩ : S43) )) (Reps.c3 (show Kd.M k43 _ _ _ (⟨48, 57, 2⟩ : S43) [.int .i64 48, .int .i64 57, .int .i64 2] from (k43_mkM _ _ _ (⟨48, 57, 2⟩ : S43) )) (Reps.c3 (show Kd.M k43 _ _ _ (⟨65, 90, 1⟩ : S43) [.int .i64 65, .int .i64 90, .int .i64 1] from (k43_mkM _ _ _ (⟨65, 90, 1⟩ : S43) )) (Reps.c3 (show Kd.M k43 _ _ _ (⟨97, 122, 1⟩ : S43) [.int .i64 97, .int .i64 122, .int .i64 1] from (k43_mkM _ _ _ (⟨97, 122, 1⟩ : S43) )) (Reps.c3 (show Kd.M k43 _ _ _ (⟨192, 591, 1⟩ : S43) [.int .i64 192, .int .i64 591, .int .i64 1] from (k43_mkM _ _ _ (⟨192, 591, 1⟩ : S43) )) (Reps.none _ _))))))); intro v339 w1 ho2 hb hg_ hnew_; clear hg_ hnew_; (first | rw [← Ny338.out] at ho2 | (simp only [Int.reduceToNat] at ho2; rw [← Ny338.out] at ho2)); have n0_ := Aside0.mk (Kd.R_lower ho2 (below_size (by repeat (first | (with_reducible first | exact HB.out | apply below_alloc | apply pw_below_drewN | apply below_drew1) | exact HB.out)))); have n1_ := Aside0.mk (below_step (by repeat (first | (with_reducible first | exact HB.out | apply below_alloc | apply pw_below_drewN | apply below_drew1) | exact HB.out)) hb); clear HB; have HO340 := n0_; have HB := n1_; clear n0_ n1_; clear hb ho2))
  go_ret
  exact ⟨_, by first | rfl | (simp [errW_none, errW_some] <;> rfl) | (simp [*, errW_none, errW_some] <;> rfl), by (with_reducible repeat (first | apply Kd.R_alloc | apply Kd.R_drewN | apply Kd.R_drew)); exact HO340.out, by repeat (first | (with_reducible first | exact HB.out | apply below_alloc | apply pw_below_drewN | apply below_drew1) | exact HB.out)⟩

end Go.Proofs.Ytedjfmlmoommnaa.Q

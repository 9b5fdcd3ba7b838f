/- Edit's laws: the reference's Do, Same, EditDoes. -/
import Derived.Test.YtemcffihfeaniaaEd
namespace Go.Proofs.Ytemcffihfeaniaa
open Go.RowKit Go.Deep Go.Own
set_option linter.unusedVariables false
section
variable {W w w' : World} {b : Nat} {most k g : Nat}
def DoBt (W : World) (b : Nat) (t : List UInt8) (most g : Nat) (w' : World) : Prop := ∃ k', Bt W w' b t most k' (g + 3)
theorem DoBt.of {t : List UInt8} {x : List UInt8} (h : Bt W w b x most k g) (p : DoPost (fun j => j < W.heap.size) w b t most g w') : DoBt W b t most g w' := by
  obtain ⟨k', h1, h2⟩ := p
  exact ⟨k', h1.toBt (fun j hj => hj) (h.below.trans (h2.below (fun j hj => hj) h.below.size))⟩
theorem bdo_place (x : ByteArray) (a n : Int) (i : ByteArray) (h : Bt W w b x.data.toList most k g) (hn : ¬ (0 ≤ a ∧ 0 ≤ n ∧ a ≤ x.data.toList.length ∧ n ≤ x.data.toList.length - a)) :
    Calls Try.prog 43 #[.pointer (some ⟨b, 0, none⟩), .int .i64 a, .int .i64 n, .string i] w fun e w' => e = .returned (.tuple #[.agg #[.int .i64 0, .string ⟨#[]⟩, .string ⟨#[]⟩], .int .i64 2]) ∧ DoBt W b x.data.toList most g w' :=
  (do_place x a n i h.toBk hn).mono fun e w' ⟨h1, h2⟩ => ⟨h1, DoBt.of h h2⟩
theorem bdo_ok (x : ByteArray) (a n : Nat) (i z : ByteArray) (h : Bt W w b x.data.toList most k g) (hn : a + n ≤ x.size) (hz : z = x.extract 0 a ++ i ++ x.extract (a + n) x.size) (hb : z.size ≤ most) (hg : g ≤ 999990) (hi : i.size ≤ 140737488351232) :
    Calls Try.prog 43 #[.pointer (some ⟨b, 0, none⟩), .int .i64 (a : Nat), .int .i64 (n : Nat), .string i] w fun e w' => e = .returned (.tuple #[.agg #[.int .i64 (a : Nat), .string (x.extract a (a + n)), .string i], .int .i64 0]) ∧ DoBt W b z.data.toList most g w' :=
  (do_ok x a n i _ z h.toBk hn rfl hz hb hg hi).mono fun e w' ⟨h1, h2⟩ => ⟨h1, DoBt.of h h2⟩
theorem bdo_big (x : ByteArray) (a n : Nat) (i : ByteArray) (h : Bt W w b x.data.toList most k g) (hn : a + n ≤ x.size) (hb : most < x.size - n + i.size) (hg : g ≤ 999990) (hi : i.size ≤ 140737488351232) :
    Calls Try.prog 43 #[.pointer (some ⟨b, 0, none⟩), .int .i64 (a : Nat), .int .i64 (n : Nat), .string i] w fun e w' => e = .returned (.tuple #[.agg #[.int .i64 0, .string ⟨#[]⟩, .string ⟨#[]⟩], .int .i64 3]) ∧ DoBt W b x.data.toList most g w' :=
  (do_big x a n i _ h.toBk hn rfl hb hg hi).mono fun e w' ⟨h1, h2⟩ => ⟨h1, DoBt.of h h2⟩
end
set_option maxRecDepth 100000 in
theorem same_refl (a : Int) (d i : ByteArray) (w : World) : Calls Try.prog 45 #[.agg #[.int .i64 a, .string d, .string i], .agg #[.int .i64 a, .string d, .string i]] w fun e w' => e = .returned (.bool true) ∧ Below w.heap.size w w' := by
  go_enter Try.func45, Try.ntmps45
  go_wp2_with (fail)
  go_ret
  exact ⟨rfl, (Below.refl _ _).alloc (Nat.le_refl _) _ |>.alloc (by simp) _⟩
def rdPost (w : World) (e : Ending) (d : Int) (del ins : ByteArray) (t : ByteArray) (r : Int) (w' : World) : Prop := e = .returned (.tuple #[.agg #[.int .i64 d, .string del, .string ins], .string t, .int .i64 r]) ∧ Below w.heap.size w w'
set_option maxRecDepth 100000 in
theorem rdo_place (s : ByteArray) (M : Nat) (a n : Int) (i : ByteArray) (w : World) (hs : s.size ≤ 140737488351232) (h : ¬ (0 ≤ a ∧ 0 ≤ n ∧ a ≤ s.size ∧ n ≤ s.size - a)) :
    Calls Try.prog 44 #[.string s, .int .i64 (M : Nat), .int .i64 a, .int .i64 n, .string i] w fun e w' => e = .returned (.tuple #[.agg #[.int .i64 0, .string ⟨#[]⟩, .string ⟨#[]⟩], .string s, .int .i64 2]) ∧ Below w.heap.size w w' := by
  by_cases h0 : a < 0
  · have g0 : decide (a < 0) = true := by simpa using h0
    clear h
    go_enter Try.func44, Try.ntmps44
    go_wp2_with (fail)
    refine bodyPost_ret (v := .tuple #[.agg #[.int .i64 0, .string ⟨#[]⟩, .string ⟨#[]⟩], .string s, .int .i64 2]) (by simp [results, Try.results44, go_sem]) rfl ⟨rfl, (Below.refl _ _).alloc (Nat.le_refl _) _⟩
  · have g0 : decide (a < 0) = false := by simpa using h0
    by_cases h1 : n < 0
    · have g1 : decide (n < 0) = true := by simpa using h1
      clear h
      go_enter Try.func44, Try.ntmps44
      go_wp2_with (fail)
      refine bodyPost_ret (v := .tuple #[.agg #[.int .i64 0, .string ⟨#[]⟩, .string ⟨#[]⟩], .string s, .int .i64 2]) (by simp [results, Try.results44, go_sem]) rfl ⟨rfl, (Below.refl _ _).alloc (Nat.le_refl _) _⟩
    · have g1 : decide (n < 0) = false := by simpa using h1
      obtain ⟨a, rfl⟩ : ∃ k : Nat, a = (k : Int) := ⟨a.toNat, by omega⟩
      obtain ⟨n, rfl⟩ : ∃ k : Nat, n = (k : Int) := ⟨n.toNat, by omega⟩
      by_cases h2 : s.size < a
      · have g2 : decide (s.size < a) = true := by simpa using h2
        clear h
        go_enter Try.func44, Try.ntmps44
        go_wp2_with (fail)
        refine bodyPost_ret (v := .tuple #[.agg #[.int .i64 0, .string ⟨#[]⟩, .string ⟨#[]⟩], .string s, .int .i64 2]) (by simp [results, Try.results44, go_sem]) rfl ⟨rfl, (Below.refl _ _).alloc (Nat.le_refl _) _⟩
      · have g2 : decide (s.size < a) = false := by simpa using h2
        have g3 : decide ((s.size : Int) - (a : Int) < (n : Int)) = true := by simp; omega
        clear h
        go_enter Try.func44, Try.ntmps44
        go_wp2_with (fail)
        refine bodyPost_ret (v := .tuple #[.agg #[.int .i64 0, .string ⟨#[]⟩, .string ⟨#[]⟩], .string s, .int .i64 2]) (by simp [results, Try.results44, go_sem]) rfl ⟨rfl, (Below.refl _ _).alloc (Nat.le_refl _) _⟩
set_option maxRecDepth 100000 in
theorem rdo_big (s : ByteArray) (M : Nat) (a n : Nat) (i : ByteArray) (w : World) (hs : s.size ≤ 140737488351232) (hi : i.size ≤ 140737488351232) (h : a + n ≤ s.size) (hb : M < s.size - n + i.size) :
    Calls Try.prog 44 #[.string s, .int .i64 (M : Nat), .int .i64 (a : Nat), .int .i64 (n : Nat), .string i] w fun e w' => e = .returned (.tuple #[.agg #[.int .i64 0, .string ⟨#[]⟩, .string ⟨#[]⟩], .string s, .int .i64 3]) ∧ Below w.heap.size w w' := by
  have g2 : decide (s.size < a) = false := by simp; omega
  have g3 : decide ((s.size : Int) - (a : Int) < (n : Int)) = false := by simp; omega
  have g4 : decide ((M : Int) < (s.size : Int) - (n : Int) + (i.size : Int)) = true := by simp; omega
  go_enter Try.func44, Try.ntmps44
  go_wp2_with (fail)
  refine bodyPost_ret (v := .tuple #[.agg #[.int .i64 0, .string ⟨#[]⟩, .string ⟨#[]⟩], .string s, .int .i64 3]) (by simp [results, Try.results44, go_sem]) rfl ⟨rfl, (Below.refl _ _).alloc (Nat.le_refl _) _⟩
set_option maxRecDepth 100000 in
set_option maxHeartbeats 4000000 in
theorem rdo_ok (s : ByteArray) (M : Nat) (a n : Nat) (i : ByteArray) (w : World) (hs : s.size ≤ 140737488351232) (hi : i.size ≤ 140737488351232) (h : a + n ≤ s.size) (hb : s.size - n + i.size ≤ M) (hM : M ≤ 65536) :
    Calls Try.prog 44 #[.string s, .int .i64 (M : Nat), .int .i64 (a : Nat), .int .i64 (n : Nat), .string i] w fun e w' => e = .returned (.tuple #[.agg #[.int .i64 (a : Nat), .string (s.extract a (a + n)), .string i], .string (s.extract 0 a ++ i ++ s.extract (a + n) s.size), .int .i64 0]) ∧ Below w.heap.size w w' := by
  have g2 : decide (s.size < a) = false := by simp; omega
  have g3 : decide ((s.size : Int) - (a : Int) < (n : Int)) = false := by simp; omega
  have g4 : decide ((M : Int) < (s.size : Int) - (n : Int) + (i.size : Int)) = false := by simp; omega
  have sf := slice_from s a n h
  have sl : ∀ w : World, (Instr.slice 9 (.string s) (some (.int .i64 (a : Nat))) (some (.int .i64 ((a : Int) + (n : Int)))) none).run Try.prog w = .ok (.string (s.extract a (a + n))) w := fun w => by
    have e : ((a : Int) + (n : Int)) = ((a + n : Nat) : Int) := by omega
    rw [e, run_slice_string (t := 9) (s := s) (k := .i64) (k' := .i64) (i := (a : Nat)) (j := ((a + n : Nat) : Int)) (h := Try.underlying9)]
    · have e2 : ((a : Int) + (n : Int)).toNat = a + n := by omega
      simp [e2]
    all_goals omega
  go_enter Try.func44, Try.ntmps44
  go_wp2_with (fail)
  obtain ⟨w1, hw1⟩ : ∃ w1, w1 = w.alloc (.cells #[Value.int .i64 0, .string ⟨#[]⟩, .string ⟨#[]⟩] 68) := ⟨_, rfl⟩
  obtain ⟨N0, hN0⟩ : ∃ N, N = w.heap.size := ⟨_, rfl⟩
  rw [← hw1, ← hN0]
  obtain ⟨w2, hw2⟩ : ∃ w2, w2 = w1.alloc (.cells #[Value.int .i64 (a : Nat), .string (s.extract a (a + n)), .string i] 68) := ⟨_, rfl⟩
  obtain ⟨N1, hN1⟩ : ∃ N, N = N0 + 1 := ⟨_, rfl⟩
  rw [← hw2, ← hN1]
  have s1 : w1.heap.size = N1 := by rw [hw1, hN1, hN0]; simp
  have n1 : w1.heap[N0]? = some (.cells #[Value.int .i64 0, .string ⟨#[]⟩, .string ⟨#[]⟩] 68 (0, 0)) := by rw [hw1, hN0]; exact blk_alloc_new w _
  have n2 : w2.heap[N1]? = some (.cells #[Value.int .i64 (a : Nat), .string (s.extract a (a + n)), .string i] 68 (0, 0)) := by rw [hw2, ← s1]; exact blk_alloc_new w1 _
  have n3 : w2.heap[N0]? = some (.cells #[Value.int .i64 0, .string ⟨#[]⟩, .string ⟨#[]⟩] 68 (0, 0)) := by rw [hw2, blk_alloc_lt _ _ _ (by omega)]; exact n1
  have d0 : w2.cell? ⟨N1, 0, none⟩ = some (Value.int .i64 (a : Nat)) := by simp [World.cell?, n2]
  have d1 : w2.cell? ⟨N1, 1, none⟩ = some (Value.string (s.extract a (a + n))) := by simp [World.cell?, n2]
  have d2 : w2.cell? ⟨N1, 2, none⟩ = some (Value.string i) := by simp [World.cell?, n2]
  have f0 : w2.cell? ⟨N0, 0, none⟩ = some (Value.int .i64 0) := by simp [World.cell?, n3]
  have f1 : w2.cell? ⟨N0, 1, none⟩ = some (Value.string ⟨#[]⟩) := by simp [World.cell?, n3]
  have f2 : w2.cell? ⟨N0, 2, none⟩ = some (Value.string ⟨#[]⟩) := by simp [World.cell?, n3]
  have f3 : ∀ j, w2.frozen? ⟨N0, j, none⟩ = false := fun j => by simp [World.frozen?, n3]
  have B2 := Lib.hid (show Below w.heap.size w w2 by rw [hw2, hw1]; exact ((Below.refl _ _).alloc (Nat.le_refl _) _).alloc (by simp) _)
  have HN0 := Lib.hid hN0
  clear hw1 hw2 hN0 hN1 s1 n1 n2 n3
  refine Own.region_mix (CR [0] [(0, ⟨N1, 0, none⟩, .int .i64 (a : Nat)), (0, ⟨N1, 1, none⟩, .string (s.extract a (a + n))), (0, ⟨N1, 2, none⟩, .string i)]) [0] [0, 0, 0, 6, 0, 30, 0, 0, 0, 384, 960, 2046, 1, 8191, 16383] (Own.Ord.run [(0, true), (1, true), (2, true), (3, true), (4, true), (5, true), (6, true), (7, true), (8, true), (9, true), (10, true), (11, true), (12, false), (13, true), (14, true)] .done) (by kernel_rfl) (by kernel_rfl) (fun dst v c a w h => by cases dst <;> exact h) (fun x hx w => CR.off x hx w) ?_
  simp only [Own.Ord.run]
  refine Own.st_load _ rfl rfl (.agg #[.int .i64 (a : Nat), .string (s.extract a (a + n)), .string i]) (fun w' hw' => ?_) ?_ ?_
  · have hg0 := hw'.get (a := ⟨N1, 0, none⟩) (v := .int .i64 (a : Nat)) (by decide) (by simp)
    have hg1 := hw'.get (a := ⟨N1, 1, none⟩) (v := .string (s.extract a (a + n))) (by decide) (by simp)
    have hg2 := hw'.get (a := ⟨N1, 2, none⟩) (v := .string i) (by decide) (by simp)
    go_simp
  · intro _ q hq e; simp only [List.mem_cons, List.mem_nil_iff, or_false] at hq; rcases hq with rfl | rfl | rfl <;> first | assumption | (simp at e; done) | (go_simp; done) | (simp; done)
  simp only [Act.put, List.setIfInBounds_toArray, List.set_cons_succ, List.set_cons_zero]
  repeat (refine Own.st_blind _ rfl rfl (CR.off _ (by decide) _) ?_; go_big_quiet_step (fail); refine wpQuiet_nil ?_)
  refine Own.st_do _ rfl rfl (fun K hK => ?_)
  go_simp
  refine hK _ _ (fun q hq hd => by rw [(by decide : ∀ x ∈ [0], Own.dep [0, 0, 0, 6, 0, 30, 0, 0, 0, 384, 960, 2046, 1, 8191, 16383] 12 x = true) q hq] at hd; cases hd) ?_
  clear hK K
  repeat (refine Own.st_blind _ rfl rfl (CR.off _ (by decide) _) ?_; go_big_quiet_step (fail); refine wpQuiet_nil ?_)
  refine Own.mix_done ?_
  go_wp2_with (fail)
  refine bodyPost_ret (v := .tuple #[.agg #[.int .i64 (a : Nat), .string (s.extract a (a + n)), .string i], .string (s.extract 0 a ++ i ++ s.extract (a + n) s.size), .int .i64 0]) (by simp [results, Try.results44, go_sem, f0, f1, f2]) rfl ⟨rfl, ?_⟩
  have hB : w.heap.size ≤ N0 := Nat.le_of_eq HN0.out.symm
  have b3 : Below w.heap.size w w2.drew := B2.out.drew
  exact (((b3.setCell (p := ⟨N0, 0, none⟩) hB _).setCell (p := ⟨N0, 1, none⟩) hB _).setCell (p := ⟨N0, 2, none⟩) hB _)
end Go.Proofs.Ytemcffihfeaniaa

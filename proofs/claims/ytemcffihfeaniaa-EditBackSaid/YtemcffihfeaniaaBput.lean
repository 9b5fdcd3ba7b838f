/- the buffer: put. -/
import Derived.Test.YtemcffihfeaniaaBuf
import Derived.Handy
namespace Go.Proofs.Ytemcffihfeaniaa
open Go.RowKit Go.Deep Go.Own
set_option linter.unusedVariables false
theorem info100 : (Try.prog.info? 100).map (fun i => (i.zero, i.size, i.bytes)) = some (some (.agg #[.pointer none, .int .i64 0, .int .i64 0]), 3, 24) := by kernel_rfl
set_option maxRecDepth 100000 in
theorem bput_no (b : Nat) (i : Int) (v : Value) (fr : Int) (w : World) (hv : ∃ p, v = .pointer p) :
    Calls Try.prog 56 #[.pointer (some ⟨b, 0, none⟩), .int .i64 i, .agg #[v, .int .i64 fr, .int .i64 0]] w fun e w' => e = .returned (.tuple #[]) ∧ Below w.heap.size w w' := by
  obtain ⟨pv, rfl⟩ := hv
  go_enter Try.func56, Try.ntmps56
  go_wp2_with (fail)
  go_returns
  exact ⟨rfl, (Below.refl _ _).alloc (Nat.le_refl _) _⟩
set_option maxRecDepth 100000 in
set_option maxHeartbeats 8000000 in
theorem bput_calls {w : World} {c : Nat → Nat} {b : Nat} {so sa : List UInt8} {bo ba bt : Nat} {vl : Value} {ps : List Pc} {qs : List (Nat × Pc)} {most : Nat} (H : BufX w c b so sa bo ba bt vl ps qs most) (i : Nat) (p : Pc) (hi : i ≤ qs.length) (hq : qs.length < 65536)
    (hp : 0 < p.n) (hp2 : p.fr + p.n ≤ (if p.add then sa else so).length) (hp3 : p.n ≤ 1099511627776) (hps : ps.length ≤ 100000000) :
    Calls Try.prog 56 #[.pointer (some ⟨b, 0, none⟩), .int .i64 (i : Nat), .agg #[.pointer (some ⟨if p.add then ba else bo, 0, none⟩), .int .i64 (p.fr : Nat), .int .i64 (p.n : Nat)]] w fun e w' => e = .returned (.tuple #[]) ∧
      ∃ c' vl', (∀ k, k < w.heap.size → c' k = c k) ∧ BufX w' c' b so sa bo ba bt vl' (ps ++ [p]) (qs.take i ++ (ps.length, p) :: qs.drop i) most ∧ Fr (InB c) w w' := by
  obtain ⟨i100, hi100, hz100, hs100, hb100⟩ := info_parts info100
  obtain ⟨c0, c1, c2, c3, c4, c5⟩ := H.cells
  obtain ⟨AL, cL, rfl⟩ := own_is H.row
  have HX := Lib.hid H
  have bb := H.blt
  have g1 : decide ((0 : Int) < (p.n : Int)) = true := by simp; omega
  have g2 : decide (0 < p.n) = true := by simp; omega
  obtain ⟨q, hqv⟩ : ∃ q : Nat, (if p.add then ba else bo) = q := ⟨_, rfl⟩
  have HQ := Lib.hid hqv
  rw [hqv]
  obtain ⟨pf, pn, hpf⟩ : ∃ pf pn : Nat, p = ⟨p.add, pf, pn⟩ := ⟨p.fr, p.n, rfl⟩
  have e1 : p.fr = pf := by rw [hpf]
  have e2 : p.n = pn := by rw [hpf]
  rw [e2] at g1 g2 hp hp2 hp3
  rw [e1] at hp2
  rw [e1, e2]
  have HPF := Lib.hid hpf
  have HP2 := Lib.hid hp2
  clear H hqv hpf e1 e2 hp2
  go_enter Try.func56, Try.ntmps56
  go_wp2_with (fail)
  obtain ⟨w1, hw1⟩ : ∃ w1, w1 = w.alloc (.cells #[Value.pointer (some ⟨q, 0, none⟩), .int .i64 (pf : Nat), .int .i64 (pn : Nat)] 100) := ⟨_, rfl⟩
  rw [← hw1]
  obtain ⟨N, hN⟩ : ∃ N, N = w.heap.size := ⟨_, rfl⟩
  have B1 : Below w.heap.size w w1 := by rw [hw1]; exact (Below.refl _ _).alloc (Nat.le_refl _) _
  have hn1 : w1.heap[N]? = some (.cells #[Value.pointer (some ⟨q, 0, none⟩), .int .i64 (pf : Nat), .int .i64 (pn : Nat)] 100 (0, 0)) := by rw [hw1, hN]; exact blk_alloc_new w _
  have s1 : N < w1.heap.size := by rw [hw1, hN]; simp
  have d0 : w1.cell? ⟨N, 0, none⟩ = some (Value.pointer (some ⟨q, 0, none⟩)) := by simp [World.cell?, hn1]
  have d1 : w1.cell? ⟨N, 1, none⟩ = some (.int .i64 (pf : Nat)) := by simp [World.cell?, hn1]
  have d2 : w1.cell? ⟨N, 2, none⟩ = some (.int .i64 (pn : Nat)) := by simp [World.cell?, hn1]
  have bN : b ≠ N := by omega
  have X1 := HX.out.later B1
  obtain ⟨x0, x1, x2, x3, x4, x5⟩ := X1.cells
  have HX1 := Lib.hid X1
  have HB1 := Lib.hid B1
  have HN1 := Lib.hid hn1
  rw [← hN]
  have HN := Lib.hid hN
  clear hw1 hn1 X1 B1 c0 c1 c2 c3 c4 c5 hN
  refine Own.region_mix (CR [5, 6] [(5, ⟨b, 2, none⟩, .slice AL ps.length cL), (6, ⟨N, 0, none⟩, .pointer (some ⟨q, 0, none⟩)), (6, ⟨N, 1, none⟩, .int .i64 (pf : Nat)), (6, ⟨N, 2, none⟩, .int .i64 (pn : Nat))]) [5, 6] [0, 0, 2, 6, 14, 30, 0, 64, 254, 511, 1023, 2047, 4095] (Own.Ord.run [(0, true), (1, true), (2, true), (3, true), (4, true), (5, true), (6, true), (7, false), (8, false), (9, true), (10, true), (11, true), (12, false)] .done) (by kernel_rfl) (by kernel_rfl) (fun dst v c a w h => by cases dst <;> exact h) (fun x hx w => CR.off x hx w) ?_
  simp only [Own.Ord.run]
  repeat (refine Own.st_blind _ rfl rfl (CR.off _ (by decide) _) ?_; go_big_quiet_step (fail); refine wpQuiet_nil ?_)
  refine Own.st_load _ rfl rfl (.pointer (some ⟨b, 0, none⟩)) (fun w' _ => by go_simp) (CR.off _ (by decide) _) ?_
  simp only [Act.put, List.setIfInBounds_toArray, List.set_cons_succ, List.set_cons_zero]
  repeat (refine Own.st_blind _ rfl rfl (CR.off _ (by decide) _) ?_; go_big_quiet_step (fail); refine wpQuiet_nil ?_)
  refine Own.st_load _ rfl rfl (.slice AL ps.length cL) (fun w' hw' => ?_) ?_ ?_
  · have hg0 := hw'.get (a := ⟨b, 2, none⟩) (v := .slice AL ps.length cL) (by decide) (by simp)
    go_simp
  · intro _ q hq e; simp only [List.mem_cons, List.mem_nil_iff, or_false] at hq; rcases hq with rfl | rfl | rfl | rfl <;> first | assumption | (simp at e; done) | (go_simp; done) | (simp; done)
  simp only [Act.put, List.setIfInBounds_toArray, List.set_cons_succ, List.set_cons_zero]
  refine Own.st_load _ rfl rfl (.agg #[.pointer (some ⟨q, 0, none⟩), .int .i64 (pf : Nat), .int .i64 (pn : Nat)]) (fun w' hw' => ?_) ?_ ?_
  · have hg0 := hw'.get (a := ⟨N, 0, none⟩) (v := .pointer (some ⟨q, 0, none⟩)) (by decide) (by simp)
    have hg1 := hw'.get (a := ⟨N, 1, none⟩) (v := .int .i64 (pf : Nat)) (by decide) (by simp)
    have hg2 := hw'.get (a := ⟨N, 2, none⟩) (v := .int .i64 (pn : Nat)) (by decide) (by simp)
    go_simp
  · intro _ q hq e; simp only [List.mem_cons, List.mem_nil_iff, or_false] at hq; rcases hq with rfl | rfl | rfl | rfl <;> first | assumption | (simp at e; done) | (go_simp; done) | (simp; done)
  simp only [Act.put, List.setIfInBounds_toArray, List.set_cons_succ, List.set_cons_zero]
  refine Own.st_do _ rfl rfl (fun K hK => ?_)
  go_simp
  obtain ⟨w2, hw2⟩ : ∃ w2, w2 = (w1.alloc (.cells #[Value.pointer (some ⟨q, 0, none⟩), .int .i64 (pf : Nat), .int .i64 (pn : Nat)] 100)).drew := ⟨_, rfl⟩
  obtain ⟨M, hM⟩ : ∃ M, M = w1.heap.size := ⟨_, rfl⟩
  rw [← hw2, ← hM]
  have B2 : Below w1.heap.size w1 w2 := by rw [hw2]; exact ((Below.refl _ _).alloc (Nat.le_refl _) _).drew
  have hm2 : w2.heap[M]? = some (.cells #[Value.pointer (some ⟨q, 0, none⟩), .int .i64 (pf : Nat), .int .i64 (pn : Nat)] 100 (0, 0)) := by rw [hw2, hM]; exact blk_alloc_new w1 _
  have HB2 := Lib.hid B2
  have HM2 := Lib.hid hm2
  have HM := Lib.hid hM
  have X2 := HX1.out.later B2
  have HX2 := Lib.hid X2
  have y2 : w2.cell? ⟨b, 2, none⟩ = some (.slice AL ps.length cL) := X2.cells.2.2.1
  have y3 : ∀ j, w2.cell? ⟨N, j, none⟩ = w1.cell? ⟨N, j, none⟩ := fun j => World.cell?_of_block (B2.block N s1)
  have y4 : w2.cell? ⟨N, 0, none⟩ = some (.pointer (some ⟨q, 0, none⟩)) := (y3 0).trans d0
  have y5 : w2.cell? ⟨N, 1, none⟩ = some (.int .i64 (pf : Nat)) := (y3 1).trans d1
  have y6 : w2.cell? ⟨N, 2, none⟩ = some (.int .i64 (pn : Nat)) := (y3 2).trans d2
  clear hw2 hm2 X2 B2 hM y3
  refine hK _ _ (fun q hq hd _ => ?_) ?_
  · intro _ q hq e; simp only [List.mem_cons, List.mem_nil_iff, or_false] at hq; rcases hq with rfl | rfl | rfl | rfl <;> first | assumption | (simp at e; done) | (go_simp; done) | (simp; done)
  clear hK K
  refine Own.st_do _ rfl rfl (fun K hK => ?_)
  have OR := HX2.out.row
  have hsrc : Src Try.prog 3 93 (.slice (some ⟨M, 0, none⟩) 1 1) 1 [.pointer (some ⟨q, 0, none⟩), .int .i64 (pf : Nat), .int .i64 (pn : Nat)] w2 := by
    refine Src.ofSlice w2 Try.underlying93 _ 1 1 _ rfl (fun j u hj => ?_) (fun u hu => ?_)
    · match j, hj with
      | 0, hj => simp at hj; subst hj; simp [Addr.add, World.cell?, HM2.out]
      | 1, hj => simp at hj; subst hj; simp [Addr.add, World.cell?, HM2.out]
      | 2, hj => simp at hj; subst hj; simp [Addr.add, World.cell?, HM2.out]
      | j + 3, hj => simp at hj
    · simp only [List.mem_cons, List.mem_nil_iff, or_false] at hu
      rcases hu with rfl | rfl | rfl <;> rfl
  refine own_append_wp (.tmp 14) (.tmp 16) 93 93 rfl 0 100 i100 _ 3 24 Try.underlying93 hi100 hz100 hs100 hb100 rfl (by decide) (.slice AL ps.length cL) ps.length _ rfl OR (.slice (some ⟨M, 0, none⟩) 1 1) rfl 1 _ hsrc (by unfold maxLen; omega) (by omega) (Nat.zero_le _) ?_
  intro v' w3 O3 G3 V3
  obtain ⟨AN, cN, rfl⟩ := own_is O3
  have HO3 := Lib.hid O3
  have HG3 := Lib.hid G3
  have HV3 := Lib.hid V3
  clear O3 G3 V3 OR hsrc
  refine hK _ _ (fun q hq hd => by rw [(by decide : ∀ x ∈ [5, 6], Own.dep [0, 0, 2, 6, 14, 30, 0, 64, 254, 511, 1023, 2047, 4095] 8 x = true) q hq] at hd; cases hd) ?_
  clear hK K
  refine Own.st_load _ rfl rfl (.pointer (some ⟨b, 0, none⟩)) (fun w' _ => by go_simp) (CR.off _ (by decide) _) ?_
  simp only [Act.put, List.setIfInBounds_toArray, List.set_cons_succ, List.set_cons_zero]
  repeat (refine Own.st_blind _ rfl rfl (CR.off _ (by decide) _) ?_; go_big_quiet_step (fail); refine wpQuiet_nil ?_)
  have hbr : ∀ k, (Value.slice AL ps.length cL).ownBlock = some k → b ≠ k := fun k hk e => by
    have h1 := HX2.out.rowc k hk
    have h2 := HX2.out.head
    rw [e, h1] at h2; exact absurd h2 (by decide)
  have hb3 : w3.heap[b]? = w2.heap[b]? := HG3.out.block b HX2.out.blt (fun e => hbr b e.symm rfl)
  have e0 : w3.cell? ⟨b, 2, none⟩ = some (.slice AL ps.length cL) := by rw [World.cell?_of_block (w := w2) hb3]; exact HX2.out.cells.2.2.1
  have e1 : w3.frozen? ⟨b, 2, none⟩ = false := by rw [World.frozen?_of_block (w := w2) hb3]; exact HX2.out.cells.2.2.2.2.2 2
  have HB3 := Lib.hid hb3
  clear hbr hb3
  refine Own.st_do _ rfl rfl (fun K hK => ?_)
  go_simp
  refine hK _ _ (fun q hq hd => by rw [(by decide : ∀ x ∈ [5, 6], Own.dep [0, 0, 2, 6, 14, 30, 0, 64, 254, 511, 1023, 2047, 4095] 12 x = true) q hq] at hd; cases hd) ?_
  clear hK K
  refine Own.mix_done ?_
  clear e0 e1
  generalize hw4 : World.setCell w3 ⟨b, 2, none⟩ (.slice AN (ps.length + 1) cN) = w4
  have hap : [Value.pointer (some ⟨q, 0, none⟩), .int .i64 (pf : Nat), .int .i64 (pn : Nat)] = Pc.cells bo ba p := by
    have h1 := HPF.out
    have h2 := HQ.out
    rw [h1]; simp only [Pc.cells, h2]
  have O3 := HO3.out
  rw [hap] at O3
  have N1 := HN.out
  have b12 := HB1.out.size
  have b23 := HB2.out.size
  have X4 := HX2.out.rowed (w' := w4) (lo := w.heap.size) HX.out.lt (by omega) HG3.out O3 HV3.out hw4.symm
  have sz4 : w4.heap.size = w3.heap.size := by rw [← hw4]; simp [World.setCell]
  have f4 : Fr (InB c) w w4 := by
    have a2 : Fr (InB c) w w2 := (Fr.refl _ w).step (HB2.out.os.trans HB1.out.os) (HB2.out.tape.trans HB1.out.tape) (HB2.out.output.trans HB1.out.output) (by omega) fun k hk _ => (HB2.out.block k (by omega)).trans (HB1.out.block k hk)
    have a3 := a2.grown HG3.out fun k hk => .inl (by have := HX2.out.rowc k hk; exact ⟨by omega, by omega⟩)
    rw [← hw4]
    exact a3.setCell _ _ (.inl HX.out.inb)
  have n4 : w4.heap[N]? = w2.heap[N]? := by
    rw [← hw4, setCell_other _ (fun e => bN e.symm)]
    exact HG3.out.block N (by omega) fun e => by
      have := HX.out.lt N (by rw [HX2.out.rowc N e.symm]; decide)
      omega
  have z2 : w4.cell? ⟨N, 2, none⟩ = some (.int .i64 (pn : Nat)) := by rw [World.cell?_of_block (w := w2) n4]; exact y6
  obtain ⟨u0, u1, u2, u3, u4, u5⟩ := X4.cells
  have T4 := Lib.hid fun n => insert_at (fun k => recol c w.heap.size w4.heap.size 4 k = 3) bt (pItems qs) i (ps.length : Int) (pn : Int) (w4.drewN n) (X4.tree.keep fun _ _ _ => rfl) (fun k hk => X4.lt k (by omega)) (by rw [pItems_length]; omega) (by omega) (by omega) (by rw [pItems_length]; omega)
  have HX4 := Lib.hid X4
  have HF4 := Lib.hid f4
  clear X4 f4 n4 hap O3 N1 b12 b23 sz4 hw4 y2 y4 y5 y6 x0 x1 x2 x3 x4 x5 d0 d1 d2 HO3 HG3 HV3 HM2
  go_wp2_with (fail)
  refine Own.region_tail 14 (fun w' => ∃ n, w' = World.drewN w4 n) (by kernel_rfl) (by kernel_rfl) ⟨1, rfl⟩ ?_
  simp only [List.take_succ_cons, List.take_zero, List.drop_succ_cons, List.drop_zero]
  repeat (go_big_quiet_step (fail))
  refine wpQuiet_nil ?_
  rintro _ ⟨nq, rfl⟩
  go_wp2_with (fail)
  refine (T4.out nq).mono ?_
  rintro e w5 ⟨rfl, t5, f5⟩
  have X5 : BufX w5 (recol (recol c w.heap.size w4.heap.size 4) w4.heap.size w5.heap.size 3) b so sa bo ba bt (.slice AN (ps.length + 1) cN) (ps ++ [p]) (qs.take i ++ (ps.length, p) :: qs.drop i) most := by
    refine HX4.out.turned (w' := w5) ⟨f5.os, f5.tape, f5.output, f5.size, f5.block⟩ ?_ ?_
    · rw [pItems_ins, show (((ps.length, p) : Nat × Pc).1 : Int) = (ps.length : Int) from rfl, show ((((ps.length, p) : Nat × Pc).2.n : Nat) : Int) = (pn : Int) by rw [HPF.out]]
      exact t5
    · intro q' hq'
      simp only [List.mem_append, List.mem_cons] at hq'
      have old : ∀ q' ∈ qs, POk so sa (ps ++ [p]) q' := fun q' h => (HX.out.qok q' h).more (ps' := ps) p
      rcases hq' with h | rfl | h
      · exact old q' (List.mem_of_mem_take h)
      · refine ⟨by simp, ?_, ?_⟩
        · rw [HPF.out]; exact hp
        · have := HP2.out
          have h1 : p.fr = pf := by rw [HPF.out]
          have h2 : p.n = pn := by rw [HPF.out]
          show p.fr + p.n ≤ (if p.add = true then sa else so).length
          rw [h1, h2]; exact this
      · exact old q' (List.mem_of_mem_drop h)
  have F5 : Fr (InB c) w w5 := HF4.out.step f5.os f5.tape f5.output f5.size fun k hk hn => f5.block k hk fun e => by
    by_cases h : k < w.heap.size
    · have e' : recol c w.heap.size w4.heap.size 4 k = 3 := e
      rw [recol_old h] at e'
      exact hn (.inl ⟨by omega, by omega⟩)
    · exact hn (.inr ⟨by omega, hk⟩)
  have HX5 := Lib.hid X5
  have HF5 := Lib.hid F5
  have S5 := Lib.hid (show w.heap.size ≤ w4.heap.size from HF4.out.size)
  clear t5 f5 X5 F5
  go_wp2_with (fail)
  go_returns
  exact ⟨rfl, _, _, fun k hk => by rw [recol_old (Nat.lt_of_lt_of_le hk S5.out), recol_old hk], HX5.out, HF5.out⟩
end Go.Proofs.Ytemcffihfeaniaa

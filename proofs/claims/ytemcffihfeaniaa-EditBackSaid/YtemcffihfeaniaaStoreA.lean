/- Store.Add. -/
import Derived.Test.YtemcffihfeaniaaProg
import Derived.Test.YtemcffihfeaniaaRep
import Derived.WalkKit
import Derived.Handy
import Derived.Deep.LoopGhost
import Derived.Deep.QuietTactic
import Derived.BigQuiet
import Derived.Deep.Cut
import Derived.Deep.DeepCutAuto
import Derived.StillTailTactics
import Derived.Lib.Hide
import Derived.WalkLawsBesides
import Derived.Test.YtemcffihfeaniaaCopyS
namespace Go.Proofs.Ytemcffihfeaniaa
open Go.RowKit Go.Deep Go.Own
set_option linter.unusedVariables false
open Go.RowKit Go.Deep Go.Own
theorem info81 : (Try.prog.info? 81).map (fun i => (i.zero, i.size, i.bytes)) = some (some (.slice none 0 0), 1, 24) := by kernel_rfl
theorem info3 : (Try.prog.info? 3).map (fun i => (i.zero, i.size, i.bytes)) = some (some (.int .i64 0), 1, 8) := by kernel_rfl
theorem info5 : (Try.prog.info? 5).map (fun i => (i.zero, i.size, i.bytes)) = some (some (.int .u8 0), 1, 1) := by kernel_rfl
end Go.Proofs.Ytemcffihfeaniaa
namespace Go.Own
open Go Go.RowKit Go.Deep
/-- is a new chunk wanted? -/
def need (l : List Chunk) : Bool := match l.getLast? with
  | none => true
  | some c => c.bs.length == c.cap
theorem own_is {w : World} {base : Nat} {e : TypeId} {size n : Nat} {v : Value} {xs : List Value} (h : w.ownsRow base e size v n xs) : ∃ A cap, v = .slice A n cap := by
  rcases h.2 with ⟨rfl, rfl⟩ | ⟨g, cap, cur, rfl, _⟩
  · exact ⟨none, 0, rfl⟩
  · exact ⟨_, cap, rfl⟩
/-- what the walk reads off a store -/
theorem Rep.cells {w : World} {F : Nat → Prop} {b : Nat} {vl vf : Value} {l : List Chunk} (h : Rep w F b vl vf l) : w.cell? ⟨b, 0, none⟩ = some vl ∧ w.cell? ⟨b, 1, none⟩ = some vf ∧ w.cell? ⟨b, 2, none⟩ = some (.int .i64 ((flat l).length : Nat)) ∧ ∀ j, w.frozen? ⟨b, j, none⟩ = false := by
  have := h.cell
  refine ⟨by simp [World.cell?, this], by simp [World.cell?, this], by simp [World.cell?, this], fun j => by simp [World.frozen?, this]⟩
theorem Rep.last {w : World} {F : Nat → Prop} {b : Nat} {vl vf : Value} {l : List Chunk} {c : Chunk} (h : Rep w F b vl vf (l ++ [c])) : ∃ gl capl curl, vl = .slice (some ⟨gl, 0, none⟩) (l.length + 1) capl ∧ w.heap[gl]? = some (.cells curl 81 (0, 0)) ∧ l.length + 1 ≤ capl ∧ w.cell? ⟨gl, l.length, none⟩ = some c.val ∧ (∀ j, w.frozen? ⟨gl, j, none⟩ = false) ∧ F gl ∧ curl.size = capl := by
  have hfl := h.fl
  rcases h.own.2 with ⟨_, h1⟩ | ⟨g, cap, cur, rfl, _, hg, h1, h2, h3, h4⟩
  · simp at h1
  · have hl : (l ++ [c]).length = l.length + 1 := by simp
    rw [hl] at h1 h4
    refine ⟨g, cap, cur, by rw [hl], hg, h1, ?_, fun j => by simp [World.frozen?, hg], hfl g rfl, by simpa using h3⟩
    have h5 : (cur.toList.take ((l.length + 1) * 1))[l.length]? = some c.val := by rw [h4]; simp
    rw [List.getElem?_take, if_pos (by omega)] at h5
    simp only [World.cell?, hg]
    simpa using h5
end Go.Own
namespace Go.Proofs.Ytemcffihfeaniaa
open Go.RowKit Go.Deep Go.Own
attribute [local go_sem] Own.own_max2 Own.own_max_two Own.own_min2 Own.own_min_two
set_option maxRecDepth 100000 in
set_option maxHeartbeats 4000000 in
theorem add_calls (F : Nat → Prop) (b : Nat) (t : List UInt8) (x : ByteArray) (W : World) (hH : Holds W F b t) (hsz : t.length + x.size ≤ 1099511627776) :
    Calls Try.prog 18 #[.pointer (some ⟨b, 0, none⟩), .string x] W fun e w' => e = .returned (.int .i64 (t.length : Nat)) ∧ Holds w' (FN F W w') b (t ++ x.data.toList) ∧ Fr F W w' := by
  obtain ⟨vl0, vf0, l0, R0, hf0, hn0⟩ := hH
  obtain ⟨r1, r2, r3, r4⟩ := R0.cells
  rw [hf0] at r3
  have H0 := Lib.hid (show Holds W F b t from ⟨vl0, vf0, l0, R0, hf0, hn0⟩)
  clear R0 hf0 hn0 r1 r2 r4
  go_enter Try.func18, Try.ntmps18
  go_wp2
  clear r3
  go_loopw [1] (fun v wr => ∃ s p, v = .string s ∧ x.data.toList = p ++ s.data.toList ∧ Holds wr (FN F W wr) b (t ++ p) ∧ Fr F W wr) (fun v _ => match v with | .string s => s.size | _ => 0)
  case atStart => exact ⟨x, [], rfl, rfl, by simpa using H0.out.mono FN.old, Fr.refl _ _⟩
  case round =>
    obtain ⟨s, p, rfl, hx, hH, hfr⟩ := hrel
    by_cases h0 : 0 < s.size
    · obtain ⟨vl, vf, l, R, hf, hn⟩ := hH
      obtain ⟨A, cA, rfl⟩ := own_is R.own
      obtain ⟨r1, r2, r3, r4⟩ := R.cells
      have HF := Lib.hid hf
      have HN := Lib.hid hn
      have HX := Lib.hid hx
      have HR := Lib.hid R
      have HFR := Lib.hid hfr
      have hll : l.length ≤ 1099511627776 := by
        have h1 := flat_le l hn
        have h2 : x.data.toList.length = x.size := by simp
        rw [hx] at h2
        rw [hf] at h1
        simp only [List.length_append] at h1 h2
        omega
      clear hf hn hx R hfr
      have d0 : decide ((0 : Int) < (s.size : Int)) = true := by simp; omega
      go_wp2
      go_cut [5, 41] (fun v5 v wx => v5 = .int .i64 ((l.length : Int) - 1) ∧ v = .bool (need l) ∧ ∃ q, wx = wr.drewN q)
      case first =>
        rcases List.eq_nil_or_concat l with hl | ⟨l1, c, hl⟩
        · have hl0 : l.length = 0 := by rw [hl]; rfl
          have HL := Lib.hid hl
          clear hl HN HR HF
          rw [hl0]
          go_quiet (fail)
          go_wp2
          go_meet
          exact ⟨by rw [hl0], by rw [HL.out]; rfl, nq, rfl⟩
        · rw [List.concat_eq_append] at hl
          obtain ⟨gl, capl, curl, hv, g1, g2, g3, g4, g5, g6⟩ := (show Rep wr (FN F W wr) b (Value.slice A l.length cA) vf (l1 ++ [c]) from hl ▸ HR.out).last
          have hl1 : l.length = l1.length + 1 := by rw [hl]; simp
          have HL := Lib.hid hl
          have HL1 := Lib.hid hl1
          clear hl HN HR HF
          simp only [Value.slice.injEq] at hv
          obtain ⟨rfl, _, rfl⟩ := hv
          simp only [Chunk.val] at g3
          have e1 : (c.bs.length == c.cap) = need l := by rw [HL.out]; simp [need]
          have e2 : ((c.bs.length : Int) == (c.cap : Int)) = (c.bs.length == c.cap) := by
            rw [Bool.eq_iff_iff, beq_iff_eq, beq_iff_eq]; omega
          have e3 : (((l1.length + 1 : Nat) : Int) - 1) = (l1.length : Nat) := by omega
          have e4 : decide ((l1.length : Int) < 0) = false := by simp
          rw [hl1, e3]
          rw [hl1] at r1
          generalize l1.length = m at *
          go_quiet (fail)
          go_wp2
          go_meet
          exact ⟨by rw [HL1.out]; simp, rfl, nq, rfl⟩
      case rest =>
        obtain ⟨rfl, rfl, q, rfl⟩ := hcut
        go_upto_if 41 with (fail)
        go_cut [5] (fun v5 wx => ∃ vl' vf' l1 c, v5 = .int .i64 (l1.length : Nat) ∧ Rep wx (FN F W wx) b vl' vf' (l1 ++ [c]) ∧ flat (l1 ++ [c]) = t ++ p ∧ c.bs.length < c.cap ∧ (∀ d ∈ l1, d.bs ≠ []) ∧ Fr F W wx)
        case first =>
          cases hn : need l with
          | true =>
            obtain ⟨n, hmx⟩ : ∃ n : Nat, imax 4096 (s.size : Int) = (n : Int) := ⟨(imax 4096 (s.size : Int)).toNat, by rw [imax_eq]; omega⟩
            have hnb : n ≤ 1099511627776 := by
              have h2 : x.data.toList.length = x.size := by simp
              rw [HX.out] at h2
              simp only [List.length_append] at h2
              have h3 : s.data.toList.length = s.size := by simp
              rw [imax_eq] at hmx
              omega
            have hn0 : 0 < n := by rw [imax_eq] at hmx; omega
            have hn63 : n ≤ maxLen := by simp only [maxLen]; omega
            obtain ⟨i5, hi5, hz5, hs5, hy5⟩ := info_parts info5
            obtain ⟨i3, hi3, hz3, hs3, hb3⟩ := info_parts info3
            obtain ⟨i81, hi81, hz81, hs81, hb81⟩ := info_parts info81
            have hb5 : i5.bytes * n ≤ 281474976710656 := by rw [hy5]; omega
            have q1 : l.length + 1 ≤ maxLen := by simp only [maxLen]; omega
            have q2 : (l.length + 1) * 24 ≤ 140737488355328 := by omega
            have q3 : (l.length + 1) * 8 ≤ 140737488355328 := by omega
            have hdep : ∀ x ∈ [5, 15, 19], Own.dep [0, 0, 0, 4, 12, 28, 0, 64, 192, 448, 960, 2044, 0, 4096, 12288, 28672, 0, 65536, 196608, 458752, 983040, 2097148, 4194301, 8388605, 16777213, 33554431, 67108863, 134217727] 24 x = true ∧ Own.dep [0, 0, 0, 4, 12, 28, 0, 64, 192, 448, 960, 2044, 0, 4096, 12288, 28672, 0, 65536, 196608, 458752, 983040, 2097148, 4194301, 8388605, 16777213, 33554431, 67108863, 134217727] 27 x = true := by decide
            have ret := Lib.hid (show Value.int .i64 (l.length : Nat) = Value.int .i64 (l.length : Nat) from rfl)
            go_wp2
            refine Own.region_mix (CR [5, 15, 19] [(5, ⟨b, 0, none⟩, .slice A l.length cA), (15, ⟨b, 1, none⟩, vf), (19, ⟨b, 2, none⟩, .int .i64 ((flat l).length : Nat))]) [5, 15, 19] [0, 0, 0, 4, 12, 28, 0, 64, 192, 448, 960, 2044, 0, 4096, 12288, 28672, 0, 65536, 196608, 458752, 983040, 2097148, 4194301, 8388605, 16777213, 33554431, 67108863, 134217727] (Own.Ord.run [(0, true), (1, true), (2, true), (3, true), (4, true), (5, true), (6, true), (7, true), (8, true), (12, true), (13, true), (14, true), (15, true), (16, true), (17, true), (18, true), (19, true)] (.fork (.go 9 false (Own.Ord.run [] (.fork (.go 10 false (Own.Ord.run [] (.fork (.go 11 false (Own.Ord.run [(20, false), (21, false), (22, true), (23, true), (24, false), (25, true), (26, true), (27, false)] .done)) (.go 20 false (Own.Ord.run [(11, false), (21, false), (22, true), (23, true), (24, false), (25, true), (26, true), (27, false)] .done))))) (.go 20 false (Own.Ord.run [(10, false), (11, false), (21, false), (22, true), (23, true), (24, false), (25, true), (26, true), (27, false)] .done))))) (.go 20 false (Own.Ord.run [(9, false), (10, false), (11, false), (21, false), (22, true), (23, true), (24, false), (25, true), (26, true), (27, false)] .done)))) (by kernel_rfl) (by kernel_rfl) (fun dst v c a w h => by cases dst <;> exact h) (fun x hx w => CR.off x hx w) ?_
            simp only [Own.Ord.run]
            obtain ⟨w0, hw0⟩ : ∃ w0, w0 = (wr.drewN q).drew := ⟨_, rfl⟩
            rw [← hw0]
            have R0 : Rep w0 (FN F W w0) b (.slice A l.length cA) vf l := by rw [hw0]; exact HR.out.keep (fun _ _ _ => rfl)
            have FR0 : Fr F W w0 := by rw [hw0]; exact ⟨HFR.out.os, HFR.out.tape, HFR.out.output, HFR.out.size, HFR.out.block⟩
            clear hw0 HR HFR r1 r2 r3 r4
            obtain ⟨r1, r2, r3, r4⟩ := R0.cells
            have hall : ∀ i, CR [5, 15, 19] [(5, ⟨b, 0, none⟩, .slice A l.length cA), (15, ⟨b, 1, none⟩, vf), (19, ⟨b, 2, none⟩, .int .i64 ((flat l).length : Nat))] i w0 := fun i => CR.all (by
              intro x hx
              simp only [List.mem_cons, List.not_mem_nil, or_false] at hx
              rcases hx with rfl | rfl | rfl
              · exact r1
              · exact r2
              · exact r3) i
            have hbt : ∀ x ∈ ([(5, ⟨b, 0, none⟩, .slice A l.length cA), (15, ⟨b, 1, none⟩, vf), (19, ⟨b, 2, none⟩, .int .i64 ((flat l).length : Nat))] : List (Nat × Addr × Value)), x.2.1.block = b := by
              intro x hx
              simp only [List.mem_cons, List.not_mem_nil, or_false] at hx
              rcases hx with rfl | rfl | rfl <;> rfl
            clear r1 r2 r3 r4
            repeat (refine Own.st_blind _ rfl rfl (CR.off _ (by decide) _) ?_; go_big_quiet_step (fail); refine wpQuiet_nil ?_)
            refine Own.st_load _ rfl rfl (.pointer (some ⟨b, 0, none⟩)) (fun w' _ => by go_simp) (CR.off _ (by decide) _) ?_
            simp only [Act.put, List.setIfInBounds_toArray, List.set_cons_succ, List.set_cons_zero]
            repeat (refine Own.st_blind _ rfl rfl (CR.off _ (by decide) _) ?_; go_big_quiet_step (fail); refine wpQuiet_nil ?_)
            refine Own.st_load _ rfl rfl (.slice A l.length cA) (fun w' hw' => ?_) (hall _) ?_
            · have hg := hw'.get (a := ⟨b, 0, none⟩) (v := .slice A l.length cA) (by decide) (by simp)
              clear hall hw'
              go_simp
            simp only [Act.put, List.setIfInBounds_toArray, List.set_cons_succ, List.set_cons_zero]
            repeat (refine Own.st_blind _ rfl rfl (CR.off _ (by decide) _) ?_; go_big_quiet_step (fail); refine wpQuiet_nil ?_)
            refine Own.st_load _ rfl rfl (.pointer (some ⟨b, 0, none⟩)) (fun w' _ => by go_simp) (CR.off _ (by decide) _) ?_
            simp only [Act.put, List.setIfInBounds_toArray, List.set_cons_succ, List.set_cons_zero]
            repeat (refine Own.st_blind _ rfl rfl (CR.off _ (by decide) _) ?_; go_big_quiet_step (fail); refine wpQuiet_nil ?_)
            refine Own.st_load _ rfl rfl (vf) (fun w' hw' => ?_) (hall _) ?_
            · have hg := hw'.get (a := ⟨b, 1, none⟩) (v := vf) (by decide) (by simp)
              clear hall hw'
              go_simp
            simp only [Act.put, List.setIfInBounds_toArray, List.set_cons_succ, List.set_cons_zero]
            repeat (refine Own.st_blind _ rfl rfl (CR.off _ (by decide) _) ?_; go_big_quiet_step (fail); refine wpQuiet_nil ?_)
            refine Own.st_load _ rfl rfl (.pointer (some ⟨b, 0, none⟩)) (fun w' _ => by go_simp) (CR.off _ (by decide) _) ?_
            simp only [Act.put, List.setIfInBounds_toArray, List.set_cons_succ, List.set_cons_zero]
            repeat (refine Own.st_blind _ rfl rfl (CR.off _ (by decide) _) ?_; go_big_quiet_step (fail); refine wpQuiet_nil ?_)
            refine Own.st_load _ rfl rfl (.int .i64 ((flat l).length : Nat)) (fun w' hw' => ?_) (hall _) ?_
            · have hg := hw'.get (a := ⟨b, 2, none⟩) (v := .int .i64 ((flat l).length : Nat)) (by decide) (by simp)
              clear hall hw'
              go_simp
            simp only [Act.put, List.setIfInBounds_toArray, List.set_cons_succ, List.set_cons_zero]
            have G0 : w0.grownBy w0 (Value.ownBlock (.slice A l.length cA)) := ⟨rfl, rfl, rfl, Nat.le_refl _, fun _ _ _ => rfl⟩
            have O0 := R0.own
            have B0 := R0.lt
            have Z0 : w0.heap.size ≤ w0.heap.size := Nat.le_refl _
            clear hall
            refine Own.mix_fork ?_ ?_
            · obtain ⟨N, hN⟩ : ∃ N, N = w0.heap.size := ⟨_, rfl⟩
              refine Own.st_do _ rfl rfl (fun K hK => ?_)
              refine own_make_wp 81 5 (.const (.int .i64 0)) (.tmp 50) rfl i5 (.int .u8 0) Try.underlying81 hi5 hz5 hs5 .i64 .i64 n rfl rfl hb5 hn63 ?_
              refine hK _ _ (fun x _ _ h => CR.keep hbt (blk_alloc_lt w0 _ b B0) h) ?_
              clear hK K
              simp only [Act.put, List.setIfInBounds_toArray, List.set_cons_succ, List.set_cons_zero]
              rw [← hN]
              obtain ⟨w1, hw1⟩ : ∃ w', w' = w0.alloc (.cells (madeCells (Value.int .u8 0).cells (n * 1)) 5) := ⟨_, rfl⟩
              rw [← hw1]
              have S1 : w0.heap.size < w1.heap.size := by rw [hw1]; simp
              have G1 : w0.grownBy w1 (Value.ownBlock (.slice A l.length cA)) := by rw [hw1]; exact grown_trans G0 (World.grownBy_alloc w0 _ none) (fun k _ _ => by simp)
              have O1 := O0.alloc (.cells (madeCells (Value.int .u8 0).cells (n * 1)) 5)
              rw [← hw1] at O1
              have B1 : b < w1.heap.size := by omega
              have Z1 : w0.heap.size ≤ w1.heap.size := by omega
              have NF1 : w1.heap[N]? = some (.cells (madeCells (Value.int .u8 0).cells (n * 1)) 5) := by rw [hw1, hN]; exact blk_alloc_new w0 _
              have LNF1 : w0.heap.size ≤ N := by omega
              clear hw1 hN
              refine Own.mix_fork ?_ ?_
              · obtain ⟨P, hP⟩ : ∃ N, N = w1.heap.size := ⟨_, rfl⟩
                refine Own.st_do _ rfl rfl (fun K hK => ?_)
                go_simp
                refine hK _ _ (fun x _ _ h => CR.keep hbt (blk_alloc_lt w1 _ b B1) h) ?_
                clear hK K
                rw [← hP]
                obtain ⟨w2, hw2⟩ : ∃ w', w' = w1.alloc (.cells #[(.slice (some ⟨N, 0, none⟩) 0 n)] 81) := ⟨_, rfl⟩
                rw [← hw2]
                have S2 : w1.heap.size < w2.heap.size := by rw [hw2]; simp
                have G2 : w0.grownBy w2 (Value.ownBlock (.slice A l.length cA)) := by rw [hw2]; exact grown_trans G1 (World.grownBy_alloc w1 _ none) (fun k _ _ => by simp)
                have O2 := O1.alloc (.cells #[(.slice (some ⟨N, 0, none⟩) 0 n)] 81)
                rw [← hw2] at O2
                have B2 : b < w2.heap.size := by omega
                have Z2 : w0.heap.size ≤ w2.heap.size := by omega
                have NF2 : w2.heap[N]? = some (.cells (madeCells (Value.int .u8 0).cells (n * 1)) 5) := by rw [hw2, blk_alloc_lt _ _ _ (Array.getElem?_eq_some_iff.1 NF1).1]; exact NF1
                have PF2 : w2.heap[P]? = some (.cells #[(.slice (some ⟨N, 0, none⟩) 0 n)] 81) := by rw [hw2, hP]; exact blk_alloc_new w1 _
                have LPF2 : w0.heap.size ≤ P := by omega
                clear hw2 hP
                refine Own.mix_fork ?_ ?_
                · have c3 : w2.cell? ⟨P, 0, none⟩ = some (.slice (some ⟨N, 0, none⟩) 0 n) := by simp [World.cell?, PF2]
                  refine Own.st_do _ rfl rfl (fun K hK => ?_)
                  refine own_append_wp (.tmp 47) (.tmp 52) 78 78 rfl 0 81 i81 (.slice none 0 0) 1 24 Try.underlying78 hi81 hz81 hs81 hb81 rfl (by decide) (.slice A l.length cA) l.length _ rfl O2 _ rfl 1 _ (src_one Try.underlying78 rfl c3) q1 q2 (Nat.zero_le _) ?_
                  intro v1 w3 o1 g1 hv1
                  refine hK _ _ (fun x _ _ h => CR.keep hbt (g1.block b B2 R0.b_ne_l) h) ?_
                  clear hK K
                  simp only [Act.put, List.setIfInBounds_toArray, List.set_cons_succ, List.set_cons_zero]
                  have G3 : w0.grownBy w3 (Value.ownBlock (.slice A l.length cA)) := grown_trans G2 g1 (fun k _ h => h)
                  have B3 : b < w3.heap.size := Nat.lt_of_lt_of_le B2 g1.size
                  have V1 : ∀ k, v1.ownBlock = some k → (Value.ownBlock (.slice A l.length cA)) = some k ∨ w0.heap.size ≤ k := fun k hk => (hv1 k hk).imp id (fun h => Nat.le_trans Z2 h)
                  have Z3 : w0.heap.size ≤ w3.heap.size := Nat.le_trans Z2 g1.size
                  have NF3 : w3.heap[N]? = some (.cells (madeCells (Value.int .u8 0).cells (n * 1)) 5) := (g1.block N (Array.getElem?_eq_some_iff.1 NF2).1 (fun e => by have := (own_block_lt R0.own e.symm).2; omega)).trans NF2
                  have PF3 : w3.heap[P]? = some (.cells #[(.slice (some ⟨N, 0, none⟩) 0 n)] 81) := (g1.block P (Array.getElem?_eq_some_iff.1 PF2).1 (fun e => by have := (own_block_lt R0.own e.symm).2; omega)).trans PF2
                  have O3 := o1
                  clear o1 g1 hv1
                  obtain ⟨M, hM⟩ : ∃ N, N = w3.heap.size := ⟨_, rfl⟩
                  refine Own.st_do _ rfl rfl (fun K hK => ?_)
                  go_simp
                  refine hK _ _ (fun x _ _ h => CR.keep hbt (blk_alloc_lt w3 _ b B3) h) ?_
                  clear hK K
                  rw [← hM]
                  obtain ⟨w4, hw4⟩ : ∃ w', w' = w3.alloc (.cells #[(.int .i64 ((flat l).length : Nat))] 3) := ⟨_, rfl⟩
                  rw [← hw4]
                  have S4 : w3.heap.size < w4.heap.size := by rw [hw4]; simp
                  have G4 : w0.grownBy w4 (Value.ownBlock (.slice A l.length cA)) := by rw [hw4]; exact grown_trans G3 (World.grownBy_alloc w3 _ none) (fun k _ _ => by simp)
                  have O4 := O3.alloc (.cells #[(.int .i64 ((flat l).length : Nat))] 3)
                  rw [← hw4] at O4
                  have B4 : b < w4.heap.size := by omega
                  have Z4 : w0.heap.size ≤ w4.heap.size := by omega
                  have NF4 : w4.heap[N]? = some (.cells (madeCells (Value.int .u8 0).cells (n * 1)) 5) := by rw [hw4, blk_alloc_lt _ _ _ (Array.getElem?_eq_some_iff.1 NF3).1]; exact NF3
                  have PF4 : w4.heap[P]? = some (.cells #[(.slice (some ⟨N, 0, none⟩) 0 n)] 81) := by rw [hw4, blk_alloc_lt _ _ _ (Array.getElem?_eq_some_iff.1 PF3).1]; exact PF3
                  have MF4 : w4.heap[M]? = some (.cells #[(.int .i64 ((flat l).length : Nat))] 3) := by rw [hw4, hM]; exact blk_alloc_new w3 _
                  have LMF4 : w0.heap.size ≤ M := by omega
                  clear hw4 hM
                  have LNF : w0.heap.size ≤ N := by assumption
                  obtain ⟨A1, k1, rfl⟩ := own_is O4
                  have fk := R0.f_keep G4
                  have cM : w4.cell? ⟨M, 0, none⟩ = some (.int .i64 ((flat l).length : Nat)) := by simp [World.cell?, MF4]
                  refine Own.st_do _ rfl rfl (fun K hK => ?_)
                  refine own_append_wp (.tmp 57) (.tmp 62) 33 33 rfl 0 3 i3 (.int .i64 0) 1 8 Try.underlying33 hi3 hz3 hs3 hb3 rfl (by decide) vf l.length _ rfl fk _ rfl 1 _ (src_one Try.underlying33 rfl cM) q1 q3 (Nat.zero_le _) ?_
                  intro v2 w5 o2 g2 hv2
                  obtain ⟨A2, k2, rfl⟩ := own_is o2
                  refine hK _ _ (fun x _ _ h => CR.keep hbt (g2.block b B4 R0.b_ne_f) h) ?_
                  clear hK K
                  simp only [Act.put, List.setIfInBounds_toArray, List.set_cons_succ, List.set_cons_zero]
                  have E := R0.more_end G4 O4 V1 NF4 (by simp [madeCells]) hn63 LNF o2 g2 hv2
                  have b5 : w5.heap[b]? = some (.cells #[(.slice A l.length cA), vf, .int .i64 ((flat l).length : Nat)] 80 (0, 0)) := ((g2.block b B4 R0.b_ne_f).trans (G4.block b R0.lt R0.b_ne_l)).trans R0.cell
                  have s1 : w5.cell? ⟨b, 0, none⟩ = some (.slice A l.length cA) := by simp [World.cell?, b5]
                  have s2 : w5.frozen? ⟨b, 0, none⟩ = false := by simp [World.frozen?, b5]
                  have s3 : (w5.setCell ⟨b, 0, none⟩ (.slice A1 (l.length + 1) k1)).cell? ⟨b, 1, none⟩ = some vf := by rw [World.cell?, setCell_same b5 _]; rfl
                  have s4 : (w5.setCell ⟨b, 0, none⟩ (.slice A1 (l.length + 1) k1)).frozen? ⟨b, 1, none⟩ = false := by rw [World.frozen?, setCell_same b5 _]; rfl
                  clear fk cM o2 g2 hv2 b5
                  refine Own.st_load _ rfl rfl (.pointer (some ⟨b, 0, none⟩)) (fun w' _ => by go_simp) (CR.off _ (by decide) _) ?_
                  simp only [Act.put, List.setIfInBounds_toArray, List.set_cons_succ, List.set_cons_zero]
                  repeat (refine Own.st_blind _ rfl rfl (CR.off _ (by decide) _) ?_; go_big_quiet_step (fail); refine wpQuiet_nil ?_)
                  refine Own.st_do _ rfl rfl (fun K hK => ?_)
                  go_simp
                  refine hK _ _ (fun x hx hd => by rw [(hdep x hx).1] at hd; cases hd) ?_
                  clear hK K
                  refine Own.st_load _ rfl rfl (.pointer (some ⟨b, 0, none⟩)) (fun w' _ => by go_simp) (CR.off _ (by decide) _) ?_
                  simp only [Act.put, List.setIfInBounds_toArray, List.set_cons_succ, List.set_cons_zero]
                  repeat (refine Own.st_blind _ rfl rfl (CR.off _ (by decide) _) ?_; go_big_quiet_step (fail); refine wpQuiet_nil ?_)
                  refine Own.st_do _ rfl rfl (fun K hK => ?_)
                  go_simp
                  refine hK _ _ (fun x hx hd => by rw [(hdep x hx).2] at hd; cases hd) ?_
                  clear hK K
                  refine Own.mix_done ?_
                  clear s1 s2 s3 s4
                  go_wp2
                  go_meet
                  exact ⟨_, _, l, ⟨N, n, []⟩, rfl, E.1.mono (FN.trans FR0.size E.2.size), by rw [flat_append]; simpa [flat] using HF.out, hn0, HN.out, FR0.trans E.2⟩
                · obtain ⟨M, hM⟩ : ∃ N, N = w2.heap.size := ⟨_, rfl⟩
                  refine Own.st_do _ rfl rfl (fun K hK => ?_)
                  go_simp
                  refine hK _ _ (fun x _ _ h => CR.keep hbt (blk_alloc_lt w2 _ b B2) h) ?_
                  clear hK K
                  rw [← hM]
                  obtain ⟨w5, hw5⟩ : ∃ w', w' = w2.alloc (.cells #[(.int .i64 ((flat l).length : Nat))] 3) := ⟨_, rfl⟩
                  rw [← hw5]
                  have S5 : w2.heap.size < w5.heap.size := by rw [hw5]; simp
                  have G5 : w0.grownBy w5 (Value.ownBlock (.slice A l.length cA)) := by rw [hw5]; exact grown_trans G2 (World.grownBy_alloc w2 _ none) (fun k _ _ => by simp)
                  have O5 := O2.alloc (.cells #[(.int .i64 ((flat l).length : Nat))] 3)
                  rw [← hw5] at O5
                  have B5 : b < w5.heap.size := by omega
                  have Z5 : w0.heap.size ≤ w5.heap.size := by omega
                  have NF5 : w5.heap[N]? = some (.cells (madeCells (Value.int .u8 0).cells (n * 1)) 5) := by rw [hw5, blk_alloc_lt _ _ _ (Array.getElem?_eq_some_iff.1 NF2).1]; exact NF2
                  have PF5 : w5.heap[P]? = some (.cells #[(.slice (some ⟨N, 0, none⟩) 0 n)] 81) := by rw [hw5, blk_alloc_lt _ _ _ (Array.getElem?_eq_some_iff.1 PF2).1]; exact PF2
                  have MF5 : w5.heap[M]? = some (.cells #[(.int .i64 ((flat l).length : Nat))] 3) := by rw [hw5, hM]; exact blk_alloc_new w2 _
                  have LMF5 : w0.heap.size ≤ M := by omega
                  clear hw5 hM
                  have c6 : w5.cell? ⟨P, 0, none⟩ = some (.slice (some ⟨N, 0, none⟩) 0 n) := by simp [World.cell?, PF5]
                  refine Own.st_do _ rfl rfl (fun K hK => ?_)
                  refine own_append_wp (.tmp 47) (.tmp 52) 78 78 rfl 0 81 i81 (.slice none 0 0) 1 24 Try.underlying78 hi81 hz81 hs81 hb81 rfl (by decide) (.slice A l.length cA) l.length _ rfl O5 _ rfl 1 _ (src_one Try.underlying78 rfl c6) q1 q2 (Nat.zero_le _) ?_
                  intro v1 w6 o1 g1 hv1
                  refine hK _ _ (fun x _ _ h => CR.keep hbt (g1.block b B5 R0.b_ne_l) h) ?_
                  clear hK K
                  simp only [Act.put, List.setIfInBounds_toArray, List.set_cons_succ, List.set_cons_zero]
                  have G6 : w0.grownBy w6 (Value.ownBlock (.slice A l.length cA)) := grown_trans G5 g1 (fun k _ h => h)
                  have B6 : b < w6.heap.size := Nat.lt_of_lt_of_le B5 g1.size
                  have V1 : ∀ k, v1.ownBlock = some k → (Value.ownBlock (.slice A l.length cA)) = some k ∨ w0.heap.size ≤ k := fun k hk => (hv1 k hk).imp id (fun h => Nat.le_trans Z5 h)
                  have Z6 : w0.heap.size ≤ w6.heap.size := Nat.le_trans Z5 g1.size
                  have NF6 : w6.heap[N]? = some (.cells (madeCells (Value.int .u8 0).cells (n * 1)) 5) := (g1.block N (Array.getElem?_eq_some_iff.1 NF5).1 (fun e => by have := (own_block_lt R0.own e.symm).2; omega)).trans NF5
                  have PF6 : w6.heap[P]? = some (.cells #[(.slice (some ⟨N, 0, none⟩) 0 n)] 81) := (g1.block P (Array.getElem?_eq_some_iff.1 PF5).1 (fun e => by have := (own_block_lt R0.own e.symm).2; omega)).trans PF5
                  have MF6 : w6.heap[M]? = some (.cells #[(.int .i64 ((flat l).length : Nat))] 3) := (g1.block M (Array.getElem?_eq_some_iff.1 MF5).1 (fun e => by have := (own_block_lt R0.own e.symm).2; omega)).trans MF5
                  have O6 := o1
                  clear o1 g1 hv1
                  have LNF : w0.heap.size ≤ N := by assumption
                  obtain ⟨A1, k1, rfl⟩ := own_is O6
                  have fk := R0.f_keep G6
                  have cM : w6.cell? ⟨M, 0, none⟩ = some (.int .i64 ((flat l).length : Nat)) := by simp [World.cell?, MF6]
                  refine Own.st_do _ rfl rfl (fun K hK => ?_)
                  refine own_append_wp (.tmp 57) (.tmp 62) 33 33 rfl 0 3 i3 (.int .i64 0) 1 8 Try.underlying33 hi3 hz3 hs3 hb3 rfl (by decide) vf l.length _ rfl fk _ rfl 1 _ (src_one Try.underlying33 rfl cM) q1 q3 (Nat.zero_le _) ?_
                  intro v2 w5 o2 g2 hv2
                  obtain ⟨A2, k2, rfl⟩ := own_is o2
                  refine hK _ _ (fun x _ _ h => CR.keep hbt (g2.block b B6 R0.b_ne_f) h) ?_
                  clear hK K
                  simp only [Act.put, List.setIfInBounds_toArray, List.set_cons_succ, List.set_cons_zero]
                  have E := R0.more_end G6 O6 V1 NF6 (by simp [madeCells]) hn63 LNF o2 g2 hv2
                  have b5 : w5.heap[b]? = some (.cells #[(.slice A l.length cA), vf, .int .i64 ((flat l).length : Nat)] 80 (0, 0)) := ((g2.block b B6 R0.b_ne_f).trans (G6.block b R0.lt R0.b_ne_l)).trans R0.cell
                  have s1 : w5.cell? ⟨b, 0, none⟩ = some (.slice A l.length cA) := by simp [World.cell?, b5]
                  have s2 : w5.frozen? ⟨b, 0, none⟩ = false := by simp [World.frozen?, b5]
                  have s3 : (w5.setCell ⟨b, 0, none⟩ (.slice A1 (l.length + 1) k1)).cell? ⟨b, 1, none⟩ = some vf := by rw [World.cell?, setCell_same b5 _]; rfl
                  have s4 : (w5.setCell ⟨b, 0, none⟩ (.slice A1 (l.length + 1) k1)).frozen? ⟨b, 1, none⟩ = false := by rw [World.frozen?, setCell_same b5 _]; rfl
                  clear fk cM o2 g2 hv2 b5
                  refine Own.st_load _ rfl rfl (.pointer (some ⟨b, 0, none⟩)) (fun w' _ => by go_simp) (CR.off _ (by decide) _) ?_
                  simp only [Act.put, List.setIfInBounds_toArray, List.set_cons_succ, List.set_cons_zero]
                  repeat (refine Own.st_blind _ rfl rfl (CR.off _ (by decide) _) ?_; go_big_quiet_step (fail); refine wpQuiet_nil ?_)
                  refine Own.st_do _ rfl rfl (fun K hK => ?_)
                  go_simp
                  refine hK _ _ (fun x hx hd => by rw [(hdep x hx).1] at hd; cases hd) ?_
                  clear hK K
                  refine Own.st_load _ rfl rfl (.pointer (some ⟨b, 0, none⟩)) (fun w' _ => by go_simp) (CR.off _ (by decide) _) ?_
                  simp only [Act.put, List.setIfInBounds_toArray, List.set_cons_succ, List.set_cons_zero]
                  repeat (refine Own.st_blind _ rfl rfl (CR.off _ (by decide) _) ?_; go_big_quiet_step (fail); refine wpQuiet_nil ?_)
                  refine Own.st_do _ rfl rfl (fun K hK => ?_)
                  go_simp
                  refine hK _ _ (fun x hx hd => by rw [(hdep x hx).2] at hd; cases hd) ?_
                  clear hK K
                  refine Own.mix_done ?_
                  clear s1 s2 s3 s4
                  go_wp2
                  go_meet
                  exact ⟨_, _, l, ⟨N, n, []⟩, rfl, E.1.mono (FN.trans FR0.size E.2.size), by rw [flat_append]; simpa [flat] using HF.out, hn0, HN.out, FR0.trans E.2⟩
              · obtain ⟨M, hM⟩ : ∃ N, N = w1.heap.size := ⟨_, rfl⟩
                refine Own.st_do _ rfl rfl (fun K hK => ?_)
                go_simp
                refine hK _ _ (fun x _ _ h => CR.keep hbt (blk_alloc_lt w1 _ b B1) h) ?_
                clear hK K
                rw [← hM]
                obtain ⟨w7, hw7⟩ : ∃ w', w' = w1.alloc (.cells #[(.int .i64 ((flat l).length : Nat))] 3) := ⟨_, rfl⟩
                rw [← hw7]
                have S7 : w1.heap.size < w7.heap.size := by rw [hw7]; simp
                have G7 : w0.grownBy w7 (Value.ownBlock (.slice A l.length cA)) := by rw [hw7]; exact grown_trans G1 (World.grownBy_alloc w1 _ none) (fun k _ _ => by simp)
                have O7 := O1.alloc (.cells #[(.int .i64 ((flat l).length : Nat))] 3)
                rw [← hw7] at O7
                have B7 : b < w7.heap.size := by omega
                have Z7 : w0.heap.size ≤ w7.heap.size := by omega
                have NF7 : w7.heap[N]? = some (.cells (madeCells (Value.int .u8 0).cells (n * 1)) 5) := by rw [hw7, blk_alloc_lt _ _ _ (Array.getElem?_eq_some_iff.1 NF1).1]; exact NF1
                have MF7 : w7.heap[M]? = some (.cells #[(.int .i64 ((flat l).length : Nat))] 3) := by rw [hw7, hM]; exact blk_alloc_new w1 _
                have LMF7 : w0.heap.size ≤ M := by omega
                clear hw7 hM
                obtain ⟨P, hP⟩ : ∃ N, N = w7.heap.size := ⟨_, rfl⟩
                refine Own.st_do _ rfl rfl (fun K hK => ?_)
                go_simp
                refine hK _ _ (fun x _ _ h => CR.keep hbt (blk_alloc_lt w7 _ b B7) h) ?_
                clear hK K
                rw [← hP]
                obtain ⟨w8, hw8⟩ : ∃ w', w' = w7.alloc (.cells #[(.slice (some ⟨N, 0, none⟩) 0 n)] 81) := ⟨_, rfl⟩
                rw [← hw8]
                have S8 : w7.heap.size < w8.heap.size := by rw [hw8]; simp
                have G8 : w0.grownBy w8 (Value.ownBlock (.slice A l.length cA)) := by rw [hw8]; exact grown_trans G7 (World.grownBy_alloc w7 _ none) (fun k _ _ => by simp)
                have O8 := O7.alloc (.cells #[(.slice (some ⟨N, 0, none⟩) 0 n)] 81)
                rw [← hw8] at O8
                have B8 : b < w8.heap.size := by omega
                have Z8 : w0.heap.size ≤ w8.heap.size := by omega
                have NF8 : w8.heap[N]? = some (.cells (madeCells (Value.int .u8 0).cells (n * 1)) 5) := by rw [hw8, blk_alloc_lt _ _ _ (Array.getElem?_eq_some_iff.1 NF7).1]; exact NF7
                have MF8 : w8.heap[M]? = some (.cells #[(.int .i64 ((flat l).length : Nat))] 3) := by rw [hw8, blk_alloc_lt _ _ _ (Array.getElem?_eq_some_iff.1 MF7).1]; exact MF7
                have PF8 : w8.heap[P]? = some (.cells #[(.slice (some ⟨N, 0, none⟩) 0 n)] 81) := by rw [hw8, hP]; exact blk_alloc_new w7 _
                have LPF8 : w0.heap.size ≤ P := by omega
                clear hw8 hP
                have c9 : w8.cell? ⟨P, 0, none⟩ = some (.slice (some ⟨N, 0, none⟩) 0 n) := by simp [World.cell?, PF8]
                refine Own.st_do _ rfl rfl (fun K hK => ?_)
                refine own_append_wp (.tmp 47) (.tmp 52) 78 78 rfl 0 81 i81 (.slice none 0 0) 1 24 Try.underlying78 hi81 hz81 hs81 hb81 rfl (by decide) (.slice A l.length cA) l.length _ rfl O8 _ rfl 1 _ (src_one Try.underlying78 rfl c9) q1 q2 (Nat.zero_le _) ?_
                intro v1 w9 o1 g1 hv1
                refine hK _ _ (fun x _ _ h => CR.keep hbt (g1.block b B8 R0.b_ne_l) h) ?_
                clear hK K
                simp only [Act.put, List.setIfInBounds_toArray, List.set_cons_succ, List.set_cons_zero]
                have G9 : w0.grownBy w9 (Value.ownBlock (.slice A l.length cA)) := grown_trans G8 g1 (fun k _ h => h)
                have B9 : b < w9.heap.size := Nat.lt_of_lt_of_le B8 g1.size
                have V1 : ∀ k, v1.ownBlock = some k → (Value.ownBlock (.slice A l.length cA)) = some k ∨ w0.heap.size ≤ k := fun k hk => (hv1 k hk).imp id (fun h => Nat.le_trans Z8 h)
                have Z9 : w0.heap.size ≤ w9.heap.size := Nat.le_trans Z8 g1.size
                have NF9 : w9.heap[N]? = some (.cells (madeCells (Value.int .u8 0).cells (n * 1)) 5) := (g1.block N (Array.getElem?_eq_some_iff.1 NF8).1 (fun e => by have := (own_block_lt R0.own e.symm).2; omega)).trans NF8
                have MF9 : w9.heap[M]? = some (.cells #[(.int .i64 ((flat l).length : Nat))] 3) := (g1.block M (Array.getElem?_eq_some_iff.1 MF8).1 (fun e => by have := (own_block_lt R0.own e.symm).2; omega)).trans MF8
                have PF9 : w9.heap[P]? = some (.cells #[(.slice (some ⟨N, 0, none⟩) 0 n)] 81) := (g1.block P (Array.getElem?_eq_some_iff.1 PF8).1 (fun e => by have := (own_block_lt R0.own e.symm).2; omega)).trans PF8
                have O9 := o1
                clear o1 g1 hv1
                have LNF : w0.heap.size ≤ N := by assumption
                obtain ⟨A1, k1, rfl⟩ := own_is O9
                have fk := R0.f_keep G9
                have cM : w9.cell? ⟨M, 0, none⟩ = some (.int .i64 ((flat l).length : Nat)) := by simp [World.cell?, MF9]
                refine Own.st_do _ rfl rfl (fun K hK => ?_)
                refine own_append_wp (.tmp 57) (.tmp 62) 33 33 rfl 0 3 i3 (.int .i64 0) 1 8 Try.underlying33 hi3 hz3 hs3 hb3 rfl (by decide) vf l.length _ rfl fk _ rfl 1 _ (src_one Try.underlying33 rfl cM) q1 q3 (Nat.zero_le _) ?_
                intro v2 w5 o2 g2 hv2
                obtain ⟨A2, k2, rfl⟩ := own_is o2
                refine hK _ _ (fun x _ _ h => CR.keep hbt (g2.block b B9 R0.b_ne_f) h) ?_
                clear hK K
                simp only [Act.put, List.setIfInBounds_toArray, List.set_cons_succ, List.set_cons_zero]
                have E := R0.more_end G9 O9 V1 NF9 (by simp [madeCells]) hn63 LNF o2 g2 hv2
                have b5 : w5.heap[b]? = some (.cells #[(.slice A l.length cA), vf, .int .i64 ((flat l).length : Nat)] 80 (0, 0)) := ((g2.block b B9 R0.b_ne_f).trans (G9.block b R0.lt R0.b_ne_l)).trans R0.cell
                have s1 : w5.cell? ⟨b, 0, none⟩ = some (.slice A l.length cA) := by simp [World.cell?, b5]
                have s2 : w5.frozen? ⟨b, 0, none⟩ = false := by simp [World.frozen?, b5]
                have s3 : (w5.setCell ⟨b, 0, none⟩ (.slice A1 (l.length + 1) k1)).cell? ⟨b, 1, none⟩ = some vf := by rw [World.cell?, setCell_same b5 _]; rfl
                have s4 : (w5.setCell ⟨b, 0, none⟩ (.slice A1 (l.length + 1) k1)).frozen? ⟨b, 1, none⟩ = false := by rw [World.frozen?, setCell_same b5 _]; rfl
                clear fk cM o2 g2 hv2 b5
                refine Own.st_load _ rfl rfl (.pointer (some ⟨b, 0, none⟩)) (fun w' _ => by go_simp) (CR.off _ (by decide) _) ?_
                simp only [Act.put, List.setIfInBounds_toArray, List.set_cons_succ, List.set_cons_zero]
                repeat (refine Own.st_blind _ rfl rfl (CR.off _ (by decide) _) ?_; go_big_quiet_step (fail); refine wpQuiet_nil ?_)
                refine Own.st_do _ rfl rfl (fun K hK => ?_)
                go_simp
                refine hK _ _ (fun x hx hd => by rw [(hdep x hx).1] at hd; cases hd) ?_
                clear hK K
                refine Own.st_load _ rfl rfl (.pointer (some ⟨b, 0, none⟩)) (fun w' _ => by go_simp) (CR.off _ (by decide) _) ?_
                simp only [Act.put, List.setIfInBounds_toArray, List.set_cons_succ, List.set_cons_zero]
                repeat (refine Own.st_blind _ rfl rfl (CR.off _ (by decide) _) ?_; go_big_quiet_step (fail); refine wpQuiet_nil ?_)
                refine Own.st_do _ rfl rfl (fun K hK => ?_)
                go_simp
                refine hK _ _ (fun x hx hd => by rw [(hdep x hx).2] at hd; cases hd) ?_
                clear hK K
                refine Own.mix_done ?_
                clear s1 s2 s3 s4
                go_wp2
                go_meet
                exact ⟨_, _, l, ⟨N, n, []⟩, rfl, E.1.mono (FN.trans FR0.size E.2.size), by rw [flat_append]; simpa [flat] using HF.out, hn0, HN.out, FR0.trans E.2⟩
            · obtain ⟨M, hM⟩ : ∃ N, N = w0.heap.size := ⟨_, rfl⟩
              refine Own.st_do _ rfl rfl (fun K hK => ?_)
              go_simp
              refine hK _ _ (fun x _ _ h => CR.keep hbt (blk_alloc_lt w0 _ b B0) h) ?_
              clear hK K
              rw [← hM]
              obtain ⟨w10, hw10⟩ : ∃ w', w' = w0.alloc (.cells #[(.int .i64 ((flat l).length : Nat))] 3) := ⟨_, rfl⟩
              rw [← hw10]
              have S10 : w0.heap.size < w10.heap.size := by rw [hw10]; simp
              have G10 : w0.grownBy w10 (Value.ownBlock (.slice A l.length cA)) := by rw [hw10]; exact grown_trans G0 (World.grownBy_alloc w0 _ none) (fun k _ _ => by simp)
              have O10 := O0.alloc (.cells #[(.int .i64 ((flat l).length : Nat))] 3)
              rw [← hw10] at O10
              have B10 : b < w10.heap.size := by omega
              have Z10 : w0.heap.size ≤ w10.heap.size := by omega
              have MF10 : w10.heap[M]? = some (.cells #[(.int .i64 ((flat l).length : Nat))] 3) := by rw [hw10, hM]; exact blk_alloc_new w0 _
              have LMF10 : w0.heap.size ≤ M := by omega
              clear hw10 hM
              obtain ⟨N, hN⟩ : ∃ N, N = w10.heap.size := ⟨_, rfl⟩
              refine Own.st_do _ rfl rfl (fun K hK => ?_)
              refine own_make_wp 81 5 (.const (.int .i64 0)) (.tmp 50) rfl i5 (.int .u8 0) Try.underlying81 hi5 hz5 hs5 .i64 .i64 n rfl rfl hb5 hn63 ?_
              refine hK _ _ (fun x _ _ h => CR.keep hbt (blk_alloc_lt w10 _ b B10) h) ?_
              clear hK K
              simp only [Act.put, List.setIfInBounds_toArray, List.set_cons_succ, List.set_cons_zero]
              rw [← hN]
              obtain ⟨w11, hw11⟩ : ∃ w', w' = w10.alloc (.cells (madeCells (Value.int .u8 0).cells (n * 1)) 5) := ⟨_, rfl⟩
              rw [← hw11]
              have S11 : w10.heap.size < w11.heap.size := by rw [hw11]; simp
              have G11 : w0.grownBy w11 (Value.ownBlock (.slice A l.length cA)) := by rw [hw11]; exact grown_trans G10 (World.grownBy_alloc w10 _ none) (fun k _ _ => by simp)
              have O11 := O10.alloc (.cells (madeCells (Value.int .u8 0).cells (n * 1)) 5)
              rw [← hw11] at O11
              have B11 : b < w11.heap.size := by omega
              have Z11 : w0.heap.size ≤ w11.heap.size := by omega
              have MF11 : w11.heap[M]? = some (.cells #[(.int .i64 ((flat l).length : Nat))] 3) := by rw [hw11, blk_alloc_lt _ _ _ (Array.getElem?_eq_some_iff.1 MF10).1]; exact MF10
              have NF11 : w11.heap[N]? = some (.cells (madeCells (Value.int .u8 0).cells (n * 1)) 5) := by rw [hw11, hN]; exact blk_alloc_new w10 _
              have LNF11 : w0.heap.size ≤ N := by omega
              clear hw11 hN
              obtain ⟨P, hP⟩ : ∃ N, N = w11.heap.size := ⟨_, rfl⟩
              refine Own.st_do _ rfl rfl (fun K hK => ?_)
              go_simp
              refine hK _ _ (fun x _ _ h => CR.keep hbt (blk_alloc_lt w11 _ b B11) h) ?_
              clear hK K
              rw [← hP]
              obtain ⟨w12, hw12⟩ : ∃ w', w' = w11.alloc (.cells #[(.slice (some ⟨N, 0, none⟩) 0 n)] 81) := ⟨_, rfl⟩
              rw [← hw12]
              have S12 : w11.heap.size < w12.heap.size := by rw [hw12]; simp
              have G12 : w0.grownBy w12 (Value.ownBlock (.slice A l.length cA)) := by rw [hw12]; exact grown_trans G11 (World.grownBy_alloc w11 _ none) (fun k _ _ => by simp)
              have O12 := O11.alloc (.cells #[(.slice (some ⟨N, 0, none⟩) 0 n)] 81)
              rw [← hw12] at O12
              have B12 : b < w12.heap.size := by omega
              have Z12 : w0.heap.size ≤ w12.heap.size := by omega
              have MF12 : w12.heap[M]? = some (.cells #[(.int .i64 ((flat l).length : Nat))] 3) := by rw [hw12, blk_alloc_lt _ _ _ (Array.getElem?_eq_some_iff.1 MF11).1]; exact MF11
              have NF12 : w12.heap[N]? = some (.cells (madeCells (Value.int .u8 0).cells (n * 1)) 5) := by rw [hw12, blk_alloc_lt _ _ _ (Array.getElem?_eq_some_iff.1 NF11).1]; exact NF11
              have PF12 : w12.heap[P]? = some (.cells #[(.slice (some ⟨N, 0, none⟩) 0 n)] 81) := by rw [hw12, hP]; exact blk_alloc_new w11 _
              have LPF12 : w0.heap.size ≤ P := by omega
              clear hw12 hP
              have c13 : w12.cell? ⟨P, 0, none⟩ = some (.slice (some ⟨N, 0, none⟩) 0 n) := by simp [World.cell?, PF12]
              refine Own.st_do _ rfl rfl (fun K hK => ?_)
              refine own_append_wp (.tmp 47) (.tmp 52) 78 78 rfl 0 81 i81 (.slice none 0 0) 1 24 Try.underlying78 hi81 hz81 hs81 hb81 rfl (by decide) (.slice A l.length cA) l.length _ rfl O12 _ rfl 1 _ (src_one Try.underlying78 rfl c13) q1 q2 (Nat.zero_le _) ?_
              intro v1 w13 o1 g1 hv1
              refine hK _ _ (fun x _ _ h => CR.keep hbt (g1.block b B12 R0.b_ne_l) h) ?_
              clear hK K
              simp only [Act.put, List.setIfInBounds_toArray, List.set_cons_succ, List.set_cons_zero]
              have G13 : w0.grownBy w13 (Value.ownBlock (.slice A l.length cA)) := grown_trans G12 g1 (fun k _ h => h)
              have B13 : b < w13.heap.size := Nat.lt_of_lt_of_le B12 g1.size
              have V1 : ∀ k, v1.ownBlock = some k → (Value.ownBlock (.slice A l.length cA)) = some k ∨ w0.heap.size ≤ k := fun k hk => (hv1 k hk).imp id (fun h => Nat.le_trans Z12 h)
              have Z13 : w0.heap.size ≤ w13.heap.size := Nat.le_trans Z12 g1.size
              have MF13 : w13.heap[M]? = some (.cells #[(.int .i64 ((flat l).length : Nat))] 3) := (g1.block M (Array.getElem?_eq_some_iff.1 MF12).1 (fun e => by have := (own_block_lt R0.own e.symm).2; omega)).trans MF12
              have NF13 : w13.heap[N]? = some (.cells (madeCells (Value.int .u8 0).cells (n * 1)) 5) := (g1.block N (Array.getElem?_eq_some_iff.1 NF12).1 (fun e => by have := (own_block_lt R0.own e.symm).2; omega)).trans NF12
              have PF13 : w13.heap[P]? = some (.cells #[(.slice (some ⟨N, 0, none⟩) 0 n)] 81) := (g1.block P (Array.getElem?_eq_some_iff.1 PF12).1 (fun e => by have := (own_block_lt R0.own e.symm).2; omega)).trans PF12
              have O13 := o1
              clear o1 g1 hv1
              have LNF : w0.heap.size ≤ N := by assumption
              obtain ⟨A1, k1, rfl⟩ := own_is O13
              have fk := R0.f_keep G13
              have cM : w13.cell? ⟨M, 0, none⟩ = some (.int .i64 ((flat l).length : Nat)) := by simp [World.cell?, MF13]
              refine Own.st_do _ rfl rfl (fun K hK => ?_)
              refine own_append_wp (.tmp 57) (.tmp 62) 33 33 rfl 0 3 i3 (.int .i64 0) 1 8 Try.underlying33 hi3 hz3 hs3 hb3 rfl (by decide) vf l.length _ rfl fk _ rfl 1 _ (src_one Try.underlying33 rfl cM) q1 q3 (Nat.zero_le _) ?_
              intro v2 w5 o2 g2 hv2
              obtain ⟨A2, k2, rfl⟩ := own_is o2
              refine hK _ _ (fun x _ _ h => CR.keep hbt (g2.block b B13 R0.b_ne_f) h) ?_
              clear hK K
              simp only [Act.put, List.setIfInBounds_toArray, List.set_cons_succ, List.set_cons_zero]
              have E := R0.more_end G13 O13 V1 NF13 (by simp [madeCells]) hn63 LNF o2 g2 hv2
              have b5 : w5.heap[b]? = some (.cells #[(.slice A l.length cA), vf, .int .i64 ((flat l).length : Nat)] 80 (0, 0)) := ((g2.block b B13 R0.b_ne_f).trans (G13.block b R0.lt R0.b_ne_l)).trans R0.cell
              have s1 : w5.cell? ⟨b, 0, none⟩ = some (.slice A l.length cA) := by simp [World.cell?, b5]
              have s2 : w5.frozen? ⟨b, 0, none⟩ = false := by simp [World.frozen?, b5]
              have s3 : (w5.setCell ⟨b, 0, none⟩ (.slice A1 (l.length + 1) k1)).cell? ⟨b, 1, none⟩ = some vf := by rw [World.cell?, setCell_same b5 _]; rfl
              have s4 : (w5.setCell ⟨b, 0, none⟩ (.slice A1 (l.length + 1) k1)).frozen? ⟨b, 1, none⟩ = false := by rw [World.frozen?, setCell_same b5 _]; rfl
              clear fk cM o2 g2 hv2 b5
              refine Own.st_load _ rfl rfl (.pointer (some ⟨b, 0, none⟩)) (fun w' _ => by go_simp) (CR.off _ (by decide) _) ?_
              simp only [Act.put, List.setIfInBounds_toArray, List.set_cons_succ, List.set_cons_zero]
              repeat (refine Own.st_blind _ rfl rfl (CR.off _ (by decide) _) ?_; go_big_quiet_step (fail); refine wpQuiet_nil ?_)
              refine Own.st_do _ rfl rfl (fun K hK => ?_)
              go_simp
              refine hK _ _ (fun x hx hd => by rw [(hdep x hx).1] at hd; cases hd) ?_
              clear hK K
              refine Own.st_load _ rfl rfl (.pointer (some ⟨b, 0, none⟩)) (fun w' _ => by go_simp) (CR.off _ (by decide) _) ?_
              simp only [Act.put, List.setIfInBounds_toArray, List.set_cons_succ, List.set_cons_zero]
              repeat (refine Own.st_blind _ rfl rfl (CR.off _ (by decide) _) ?_; go_big_quiet_step (fail); refine wpQuiet_nil ?_)
              refine Own.st_do _ rfl rfl (fun K hK => ?_)
              go_simp
              refine hK _ _ (fun x hx hd => by rw [(hdep x hx).2] at hd; cases hd) ?_
              clear hK K
              refine Own.mix_done ?_
              clear s1 s2 s3 s4
              go_wp2
              go_meet
              exact ⟨_, _, l, ⟨N, n, []⟩, rfl, E.1.mono (FN.trans FR0.size E.2.size), by rw [flat_append]; simpa [flat] using HF.out, hn0, HN.out, FR0.trans E.2⟩
          | false =>
            clear r1 r2 r3 r4
            obtain ⟨l1, c, hl⟩ : ∃ l1 c, l = l1 ++ [c] := by
              rcases List.eq_nil_or_concat l with hl | ⟨l1, c, hl⟩
              · rw [hl] at hn; cases hn
              · exact ⟨l1, c, by rw [hl, List.concat_eq_append]⟩
            have hlen : l.length = l1.length + 1 := by rw [hl]; simp
            have R1 : Rep (wr.drewN q) (FN F W (wr.drewN q)) b (.slice A l.length cA) vf l := HR.out.keep (fun _ _ _ => rfl)
            have h1 : c.bs.length < c.cap := by
              have h2 : (c.bs.length == c.cap) = false := by rw [← hn, hl]; simp [need]
              have h3 := (R1.chunk c (by rw [hl]; simp)).le
              have h4 : c.bs.length ≠ c.cap := by simpa using h2
              omega
            have H1 := Lib.hid (show _ ∧ _ ∧ _ ∧ _ ∧ _ from ⟨hl, hlen, R1, h1, hn⟩)
            clear hl hlen R1 h1 hn HR
            go_wp2
            go_meet
            obtain ⟨hl, hlen, R1, h1, hn⟩ := H1.out
            exact ⟨_, vf, l1, c, by rw [hlen]; simp, hl ▸ R1, by rw [← hl]; exact HF.out, h1, fun d hd => HN.out d (by rw [hl]; simp [hd]), ⟨HFR.out.os, HFR.out.tape, HFR.out.output, HFR.out.size, HFR.out.block⟩⟩
        case rest =>
          clear HF HN HR HFR r1 r2 r3 r4 d0 hll
          obtain ⟨vl', vf', l1, c, rfl, R, hf, hlt, hne, hfr⟩ := hcut
          obtain ⟨gl, capl, curl, rfl, g1, g2, g3, g4, g5, g6⟩ := R.last
          obtain ⟨r1, r2, r3, r4⟩ := R.cells
          simp only [Chunk.val] at g3
          obtain ⟨cur, k1, k2, k3⟩ := (R.chunk c (by simp)).row
          have kmax := (R.chunk c (by simp)).max
          have H1 := Lib.hid (show _ ∧ _ ∧ _ ∧ _ from ⟨R, hf, hne, hfr⟩)
          have hll : l1.length ≤ 1099511627776 := by
            have h1 := flat_le l1 hne
            have h2 : x.data.toList.length = x.size := by simp
            rw [HX.out] at h2
            have h3 : (flat (l1 ++ [c])).length = (t ++ p).length := by rw [hf]
            rw [flat_append] at h3
            simp only [List.length_append] at h2 h3
            omega
          clear R hf hne hfr
          have hb := H1.out.1.cell
          have n1 : c.g ≠ b := ne_of_type k1 hb (by decide)
          have n2 : c.g ≠ gl := ne_of_type k1 g1 (by decide)
          have n3 : gl ≠ b := ne_of_type g1 hb (by decide)
          obtain ⟨m, hm⟩ : ∃ m, m = l1.length := ⟨_, rfl⟩
          rw [← hm] at g2 g3 r1 hll hb ⊢
          have HM := Lib.hid hm
          clear hm
          obtain ⟨k, hk⟩ : ∃ k, k = min s.size (c.cap - c.bs.length) := ⟨_, rfl⟩
          have hk1 : k ≤ s.size := by omega
          have hk2 : c.bs.length + k ≤ c.cap := by omega
          have hk0 : 0 < k := by omega
          have HK := Lib.hid hk
          clear hk
          have km2 : c.cap ≤ 9223372036854775807 := by simp only [maxLen] at kmax; exact kmax
          have sl1 := run_sliced_mid (P := Try.prog) Try.underlying81 (fun w => by kernel_rfl) c.g c.bs.length c.cap c.bs.length c.cap (by omega) (Nat.le_refl _) hlt
          have sl2 := run_sliced_to (P := Try.prog) Try.underlying81 (fun w => by kernel_rfl) (some ⟨c.g, 0, none⟩) c.bs.length c.cap (c.bs.length + k) hk2 .i64
          have SL2 := Lib.hid sl2
          clear sl2
          go_wp2
          refine Own.region_tail 18 (fun w' => ∃ n, w' = World.drewN wc n) (by kernel_rfl) (by kernel_rfl) ⟨1, rfl⟩ ?_
          simp only [List.take_succ_cons, List.take_zero, List.drop_succ_cons, List.drop_zero]
          repeat (go_big_quiet_step (fail))
          refine wpQuiet_nil ?_
          rintro _ ⟨nq', rfl⟩
          clear sl1
          have HCUR := Lib.hid k1
          refine own_copy_string (o := ⟨some 96, _, _, _, _, _⟩) rfl (.tmp 94) (.tmp 95) 81 9 rfl 5 Try.underlying81 (fun w => by kernel_rfl) c.g c.bs.length (c.cap - c.bs.length) (c.cap - c.bs.length) s rfl rfl cur 5 k1 k HK.out (by rw [k2]; exact hk2) ?_
          obtain ⟨row, hrow⟩ : ∃ r, r = (cur.toList.take c.bs.length ++ bc (s.data.toList.take k) ++ cur.toList.drop (c.bs.length + k)).toArray := ⟨_, rfl⟩
          rw [← hrow]
          obtain ⟨w8, hw8⟩ : ∃ w', w' = (wc.drewN nq').setRow c.g row := ⟨_, rfl⟩
          rw [← hw8]
          have e8 : ∀ j, j ≠ c.g → w8.heap[j]? = wc.heap[j]? := fun j hj => by rw [hw8]; exact setRow_other _ _ _ _ hj
          have k8 : w8.heap[c.g]? = some (.cells row 5 (0, 0)) := by rw [hw8]; exact setRow_heap _ _ cur _ _ _ k1
          have z8 : w8.heap.size = wc.heap.size := by rw [hw8]; simp [World.setRow]
          have o8 : w8.os = wc.os ∧ w8.tape = wc.tape ∧ w8.output = wc.output := by rw [hw8]; exact ⟨rfl, rfl, rfl⟩
          have HW8 := Lib.hid (show _ ∧ _ ∧ _ ∧ _ from ⟨e8, k8, z8, o8⟩)
          have HROW := Lib.hid hrow
          have hb8 := (e8 b (Ne.symm n1)).trans hb
          have g8 := (e8 gl (Ne.symm n2)).trans g1
          have r81 : w8.cell? ⟨b, 0, none⟩ = some (.slice (some ⟨gl, 0, none⟩) (m + 1) capl) := by simp [World.cell?, hb8]
          have g83 : w8.cell? ⟨gl, m, none⟩ = some (.slice (some ⟨c.g, 0, none⟩) c.bs.length c.cap) := by rw [← g3]; exact World.cell?_of_block (e8 gl (Ne.symm n2))
          have g84 : w8.frozen? ⟨gl, m, none⟩ = false := by simp [World.frozen?, g8]
          clear hw8 hrow r1 g3 r2 r3 r4 g4 e8 k8 z8 o8 g8 k1 k3
          go_wp2
          have sl2 : ∀ w : World, (Instr.slice 81 (.slice (some ⟨c.g, 0, none⟩) c.bs.length c.cap) none (some (.int .i64 ((c.bs.length : Int) + (k : Int)))) none).run Try.prog w = .ok (.slice (some ⟨c.g, 0, none⟩) (c.bs.length + k) c.cap) w := fun w => by
            have := SL2.out w
            rw [← this]
            congr 6
          refine Own.region_tail 17 (fun w' => ∃ n, w' = World.drewN w8 n) (by kernel_rfl) (by kernel_rfl) ⟨1, rfl⟩ ?_
          simp only [List.take_succ_cons, List.take_zero, List.drop_succ_cons, List.drop_zero]
          repeat (go_big_quiet_step (fail))
          refine wpQuiet_nil ?_
          rintro _ ⟨nq2, rfl⟩
          clear sl2 SL2
          go_wp2
          obtain ⟨fl, hfl⟩ : ∃ fl, fl = (flat (l1 ++ [c])).length := ⟨_, rfl⟩
          have hflb : fl + k ≤ 1099511627776 := by
            have h1 := H1.out.2.1
            have h2 : x.data.toList.length = x.size := by simp
            have h4 : s.data.toList.length = s.size := by simp
            rw [HX.out] at h2
            rw [hfl, h1]
            simp only [List.length_append] at h2 ⊢
            omega
          rw [← hfl] at hb hb8
          have HFL := Lib.hid hfl
          clear hfl
          obtain ⟨w9, hw9⟩ : ∃ w', w' = (w8.drewN nq2).setCell ⟨gl, m, none⟩ (.slice (some ⟨c.g, 0, none⟩) (c.bs.length + k) c.cap) := ⟨_, rfl⟩
          rw [← hw9]
          have hb9 : w9.heap[b]? = some (.cells #[.slice (some ⟨gl, 0, none⟩) (m + 1) capl, vf', .int .i64 (fl : Nat)] 80 (0, 0)) := by rw [hw9, setCell_other _ (Ne.symm n3)]; exact hb8
          have r93 : w9.cell? ⟨b, 2, none⟩ = some (.int .i64 (fl : Nat)) := by simp [World.cell?, hb9]
          have r94 : w9.frozen? ⟨b, 2, none⟩ = false := by simp [World.frozen?, hb9]
          have HW9 := Lib.hid (show _ ∧ _ from ⟨hw9, hb9⟩)
          clear hw9 hb9 hb8 r81 g83 g84
          have ss : ∀ w : World, (Instr.slice 9 (.string s) (some (.int .i64 (k : Nat))) none none).run Try.prog w = .ok (.string (s.extract k s.size)) w := fun w => by
            have h1 : (0 : Int) ≤ (k : Int) ∧ (k : Int) ≤ (s.size : Int) := by omega
            rw [run_slice_string_from_if (t := 9) (s := s) (k := .i64) (i := (k : Nat)) (h := Try.underlying9), if_pos h1]; simp
          refine Own.region_mix (CR [4] [(4, ⟨b, 2, none⟩, .int .i64 (fl : Nat))]) [4] [0, 0, 2, 6, 14, 0, 62, 0, 0, 384, 127, 1151, 3199, 8191] (Own.Ord.run [(0, true), (1, true), (2, true), (3, true), (4, true), (5, true), (6, true), (7, true), (8, true), (9, true), (10, true), (11, true), (12, false), (13, true)] .done) (by kernel_rfl) (by kernel_rfl) (fun dst v c a w h => by cases dst <;> exact h) (fun x hx w => CR.off x hx w) ?_
          simp only [Own.Ord.run]
          repeat (refine Own.st_blind _ rfl rfl (CR.off _ (by decide) _) ?_; go_big_quiet_step (fail); refine wpQuiet_nil ?_)
          refine Own.st_load _ rfl rfl (.pointer (some ⟨b, 0, none⟩)) (fun w' _ => by go_simp) (CR.off _ (by decide) _) ?_
          simp only [Act.put, List.setIfInBounds_toArray, List.set_cons_succ, List.set_cons_zero]
          repeat (refine Own.st_blind _ rfl rfl (CR.off _ (by decide) _) ?_; go_big_quiet_step (fail); refine wpQuiet_nil ?_)
          refine Own.st_load _ rfl rfl (.int .i64 (fl : Nat)) (fun w' hw' => ?_) (CR.all (by intro x hx; obtain rfl := List.mem_singleton.1 hx; exact r93) _) ?_
          · have hg := hw'.get (a := ⟨b, 2, none⟩) (v := .int .i64 (fl : Nat)) (by decide) (by simp)
            go_simp
          simp only [Act.put, List.setIfInBounds_toArray, List.set_cons_succ, List.set_cons_zero]
          repeat (refine Own.st_blind _ rfl rfl (CR.off _ (by decide) _) ?_; go_big_quiet_step (fail); refine wpQuiet_nil ?_)
          refine Own.st_load _ rfl rfl (.pointer (some ⟨b, 0, none⟩)) (fun w' _ => by go_simp) (CR.off _ (by decide) _) ?_
          simp only [Act.put, List.setIfInBounds_toArray, List.set_cons_succ, List.set_cons_zero]
          repeat (refine Own.st_blind _ rfl rfl (CR.off _ (by decide) _) ?_; go_big_quiet_step (fail); refine wpQuiet_nil ?_)
          clear ss
          refine Own.st_do _ rfl rfl (fun K hK => ?_)
          go_simp
          refine hK _ _ (fun x hx hd => by rw [(by decide : ∀ x ∈ [4], Own.dep [0, 0, 2, 6, 14, 0, 62, 0, 0, 384, 127, 1151, 3199, 8191] 12 x = true) x hx] at hd; cases hd) ?_
          clear hK K
          repeat (refine Own.st_blind _ rfl rfl (CR.off _ (by decide) _) ?_; go_big_quiet_step (fail); refine wpQuiet_nil ?_)
          refine Own.mix_done ?_
          go_wp2
          go_roundw
          case rel =>
            obtain ⟨R, hf, hne, hfr⟩ := H1.out
            obtain ⟨e8, k8, z8, o8⟩ := HW8.out
            obtain ⟨hw9, hb9⟩ := HW9.out
            have hm := HM.out
            subst hm
            have hfl := HFL.out
            obtain ⟨wz, hwz⟩ : ∃ wz, wz = (w9.setCell ⟨b, 2, none⟩ (.int .i64 ((fl : Int) + (k : Int)))).drew := ⟨_, rfl⟩
            rw [← hwz]
            have zz : wz.heap.size = wc.heap.size := by rw [hwz, hw9]; simp [World.setCell, z8]
            have ly : (s.data.toList.take k).length = k := by rw [List.length_take]; simp; omega
            have b0 : wz.heap[b]? = some (.cells #[.slice (some ⟨gl, 0, none⟩) (l1.length + 1) capl, vf', .int .i64 ((fl : Int) + (k : Int))] 80 (0, 0)) := by
              rw [hwz, show ∀ w : World, w.drew.heap = w.heap from fun _ => rfl, setCell_same hb9 _]; rfl
            have oth : ∀ j, j ≠ b → j ≠ gl → wz.heap[j]? = w8.heap[j]? := fun j h1 h2 => by
              rw [hwz, show ∀ w : World, w.drew.heap = w.heap from fun _ => rfl, setCell_other _ h1, hw9, setCell_other (w := w8.drewN nq2) _ h2]; rfl
            have b1 : wz.heap[gl]? = some (.cells (curl.setIfInBounds l1.length (Chunk.val ⟨c.g, c.cap, c.bs ++ s.data.toList.take k⟩)) 81 (0, 0)) := by
              rw [hwz, show ∀ w : World, w.drew.heap = w.heap from fun _ => rfl, setCell_other _ (Ne.symm (Ne.symm n3)), hw9, setCell_same (w := w8.drewN nq2) ((e8 gl (Ne.symm n2)).trans g1) _]
              simp only [Chunk.val, List.length_append, ly]
            have b2 : wz.heap[c.g]? = some (.cells row 5 (0, 0)) := (oth c.g n1 n2).trans k8
            have hcur : cur.toList.take c.bs.length = bc c.bs := by
              obtain ⟨cur2, c1, c2, c3⟩ := (R.chunk c (by simp)).row
              have := HCUR.out
              rw [this] at c1
              simp only [Option.some.injEq, Obj.cells.injEq, and_true] at c1
              rw [c1]; exact c3
            have lrow : row.toList = bc (c.bs ++ s.data.toList.take k) ++ cur.toList.drop (c.bs.length + k) := by
              rw [HROW.out, hcur, bc_append]
            have lbc : (bc (c.bs ++ s.data.toList.take k)).length = c.bs.length + k := by rw [bc_length, List.length_append, ly]
            have fit := R.fill (w' := wz) (ys := s.data.toList.take k) (cur' := row) g1 (by rw [b0, ly, ← hfl]; simp) b1 b2 (by
                rw [← Array.length_toList, lrow, List.length_append, lbc, List.length_drop, Array.length_toList]; omega) (by
                rw [ly, lrow, ← lbc]; exact List.take_left) (by rw [ly]; exact hk2) (fun j hj h1 h2 h3 => (oth j h1 h2).trans (e8 j h3))
            have fin : Fr F W wz := by
              refine hfr.step (by rw [hwz, hw9]; exact o8.1) (by rw [hwz, hw9]; exact o8.2.1) (by rw [hwz, hw9]; exact o8.2.2) (Nat.le_of_eq zz.symm) (fun j hj hF => ?_)
              have h1 : j ≠ b := fun e => hF (e ▸ R.fb)
              have h2 : j ≠ gl := fun e => hF (e ▸ g5)
              have h3 : j ≠ c.g := fun e => hF (e ▸ R.fc c (by simp))
              exact (oth j h1 h2).trans (e8 j h3)
            have hx2 : (s.extract k s.size).data.toList = s.data.toList.drop k := by
              simp
              exact List.take_of_length_le (by simp)
            have repz := fit.mono (G := FN F W wz) fun j hj => by
              rcases hj with hj | hj
              · exact .inl hj
              · exact .inr ⟨hj.1, by rw [zz]; exact hj.2⟩
            refine ⟨s.extract k s.size, p ++ s.data.toList.take k, rfl, ?_, ⟨_, _, _, repz, ?_, ?_⟩, fin⟩
            · rw [hx2, List.append_assoc, List.take_append_drop]; exact HX.out
            · rw [flat_append] at hf ⊢
              rw [← List.append_assoc, ← hf]
              simp [flat]
            · intro d hd
              rcases List.mem_append.1 hd with hd | hd
              · exact hne d hd
              · rw [List.mem_singleton.1 hd]
                intro h
                have := congrArg List.length h
                simp only [List.length_append, ly, List.length_nil] at this
                omega
          case measure =>
            simp
            omega
    · have hs : s.data.toList = [] := by
        apply List.eq_nil_of_length_eq_zero
        have h4 : s.data.toList.length = s.size := by simp
        omega
      have d0 : decide ((0 : Int) < (s.size : Int)) = false := decide_eq_false (by omega)
      rw [hs, List.append_nil] at hx
      subst hx
      have HE := Lib.hid (show _ ∧ _ from ⟨hH, hfr⟩)
      clear hH hfr hs
      go_wp2
      go_ret
      exact ⟨rfl, HE.out.1, HE.out.2⟩
end Go.Proofs.Ytemcffihfeaniaa

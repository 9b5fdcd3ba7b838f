/- the buffer: cut. -/
import Derived.Test.YtemcffihfeaniaaBsm
namespace Go.Own
open Go Go.RowKit Go.Deep
set_option linter.unusedVariables false
/-- a place that no piece lies on both sides of -/
structure CutTo (qs qs' : List (Nat × Pc)) (p j : Nat) : Prop where
  at' : pLen (qs'.take j) = p
  le : j ≤ qs'.length
  len : pLen qs' = pLen qs
  old : ∀ i, i ≤ qs.length → pLen (qs.take i) ≤ p → i ≤ j ∧ qs'.take i = qs.take i
theorem len_le_pLen : ∀ (qs : List (Nat × Pc)), (∀ q ∈ qs, 0 < q.2.n) → qs.length ≤ pLen qs
  | [], _ => Nat.zero_le _
  | q :: qs, h => by
    have h1 := len_le_pLen qs (fun x hx => h x (by simp [hx]))
    have h2 := h q (by simp)
    rw [pLen_cons, List.length_cons]; omega
theorem pLen_take_le (qs : List (Nat × Pc)) (i : Nat) : pLen (qs.take i) ≤ pLen qs := by
  have : pLen qs = pLen (qs.take i) + pLen (qs.drop i) := by rw [← pLen_append, List.take_append_drop]
  omega
theorem pLen_take_lt (qs : List (Nat × Pc)) (h : ∀ q ∈ qs, 0 < q.2.n) {i j : Nat} (hij : i < j) (hj : j ≤ qs.length) : pLen (qs.take i) < pLen (qs.take j) := by
  have e : qs.take j = qs.take i ++ (qs.drop i).take (j - i) := by
    have := List.take_add (l := qs) (i := i) (j := j - i)
    rwa [show i + (j - i) = j by omega] at this
  rw [e, pLen_append]
  have h1 := len_le_pLen ((qs.drop i).take (j - i)) (fun q hq => h q (List.mem_of_mem_drop (List.mem_of_mem_take hq)))
  rw [List.length_take, List.length_drop] at h1
  omega
theorem CutTo.none (qs : List (Nat × Pc)) (h : ∀ q ∈ qs, 0 < q.2.n) (p i : Nat) (hi : i ≤ qs.length) (h1 : pLen (qs.take i) = p) : CutTo qs qs p i := by
  refine ⟨h1, hi, rfl, fun k hk h2 => ⟨?_, rfl⟩⟩
  rcases Nat.lt_or_ge i k with h3 | h3
  · have := pLen_take_lt qs h h3 hk; omega
  · exact h3
theorem CutTo.two (qs : List (Nat × Pc)) (h : ∀ q ∈ qs, 0 < q.2.n) (p i off : Nat) (q q1 q2 : Nat × Pc) (hq : qs[i]? = some q) (h0 : 0 < off) (ho : off < q.2.n) (h1 : pLen (qs.take i) + off = p) (hn1 : q1.2.n = off) (hn2 : q2.2.n = q.2.n - off) :
    CutTo qs (qs.take i ++ q1 :: q2 :: qs.drop (i + 1)) p (i + 1) := by
  obtain ⟨hi, hqe⟩ := List.getElem?_eq_some_iff.1 hq
  have hl : (qs.take i).length = i := by rw [List.length_take]; omega
  have hs : qs = qs.take i ++ q :: qs.drop (i + 1) := by
    rw [← hqe, ← List.drop_eq_getElem_cons hi, List.take_append_drop]
  refine ⟨?_, by simp [hl], ?_, fun k hk h2 => ?_⟩
  · rw [show i + 1 = (qs.take i).length + 1 by rw [hl], List.take_length_add_append, pLen_append]
    simp [pLen, hn1] at h1 ⊢; omega
  · conv => rhs; rw [hs]
    rw [pLen_append, pLen_append, pLen_cons, pLen_cons, pLen_cons]; omega
  · have hki : k ≤ i := by
      rcases Nat.lt_or_ge i k with h3 | h3
      · have h4 : pLen (qs.take (i + 1)) ≤ pLen (qs.take k) := by
          rcases Nat.lt_or_ge (i + 1) k with h5 | h5
          · exact Nat.le_of_lt (pLen_take_lt qs h h5 hk)
          · rw [show k = i + 1 by omega]; exact Nat.le_refl _
        have h5 : pLen (qs.take (i + 1)) = pLen (qs.take i) + q.2.n := by rw [List.take_succ_eq_append_getElem hi, pLen_append, hqe]; simp [pLen]
        omega
      · exact h3
    refine ⟨by omega, ?_⟩
    rw [List.take_append_of_le_length (by omega), List.take_take, Nat.min_eq_left hki]
theorem two_text (so sa : List UInt8) (qs : List (Nat × Pc)) (i off : Nat) (k k1 k2 : Nat) (p : Pc) (hq : qs[i]? = some (k, p)) (ho : off ≤ p.n) :
    pText so sa (qs.take i ++ (k1, ⟨p.add, p.fr, off⟩) :: (k2, ⟨p.add, p.fr + off, p.n - off⟩) :: qs.drop (i + 1)) = pText so sa qs := by
  obtain ⟨hi, hqe⟩ := List.getElem?_eq_some_iff.1 hq
  have hs : qs = qs.take i ++ (k, p) :: qs.drop (i + 1) := by
    rw [← hqe, ← List.drop_eq_getElem_cons hi, List.take_append_drop]
  conv => rhs; rw [hs]
  rw [pText_append, pText_append]
  congr 1
  simp only [pText, List.flatMap_cons]
  rw [← List.append_assoc]
  congr 1
  simp only [Pc.text]
  have : p.n = off + (p.n - off) := by omega
  conv => rhs; rw [this, List.take_add, List.drop_drop]
theorem row_cells {w : World} {vl : Value} {ps : List Pc} {bo ba : Nat} (h : w.ownsRow 0 100 3 vl ps.length (ps.flatMap (Pc.cells bo ba))) {k : Nat} {p : Pc} (hk : ps[k]? = some p) : ∃ g cap, vl = .slice (some ⟨g, 0, none⟩) ps.length cap ∧ ps.length ≤ cap ∧
    w.cell? ⟨g, k * 3, none⟩ = some (.pointer (some ⟨if p.add then ba else bo, 0, none⟩)) ∧ w.cell? ⟨g, k * 3 + 1, none⟩ = some (.int .i64 (p.fr : Nat)) ∧ w.cell? ⟨g, k * 3 + 2, none⟩ = some (.int .i64 (p.n : Nat)) := by
  obtain ⟨hkl, hke⟩ := List.getElem?_eq_some_iff.1 hk
  rcases h.2 with ⟨_, h1⟩ | ⟨g, cap, cur, hv, _, hg, hn, _, _, _⟩
  · omega
  · refine ⟨g, cap, hv, hn, ?_⟩
    have hc := h.cells (g := g) (by rw [hv]; rfl)
    have split : ps.flatMap (Pc.cells bo ba) = (ps.take k).flatMap (Pc.cells bo ba) ++ (Pc.cells bo ba p ++ (ps.drop (k + 1)).flatMap (Pc.cells bo ba)) := by
      conv => lhs; rw [← List.take_append_drop k ps, List.drop_eq_getElem_cons hkl, hke]
      rw [List.flatMap_append, List.flatMap_cons]
    have hl : ((ps.take k).flatMap (Pc.cells bo ba)).length = k * 3 := by rw [pcs_length, List.length_take]; congr 1; omega
    have get : ∀ j (hj : j < 3), (ps.flatMap (Pc.cells bo ba))[k * 3 + j]? = (Pc.cells bo ba p)[j]? := fun j hj => by
      rw [split, List.getElem?_append_right (by omega), hl, Nat.add_sub_cancel_left, List.getElem?_append_left (by simp [Pc.cells]; omega)]
    have ad : ∀ j, (⟨g, 0, none⟩ : Addr).add j = ⟨g, j, none⟩ := fun j => by unfold Addr.add; split <;> simp_all
    refine ⟨?_, ?_, ?_⟩
    · have := hc (k * 3 + 0) _ (get 0 (by decide)); rw [ad] at this; exact this
    · have := hc (k * 3 + 1) _ (get 1 (by decide)); rw [ad] at this; exact this
    · have := hc (k * 3 + 2) _ (get 2 (by decide)); rw [ad] at this; exact this
end Go.Own
namespace Go.Proofs.Ytemcffihfeaniaa
open Go.RowKit Go.Deep Go.Own
set_option linter.unusedVariables false
def CutPost (w : World) (c : Nat → Nat) (b : Nat) (so sa : List UInt8) (bo ba bt : Nat) (ps : List Pc) (qs : List (Nat × Pc)) (most p j : Nat) (w' : World) : Prop :=
  ∃ c' vl' ps' qs', (∀ k, k < w.heap.size → c' k = c k) ∧ BufX w' c' b so sa bo ba bt vl' ps' qs' most ∧ Fr (InB c) w w' ∧ ps'.length ≤ ps.length + 2 ∧ qs'.length ≤ qs.length + 1 ∧ pText so sa qs' = pText so sa qs ∧ CutTo qs qs' p j
section
variable {w : World} {c : Nat → Nat} {b : Nat} {so sa : List UInt8} {bo ba bt : Nat} {vl : Value} {ps : List Pc} {qs : List (Nat × Pc)} {most : Nat}
set_option maxRecDepth 100000 in
set_option maxHeartbeats 8000000 in
theorem bcut_calls (H : BufX w c b so sa bo ba bt vl ps qs most) (p : Nat) (hp : p ≤ pLen qs) (hL : pLen qs ≤ 65536) (hps : ps.length ≤ 99999990) (hso : so.length ≤ 1099511627776) (hsa : sa.length ≤ 1099511627776) :
    Calls Try.prog 57 #[.pointer (some ⟨b, 0, none⟩), .int .i64 (p : Nat)] w fun e w' => ∃ j : Nat, e = .returned (.int .i64 (j : Nat)) ∧ CutPost w c b so sa bo ba bt ps qs most p j w' := by
  have hpos : ∀ q ∈ qs, 0 < q.2.n := fun q hq => (H.qok q hq).2.1
  obtain ⟨i, off, hf, hi, hio, hlt, _⟩ := find_split qs p hpos hp
  obtain ⟨c0, c1, c2, c3, c4, c5⟩ := H.cells
  have CF := Lib.hid (find_at _ bt _ (p : Int) w H.tree (by omega) (by omega))
  rw [hf] at CF
  have HX := Lib.hid H
  by_cases h0 : off = 0
  · subst h0
    have CT := Lib.hid (CutTo.none qs hpos p i hi (by omega))
    clear H hpos hf hi hio hlt c0 c1 c2 c4 c5
    go_enter Try.func57, Try.ntmps57
    go_wp2_with (fail)
    refine CF.out.mono ?_
    rintro e w1 ⟨rfl, n, rfl⟩
    go_wp2_with (fail)
    go_ret
    refine ⟨i, rfl, c, _, _, _, fun _ _ => rfl, HX.out.drewN n, ?_, by omega, by omega, rfl, CT.out⟩
    exact (Fr.refl _ w).step rfl rfl rfl (Nat.le_refl _) (fun _ _ _ => rfl)
  · have hlt' : p < pLen qs := by
      rcases Nat.lt_or_ge p (pLen qs) with h | h
      · exact h
      · rename_i hh; have := (hh (by omega)).2; omega
    obtain ⟨⟨key, x⟩, hq, ho⟩ := hlt hlt'
    have hok := H.qok _ (List.mem_of_getElem? hq)
    obtain ⟨gl, capl, rfl, hcap, r0, r1, r2⟩ := row_cells H.row hok.1
    have hkl := (List.getElem?_eq_some_iff.1 hok.1).1
    have hil := (List.getElem?_eq_some_iff.1 hq).1
    have hxn : x.n ≤ 65536 := by
      have := pLen_take_le qs (i + 1)
      have h2 : pLen (qs.take (i + 1)) = pLen (qs.take i) + x.n := by rw [List.take_succ_eq_append_getElem hil, pLen_append, (List.getElem?_eq_some_iff.1 hq).2]; simp [pLen]
      omega
    have hxf : x.fr + x.n ≤ 1099511627776 := by have := hok.2.2; split at this <;> (simp only at this; omega)
    have hql : qs.length + 1 ≤ 65536 := by
      have h1 := (CutTo.two qs hpos p i off (key, x) (0, ⟨true, 0, off⟩) (0, ⟨true, 0, x.n - off⟩) hq (by omega) ho hio rfl rfl).len
      have h2 := len_le_pLen (qs.take i ++ (0, ⟨true, 0, off⟩) :: (0, ⟨true, 0, x.n - off⟩) :: qs.drop (i + 1)) (fun q hq' => by
        simp only [List.mem_append, List.mem_cons] at hq'
        rcases hq' with h | rfl | rfl | h
        · exact hpos q (List.mem_of_mem_take h)
        · exact Nat.pos_of_ne_zero h0
        · simp only at ho ⊢; omega
        · exact hpos q (List.mem_of_mem_drop h))
      rw [h1, List.length_append, List.length_cons, List.length_cons, List.length_take, List.length_drop] at h2
      omega
    have g1 : (off == 0) = false := by simpa using h0
    have g2 : ((off : Int) == 0) = false := by simp; omega
    have g3 : decide (key < ps.length) = true := by simpa using hkl
    obtain ⟨sq, hsq⟩ : ∃ sq : Nat, (if x.add then ba else bo) = sq := ⟨_, rfl⟩
    rw [hsq] at r0
    have HSQ := Lib.hid hsq
    clear hsq
    have CG := Lib.hid (fun n => get_at _ bt _ i (key : Int) (x.n : Int) (w.drewN n) (H.drewN n).tree (by simp [pItems, hq]))
    go_enter Try.func57, Try.ntmps57
    clear H
    go_wp2_with (fail)
    refine CF.out.mono ?_
    rintro e w1 ⟨rfl, n, rfl⟩
    go_wp2_with (fail)
    refine (CG.out _).mono ?_
    rintro e w1 ⟨rfl, n2, hw1⟩
    have X1 : BufX w1 c b so sa bo ba bt (.slice (some ⟨gl, 0, none⟩) ps.length capl) ps qs most := by rw [hw1]; exact (HX.out.drewN _).drewN _
    have f1 : Fr (InB c) w w1 := by rw [hw1]; exact (Fr.refl _ w).step rfl rfl rfl (Nat.le_refl _) (fun _ _ _ => rfl)
    have r3 : ∀ j, w1.cell? ⟨gl, j, none⟩ = w.cell? ⟨gl, j, none⟩ := fun j => by rw [hw1]; rfl
    rw [← r3] at r0 r1 r2
    have HX1 := Lib.hid X1
    have F1 := Lib.hid f1
    have SZ1 := Lib.hid (show w1.heap.size = w.heap.size by rw [hw1]; rfl)
    clear hw1 r3 f1 c0 c1 c2 c3 c4 c5 CG CF
    obtain ⟨c0, c1, c2, c3, c4, c5⟩ := X1.cells
    have y3 : ∀ o, (w1.alloc o).cell? ⟨b, 3, none⟩ = some (.pointer (some ⟨bt, 0, none⟩)) := fun o => by rw [World.cell?_of_block (w := w1) (blk_alloc_lt _ _ _ X1.blt)]; exact c3
    have CR := Lib.hid (fun o => remove_at (fun k => c k = 3) bt (pItems qs) i (w1.alloc o) (X1.later ((Below.refl _ _).alloc (Nat.le_refl _) o)).tree (by rw [pItems_length]; exact hil))
    clear X1
    go_wp2_with (fail)
    refine (CR.out _).mono ?_
    rintro e w3 ⟨rfl, t3, f3⟩
    obtain ⟨w2, hw2⟩ : ∃ w2, w2 = w1.alloc (.cells #[Value.pointer (some ⟨sq, 0, none⟩), .int .i64 (x.fr : Nat), .int .i64 (x.n : Nat)] 100) := ⟨_, rfl⟩
    rw [← hw2] at f3
    have B2 : Below w1.heap.size w1 w2 := by rw [hw2]; exact (Below.refl _ _).alloc (Nat.le_refl _) _
    obtain ⟨N, hN⟩ : ∃ N, N = w1.heap.size := ⟨_, rfl⟩
    have n2 : w2.heap[N]? = some (.cells #[Value.pointer (some ⟨sq, 0, none⟩), .int .i64 (x.fr : Nat), .int .i64 (x.n : Nat)] 100 (0, 0)) := by rw [hw2, hN]; exact blk_alloc_new w1 _
    have cN : c N = 0 := by
      rcases Nat.eq_zero_or_pos (c N) with h | h
      · exact h
      · have := HX1.out.lt N (by omega); omega
    have n3 : w3.heap[N]? = w2.heap[N]? := f3.block N (by rw [hw2, hN]; simp) (fun e => by have e' : c N = 3 := e; omega)
    have X2 := HX1.out.later B2
    rw [← pItems_erase] at t3
    have hq1 : ∀ q ∈ qs.eraseIdx i, POk so sa ps q := fun q hq => HX1.out.qok q (List.mem_of_mem_eraseIdx hq)
    have X3 := X2.turned (qs' := qs.eraseIdx i) f3 (t3.mono fun k h => .inl h) hq1
    have d0 : w3.cell? ⟨N, 0, none⟩ = some (.pointer (some ⟨sq, 0, none⟩)) := by rw [World.cell?_of_block (w := w2) n3]; simp [World.cell?, n2]
    have d1 : w3.cell? ⟨N, 1, none⟩ = some (.int .i64 (x.fr : Nat)) := by rw [World.cell?_of_block (w := w2) n3]; simp [World.cell?, n2]
    have d2 : w3.cell? ⟨N, 2, none⟩ = some (.int .i64 (x.n : Nat)) := by rw [World.cell?_of_block (w := w2) n3]; simp [World.cell?, n2]
    rw [← hN]
    have HX3 := Lib.hid X3
    have HT3 := Lib.hid t3
    have HF3 := Lib.hid f3
    have HB2 := Lib.hid B2
    have HN3 := Lib.hid n3
    have HN2 := Lib.hid n2
    have HN := Lib.hid hN
    have LN : N < w3.heap.size := World.block_lt_of_cell? _ _ d0
    clear X3 t3 f3 B2 n3 n2 hN hw2 X2 hq1 c0 c1 c2 c3 c4 c5 r0 r1 r2 CR y3
    have hof : ((x.n : Int) - (off : Int)) = ((x.n - off : Nat) : Int) := by have h : off < x.n := ho; omega
    have CP := Lib.hid (bpart_calls sq x.fr x.n (off : Int) ((x.n : Int) - (off : Int)) w3 (by omega) (by omega))
    have ho : off < x.n := ho
    have HQ := Lib.hid hq
    have HOK := Lib.hid hok
    have HPOS := Lib.hid hpos
    have HOF := Lib.hid hof
    clear hq hok hpos hof hf
    go_wp2_with (fail)
    refine CP.out.mono ?_
    rintro e w4 ⟨rfl, b4⟩
    have X4 := HX3.out.later b4
    have d4 : ∀ j, w4.cell? ⟨N, j, none⟩ = w3.cell? ⟨N, j, none⟩ := fun j => World.cell?_of_block (b4.block N LN)
    have lq1 : (qs.eraseIdx i).length = qs.length - 1 := List.length_eraseIdx_of_lt hil
    have CPu := Lib.hid (bput_calls X4 i ⟨x.add, x.fr + off, x.n - off⟩ (by omega) (by omega) (by simp only; omega) (by simp only; have := HOK.out.2.2; simp only at this; omega) (by simp only; omega) (by omega))
    simp only at CPu
    rw [HSQ.out, ← HOF.out, show ((x.fr + off : Nat) : Int) = (x.fr : Int) + (off : Int) by omega] at CPu
    rw [← d4] at d0 d1 d2
    have HB4 := Lib.hid b4
    have HX4 := Lib.hid X4
    clear b4 X4 d4 CP
    go_wp2_with (fail)
    refine CPu.out.mono ?_
    rintro e w5 ⟨rfl, c5', vl5, k5, X5, f5⟩
    have s24 : w2.heap.size ≤ w4.heap.size := Nat.le_trans HF3.out.size HB4.out.size
    have LN2 : N < w2.heap.size := by have := HB2.out.size; have e := HN2.out; exact (Array.getElem?_eq_some_iff.1 e).1
    have c3N : recol c w2.heap.size w3.heap.size 3 N = 0 := by rw [recol_old LN2]; exact cN
    have n5 : w5.heap[N]? = w4.heap[N]? := f5.block N (by omega) (fun e => e.ne c3N)
    have d5 : ∀ j, w5.cell? ⟨N, j, none⟩ = w4.cell? ⟨N, j, none⟩ := fun j => World.cell?_of_block n5
    rw [← d5] at d0 d1 d2
    have HX5 := Lib.hid X5
    have HF5 := Lib.hid f5
    have HK5 := Lib.hid k5
    have CP0 := Lib.hid (bpart_calls sq x.fr x.n 0 (off : Int) w5 (by omega) (by omega))
    rw [Int.add_zero] at CP0
    clear X5 f5 k5 CPu d5
    go_wp2_with (fail)
    refine CP0.out.mono ?_
    rintro e w6 ⟨rfl, b6⟩
    have X6 := HX5.out.later b6
    have lq2 : ((qs.eraseIdx i).take i ++ (ps.length, (⟨x.add, x.fr + off, x.n - off⟩ : Pc)) :: (qs.eraseIdx i).drop i).length = qs.length := by
      rw [List.length_append, List.length_cons, List.length_take, List.length_drop, lq1]; omega
    have CPv := Lib.hid (bput_calls X6 i ⟨x.add, x.fr, off⟩ (by rw [lq2]; omega) (by rw [lq2]; omega) (by simp only; omega) (by simp only; have := HOK.out.2.2; simp only at this; omega) (by simp only; omega) (by simp; omega))
    simp only at CPv
    rw [HSQ.out] at CPv
    have HB6 := Lib.hid b6
    clear b6 X6 CP0
    go_wp2_with (fail)
    refine CPv.out.mono ?_
    rintro e w7 ⟨rfl, c7, vl7, k7, X7, f7⟩
    have HX7 := Lib.hid X7
    have HF7 := Lib.hid f7
    have HK7 := Lib.hid k7
    clear X7 f7 k7 CPv
    go_wp2_with (fail)
    go_ret
    have z1 := HB2.out.size
    have z2 := HF3.out.size
    have z4 := HB4.out.size
    have z5 := HF5.out.size
    have z6 := HB6.out.size
    have zz := SZ1.out
    have col5 : ∀ k, k < w.heap.size → c5' k = c k := fun k hk => by rw [HK5.out k (by omega), recol_old (by omega)]
    have col7 : ∀ k, k < w.heap.size → c7 k = c k := fun k hk => by rw [HK7.out k (by omega)]; exact col5 k hk
    have F2 := F1.out.thenBelow HB2.out
    have F3 : Fr (InB c) w w3 := F2.step HF3.out.os HF3.out.tape HF3.out.output HF3.out.size fun k hk hn => HF3.out.block k hk fun e => hn (.inl (by have e' : c k = 3 := e; unfold InB; omega))
    have F4 := F3.thenBelow HB4.out
    have F5 := F4.next (fun k hk => recol_old (by omega)) HF5.out
    have F6 := F5.thenBelow HB6.out
    have F7 := F6.next col5 HF7.out
    have ti : (qs.take i).length = i := by rw [List.length_take]; omega
    have eqs : (((qs.eraseIdx i).take i ++ (ps.length, (⟨x.add, x.fr + off, x.n - off⟩ : Pc)) :: (qs.eraseIdx i).drop i).take i ++ ((ps ++ [(⟨x.add, x.fr + off, x.n - off⟩ : Pc)]).length, (⟨x.add, x.fr, off⟩ : Pc)) :: ((qs.eraseIdx i).take i ++ (ps.length, (⟨x.add, x.fr + off, x.n - off⟩ : Pc)) :: (qs.eraseIdx i).drop i).drop i) =
        qs.take i ++ ((ps ++ [(⟨x.add, x.fr + off, x.n - off⟩ : Pc)]).length, (⟨x.add, x.fr, off⟩ : Pc)) :: (ps.length, (⟨x.add, x.fr + off, x.n - off⟩ : Pc)) :: qs.drop (i + 1) := by
      have t1 : (qs.eraseIdx i).take i = qs.take i := by rw [List.eraseIdx_eq_take_drop_succ, List.take_append_of_le_length (by omega), List.take_take, Nat.min_self]
      have t2 : (qs.eraseIdx i).drop i = qs.drop (i + 1) := by
        rw [List.eraseIdx_eq_take_drop_succ]
        have := List.drop_left (l₁ := qs.take i) (l₂ := qs.drop (i + 1))
        rwa [ti] at this
      rw [t1, t2]
      have t3 : ∀ L : List (Nat × Pc), (qs.take i ++ L).take i = qs.take i := fun L => by
        have := List.take_left (l₁ := qs.take i) (l₂ := L)
        rwa [ti] at this
      have t4 : ∀ L : List (Nat × Pc), (qs.take i ++ L).drop i = L := fun L => by
        have := List.drop_left (l₁ := qs.take i) (l₂ := L)
        rwa [ti] at this
      rw [t3, t4]
    have X7 := HX7.out
    rw [eqs] at X7
    refine ⟨i + 1, ret_int (by omega), c7, vl7, _, _, col7, X7, F7, by simp, ?_, two_text so sa qs i off key _ _ x HQ.out (by omega), CutTo.two qs HPOS.out p i off (key, x) _ _ HQ.out (by omega) ho hio rfl rfl⟩
    simp only [List.length_append, List.length_cons, List.length_take, List.length_drop]; omega
end
end Go.Proofs.Ytemcffihfeaniaa

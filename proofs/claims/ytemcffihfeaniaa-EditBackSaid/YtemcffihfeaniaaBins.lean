/- the buffer: Text, Byte, Insert. -/
import Derived.Test.YtemcffihfeaniaaBsl
namespace Go.Own
open Go Go.RowKit Go.Deep
set_option linter.unusedVariables false
theorem Pc.text_more {so sa t : List UInt8} {p : Pc} (h : p.fr + p.n ≤ (if p.add then sa else so).length) : p.text so (sa ++ t) = p.text so sa := by
  unfold Pc.text
  cases hp : p.add with
  | false => rfl
  | true =>
    rw [hp] at h
    simp only [if_true] at h ⊢
    rw [List.drop_append_of_le_length (by omega), List.take_append_of_le_length (by rw [List.length_drop]; omega)]
theorem pText_more {so sa t : List UInt8} {ps : List Pc} : ∀ (qs : List (Nat × Pc)), (∀ q ∈ qs, POk so sa ps q) → pText so (sa ++ t) qs = pText so sa qs
  | [], _ => rfl
  | q :: qs, h => by
    have h1 := pText_more (t := t) qs (fun x hx => h x (by simp [hx]))
    have h2 := Pc.text_more (t := t) (h q (by simp)).2.2
    simp only [pText, List.flatMap_cons] at h1 ⊢
    rw [h1, h2]
theorem POk.grow {so sa t : List UInt8} {ps : List Pc} {q : Nat × Pc} (h : POk so sa ps q) : POk so (sa ++ t) ps q := by
  refine ⟨h.1, h.2.1, ?_⟩
  have := h.2.2
  split
  · rename_i hh; rw [if_pos hh] at this; rw [List.length_append]; omega
  · rename_i hh; rw [if_neg hh] at this; exact this
/-- the second store has grown -/
theorem BufX.added {w w' : World} {c : Nat → Nat} {b : Nat} {so sa : List UInt8} {bo ba bt : Nat} {vl : Value} {ps : List Pc} {qs : List (Nat × Pc)} {most : Nat} (X : BufX w c b so sa bo ba bt vl ps qs most) {t : List UInt8}
    (F : Fr (fun k => c k = 2) w w') (T : Holds w' (FN (fun k => c k = 2) w w') ba (sa ++ t)) : BufX w' (recol c w.heap.size w'.heap.size 2) b so (sa ++ t) bo ba bt vl ps qs most := by
  have hk : ∀ j, j ≠ 2 → ∀ k, k < w.heap.size → c k = j → w'.heap[k]? = w.heap[k]? := fun j hj k h1 h2 => F.block k h1 (fun e => hj (by rw [← h2]; exact e))
  refine ⟨(hk 5 (by decide) b X.blt X.head).trans X.cell, (X.old.keep (hk 1 (by decide))).mono fun k => recol_keep X.lt (by decide), T.mono (recol_fn X.lt (by decide)), (X.tree.keep (hk 3 (by decide))).mono fun k => recol_keep X.lt (by decide),
    own_keep X.row (fun k h1 => hk 4 (by decide) k (own_block_lt X.row h1).2 (X.rowc k h1)), fun k h1 => recol_keep X.lt (by decide) (X.rowc k h1), recol_keep X.lt (by decide) X.head, fun q hq => (X.qok q hq).grow, recol_lt F.size X.lt⟩
end Go.Own
namespace Go.Proofs.Ytemcffihfeaniaa
open Go.RowKit Go.Deep Go.Own
set_option linter.unusedVariables false
def InsPost (w : World) (c : Nat → Nat) (b : Nat) (so sa : List UInt8) (bo ba bt : Nat) (ps : List Pc) (qs : List (Nat × Pc)) (most p : Nat) (s : ByteArray) (w' : World) : Prop :=
  ∃ c' vl' ps' qs', (∀ k, k < w.heap.size → c' k = c k) ∧ BufX w' c' b so (sa ++ s.data.toList) bo ba bt vl' ps' qs' most ∧ Fr (InB c) w w' ∧ ps'.length ≤ ps.length + 3 ∧ qs'.length ≤ qs.length + 2 ∧
    pText so (sa ++ s.data.toList) qs' = (pText so sa qs).take p ++ (s.data.toList ++ (pText so sa qs).drop p)
section
variable {w : World} {c : Nat → Nat} {b : Nat} {so sa : List UInt8} {bo ba bt : Nat} {vl : Value} {ps : List Pc} {qs : List (Nat × Pc)} {most : Nat}
set_option maxRecDepth 100000 in
theorem btext_calls (H : BufX w c b so sa bo ba bt vl ps qs most) (hb : pLen qs ≤ 65536) (hso : so.length ≤ 1099511627776) (hsa : sa.length ≤ 1099511627776) :
    Calls Try.prog 35 #[.pointer (some ⟨b, 0, none⟩)] w fun e w' => e = .returned (.string ⟨(pText so sa qs).toArray⟩) ∧ Below w.heap.size w w' := by
  have CL := Lib.hid (blen_calls H)
  have CS := Lib.hid (bslice_ok H 0 (pLen qs) (by omega) hb hso hsa)
  have hT := pText_length qs H.qok
  rw [List.drop_zero, ← hT, List.take_length, hT] at CS
  clear H hT
  go_enter Try.func35, Try.ntmps35
  go_wp2_with (fail)
  refine CL.out.mono ?_
  rintro e w1 ⟨rfl, rfl⟩
  go_wp2_with (fail)
  refine CS.out.mono ?_
  rintro e w1 ⟨rfl, b1⟩
  go_wp2_with (fail)
  go_ret
  exact ⟨rfl, b1⟩
set_option maxRecDepth 100000 in
theorem binsert_place (H : BufX w c b so sa bo ba bt vl ps qs most) (a : Int) (s : ByteArray) (h : ¬ (0 ≤ a ∧ a ≤ (pLen qs : Int))) :
    Calls Try.prog 34 #[.pointer (some ⟨b, 0, none⟩), .int .i64 a, .string s] w fun e w' => e = .returned (.int .i64 2) ∧ w = w' := by
  have CL := Lib.hid (blen_calls H)
  obtain ⟨L, hL⟩ : ∃ L, L = pLen qs := ⟨_, rfl⟩
  rw [← hL] at CL h
  clear H hL
  by_cases h0 : a < 0
  · have g0 : decide (a < 0) = true := by simpa using h0
    clear h
    go_enter Try.func34, Try.ntmps34
    go_wp2_with (fail)
    go_ret
    exact ⟨rfl, rfl⟩
  · have g0 : decide (a < 0) = false := by simpa using h0
    obtain ⟨a, rfl⟩ : ∃ k : Nat, a = (k : Int) := ⟨a.toNat, by omega⟩
    have g1 : decide (L < a) = true := by simp; omega
    clear h
    go_enter Try.func34, Try.ntmps34
    go_wp2_with (fail)
    refine CL.out.mono ?_
    rintro e w1 ⟨rfl, rfl⟩
    go_wp2_with (fail)
    go_ret
    exact ⟨rfl, rfl⟩
set_option maxRecDepth 100000 in
theorem binsert_big (H : BufX w c b so sa bo ba bt vl ps qs most) (a : Nat) (s : ByteArray) (h : a ≤ pLen qs) (hm : most < pLen qs + s.size) (hb : pLen qs ≤ 65536) (hmo : most ≤ 65536) (hs : s.size ≤ 140737488351232) :
    Calls Try.prog 34 #[.pointer (some ⟨b, 0, none⟩), .int .i64 (a : Nat), .string s] w fun e w' => e = .returned (.int .i64 3) ∧ ∃ n, w' = w.drewN n := by
  have CL := Lib.hid (fun n => blen_calls (H.drewN n))
  obtain ⟨L, hL⟩ : ∃ L, L = pLen qs := ⟨_, rfl⟩
  rw [← hL] at CL h hm hb
  obtain ⟨_, _, _, _, c4, _⟩ := H.cells
  clear H hL
  have g1 : decide (L < a) = false := by simp; omega
  have g2 : decide ((most : Int) - (L : Int) < (s.size : Int)) = true := by simp; omega
  have CL' := Lib.hid (show ∀ n, Calls Try.prog 37 #[.pointer (some ⟨b, 0, none⟩)] (w.drewN n) fun e w' => e = .returned (.int .i64 (L : Nat)) ∧ w' = w.drewN n from fun n => (CL.out n).mono fun e w' h => ⟨h.1, h.2.symm⟩)
  have CL0 := Lib.hid (CL.out 0)
  clear CL
  go_enter Try.func34, Try.ntmps34
  go_wp2_with (fail)
  refine CL0.out.mono ?_
  rintro e w1 ⟨rfl, rfl⟩
  go_wp2_with (fail)
  refine Own.region_all (fun w' => ∃ n, w' = World.drewN w n) (by kernel_rfl) (by kernel_rfl) ⟨1, rfl⟩ ?_
  repeat (go_big_quiet_step (with_reducible exact Calls.quiet_of_same (CL'.out _)))
  refine wpQuiet_nil ?_
  rintro _ ⟨nq, rfl⟩
  go_wp2_with (fail)
  go_ret
  exact ⟨rfl, _, rfl⟩
set_option maxRecDepth 100000 in
theorem binsert_none (H : BufX w c b so sa bo ba bt vl ps qs most) (a : Nat) (h : a ≤ pLen qs) (hm : pLen qs ≤ most) (hmo : most ≤ 65536) :
    Calls Try.prog 34 #[.pointer (some ⟨b, 0, none⟩), .int .i64 (a : Nat), .string ⟨#[]⟩] w fun e w' => e = .returned (.int .i64 0) ∧ ∃ n, w' = w.drewN n := by
  have CL := Lib.hid (fun n => blen_calls (H.drewN n))
  obtain ⟨L, hL⟩ : ∃ L, L = pLen qs := ⟨_, rfl⟩
  rw [← hL] at CL h hm
  obtain ⟨_, _, _, _, c4, _⟩ := H.cells
  clear H hL
  have g1 : decide (L < a) = false := by simp; omega
  have g2 : decide ((most : Int) - (L : Int) < 0) = false := by simp; omega
  have CL' := Lib.hid (show ∀ n, Calls Try.prog 37 #[.pointer (some ⟨b, 0, none⟩)] (w.drewN n) fun e w' => e = .returned (.int .i64 (L : Nat)) ∧ w' = w.drewN n from fun n => (CL.out n).mono fun e w' h => ⟨h.1, h.2.symm⟩)
  have CL0 := Lib.hid (CL.out 0)
  clear CL
  go_enter Try.func34, Try.ntmps34
  go_wp2_with (fail)
  refine CL0.out.mono ?_
  rintro e w1 ⟨rfl, rfl⟩
  go_wp2_with (fail)
  refine Own.region_all (fun w' => ∃ n, w' = World.drewN w n) (by kernel_rfl) (by kernel_rfl) ⟨1, rfl⟩ ?_
  repeat (go_big_quiet_step (with_reducible exact Calls.quiet_of_same (CL'.out _)))
  refine wpQuiet_nil ?_
  rintro _ ⟨nq, rfl⟩
  go_wp2_with (fail)
  go_ret
  exact ⟨rfl, _, rfl⟩
set_option maxRecDepth 100000 in
set_option maxHeartbeats 8000000 in
theorem binsert_ok (H : BufX w c b so sa bo ba bt vl ps qs most) (a : Nat) (s : ByteArray) (h : a ≤ pLen qs) (hm : pLen qs + s.size ≤ most) (hmo : most ≤ 65536) (hs : 0 < s.size) (hps : ps.length ≤ 99999980) (hso : so.length ≤ 1099511627776) (hsa : sa.length ≤ 549755813888) :
    Calls Try.prog 34 #[.pointer (some ⟨b, 0, none⟩), .int .i64 (a : Nat), .string s] w fun e w' => e = .returned (.int .i64 0) ∧ InsPost w c b so sa bo ba bt ps qs most a s w' := by
  have CL := Lib.hid (fun n => blen_calls (H.drewN n))
  have CC := Lib.hid (fun n => bcut_calls (H.drewN n) a h (by omega) (by omega) hso (by omega))
  obtain ⟨L, hL⟩ : ∃ L, L = pLen qs := ⟨_, rfl⟩
  rw [← hL] at CL h hm
  obtain ⟨_, c1, _, _, c4, _⟩ := H.cells
  have HX := Lib.hid H
  have HL := Lib.hid hL
  have hdl : s.data.toList.length = s.size := by simp
  have HDL := Lib.hid hdl
  have hse2 : s.toList.isEmpty = false := by
    rw [Lib.toList_data, List.isEmpty_eq_false_iff, ← List.length_pos_iff]; omega
  clear H hL hdl
  have g1 : decide (L < a) = false := by simp; omega
  have g2 : decide ((most : Int) - (L : Int) < (s.size : Int)) = false := by simp; omega
  have CL' := Lib.hid (show ∀ n, Calls Try.prog 37 #[.pointer (some ⟨b, 0, none⟩)] (w.drewN n) fun e w' => e = .returned (.int .i64 (L : Nat)) ∧ w' = w.drewN n from fun n => (CL.out n).mono fun e w' h => ⟨h.1, h.2.symm⟩)
  have CL0 := Lib.hid (CL.out 0)
  clear CL
  go_enter Try.func34, Try.ntmps34
  go_wp2_with (fail)
  refine CL0.out.mono ?_
  rintro e w1 ⟨rfl, rfl⟩
  go_wp2_with (fail)
  refine Own.region_all (fun w' => ∃ n, w' = World.drewN w n) (by kernel_rfl) (by kernel_rfl) ⟨1, rfl⟩ ?_
  repeat (go_big_quiet_step (with_reducible exact Calls.quiet_of_same (CL'.out _)))
  refine wpQuiet_nil ?_
  rintro _ ⟨nq, rfl⟩
  go_wp2_with (fail)
  refine Own.region_mix (CR [9, 15] [(9, ⟨b, 1, none⟩, .pointer (some ⟨ba, 0, none⟩)), (15, ⟨b, 1, none⟩, .pointer (some ⟨ba, 0, none⟩))]) [9, 15] [0, 0, 0, 6, 0, 16, 48, 112, 240, 496, 0, 1024, 3072, 7168, 15360, 31744, 0, 130062, 0, 262144, 1048574, 2097151] (Own.Ord.run [(0, true), (1, true), (2, true), (4, true), (5, true), (6, true), (7, true), (8, true), (9, true), (10, true), (11, true), (12, true), (13, true), (14, true), (15, true), (16, true), (18, true), (19, true), (3, false), (17, false), (20, false), (21, false)] .done) (by kernel_rfl) (by kernel_rfl) (fun dst v c a w h => by cases dst <;> exact h) (fun x hx w => CR.off x hx w) ?_
  simp only [Own.Ord.run]
  repeat (refine Own.st_blind _ rfl rfl (CR.off _ (by decide) _) ?_; go_big_quiet_step (fail); refine wpQuiet_nil ?_)
  refine Own.st_load _ rfl rfl (.pointer (some ⟨b, 0, none⟩)) (fun w' _ => by go_simp) (CR.off _ (by decide) _) ?_
  simp only [Act.put, List.setIfInBounds_toArray, List.set_cons_succ, List.set_cons_zero]
  repeat (refine Own.st_blind _ rfl rfl (CR.off _ (by decide) _) ?_; go_big_quiet_step (fail); refine wpQuiet_nil ?_)
  refine Own.st_load _ rfl rfl (.pointer (some ⟨ba, 0, none⟩)) (fun w' hw' => ?_) ?_ ?_
  · have hg0 := hw'.get (a := ⟨b, 1, none⟩) (v := .pointer (some ⟨ba, 0, none⟩)) (by decide) (by simp)
    go_simp
  · intro _ q hq e; simp only [List.mem_cons, List.mem_nil_iff, or_false] at hq; rcases hq with rfl | rfl <;> first | assumption | (simp at e; done) | (go_simp; done) | (simp; done)
  simp only [Act.put, List.setIfInBounds_toArray, List.set_cons_succ, List.set_cons_zero]
  repeat (refine Own.st_blind _ rfl rfl (CR.off _ (by decide) _) ?_; go_big_quiet_step (fail); refine wpQuiet_nil ?_)
  refine Own.st_load _ rfl rfl (.pointer (some ⟨b, 0, none⟩)) (fun w' _ => by go_simp) (CR.off _ (by decide) _) ?_
  simp only [Act.put, List.setIfInBounds_toArray, List.set_cons_succ, List.set_cons_zero]
  repeat (refine Own.st_blind _ rfl rfl (CR.off _ (by decide) _) ?_; go_big_quiet_step (fail); refine wpQuiet_nil ?_)
  refine Own.st_load _ rfl rfl (.pointer (some ⟨ba, 0, none⟩)) (fun w' hw' => ?_) ?_ ?_
  · have hg0 := hw'.get (a := ⟨b, 1, none⟩) (v := .pointer (some ⟨ba, 0, none⟩)) (by decide) (by simp)
    go_simp
  · intro _ q hq e; simp only [List.mem_cons, List.mem_nil_iff, or_false] at hq; rcases hq with rfl | rfl <;> first | assumption | (simp at e; done) | (go_simp; done) | (simp; done)
  simp only [Act.put, List.setIfInBounds_toArray, List.set_cons_succ, List.set_cons_zero]
  repeat (refine Own.st_blind _ rfl rfl (CR.off _ (by decide) _) ?_; go_big_quiet_step (fail); refine wpQuiet_nil ?_)
  refine Own.st_do _ rfl rfl (fun K hK => ?_)
  go_simp
  refine (CC.out _).mono ?_
  rintro e w1 ⟨j, rfl, c1', vl1, ps1, qs1, k1, X1, f1, p1, p2, p3, p4⟩
  have y1 : w1.cell? ⟨b, 1, none⟩ = some (.pointer (some ⟨ba, 0, none⟩)) := X1.cells.2.1
  have CA := Lib.hid (add_calls (fun k => c1' k = 2) ba sa s w1 X1.new (by omega))
  have HX1 := Lib.hid X1
  have HK1 := Lib.hid k1
  have HF1 := Lib.hid f1
  have HP1 := Lib.hid p1
  have HP2 := Lib.hid p2
  have HP3 := Lib.hid p3
  have HP4 := Lib.hid p4
  clear X1 k1 f1 p1 p2 p3 p4
  refine hK _ _ (fun q hq hd _ => ?_) ?_
  · intro _ q hq e; simp only [List.mem_cons, List.mem_nil_iff, or_false] at hq; rcases hq with rfl | rfl <;> first | assumption | (simp at e; done) | (go_simp; done) | (simp; done)
  clear hK K
  refine Own.st_do _ rfl rfl (fun K hK => ?_)
  go_simp
  refine CA.out.mono ?_
  rintro e w2 ⟨rfl, t2, f2⟩
  have X2 := HX1.out.added f2 t2
  have y2 : w2.cell? ⟨b, 1, none⟩ = some (.pointer (some ⟨ba, 0, none⟩)) := X2.cells.2.1
  have ql1 : qs1.length < 65536 := by
    have h1 := len_le_pLen qs1 (fun q hq => (HX1.out.qok q hq).2.1)
    have h2 := HP4.out.len
    have h3 := HL.out
    omega
  have CPu := Lib.hid (bput_calls X2 j ⟨true, sa.length, s.size⟩ HP4.out.le ql1 hs (by simp only [if_true, List.length_append, HDL.out]; exact Nat.le_refl _) (by simp only; omega) (by have := HP1.out; omega))
  simp only [if_true] at CPu
  have HX2 := Lib.hid X2
  have HF2 := Lib.hid f2
  clear X2 f2 t2 CA ql1
  refine hK _ _ (fun q hq hd _ => ?_) ?_
  · intro _ q hq e; simp only [List.mem_cons, List.mem_nil_iff, or_false] at hq; rcases hq with rfl | rfl <;> first | assumption | (simp at e; done) | (go_simp; done) | (simp; done)
  clear hK K
  refine Own.st_do _ rfl rfl (fun K hK => ?_)
  go_simp
  refine hK _ _ (fun q hq hd => by rw [(by decide : ∀ x ∈ [9, 15], Own.dep [0, 0, 0, 6, 0, 16, 48, 112, 240, 496, 0, 1024, 3072, 7168, 15360, 31744, 0, 130062, 0, 262144, 1048574, 2097151] 20 x = true) q hq] at hd; cases hd) ?_
  clear hK K
  refine Own.st_do _ rfl rfl (fun K hK => ?_)
  go_simp
  refine CPu.out.mono ?_
  rintro e w3 ⟨rfl, c3', vl3, k3, X3, f3⟩
  refine hK _ _ (fun q hq hd => by rw [(by decide : ∀ x ∈ [9, 15], Own.dep [0, 0, 0, 6, 0, 16, 48, 112, 240, 496, 0, 1024, 3072, 7168, 15360, 31744, 0, 130062, 0, 262144, 1048574, 2097151] 21 x = true) q hq] at hd; cases hd) ?_
  clear hK K
  refine Own.mix_done ?_
  have HX3 := Lib.hid X3
  have HF3 := Lib.hid f3
  have HK3 := Lib.hid k3
  clear X3 f3 k3 CPu y1 y2
  go_wp2_with (fail)
  go_ret
  have z1 : w.heap.size ≤ w1.heap.size := HF1.out.size
  have z2 := HF2.out.size
  have col2 : ∀ k, k < w.heap.size → recol c1' w1.heap.size w2.heap.size 2 k = c k := fun k hk => by rw [recol_old (by omega)]; exact HK1.out k hk
  have F2 : Fr (InB c) w w2 := by
    have F1 : Fr (InB c) w w1 := ⟨HF1.out.os, HF1.out.tape, HF1.out.output, HF1.out.size, HF1.out.block⟩
    exact F1.next (c1 := c1') (fun k hk => HK1.out k hk) (HF2.out.mono fun k hk => by have e' : c1' k = 2 := hk; unfold InB; omega)
  have F3 := F2.next col2 HF3.out
  refine ⟨rfl, c3', vl3, _, _, fun k hk => by rw [HK3.out k (by omega)]; exact col2 k hk, HX3.out, F3, ?_, ?_, ?_⟩
  · have := HP1.out; rw [List.length_append, List.length_singleton]; omega
  · have := HP2.out; have := HP4.out.le; simp only [List.length_append, List.length_cons, List.length_take, List.length_drop]; omega
  · have hq1 := HX1.out.qok
    have hq2 : ∀ q ∈ qs1, POk so (sa ++ s.data.toList) ps1 q := fun q hq => (hq1 q hq).grow
    rw [pText_append, pText_take hq2, show pText so (sa ++ s.data.toList) ((ps1.length, (⟨true, sa.length, s.size⟩ : Pc)) :: qs1.drop j) = Pc.text so (sa ++ s.data.toList) ⟨true, sa.length, s.size⟩ ++ pText so (sa ++ s.data.toList) (qs1.drop j) from rfl, pText_drop hq2, pText_more qs1 hq1, HP3.out, HP4.out.at']
    congr 2
    simp only [Pc.text, if_true, List.drop_left]
    rw [← HDL.out, List.take_length]
end
end Go.Proofs.Ytemcffihfeaniaa

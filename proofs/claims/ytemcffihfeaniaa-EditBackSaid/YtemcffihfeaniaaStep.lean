/- the laws' step of both texts. -/
import Derived.Test.YtemcffihfeaniaaMd
import Derived.Test.YtemcffihfeaniaaAvBa
import Derived.Deep.DeepCutAuto
import Derived.Deep.Cut
import Derived.Outline
namespace Go.Proofs.Ytemcffihfeaniaa
open Go.RowKit Go.Deep Go.Own
set_option linter.unusedVariables false
section
variable {K : Nat → Prop} {w w' : World} {b : Nat} {text : List UInt8} {most k g : Nat}
theorem bk_pieces (h : Bk K w b text most k g) : Calls Try.prog 62 #[.pointer (some ⟨b, 0, none⟩)] w fun e w' => e = .returned (.int .i64 (k : Nat)) ∧ w = w' := by
  obtain ⟨⟨c, so, sa, bo, ba, bt, vl, ps, qs, X, h1, h2, h3, h4, h5, h6⟩, h7⟩ := h
  rw [← h3]; exact bpieces_calls X
theorem bk_height (h : Bk K w b text most k g) : ∃ hh : Nat, (Tr.least hh ≤ k ∧ hh ≤ 40) ∧ Calls Try.prog 67 #[.pointer (some ⟨b, 0, none⟩)] w fun e w' => e = .returned (.int .i64 (hh : Nat)) ∧ w = w' := by
  obtain ⟨⟨c, so, sa, bo, ba, bt, vl, ps, qs, X, h1, h2, h3, h4, h5, h6⟩, h7⟩ := h
  rw [← h3]; exact bheight_calls X
theorem bk_byte (h : Bk K w b text most k g) (hg : g ≤ 1000000) (a : Nat) (x : UInt8) (hx : text[a]? = some x) : Calls Try.prog 66 #[.pointer (some ⟨b, 0, none⟩), .int .i64 (a : Nat)] w fun e w' => e = .returned (.tuple #[.int .u8 (x.toNat : Int), .int .i64 0]) ∧ Bk K w' b text most k g ∧ Kp K w w' := by
  have H := h
  obtain ⟨⟨c, so, sa, bo, ba, bt, vl, ps, qs, X, h1, h2, h3, h4, h5, h6⟩, h7, h8, h9⟩ := h
  have e1 := pText_length qs X.qok
  rw [h2] at e1
  exact (bbyte_ok X a x (by rw [h2]; exact hx) (by omega) (by omega) (by omega)).mono fun e w' ⟨a1, a2⟩ => ⟨a1, H.later a2, Kp.of_below a2⟩
theorem bk_byte_no (h : Bk K w b text most k g) (a : Int) (hn : ¬ (0 ≤ a ∧ a < text.length)) : Calls Try.prog 66 #[.pointer (some ⟨b, 0, none⟩), .int .i64 a] w fun e w' => e = .returned (.tuple #[.int .u8 0, .int .i64 2]) ∧ w = w' := by
  obtain ⟨⟨c, so, sa, bo, ba, bt, vl, ps, qs, X, h1, h2, h3, h4, h5, h6⟩, h7, h8, h9⟩ := h
  have e1 := pText_length qs X.qok
  rw [h2] at e1
  exact bbyte_no X a (by rw [← e1]; exact hn)
theorem bk_len (h : Bk K w b text most k g) : Calls Try.prog 37 #[.pointer (some ⟨b, 0, none⟩)] w fun e w' => e = .returned (.int .i64 (text.length : Nat)) ∧ w = w' := by
  obtain ⟨⟨c, so, sa, bo, ba, bt, vl, ps, qs, X, h1, h2, h3, h4, h5, h6⟩, h7⟩ := h
  have e1 := pText_length qs X.qok
  rw [h2] at e1
  rw [e1]; exact blen_calls X
theorem Bk.pieces_le (h : Bk K w b text most k g) : k ≤ text.length ∧ (k = 0 ↔ text.length = 0) := by
  obtain ⟨⟨c, so, sa, bo, ba, bt, vl, ps, qs, X, h1, h2, h3, h4, h5, h6⟩, h7⟩ := h
  have e1 := pText_length qs X.qok
  have e2 := len_le_pLen qs (fun q hq => (X.qok q hq).2.1)
  rw [h2] at e1
  refine ⟨by omega, fun h => ?_, fun h => by omega⟩
  have : qs = [] := List.eq_nil_of_length_eq_zero (by omega)
  rw [e1, this]; rfl
/-- what turns kept blocks alone -/
theorem Bk.other {F : Nat → Prop} (h : Bk K w b text most k g) (f : Fr F w w') (hF : ∀ j, F j → K j) : Bk K w' b text most k g := by
  obtain ⟨⟨c, so, sa, bo, ba, bt, vl, ps, qs, X, h1, h2⟩, h7, h8, h9⟩ := h
  exact ⟨⟨c, so, sa, bo, ba, bt, vl, ps, qs, X.keep f.size (fun j hj hc => f.block j hj fun hf => h1 j hc.ne (hF j hf)), h1, h2⟩, fun j hj => Nat.lt_of_lt_of_le (h7 j hj) f.size, h8, h9⟩
theorem Kp.other {F : Nat → Prop} {L : Nat → Prop} (f : Fr F w w') (hF : ∀ j, F j → ¬ L j) : Kp L w w' := Fr.mono f hF
end
/-- a buffer and the laws' flat text beside it -/
structure Sp (W w : World) (b m : Nat) (x : ByteArray) (M k g : Nat) : Prop where
  bk : Bk (fun j => j < W.heap.size ∨ j = m) w b x.data.toList M k g
  md : MdAt w m x M
  below : Below W.heap.size W w
def StepPost (W : World) (b m M g : Nat) (w' : World) : Prop := ∃ x k, Sp W w' b m x M k (g + 1)
set_option maxRecDepth 100000 in
set_option maxHeartbeats 8000000 in
theorem step_calls {W w : World} {b m : Nat} {x : ByteArray} {M k g : Nat} (kd a n : Int) (s : ByteArray) (h : Sp W w b m x M k g) (hg : g ≤ 999990) (hs : s.size ≤ 140737488351232) (hmlt : ¬ m < W.heap.size) :
    Calls Try.prog 39 #[.pointer (some ⟨b, 0, none⟩), .pointer (some ⟨m, 0, none⟩), .agg #[.int .i64 kd, .int .i64 a, .int .i64 n, .string s]] w fun e w' => e = .returned (.bool true) ∧ StepPost W b m M g w' := by
  obtain ⟨k7, hk7, _, cp0⟩ := place_n kd 7 (by decide) (by decide)
  have CP : Hid (∀ w : World, Calls Try.prog 17 #[.int .i64 kd, .int .i64 7] w fun e w' => e = .returned (.int .i64 (k7 : Nat)) ∧ w = w') := Lib.hid cp0
  clear cp0
  have H := Lib.hid h
  have hx : x.size ≤ 65536 := by have h1 := h.bk.le; have h2 := h.bk.most; rw [show x.data.toList.length = x.size by simp] at h1; omega
  have hkl := h.bk.pieces_le
  have hk : k ≤ 65536 := by rw [show x.data.toList.length = x.size by simp] at hkl; omega
  have hM := h.bk.most
  have F1 := Lib.hid (fun o => h.bk.fresh o)
  have CPi := Lib.hid (fun o => bk_pieces (h.bk.fresh o))
  clear h hkl
  go_enter Try.func39, Try.ntmps39
  go_wp2_with (fail)
  refine (CPi.out _).mono ?_
  rintro e w1 ⟨rfl, rfl⟩
  go_wp2_with (fail)
  refine (CP.out _).mono ?_
  rintro e w2 ⟨rfl, rfl⟩
  obtain ⟨w1, hw1⟩ : ∃ w1, w1 = w.alloc (.cells #[Value.int .i64 kd, .int .i64 a, .int .i64 n, .string s] 61) := ⟨_, rfl⟩
  obtain ⟨O, hO⟩ : ∃ O, O = w.heap.size := ⟨_, rfl⟩
  rw [← hw1, ← hO]
  have KB := Lib.hid (show Bk (fun j => (j < W.heap.size ∨ j = m) ∨ j = O) w1 b x.data.toList M k g by rw [hw1, hO]; exact F1.out _)
  have n1 : w1.heap[O]? = some (.cells #[Value.int .i64 kd, .int .i64 a, .int .i64 n, .string s] 61 (0, 0)) := by rw [hw1, hO]; exact blk_alloc_new w _
  have ml : m < w.heap.size := (Array.getElem?_eq_some_iff.1 H.out.md).1
  have m1 : MdAt w1 m x M := by unfold MdAt; rw [hw1, blk_alloc_lt _ _ _ ml]; exact H.out.md
  have mO : m ≠ O := by omega
  have d0 : w1.cell? ⟨O, 0, none⟩ = some (Value.int .i64 kd) := by simp [World.cell?, n1]
  have d1 : w1.cell? ⟨O, 1, none⟩ = some (Value.int .i64 a) := by simp [World.cell?, n1]
  have d2 : w1.cell? ⟨O, 2, none⟩ = some (Value.int .i64 n) := by simp [World.cell?, n1]
  have d3 : w1.cell? ⟨O, 3, none⟩ = some (Value.string s) := by simp [World.cell?, n1]
  have N1 := Lib.hid n1
  have M1 := Lib.hid m1
  have L1 := Lib.hid (show Below W.heap.size W w1 by rw [hw1]; exact H.out.below.trans ((Below.refl _ _).alloc H.out.below.size _))
  clear hw1 n1 m1 F1 CPi CP hO ml
  have hmW : W.heap.size ≤ m := by
    rcases Nat.lt_or_ge m W.heap.size with h | h
    · exfalso; exact hmlt h
    · exact h
  by_cases h3 : k7 < 3
  · have g1 : decide (k7 < 3) = true := by simpa using h3
    go_wp2_with (fail)
    refine Own.region_mix (CR [2, 4, 8, 10] [(2, ⟨O, 1, none⟩, .int .i64 a), (4, ⟨O, 3, none⟩, .string s), (8, ⟨O, 1, none⟩, .int .i64 a), (10, ⟨O, 3, none⟩, .string s)]) [2, 4, 8, 10] [0, 0, 2, 0, 8, 31, 0, 0, 128, 0, 512, 2047, 4095, 8191, 16383, 32767, 16383, 81919, 262143, 524287] (Own.Ord.run [(0, true), (1, true), (2, true), (3, true), (4, true), (6, true), (7, true), (8, true), (9, true), (10, true), (5, false), (11, false), (12, true), (13, true), (14, true), (16, true), (17, true), (15, false), (18, true), (19, true)] .done) (by kernel_rfl) (by kernel_rfl) (fun dst v c a w h => by cases dst <;> exact h) (fun x hx w => CR.off x hx w) ?_
    simp only [Own.Ord.run]
    repeat (refine Own.st_blind _ rfl rfl (CR.off _ (by decide) _) ?_; go_big_quiet_step (fail); refine wpQuiet_nil ?_)
    refine Own.st_load _ rfl rfl (.int .i64 a) (fun w' hw' => ?_) ?_ ?_
    · have hg0 := hw'.get (a := ⟨O, 1, none⟩) (v := .int .i64 a) (by decide) (by simp)
      go_simp
    · intro _ q hq e; simp only [List.mem_cons, List.mem_nil_iff, or_false] at hq; rcases hq with rfl | rfl | rfl | rfl <;> first | assumption | (simp at e; done) | (go_simp; done) | (simp; done)
    simp only [Act.put, List.setIfInBounds_toArray, List.set_cons_succ, List.set_cons_zero]
    repeat (refine Own.st_blind _ rfl rfl (CR.off _ (by decide) _) ?_; go_big_quiet_step (fail); refine wpQuiet_nil ?_)
    refine Own.st_load _ rfl rfl (.string s) (fun w' hw' => ?_) ?_ ?_
    · have hg0 := hw'.get (a := ⟨O, 3, none⟩) (v := .string s) (by decide) (by simp)
      go_simp
    · intro _ q hq e; simp only [List.mem_cons, List.mem_nil_iff, or_false] at hq; rcases hq with rfl | rfl | rfl | rfl <;> first | assumption | (simp at e; done) | (go_simp; done) | (simp; done)
    simp only [Act.put, List.setIfInBounds_toArray, List.set_cons_succ, List.set_cons_zero]
    repeat (refine Own.st_blind _ rfl rfl (CR.off _ (by decide) _) ?_; go_big_quiet_step (fail); refine wpQuiet_nil ?_)
    refine Own.st_load _ rfl rfl (.int .i64 a) (fun w' hw' => ?_) ?_ ?_
    · have hg0 := hw'.get (a := ⟨O, 1, none⟩) (v := .int .i64 a) (by decide) (by simp)
      go_simp
    · intro _ q hq e; simp only [List.mem_cons, List.mem_nil_iff, or_false] at hq; rcases hq with rfl | rfl | rfl | rfl <;> first | assumption | (simp at e; done) | (go_simp; done) | (simp; done)
    simp only [Act.put, List.setIfInBounds_toArray, List.set_cons_succ, List.set_cons_zero]
    repeat (refine Own.st_blind _ rfl rfl (CR.off _ (by decide) _) ?_; go_big_quiet_step (fail); refine wpQuiet_nil ?_)
    refine Own.st_load _ rfl rfl (.string s) (fun w' hw' => ?_) ?_ ?_
    · have hg0 := hw'.get (a := ⟨O, 3, none⟩) (v := .string s) (by decide) (by simp)
      go_simp
    · intro _ q hq e; simp only [List.mem_cons, List.mem_nil_iff, or_false] at hq; rcases hq with rfl | rfl | rfl | rfl <;> first | assumption | (simp at e; done) | (go_simp; done) | (simp; done)
    simp only [Act.put, List.setIfInBounds_toArray, List.set_cons_succ, List.set_cons_zero]
    refine Own.st_do _ rfl rfl (fun K hK => ?_)
    go_simp
    refine (bk_insert (KB.out.drewN 1) (by omega) a s hs).mono ?_
    rintro e w2 ⟨rfl, kk, hkk, t2, p2⟩
    have p2 := (Kp.drewN _ w1 1).trans p2
    have q0 : ∀ j, w2.cell? ⟨O, j, none⟩ = w1.cell? ⟨O, j, none⟩ := fun j => World.cell?_of_block (p2.block (by exact (Array.getElem?_eq_some_iff.1 N1.out).1) (.inr rfl))
    have r1 : w2.cell? ⟨O, 1, none⟩ = some (Value.int .i64 a) := (q0 1).trans d1
    have r2 : w2.cell? ⟨O, 2, none⟩ = some (Value.int .i64 n) := (q0 2).trans d2
    have r3 : w2.cell? ⟨O, 3, none⟩ = some (Value.string s) := (q0 3).trans d3
    have m2 : MdAt w2 m x M := by unfold MdAt; rw [p2.block (Array.getElem?_eq_some_iff.1 M1.out).1 (.inl (.inr rfl))]; exact M1.out
    have T2 := Lib.hid t2
    have CM := Lib.hid (minsert_calls m x M a s w2 m2 hx hs hM)
    have L2 := Lib.hid (L1.out.trans (p2.below (fun j hj => .inl (.inl hj)) L1.out.size))
    clear t2 p2 q0 m2
    refine hK _ _ (fun q hq hd _ => ?_) ?_
    · intro _ q hq e; simp only [List.mem_cons, List.mem_nil_iff, or_false] at hq; rcases hq with rfl | rfl | rfl | rfl <;> first | assumption | (simp at e; done) | (go_simp; done) | (simp; done)
    clear hK K
    refine Own.st_do _ rfl rfl (fun K hK => ?_)
    go_simp
    refine CM.out.mono ?_
    rintro e w3 ⟨rfl, y, hy, m3, f3⟩
    have b3 := T2.out.other f3 (fun j hj => .inl (.inr hj))
    rw [← hy] at b3
    have B := Lib.hid b3
    have MM := Lib.hid m3
    have CPi := Lib.hid (bk_pieces b3)
    have LL : Hid (Below W.heap.size W w3) := Lib.hid (L2.out.trans (f3.below (fun j hj => by rw [hj]; exact hmW) L2.out.size))
    have gp : decide ((k : Int) + 2 < (kk : Int)) = false := by simp; omega
    have gp2 : decide (k + 2 < kk) = false := by simp; omega
    clear b3 m3 f3 hy CM r1 r2 r3
    refine hK _ _ (fun q hq hd => by rw [(by decide : ∀ x ∈ [2, 4, 8, 10], Own.dep [0, 0, 2, 0, 8, 31, 0, 0, 128, 0, 512, 2047, 4095, 8191, 16383, 32767, 16383, 81919, 262143, 524287] 11 x = true) q hq] at hd; cases hd) ?_
    clear hK K
    repeat (refine Own.st_blind _ rfl rfl (CR.off _ (by decide) _) ?_; go_big_quiet_step (fail); refine wpQuiet_nil ?_)
    refine Own.st_do _ rfl rfl (fun K hK => ?_)
    go_simp
    refine CPi.out.mono ?_
    rintro e w4 ⟨rfl, rfl⟩
    refine hK _ _ (fun q hq hd => by rw [(by decide : ∀ x ∈ [2, 4, 8, 10], Own.dep [0, 0, 2, 0, 8, 31, 0, 0, 128, 0, 512, 2047, 4095, 8191, 16383, 32767, 16383, 81919, 262143, 524287] 15 x = true) q hq] at hd; cases hd) ?_
    clear hK K
    repeat (refine Own.st_blind _ rfl rfl (CR.off _ (by decide) _) ?_; go_big_quiet_step (fail); refine wpQuiet_nil ?_)
    refine Own.mix_done ?_
    have CPi2 := Lib.hid (bk_pieces B.out)
    go_wp2_with (fail)
    refine CPi2.out.mono ?_
    rintro e v0 ⟨rfl, rfl⟩
    clear CPi2
    go_wp2_with (fail)
    have hkl := B.out.pieces_le
    rw [show y.data.toList.length = y.size by simp] at hkl
    have CLn := Lib.hid (bk_len (B.out.drewN 1))
    rw [show y.data.toList.length = y.size by simp] at CLn
    have CTx := Lib.hid (ks_text y (B.out.drewN 1) (by omega))
    obtain ⟨yc, _, _⟩ := MM.out.cells
    have ym := (Array.getElem?_eq_some_iff.1 MM.out).1
    have gk1 : decide ((kk : Int) ≤ (y.size : Int)) = true := by simp; omega
    have gk2 : decide (kk ≤ y.size) = true := by simp; omega
    by_cases hk0 : kk = 0
    · have hy0 : y = ⟨#[]⟩ := by
        cases y with
        | mk d => congr 1; exact Array.eq_empty_of_size_eq_zero (hkl.2.1 hk0)
      have HY0 := Lib.hid hy0
      have ge1 : y.toList.isEmpty = true := by rw [hy0, Lib.toList_data]; rfl
      have ge2 : (kk == 0) = true := by simpa using hk0
      have ge3 : ((kk : Int) == 0) = true := by simp; exact hk0
      clear hk0 hy0 hkl
      refine Own.region_mix (CR [5, 14, 29, 39] [(5, ⟨m, 0, none⟩, .string y), (14, ⟨m, 0, none⟩, .string y), (29, ⟨m, 0, none⟩, .string y), (39, ⟨m, 0, none⟩, .string y)]) [5, 14, 29, 39] [0, 1, 0, 4, 12, 28, 60, 127, 255, 511, 1023, 511, 2559, 6655, 14847, 32767, 65535, 131071, 262143, 262143, 786431, 1835007, 4194303, 8388607, 16777215, 33554431, 33554431, 100663295, 234881023, 503316479, 1040187391, 2147483647, 4294967295, 8589934591, 17179869183, 34359738367, 17179869183, 85899345919, 223338299391, 498216206335, 1047972020223, 2199023255551, 4398046511103, 8796093022207] (Own.Ord.run [(0, true), (2, true), (3, true), (4, true), (5, true), (6, true), (1, false), (7, true), (8, true), (9, true), (11, true), (12, true), (13, true), (14, true), (10, false), (15, true), (16, true), (17, true), (18, true), (19, true), (20, false), (21, false), (22, true), (23, true), (24, true), (25, true), (26, true), (27, true), (28, true), (29, true), (30, true), (31, true), (32, true), (33, true), (34, true), (35, true), (36, true), (37, true), (38, true), (39, true), (40, true), (41, true), (42, true), (43, true)] .done) (by kernel_rfl) (by kernel_rfl) (fun dst v c a w h => by cases dst <;> exact h) (fun x hx w => CR.off x hx w) ?_
      simp only [Own.Ord.run]
      repeat (refine Own.st_blind _ rfl rfl (CR.off _ (by decide) _) ?_; go_big_quiet_step (fail); refine wpQuiet_nil ?_)
      refine Own.st_load _ rfl rfl (.pointer (some ⟨m, 0, none⟩)) (fun w' _ => by go_simp) (CR.off _ (by decide) _) ?_
      simp only [Act.put, List.setIfInBounds_toArray, List.set_cons_succ, List.set_cons_zero]
      repeat (refine Own.st_blind _ rfl rfl (CR.off _ (by decide) _) ?_; go_big_quiet_step (fail); refine wpQuiet_nil ?_)
      refine Own.st_load _ rfl rfl (.string y) (fun w' hw' => ?_) ?_ ?_
      · have hg0 := hw'.get (a := ⟨m, 0, none⟩) (v := .string y) (by decide) (by simp)
        go_simp
      · intro _ q hq e; simp only [List.mem_cons, List.mem_nil_iff, or_false] at hq; rcases hq with rfl | rfl | rfl | rfl <;> first | assumption | (simp at e; done) | (go_simp; done) | (simp; done)
      simp only [Act.put, List.setIfInBounds_toArray, List.set_cons_succ, List.set_cons_zero]
      repeat (refine Own.st_blind _ rfl rfl (CR.off _ (by decide) _) ?_; go_big_quiet_step (fail); refine wpQuiet_nil ?_)
      refine Own.st_do _ rfl rfl (fun K hK => ?_)
      go_simp
      refine CLn.out.mono ?_
      rintro e w9 ⟨rfl, rfl⟩
      refine hK _ _ (fun q hq hd _ => ?_) ?_
      · intro _ q hq e; simp only [List.mem_cons, List.mem_nil_iff, or_false] at hq; rcases hq with rfl | rfl | rfl | rfl <;> first | assumption | (simp at e; done) | (go_simp; done) | (simp; done)
      clear hK K
      repeat (refine Own.st_blind _ rfl rfl (CR.off _ (by decide) _) ?_; go_big_quiet_step (fail); refine wpQuiet_nil ?_)
      refine Own.st_load _ rfl rfl (.pointer (some ⟨m, 0, none⟩)) (fun w' _ => by go_simp) (CR.off _ (by decide) _) ?_
      simp only [Act.put, List.setIfInBounds_toArray, List.set_cons_succ, List.set_cons_zero]
      repeat (refine Own.st_blind _ rfl rfl (CR.off _ (by decide) _) ?_; go_big_quiet_step (fail); refine wpQuiet_nil ?_)
      refine Own.st_load _ rfl rfl (.string y) (fun w' hw' => ?_) ?_ ?_
      · have hg0 := hw'.get (a := ⟨m, 0, none⟩) (v := .string y) (by decide) (by simp)
        go_simp
      · intro _ q hq e; simp only [List.mem_cons, List.mem_nil_iff, or_false] at hq; rcases hq with rfl | rfl | rfl | rfl <;> first | assumption | (simp at e; done) | (go_simp; done) | (simp; done)
      simp only [Act.put, List.setIfInBounds_toArray, List.set_cons_succ, List.set_cons_zero]
      refine Own.st_do _ rfl rfl (fun K hK => ?_)
      go_simp
      refine CTx.out.mono ?_
      rintro e v2 ⟨rfl, tb, tk⟩
      have tk := (Kp.drewN _ _ 1).trans tk
      have tm : MdAt v2 m y M := by unfold MdAt; rw [tk.block ym (.inl (.inr rfl))]; exact MM.out
      obtain ⟨yc, _, _⟩ := tm.cells
      have TB := Lib.hid tb
      have TM := Lib.hid tm
      have TL := Lib.hid (LL.out.trans (tk.below (fun j hj => .inl (.inl hj)) LL.out.size))
      obtain ⟨hh, ⟨hh1, hh2⟩, hc0⟩ := bk_height tb
      have CHt := Lib.hid hc0
      have CLe := Lib.hid (fun w => least_calls hh w hh2)
      generalize Tr.least hh = q at *
      have gq1 : decide ((q : Int) ≤ (kk : Int)) = true := by simp; omega
      have gq2 : decide (q ≤ kk) = true := by simp; omega
      clear tb tk tm hc0 CTx
      refine hK _ _ (fun q hq hd _ => ?_) ?_
      · intro _ q hq e; simp only [List.mem_cons, List.mem_nil_iff, or_false] at hq; rcases hq with rfl | rfl | rfl | rfl <;> first | assumption | (simp at e; done) | (go_simp; done) | (simp; done)
      clear hK K
      repeat (refine Own.st_blind _ rfl rfl (CR.off _ (by decide) _) ?_; go_big_quiet_step (fail); refine wpQuiet_nil ?_)
      refine Own.st_do _ rfl rfl (fun K hK => ?_)
      go_simp
      refine CHt.out.mono ?_
      rintro e v3 ⟨rfl, rfl⟩
      refine hK _ _ (fun q hq hd _ => ?_) ?_
      · intro _ q hq e; simp only [List.mem_cons, List.mem_nil_iff, or_false] at hq; rcases hq with rfl | rfl | rfl | rfl <;> first | assumption | (simp at e; done) | (go_simp; done) | (simp; done)
      clear hK K
      refine Own.st_do _ rfl rfl (fun K hK => ?_)
      go_simp
      refine (CLe.out _).mono ?_
      rintro e v4 ⟨rfl, rfl⟩
      refine hK _ _ (fun q hq hd _ => ?_) ?_
      · intro _ q hq e; simp only [List.mem_cons, List.mem_nil_iff, or_false] at hq; rcases hq with rfl | rfl | rfl | rfl <;> first | assumption | (simp at e; done) | (go_simp; done) | (simp; done)
      clear hK K
      repeat (refine Own.st_blind _ rfl rfl (CR.off _ (by decide) _) ?_; go_big_quiet_step (fail); refine wpQuiet_nil ?_)
      refine Own.st_load _ rfl rfl (.pointer (some ⟨m, 0, none⟩)) (fun w' _ => by go_simp) (CR.off _ (by decide) _) ?_
      simp only [Act.put, List.setIfInBounds_toArray, List.set_cons_succ, List.set_cons_zero]
      repeat (refine Own.st_blind _ rfl rfl (CR.off _ (by decide) _) ?_; go_big_quiet_step (fail); refine wpQuiet_nil ?_)
      refine Own.st_load _ rfl rfl (.string y) (fun w' hw' => ?_) ?_ ?_
      · have hg0 := hw'.get (a := ⟨m, 0, none⟩) (v := .string y) (by decide) (by simp)
        go_simp
      · intro _ q hq e; simp only [List.mem_cons, List.mem_nil_iff, or_false] at hq; rcases hq with rfl | rfl | rfl | rfl <;> first | assumption | (simp at e; done) | (go_simp; done) | (simp; done)
      simp only [Act.put, List.setIfInBounds_toArray, List.set_cons_succ, List.set_cons_zero]
      repeat (refine Own.st_blind _ rfl rfl (CR.off _ (by decide) _) ?_; go_big_quiet_step (fail); refine wpQuiet_nil ?_)
      refine Own.st_load _ rfl rfl (.pointer (some ⟨m, 0, none⟩)) (fun w' _ => by go_simp) (CR.off _ (by decide) _) ?_
      simp only [Act.put, List.setIfInBounds_toArray, List.set_cons_succ, List.set_cons_zero]
      repeat (refine Own.st_blind _ rfl rfl (CR.off _ (by decide) _) ?_; go_big_quiet_step (fail); refine wpQuiet_nil ?_)
      refine Own.st_load _ rfl rfl (.string y) (fun w' hw' => ?_) ?_ ?_
      · have hg0 := hw'.get (a := ⟨m, 0, none⟩) (v := .string y) (by decide) (by simp)
        go_simp
      · intro _ q hq e; simp only [List.mem_cons, List.mem_nil_iff, or_false] at hq; rcases hq with rfl | rfl | rfl | rfl <;> first | assumption | (simp at e; done) | (go_simp; done) | (simp; done)
      simp only [Act.put, List.setIfInBounds_toArray, List.set_cons_succ, List.set_cons_zero]
      repeat (refine Own.st_blind _ rfl rfl (CR.off _ (by decide) _) ?_; go_big_quiet_step (fail); refine wpQuiet_nil ?_)
      refine Own.mix_done ?_
      go_wp2_with (fail)
      go_ret
      exact ⟨rfl, y, kk, TB.out.more (by omega) |>.mono (fun j hj => .inl hj), TM.out, TL.out⟩
    · have ge1 : y.toList.isEmpty = false := by
        rw [Lib.toList_data, List.isEmpty_eq_false_iff, ← List.length_pos_iff]
        have e1 : y.data.toList.length = y.size := by simp
        have e2 : ¬ y.size = 0 := fun e => hk0 (hkl.2.2 e)
        omega
      have ge2 : (kk == 0) = false := by simpa using hk0
      have ge3 : ((kk : Int) == 0) = false := by simp; exact hk0
      clear hk0 hkl
      refine Own.region_mix (CR [5, 14, 29, 39] [(5, ⟨m, 0, none⟩, .string y), (14, ⟨m, 0, none⟩, .string y), (29, ⟨m, 0, none⟩, .string y), (39, ⟨m, 0, none⟩, .string y)]) [5, 14, 29, 39] [0, 1, 0, 4, 12, 28, 60, 127, 255, 511, 1023, 511, 2559, 6655, 14847, 32767, 65535, 131071, 262143, 262143, 786431, 1835007, 4194303, 8388607, 16777215, 33554431, 33554431, 100663295, 234881023, 503316479, 1040187391, 2147483647, 4294967295, 8589934591, 17179869183, 34359738367, 17179869183, 85899345919, 223338299391, 498216206335, 1047972020223, 2199023255551, 4398046511103, 8796093022207] (Own.Ord.run [(0, true), (2, true), (3, true), (4, true), (5, true), (6, true), (1, false), (7, true), (8, true), (9, true), (11, true), (12, true), (13, true), (14, true), (10, false), (15, true), (16, true), (17, true), (18, true), (19, true), (20, false), (21, false), (22, true), (23, true), (24, true), (25, true), (26, true), (27, true), (28, true), (29, true), (30, true), (31, true), (32, true), (33, true), (34, true), (35, true), (36, true), (37, true), (38, true), (39, true), (40, true), (41, true), (42, true), (43, true)] .done) (by kernel_rfl) (by kernel_rfl) (fun dst v c a w h => by cases dst <;> exact h) (fun x hx w => CR.off x hx w) ?_
      simp only [Own.Ord.run]
      repeat (refine Own.st_blind _ rfl rfl (CR.off _ (by decide) _) ?_; go_big_quiet_step (fail); refine wpQuiet_nil ?_)
      refine Own.st_load _ rfl rfl (.pointer (some ⟨m, 0, none⟩)) (fun w' _ => by go_simp) (CR.off _ (by decide) _) ?_
      simp only [Act.put, List.setIfInBounds_toArray, List.set_cons_succ, List.set_cons_zero]
      repeat (refine Own.st_blind _ rfl rfl (CR.off _ (by decide) _) ?_; go_big_quiet_step (fail); refine wpQuiet_nil ?_)
      refine Own.st_load _ rfl rfl (.string y) (fun w' hw' => ?_) ?_ ?_
      · have hg0 := hw'.get (a := ⟨m, 0, none⟩) (v := .string y) (by decide) (by simp)
        go_simp
      · intro _ q hq e; simp only [List.mem_cons, List.mem_nil_iff, or_false] at hq; rcases hq with rfl | rfl | rfl | rfl <;> first | assumption | (simp at e; done) | (go_simp; done) | (simp; done)
      simp only [Act.put, List.setIfInBounds_toArray, List.set_cons_succ, List.set_cons_zero]
      repeat (refine Own.st_blind _ rfl rfl (CR.off _ (by decide) _) ?_; go_big_quiet_step (fail); refine wpQuiet_nil ?_)
      refine Own.st_do _ rfl rfl (fun K hK => ?_)
      go_simp
      refine CLn.out.mono ?_
      rintro e w9 ⟨rfl, rfl⟩
      refine hK _ _ (fun q hq hd _ => ?_) ?_
      · intro _ q hq e; simp only [List.mem_cons, List.mem_nil_iff, or_false] at hq; rcases hq with rfl | rfl | rfl | rfl <;> first | assumption | (simp at e; done) | (go_simp; done) | (simp; done)
      clear hK K
      repeat (refine Own.st_blind _ rfl rfl (CR.off _ (by decide) _) ?_; go_big_quiet_step (fail); refine wpQuiet_nil ?_)
      refine Own.st_load _ rfl rfl (.pointer (some ⟨m, 0, none⟩)) (fun w' _ => by go_simp) (CR.off _ (by decide) _) ?_
      simp only [Act.put, List.setIfInBounds_toArray, List.set_cons_succ, List.set_cons_zero]
      repeat (refine Own.st_blind _ rfl rfl (CR.off _ (by decide) _) ?_; go_big_quiet_step (fail); refine wpQuiet_nil ?_)
      refine Own.st_load _ rfl rfl (.string y) (fun w' hw' => ?_) ?_ ?_
      · have hg0 := hw'.get (a := ⟨m, 0, none⟩) (v := .string y) (by decide) (by simp)
        go_simp
      · intro _ q hq e; simp only [List.mem_cons, List.mem_nil_iff, or_false] at hq; rcases hq with rfl | rfl | rfl | rfl <;> first | assumption | (simp at e; done) | (go_simp; done) | (simp; done)
      simp only [Act.put, List.setIfInBounds_toArray, List.set_cons_succ, List.set_cons_zero]
      refine Own.st_do _ rfl rfl (fun K hK => ?_)
      go_simp
      refine CTx.out.mono ?_
      rintro e v2 ⟨rfl, tb, tk⟩
      have tk := (Kp.drewN _ _ 1).trans tk
      have tm : MdAt v2 m y M := by unfold MdAt; rw [tk.block ym (.inl (.inr rfl))]; exact MM.out
      obtain ⟨yc, _, _⟩ := tm.cells
      have TB := Lib.hid tb
      have TM := Lib.hid tm
      have TL := Lib.hid (LL.out.trans (tk.below (fun j hj => .inl (.inl hj)) LL.out.size))
      obtain ⟨hh, ⟨hh1, hh2⟩, hc0⟩ := bk_height tb
      have CHt := Lib.hid hc0
      have CLe := Lib.hid (fun w => least_calls hh w hh2)
      generalize Tr.least hh = q at *
      have gq1 : decide ((q : Int) ≤ (kk : Int)) = true := by simp; omega
      have gq2 : decide (q ≤ kk) = true := by simp; omega
      clear tb tk tm hc0 CTx
      refine hK _ _ (fun q hq hd _ => ?_) ?_
      · intro _ q hq e; simp only [List.mem_cons, List.mem_nil_iff, or_false] at hq; rcases hq with rfl | rfl | rfl | rfl <;> first | assumption | (simp at e; done) | (go_simp; done) | (simp; done)
      clear hK K
      repeat (refine Own.st_blind _ rfl rfl (CR.off _ (by decide) _) ?_; go_big_quiet_step (fail); refine wpQuiet_nil ?_)
      refine Own.st_do _ rfl rfl (fun K hK => ?_)
      go_simp
      refine CHt.out.mono ?_
      rintro e v3 ⟨rfl, rfl⟩
      refine hK _ _ (fun q hq hd _ => ?_) ?_
      · intro _ q hq e; simp only [List.mem_cons, List.mem_nil_iff, or_false] at hq; rcases hq with rfl | rfl | rfl | rfl <;> first | assumption | (simp at e; done) | (go_simp; done) | (simp; done)
      clear hK K
      refine Own.st_do _ rfl rfl (fun K hK => ?_)
      go_simp
      refine (CLe.out _).mono ?_
      rintro e v4 ⟨rfl, rfl⟩
      refine hK _ _ (fun q hq hd _ => ?_) ?_
      · intro _ q hq e; simp only [List.mem_cons, List.mem_nil_iff, or_false] at hq; rcases hq with rfl | rfl | rfl | rfl <;> first | assumption | (simp at e; done) | (go_simp; done) | (simp; done)
      clear hK K
      repeat (refine Own.st_blind _ rfl rfl (CR.off _ (by decide) _) ?_; go_big_quiet_step (fail); refine wpQuiet_nil ?_)
      refine Own.st_load _ rfl rfl (.pointer (some ⟨m, 0, none⟩)) (fun w' _ => by go_simp) (CR.off _ (by decide) _) ?_
      simp only [Act.put, List.setIfInBounds_toArray, List.set_cons_succ, List.set_cons_zero]
      repeat (refine Own.st_blind _ rfl rfl (CR.off _ (by decide) _) ?_; go_big_quiet_step (fail); refine wpQuiet_nil ?_)
      refine Own.st_load _ rfl rfl (.string y) (fun w' hw' => ?_) ?_ ?_
      · have hg0 := hw'.get (a := ⟨m, 0, none⟩) (v := .string y) (by decide) (by simp)
        go_simp
      · intro _ q hq e; simp only [List.mem_cons, List.mem_nil_iff, or_false] at hq; rcases hq with rfl | rfl | rfl | rfl <;> first | assumption | (simp at e; done) | (go_simp; done) | (simp; done)
      simp only [Act.put, List.setIfInBounds_toArray, List.set_cons_succ, List.set_cons_zero]
      repeat (refine Own.st_blind _ rfl rfl (CR.off _ (by decide) _) ?_; go_big_quiet_step (fail); refine wpQuiet_nil ?_)
      refine Own.st_load _ rfl rfl (.pointer (some ⟨m, 0, none⟩)) (fun w' _ => by go_simp) (CR.off _ (by decide) _) ?_
      simp only [Act.put, List.setIfInBounds_toArray, List.set_cons_succ, List.set_cons_zero]
      repeat (refine Own.st_blind _ rfl rfl (CR.off _ (by decide) _) ?_; go_big_quiet_step (fail); refine wpQuiet_nil ?_)
      refine Own.st_load _ rfl rfl (.string y) (fun w' hw' => ?_) ?_ ?_
      · have hg0 := hw'.get (a := ⟨m, 0, none⟩) (v := .string y) (by decide) (by simp)
        go_simp
      · intro _ q hq e; simp only [List.mem_cons, List.mem_nil_iff, or_false] at hq; rcases hq with rfl | rfl | rfl | rfl <;> first | assumption | (simp at e; done) | (go_simp; done) | (simp; done)
      simp only [Act.put, List.setIfInBounds_toArray, List.set_cons_succ, List.set_cons_zero]
      repeat (refine Own.st_blind _ rfl rfl (CR.off _ (by decide) _) ?_; go_big_quiet_step (fail); refine wpQuiet_nil ?_)
      refine Own.mix_done ?_
      go_wp2_with (fail)
      go_ret
      exact ⟨rfl, y, kk, TB.out.more (by omega) |>.mono (fun j hj => .inl hj), TM.out, TL.out⟩
  · have g1 : decide (k7 < 3) = false := by simpa using h3
    by_cases h5 : k7 < 5
    · have g2 : decide (k7 < 5) = true := by simpa using h5
      go_wp2_with (fail)
      refine Own.region_mix (CR [2, 4, 8, 10] [(2, ⟨O, 1, none⟩, .int .i64 a), (4, ⟨O, 2, none⟩, .int .i64 n), (8, ⟨O, 1, none⟩, .int .i64 a), (10, ⟨O, 2, none⟩, .int .i64 n)]) [2, 4, 8, 10] [0, 0, 2, 0, 8, 31, 0, 0, 128, 0, 512, 2047, 4095, 8191, 16383, 32767, 16383, 81919, 262143, 524287] (Own.Ord.run [(0, true), (1, true), (2, true), (3, true), (4, true), (6, true), (7, true), (8, true), (9, true), (10, true), (5, false), (11, false), (12, true), (13, true), (14, true), (16, true), (17, true), (15, false), (18, true), (19, true)] .done) (by kernel_rfl) (by kernel_rfl) (fun dst v c a w h => by cases dst <;> exact h) (fun x hx w => CR.off x hx w) ?_
      simp only [Own.Ord.run]
      repeat (refine Own.st_blind _ rfl rfl (CR.off _ (by decide) _) ?_; go_big_quiet_step (fail); refine wpQuiet_nil ?_)
      refine Own.st_load _ rfl rfl (.int .i64 a) (fun w' hw' => ?_) ?_ ?_
      · have hg0 := hw'.get (a := ⟨O, 1, none⟩) (v := .int .i64 a) (by decide) (by simp)
        go_simp
      · intro _ q hq e; simp only [List.mem_cons, List.mem_nil_iff, or_false] at hq; rcases hq with rfl | rfl | rfl | rfl <;> first | assumption | (simp at e; done) | (go_simp; done) | (simp; done)
      simp only [Act.put, List.setIfInBounds_toArray, List.set_cons_succ, List.set_cons_zero]
      repeat (refine Own.st_blind _ rfl rfl (CR.off _ (by decide) _) ?_; go_big_quiet_step (fail); refine wpQuiet_nil ?_)
      refine Own.st_load _ rfl rfl (.int .i64 n) (fun w' hw' => ?_) ?_ ?_
      · have hg0 := hw'.get (a := ⟨O, 2, none⟩) (v := .int .i64 n) (by decide) (by simp)
        go_simp
      · intro _ q hq e; simp only [List.mem_cons, List.mem_nil_iff, or_false] at hq; rcases hq with rfl | rfl | rfl | rfl <;> first | assumption | (simp at e; done) | (go_simp; done) | (simp; done)
      simp only [Act.put, List.setIfInBounds_toArray, List.set_cons_succ, List.set_cons_zero]
      repeat (refine Own.st_blind _ rfl rfl (CR.off _ (by decide) _) ?_; go_big_quiet_step (fail); refine wpQuiet_nil ?_)
      refine Own.st_load _ rfl rfl (.int .i64 a) (fun w' hw' => ?_) ?_ ?_
      · have hg0 := hw'.get (a := ⟨O, 1, none⟩) (v := .int .i64 a) (by decide) (by simp)
        go_simp
      · intro _ q hq e; simp only [List.mem_cons, List.mem_nil_iff, or_false] at hq; rcases hq with rfl | rfl | rfl | rfl <;> first | assumption | (simp at e; done) | (go_simp; done) | (simp; done)
      simp only [Act.put, List.setIfInBounds_toArray, List.set_cons_succ, List.set_cons_zero]
      repeat (refine Own.st_blind _ rfl rfl (CR.off _ (by decide) _) ?_; go_big_quiet_step (fail); refine wpQuiet_nil ?_)
      refine Own.st_load _ rfl rfl (.int .i64 n) (fun w' hw' => ?_) ?_ ?_
      · have hg0 := hw'.get (a := ⟨O, 2, none⟩) (v := .int .i64 n) (by decide) (by simp)
        go_simp
      · intro _ q hq e; simp only [List.mem_cons, List.mem_nil_iff, or_false] at hq; rcases hq with rfl | rfl | rfl | rfl <;> first | assumption | (simp at e; done) | (go_simp; done) | (simp; done)
      simp only [Act.put, List.setIfInBounds_toArray, List.set_cons_succ, List.set_cons_zero]
      refine Own.st_do _ rfl rfl (fun K hK => ?_)
      go_simp
      refine (bk_delete (KB.out.drewN 1) (by omega) a n).mono ?_
      rintro e w2 ⟨rfl, kk, hkk, t2, p2⟩
      have p2 := (Kp.drewN _ w1 1).trans p2
      have q0 : ∀ j, w2.cell? ⟨O, j, none⟩ = w1.cell? ⟨O, j, none⟩ := fun j => World.cell?_of_block (p2.block (by exact (Array.getElem?_eq_some_iff.1 N1.out).1) (.inr rfl))
      have r1 : w2.cell? ⟨O, 1, none⟩ = some (Value.int .i64 a) := (q0 1).trans d1
      have r2 : w2.cell? ⟨O, 2, none⟩ = some (Value.int .i64 n) := (q0 2).trans d2
      have r3 : w2.cell? ⟨O, 3, none⟩ = some (Value.string s) := (q0 3).trans d3
      have m2 : MdAt w2 m x M := by unfold MdAt; rw [p2.block (Array.getElem?_eq_some_iff.1 M1.out).1 (.inl (.inr rfl))]; exact M1.out
      have T2 := Lib.hid t2
      have CM := Lib.hid (mremove_calls m x M a n w2 m2 hx)
      have L2 := Lib.hid (L1.out.trans (p2.below (fun j hj => .inl (.inl hj)) L1.out.size))
      clear t2 p2 q0 m2
      refine hK _ _ (fun q hq hd _ => ?_) ?_
      · intro _ q hq e; simp only [List.mem_cons, List.mem_nil_iff, or_false] at hq; rcases hq with rfl | rfl | rfl | rfl <;> first | assumption | (simp at e; done) | (go_simp; done) | (simp; done)
      clear hK K
      refine Own.st_do _ rfl rfl (fun K hK => ?_)
      go_simp
      refine CM.out.mono ?_
      rintro e w3 ⟨rfl, y, hy, m3, f3⟩
      have b3 := T2.out.other f3 (fun j hj => .inl (.inr hj))
      rw [← hy] at b3
      have B := Lib.hid b3
      have MM := Lib.hid m3
      have CPi := Lib.hid (bk_pieces b3)
      have LL : Hid (Below W.heap.size W w3) := Lib.hid (L2.out.trans (f3.below (fun j hj => by rw [hj]; exact hmW) L2.out.size))
      have gp : decide ((k : Int) + 1 < (kk : Int)) = false := by simp; omega
      have gp2 : decide (k + 1 < kk) = false := by simp; omega
      clear b3 m3 f3 hy CM r1 r2 r3
      refine hK _ _ (fun q hq hd => by rw [(by decide : ∀ x ∈ [2, 4, 8, 10], Own.dep [0, 0, 2, 0, 8, 31, 0, 0, 128, 0, 512, 2047, 4095, 8191, 16383, 32767, 16383, 81919, 262143, 524287] 11 x = true) q hq] at hd; cases hd) ?_
      clear hK K
      repeat (refine Own.st_blind _ rfl rfl (CR.off _ (by decide) _) ?_; go_big_quiet_step (fail); refine wpQuiet_nil ?_)
      refine Own.st_do _ rfl rfl (fun K hK => ?_)
      go_simp
      refine CPi.out.mono ?_
      rintro e w4 ⟨rfl, rfl⟩
      refine hK _ _ (fun q hq hd => by rw [(by decide : ∀ x ∈ [2, 4, 8, 10], Own.dep [0, 0, 2, 0, 8, 31, 0, 0, 128, 0, 512, 2047, 4095, 8191, 16383, 32767, 16383, 81919, 262143, 524287] 15 x = true) q hq] at hd; cases hd) ?_
      clear hK K
      repeat (refine Own.st_blind _ rfl rfl (CR.off _ (by decide) _) ?_; go_big_quiet_step (fail); refine wpQuiet_nil ?_)
      refine Own.mix_done ?_
      have CPi2 := Lib.hid (bk_pieces B.out)
      go_wp2_with (fail)
      refine CPi2.out.mono ?_
      rintro e v0 ⟨rfl, rfl⟩
      clear CPi2
      go_wp2_with (fail)
      have hkl := B.out.pieces_le
      rw [show y.data.toList.length = y.size by simp] at hkl
      have CLn := Lib.hid (bk_len (B.out.drewN 1))
      rw [show y.data.toList.length = y.size by simp] at CLn
      have CTx := Lib.hid (ks_text y (B.out.drewN 1) (by omega))
      obtain ⟨yc, _, _⟩ := MM.out.cells
      have ym := (Array.getElem?_eq_some_iff.1 MM.out).1
      have gk1 : decide ((kk : Int) ≤ (y.size : Int)) = true := by simp; omega
      have gk2 : decide (kk ≤ y.size) = true := by simp; omega
      by_cases hk0 : kk = 0
      · have hy0 : y = ⟨#[]⟩ := by
          cases y with
          | mk d => congr 1; exact Array.eq_empty_of_size_eq_zero (hkl.2.1 hk0)
        have HY0 := Lib.hid hy0
        have ge1 : y.toList.isEmpty = true := by rw [hy0, Lib.toList_data]; rfl
        have ge2 : (kk == 0) = true := by simpa using hk0
        have ge3 : ((kk : Int) == 0) = true := by simp; exact hk0
        clear hk0 hy0 hkl
        refine Own.region_mix (CR [5, 14, 29, 39] [(5, ⟨m, 0, none⟩, .string y), (14, ⟨m, 0, none⟩, .string y), (29, ⟨m, 0, none⟩, .string y), (39, ⟨m, 0, none⟩, .string y)]) [5, 14, 29, 39] [0, 1, 0, 4, 12, 28, 60, 127, 255, 511, 1023, 511, 2559, 6655, 14847, 32767, 65535, 131071, 262143, 262143, 786431, 1835007, 4194303, 8388607, 16777215, 33554431, 33554431, 100663295, 234881023, 503316479, 1040187391, 2147483647, 4294967295, 8589934591, 17179869183, 34359738367, 17179869183, 85899345919, 223338299391, 498216206335, 1047972020223, 2199023255551, 4398046511103, 8796093022207] (Own.Ord.run [(0, true), (2, true), (3, true), (4, true), (5, true), (6, true), (1, false), (7, true), (8, true), (9, true), (11, true), (12, true), (13, true), (14, true), (10, false), (15, true), (16, true), (17, true), (18, true), (19, true), (20, false), (21, false), (22, true), (23, true), (24, true), (25, true), (26, true), (27, true), (28, true), (29, true), (30, true), (31, true), (32, true), (33, true), (34, true), (35, true), (36, true), (37, true), (38, true), (39, true), (40, true), (41, true), (42, true), (43, true)] .done) (by kernel_rfl) (by kernel_rfl) (fun dst v c a w h => by cases dst <;> exact h) (fun x hx w => CR.off x hx w) ?_
        simp only [Own.Ord.run]
        repeat (refine Own.st_blind _ rfl rfl (CR.off _ (by decide) _) ?_; go_big_quiet_step (fail); refine wpQuiet_nil ?_)
        refine Own.st_load _ rfl rfl (.pointer (some ⟨m, 0, none⟩)) (fun w' _ => by go_simp) (CR.off _ (by decide) _) ?_
        simp only [Act.put, List.setIfInBounds_toArray, List.set_cons_succ, List.set_cons_zero]
        repeat (refine Own.st_blind _ rfl rfl (CR.off _ (by decide) _) ?_; go_big_quiet_step (fail); refine wpQuiet_nil ?_)
        refine Own.st_load _ rfl rfl (.string y) (fun w' hw' => ?_) ?_ ?_
        · have hg0 := hw'.get (a := ⟨m, 0, none⟩) (v := .string y) (by decide) (by simp)
          go_simp
        · intro _ q hq e; simp only [List.mem_cons, List.mem_nil_iff, or_false] at hq; rcases hq with rfl | rfl | rfl | rfl <;> first | assumption | (simp at e; done) | (go_simp; done) | (simp; done)
        simp only [Act.put, List.setIfInBounds_toArray, List.set_cons_succ, List.set_cons_zero]
        repeat (refine Own.st_blind _ rfl rfl (CR.off _ (by decide) _) ?_; go_big_quiet_step (fail); refine wpQuiet_nil ?_)
        refine Own.st_do _ rfl rfl (fun K hK => ?_)
        go_simp
        refine CLn.out.mono ?_
        rintro e w9 ⟨rfl, rfl⟩
        refine hK _ _ (fun q hq hd _ => ?_) ?_
        · intro _ q hq e; simp only [List.mem_cons, List.mem_nil_iff, or_false] at hq; rcases hq with rfl | rfl | rfl | rfl <;> first | assumption | (simp at e; done) | (go_simp; done) | (simp; done)
        clear hK K
        repeat (refine Own.st_blind _ rfl rfl (CR.off _ (by decide) _) ?_; go_big_quiet_step (fail); refine wpQuiet_nil ?_)
        refine Own.st_load _ rfl rfl (.pointer (some ⟨m, 0, none⟩)) (fun w' _ => by go_simp) (CR.off _ (by decide) _) ?_
        simp only [Act.put, List.setIfInBounds_toArray, List.set_cons_succ, List.set_cons_zero]
        repeat (refine Own.st_blind _ rfl rfl (CR.off _ (by decide) _) ?_; go_big_quiet_step (fail); refine wpQuiet_nil ?_)
        refine Own.st_load _ rfl rfl (.string y) (fun w' hw' => ?_) ?_ ?_
        · have hg0 := hw'.get (a := ⟨m, 0, none⟩) (v := .string y) (by decide) (by simp)
          go_simp
        · intro _ q hq e; simp only [List.mem_cons, List.mem_nil_iff, or_false] at hq; rcases hq with rfl | rfl | rfl | rfl <;> first | assumption | (simp at e; done) | (go_simp; done) | (simp; done)
        simp only [Act.put, List.setIfInBounds_toArray, List.set_cons_succ, List.set_cons_zero]
        refine Own.st_do _ rfl rfl (fun K hK => ?_)
        go_simp
        refine CTx.out.mono ?_
        rintro e v2 ⟨rfl, tb, tk⟩
        have tk := (Kp.drewN _ _ 1).trans tk
        have tm : MdAt v2 m y M := by unfold MdAt; rw [tk.block ym (.inl (.inr rfl))]; exact MM.out
        obtain ⟨yc, _, _⟩ := tm.cells
        have TB := Lib.hid tb
        have TM := Lib.hid tm
        have TL := Lib.hid (LL.out.trans (tk.below (fun j hj => .inl (.inl hj)) LL.out.size))
        obtain ⟨hh, ⟨hh1, hh2⟩, hc0⟩ := bk_height tb
        have CHt := Lib.hid hc0
        have CLe := Lib.hid (fun w => least_calls hh w hh2)
        generalize Tr.least hh = q at *
        have gq1 : decide ((q : Int) ≤ (kk : Int)) = true := by simp; omega
        have gq2 : decide (q ≤ kk) = true := by simp; omega
        clear tb tk tm hc0 CTx
        refine hK _ _ (fun q hq hd _ => ?_) ?_
        · intro _ q hq e; simp only [List.mem_cons, List.mem_nil_iff, or_false] at hq; rcases hq with rfl | rfl | rfl | rfl <;> first | assumption | (simp at e; done) | (go_simp; done) | (simp; done)
        clear hK K
        repeat (refine Own.st_blind _ rfl rfl (CR.off _ (by decide) _) ?_; go_big_quiet_step (fail); refine wpQuiet_nil ?_)
        refine Own.st_do _ rfl rfl (fun K hK => ?_)
        go_simp
        refine CHt.out.mono ?_
        rintro e v3 ⟨rfl, rfl⟩
        refine hK _ _ (fun q hq hd _ => ?_) ?_
        · intro _ q hq e; simp only [List.mem_cons, List.mem_nil_iff, or_false] at hq; rcases hq with rfl | rfl | rfl | rfl <;> first | assumption | (simp at e; done) | (go_simp; done) | (simp; done)
        clear hK K
        refine Own.st_do _ rfl rfl (fun K hK => ?_)
        go_simp
        refine (CLe.out _).mono ?_
        rintro e v4 ⟨rfl, rfl⟩
        refine hK _ _ (fun q hq hd _ => ?_) ?_
        · intro _ q hq e; simp only [List.mem_cons, List.mem_nil_iff, or_false] at hq; rcases hq with rfl | rfl | rfl | rfl <;> first | assumption | (simp at e; done) | (go_simp; done) | (simp; done)
        clear hK K
        repeat (refine Own.st_blind _ rfl rfl (CR.off _ (by decide) _) ?_; go_big_quiet_step (fail); refine wpQuiet_nil ?_)
        refine Own.st_load _ rfl rfl (.pointer (some ⟨m, 0, none⟩)) (fun w' _ => by go_simp) (CR.off _ (by decide) _) ?_
        simp only [Act.put, List.setIfInBounds_toArray, List.set_cons_succ, List.set_cons_zero]
        repeat (refine Own.st_blind _ rfl rfl (CR.off _ (by decide) _) ?_; go_big_quiet_step (fail); refine wpQuiet_nil ?_)
        refine Own.st_load _ rfl rfl (.string y) (fun w' hw' => ?_) ?_ ?_
        · have hg0 := hw'.get (a := ⟨m, 0, none⟩) (v := .string y) (by decide) (by simp)
          go_simp
        · intro _ q hq e; simp only [List.mem_cons, List.mem_nil_iff, or_false] at hq; rcases hq with rfl | rfl | rfl | rfl <;> first | assumption | (simp at e; done) | (go_simp; done) | (simp; done)
        simp only [Act.put, List.setIfInBounds_toArray, List.set_cons_succ, List.set_cons_zero]
        repeat (refine Own.st_blind _ rfl rfl (CR.off _ (by decide) _) ?_; go_big_quiet_step (fail); refine wpQuiet_nil ?_)
        refine Own.st_load _ rfl rfl (.pointer (some ⟨m, 0, none⟩)) (fun w' _ => by go_simp) (CR.off _ (by decide) _) ?_
        simp only [Act.put, List.setIfInBounds_toArray, List.set_cons_succ, List.set_cons_zero]
        repeat (refine Own.st_blind _ rfl rfl (CR.off _ (by decide) _) ?_; go_big_quiet_step (fail); refine wpQuiet_nil ?_)
        refine Own.st_load _ rfl rfl (.string y) (fun w' hw' => ?_) ?_ ?_
        · have hg0 := hw'.get (a := ⟨m, 0, none⟩) (v := .string y) (by decide) (by simp)
          go_simp
        · intro _ q hq e; simp only [List.mem_cons, List.mem_nil_iff, or_false] at hq; rcases hq with rfl | rfl | rfl | rfl <;> first | assumption | (simp at e; done) | (go_simp; done) | (simp; done)
        simp only [Act.put, List.setIfInBounds_toArray, List.set_cons_succ, List.set_cons_zero]
        repeat (refine Own.st_blind _ rfl rfl (CR.off _ (by decide) _) ?_; go_big_quiet_step (fail); refine wpQuiet_nil ?_)
        refine Own.mix_done ?_
        go_wp2_with (fail)
        go_ret
        exact ⟨rfl, y, kk, TB.out.more (by omega) |>.mono (fun j hj => .inl hj), TM.out, TL.out⟩
      · have ge1 : y.toList.isEmpty = false := by
          rw [Lib.toList_data, List.isEmpty_eq_false_iff, ← List.length_pos_iff]
          have e1 : y.data.toList.length = y.size := by simp
          have e2 : ¬ y.size = 0 := fun e => hk0 (hkl.2.2 e)
          omega
        have ge2 : (kk == 0) = false := by simpa using hk0
        have ge3 : ((kk : Int) == 0) = false := by simp; exact hk0
        clear hk0 hkl
        refine Own.region_mix (CR [5, 14, 29, 39] [(5, ⟨m, 0, none⟩, .string y), (14, ⟨m, 0, none⟩, .string y), (29, ⟨m, 0, none⟩, .string y), (39, ⟨m, 0, none⟩, .string y)]) [5, 14, 29, 39] [0, 1, 0, 4, 12, 28, 60, 127, 255, 511, 1023, 511, 2559, 6655, 14847, 32767, 65535, 131071, 262143, 262143, 786431, 1835007, 4194303, 8388607, 16777215, 33554431, 33554431, 100663295, 234881023, 503316479, 1040187391, 2147483647, 4294967295, 8589934591, 17179869183, 34359738367, 17179869183, 85899345919, 223338299391, 498216206335, 1047972020223, 2199023255551, 4398046511103, 8796093022207] (Own.Ord.run [(0, true), (2, true), (3, true), (4, true), (5, true), (6, true), (1, false), (7, true), (8, true), (9, true), (11, true), (12, true), (13, true), (14, true), (10, false), (15, true), (16, true), (17, true), (18, true), (19, true), (20, false), (21, false), (22, true), (23, true), (24, true), (25, true), (26, true), (27, true), (28, true), (29, true), (30, true), (31, true), (32, true), (33, true), (34, true), (35, true), (36, true), (37, true), (38, true), (39, true), (40, true), (41, true), (42, true), (43, true)] .done) (by kernel_rfl) (by kernel_rfl) (fun dst v c a w h => by cases dst <;> exact h) (fun x hx w => CR.off x hx w) ?_
        simp only [Own.Ord.run]
        repeat (refine Own.st_blind _ rfl rfl (CR.off _ (by decide) _) ?_; go_big_quiet_step (fail); refine wpQuiet_nil ?_)
        refine Own.st_load _ rfl rfl (.pointer (some ⟨m, 0, none⟩)) (fun w' _ => by go_simp) (CR.off _ (by decide) _) ?_
        simp only [Act.put, List.setIfInBounds_toArray, List.set_cons_succ, List.set_cons_zero]
        repeat (refine Own.st_blind _ rfl rfl (CR.off _ (by decide) _) ?_; go_big_quiet_step (fail); refine wpQuiet_nil ?_)
        refine Own.st_load _ rfl rfl (.string y) (fun w' hw' => ?_) ?_ ?_
        · have hg0 := hw'.get (a := ⟨m, 0, none⟩) (v := .string y) (by decide) (by simp)
          go_simp
        · intro _ q hq e; simp only [List.mem_cons, List.mem_nil_iff, or_false] at hq; rcases hq with rfl | rfl | rfl | rfl <;> first | assumption | (simp at e; done) | (go_simp; done) | (simp; done)
        simp only [Act.put, List.setIfInBounds_toArray, List.set_cons_succ, List.set_cons_zero]
        repeat (refine Own.st_blind _ rfl rfl (CR.off _ (by decide) _) ?_; go_big_quiet_step (fail); refine wpQuiet_nil ?_)
        refine Own.st_do _ rfl rfl (fun K hK => ?_)
        go_simp
        refine CLn.out.mono ?_
        rintro e w9 ⟨rfl, rfl⟩
        refine hK _ _ (fun q hq hd _ => ?_) ?_
        · intro _ q hq e; simp only [List.mem_cons, List.mem_nil_iff, or_false] at hq; rcases hq with rfl | rfl | rfl | rfl <;> first | assumption | (simp at e; done) | (go_simp; done) | (simp; done)
        clear hK K
        repeat (refine Own.st_blind _ rfl rfl (CR.off _ (by decide) _) ?_; go_big_quiet_step (fail); refine wpQuiet_nil ?_)
        refine Own.st_load _ rfl rfl (.pointer (some ⟨m, 0, none⟩)) (fun w' _ => by go_simp) (CR.off _ (by decide) _) ?_
        simp only [Act.put, List.setIfInBounds_toArray, List.set_cons_succ, List.set_cons_zero]
        repeat (refine Own.st_blind _ rfl rfl (CR.off _ (by decide) _) ?_; go_big_quiet_step (fail); refine wpQuiet_nil ?_)
        refine Own.st_load _ rfl rfl (.string y) (fun w' hw' => ?_) ?_ ?_
        · have hg0 := hw'.get (a := ⟨m, 0, none⟩) (v := .string y) (by decide) (by simp)
          go_simp
        · intro _ q hq e; simp only [List.mem_cons, List.mem_nil_iff, or_false] at hq; rcases hq with rfl | rfl | rfl | rfl <;> first | assumption | (simp at e; done) | (go_simp; done) | (simp; done)
        simp only [Act.put, List.setIfInBounds_toArray, List.set_cons_succ, List.set_cons_zero]
        refine Own.st_do _ rfl rfl (fun K hK => ?_)
        go_simp
        refine CTx.out.mono ?_
        rintro e v2 ⟨rfl, tb, tk⟩
        have tk := (Kp.drewN _ _ 1).trans tk
        have tm : MdAt v2 m y M := by unfold MdAt; rw [tk.block ym (.inl (.inr rfl))]; exact MM.out
        obtain ⟨yc, _, _⟩ := tm.cells
        have TB := Lib.hid tb
        have TM := Lib.hid tm
        have TL := Lib.hid (LL.out.trans (tk.below (fun j hj => .inl (.inl hj)) LL.out.size))
        obtain ⟨hh, ⟨hh1, hh2⟩, hc0⟩ := bk_height tb
        have CHt := Lib.hid hc0
        have CLe := Lib.hid (fun w => least_calls hh w hh2)
        generalize Tr.least hh = q at *
        have gq1 : decide ((q : Int) ≤ (kk : Int)) = true := by simp; omega
        have gq2 : decide (q ≤ kk) = true := by simp; omega
        clear tb tk tm hc0 CTx
        refine hK _ _ (fun q hq hd _ => ?_) ?_
        · intro _ q hq e; simp only [List.mem_cons, List.mem_nil_iff, or_false] at hq; rcases hq with rfl | rfl | rfl | rfl <;> first | assumption | (simp at e; done) | (go_simp; done) | (simp; done)
        clear hK K
        repeat (refine Own.st_blind _ rfl rfl (CR.off _ (by decide) _) ?_; go_big_quiet_step (fail); refine wpQuiet_nil ?_)
        refine Own.st_do _ rfl rfl (fun K hK => ?_)
        go_simp
        refine CHt.out.mono ?_
        rintro e v3 ⟨rfl, rfl⟩
        refine hK _ _ (fun q hq hd _ => ?_) ?_
        · intro _ q hq e; simp only [List.mem_cons, List.mem_nil_iff, or_false] at hq; rcases hq with rfl | rfl | rfl | rfl <;> first | assumption | (simp at e; done) | (go_simp; done) | (simp; done)
        clear hK K
        refine Own.st_do _ rfl rfl (fun K hK => ?_)
        go_simp
        refine (CLe.out _).mono ?_
        rintro e v4 ⟨rfl, rfl⟩
        refine hK _ _ (fun q hq hd _ => ?_) ?_
        · intro _ q hq e; simp only [List.mem_cons, List.mem_nil_iff, or_false] at hq; rcases hq with rfl | rfl | rfl | rfl <;> first | assumption | (simp at e; done) | (go_simp; done) | (simp; done)
        clear hK K
        repeat (refine Own.st_blind _ rfl rfl (CR.off _ (by decide) _) ?_; go_big_quiet_step (fail); refine wpQuiet_nil ?_)
        refine Own.st_load _ rfl rfl (.pointer (some ⟨m, 0, none⟩)) (fun w' _ => by go_simp) (CR.off _ (by decide) _) ?_
        simp only [Act.put, List.setIfInBounds_toArray, List.set_cons_succ, List.set_cons_zero]
        repeat (refine Own.st_blind _ rfl rfl (CR.off _ (by decide) _) ?_; go_big_quiet_step (fail); refine wpQuiet_nil ?_)
        refine Own.st_load _ rfl rfl (.string y) (fun w' hw' => ?_) ?_ ?_
        · have hg0 := hw'.get (a := ⟨m, 0, none⟩) (v := .string y) (by decide) (by simp)
          go_simp
        · intro _ q hq e; simp only [List.mem_cons, List.mem_nil_iff, or_false] at hq; rcases hq with rfl | rfl | rfl | rfl <;> first | assumption | (simp at e; done) | (go_simp; done) | (simp; done)
        simp only [Act.put, List.setIfInBounds_toArray, List.set_cons_succ, List.set_cons_zero]
        repeat (refine Own.st_blind _ rfl rfl (CR.off _ (by decide) _) ?_; go_big_quiet_step (fail); refine wpQuiet_nil ?_)
        refine Own.st_load _ rfl rfl (.pointer (some ⟨m, 0, none⟩)) (fun w' _ => by go_simp) (CR.off _ (by decide) _) ?_
        simp only [Act.put, List.setIfInBounds_toArray, List.set_cons_succ, List.set_cons_zero]
        repeat (refine Own.st_blind _ rfl rfl (CR.off _ (by decide) _) ?_; go_big_quiet_step (fail); refine wpQuiet_nil ?_)
        refine Own.st_load _ rfl rfl (.string y) (fun w' hw' => ?_) ?_ ?_
        · have hg0 := hw'.get (a := ⟨m, 0, none⟩) (v := .string y) (by decide) (by simp)
          go_simp
        · intro _ q hq e; simp only [List.mem_cons, List.mem_nil_iff, or_false] at hq; rcases hq with rfl | rfl | rfl | rfl <;> first | assumption | (simp at e; done) | (go_simp; done) | (simp; done)
        simp only [Act.put, List.setIfInBounds_toArray, List.set_cons_succ, List.set_cons_zero]
        repeat (refine Own.st_blind _ rfl rfl (CR.off _ (by decide) _) ?_; go_big_quiet_step (fail); refine wpQuiet_nil ?_)
        refine Own.mix_done ?_
        go_wp2_with (fail)
        go_ret
        exact ⟨rfl, y, kk, TB.out.more (by omega) |>.mono (fun j hj => .inl hj), TM.out, TL.out⟩
    · have g2 : decide (k7 < 5) = false := by simpa using h5
      by_cases h55 : k7 = 5
      · have ge5 : (k7 == 5) = true := by simpa using h55
        have ge6 : ((k7 : Int) == 5) = true := by simp; omega
        clear h55
        by_cases hin : 0 ≤ a ∧ 0 ≤ n ∧ a ≤ x.size ∧ n ≤ x.size - a
        · obtain ⟨q1, q2, q3, q4⟩ := hin
          obtain ⟨a, rfl⟩ : ∃ j : Nat, a = (j : Int) := ⟨a.toNat, by omega⟩
          obtain ⟨n, rfl⟩ : ∃ j : Nat, n = (j : Int) := ⟨n.toNat, by omega⟩
          have han : a + n ≤ x.size := by omega
          clear q1 q2 q3 q4
          have sl : ∀ w : World, (Instr.slice 9 (.string x) (some (.int .i64 (a : Nat))) (some (.int .i64 ((a : Int) + (n : Int)))) none).run Try.prog w = .ok (.string (x.extract a (a + n))) w := fun w => by
            have e : ((a : Int) + (n : Int)) = ((a + n : Nat) : Int) := by omega
            rw [e, run_slice_string (t := 9) (s := x) (k := .i64) (k' := .i64) (i := (a : Nat)) (j := ((a + n : Nat) : Int)) (h := Try.underlying9)]
            · have e2 : ((a : Int) + (n : Int)).toNat = a + n := by omega
              simp [e2]
            all_goals omega
          have CS := Lib.hid (ks_slice x KB.out (by omega) a n han)
          go_wp2_with (fail)
          refine CS.out.mono ?_
          rintro e w2 ⟨rfl, t2, p2⟩
          have p2 := p2
          have q0 : ∀ j, w2.cell? ⟨O, j, none⟩ = w1.cell? ⟨O, j, none⟩ := fun j => World.cell?_of_block (p2.block (by exact (Array.getElem?_eq_some_iff.1 N1.out).1) (.inr rfl))
          have r1 : w2.cell? ⟨O, 1, none⟩ = some (Value.int .i64 (a : Nat)) := (q0 1).trans d1
          have r2 : w2.cell? ⟨O, 2, none⟩ = some (Value.int .i64 (n : Nat)) := (q0 2).trans d2
          have r3 : w2.cell? ⟨O, 3, none⟩ = some (Value.string s) := (q0 3).trans d3
          have m2 : MdAt w2 m x M := by unfold MdAt; rw [p2.block (Array.getElem?_eq_some_iff.1 M1.out).1 (.inl (.inr rfl))]; exact M1.out
          obtain ⟨mc, _, _⟩ := m2.cells
          have B := Lib.hid (t2.drewN 1)
          have MM := Lib.hid (m2.drewN 1)
          have LL := Lib.hid ((L1.out.trans (p2.below (fun j hj => .inl (.inl hj)) L1.out.size)).trans (show Below W.heap.size w2 (w2.drewN 1) from ⟨rfl, rfl, rfl, Nat.le_refl _, fun _ _ => rfl⟩))
          obtain ⟨kk, hkk⟩ : ∃ kk, kk = k := ⟨_, rfl⟩
          obtain ⟨y, hy⟩ : ∃ y, y = x := ⟨_, rfl⟩
          clear t2 p2 q0 m2 CS d0 d1 d2 d3
          go_wp2_with (fail)
          refine Own.region_mix (CR [5, 7, 9, 32, 34, 36, 38] [(5, ⟨m, 0, none⟩, .string x), (7, ⟨O, 1, none⟩, .int .i64 (a : Nat)), (9, ⟨O, 2, none⟩, .int .i64 (n : Nat)), (32, ⟨m, 0, none⟩, .string x), (34, ⟨O, 1, none⟩, .int .i64 (a : Nat)), (36, ⟨O, 1, none⟩, .int .i64 (a : Nat)), (38, ⟨O, 2, none⟩, .int .i64 (n : Nat))]) [5, 7, 9, 32, 34, 36, 38] [0, 1, 0, 4, 12, 28, 0, 64, 0, 256, 1020, 2047, 4095, 8191, 16383, 32767, 65535, 131071, 262143, 524287, 1048575, 2097151, 4194303, 8388607, 16777215, 33554431, 67108863, 134217727, 268435455, 268435455, 805306367, 1879048191, 4026531839, 268435455, 8858370047, 268435455, 34628173823, 268435455, 137707388927, 515664510975, 1099243192319, 2199023255551, 4398046511103, 8796093022207] (Own.Ord.run [(0, true), (1, true), (2, true), (3, true), (4, true), (5, true), (6, true), (7, true), (8, true), (9, true), (10, false), (11, true), (12, true), (13, true), (14, true), (15, true), (16, true), (17, true), (18, true), (19, true), (20, true), (21, true), (22, true), (23, true), (24, true), (25, true), (26, true), (27, true), (28, true), (29, true), (30, true), (31, true), (32, true), (33, true), (34, true), (35, true), (36, true), (37, true), (38, true), (39, true), (40, true), (41, true), (42, true), (43, true)] .done) (by kernel_rfl) (by kernel_rfl) (fun dst v c a w h => by cases dst <;> exact h) (fun x hx w => CR.off x hx w) ?_
          simp only [Own.Ord.run]
          repeat (refine Own.st_blind _ rfl rfl (CR.off _ (by decide) _) ?_; go_big_quiet_step (fail); refine wpQuiet_nil ?_)
          refine Own.st_load _ rfl rfl (.pointer (some ⟨m, 0, none⟩)) (fun w' _ => by go_simp) (CR.off _ (by decide) _) ?_
          simp only [Act.put, List.setIfInBounds_toArray, List.set_cons_succ, List.set_cons_zero]
          repeat (refine Own.st_blind _ rfl rfl (CR.off _ (by decide) _) ?_; go_big_quiet_step (fail); refine wpQuiet_nil ?_)
          refine Own.st_load _ rfl rfl (.string x) (fun w' hw' => ?_) ?_ ?_
          · have hg0 := hw'.get (a := ⟨m, 0, none⟩) (v := .string x) (by decide) (by simp)
            go_simp
          · intro _ q hq e; simp only [List.mem_cons, List.mem_nil_iff, or_false] at hq; rcases hq with rfl | rfl | rfl | rfl | rfl | rfl | rfl <;> first | assumption | (simp at e; done) | (go_simp; done) | (simp; done)
          simp only [Act.put, List.setIfInBounds_toArray, List.set_cons_succ, List.set_cons_zero]
          repeat (refine Own.st_blind _ rfl rfl (CR.off _ (by decide) _) ?_; go_big_quiet_step (fail); refine wpQuiet_nil ?_)
          refine Own.st_load _ rfl rfl (.int .i64 (a : Nat)) (fun w' hw' => ?_) ?_ ?_
          · have hg0 := hw'.get (a := ⟨O, 1, none⟩) (v := .int .i64 (a : Nat)) (by decide) (by simp)
            go_simp
          · intro _ q hq e; simp only [List.mem_cons, List.mem_nil_iff, or_false] at hq; rcases hq with rfl | rfl | rfl | rfl | rfl | rfl | rfl <;> first | assumption | (simp at e; done) | (go_simp; done) | (simp; done)
          simp only [Act.put, List.setIfInBounds_toArray, List.set_cons_succ, List.set_cons_zero]
          repeat (refine Own.st_blind _ rfl rfl (CR.off _ (by decide) _) ?_; go_big_quiet_step (fail); refine wpQuiet_nil ?_)
          refine Own.st_load _ rfl rfl (.int .i64 (n : Nat)) (fun w' hw' => ?_) ?_ ?_
          · have hg0 := hw'.get (a := ⟨O, 2, none⟩) (v := .int .i64 (n : Nat)) (by decide) (by simp)
            go_simp
          · intro _ q hq e; simp only [List.mem_cons, List.mem_nil_iff, or_false] at hq; rcases hq with rfl | rfl | rfl | rfl | rfl | rfl | rfl <;> first | assumption | (simp at e; done) | (go_simp; done) | (simp; done)
          simp only [Act.put, List.setIfInBounds_toArray, List.set_cons_succ, List.set_cons_zero]
          refine Own.st_do _ rfl rfl (fun K hK => ?_)
          go_simp
          refine (min_yes x a n _ han (by omega)).mono ?_
          rintro e w5 ⟨rfl, rfl⟩
          refine hK _ _ (fun q hq hd _ => ?_) ?_
          · intro _ q hq e; simp only [List.mem_cons, List.mem_nil_iff, or_false] at hq; rcases hq with rfl | rfl | rfl | rfl | rfl | rfl | rfl <;> first | assumption | (simp at e; done) | (go_simp; done) | (simp; done)
          clear hK K
          repeat (refine Own.st_blind _ rfl rfl (CR.off _ (by decide) _) ?_; go_big_quiet_step (fail); refine wpQuiet_nil ?_)
          refine Own.st_load _ rfl rfl (.pointer (some ⟨m, 0, none⟩)) (fun w' _ => by go_simp) (CR.off _ (by decide) _) ?_
          simp only [Act.put, List.setIfInBounds_toArray, List.set_cons_succ, List.set_cons_zero]
          repeat (refine Own.st_blind _ rfl rfl (CR.off _ (by decide) _) ?_; go_big_quiet_step (fail); refine wpQuiet_nil ?_)
          refine Own.st_load _ rfl rfl (.string x) (fun w' hw' => ?_) ?_ ?_
          · have hg0 := hw'.get (a := ⟨m, 0, none⟩) (v := .string x) (by decide) (by simp)
            go_simp
          · intro _ q hq e; simp only [List.mem_cons, List.mem_nil_iff, or_false] at hq; rcases hq with rfl | rfl | rfl | rfl | rfl | rfl | rfl <;> first | assumption | (simp at e; done) | (go_simp; done) | (simp; done)
          simp only [Act.put, List.setIfInBounds_toArray, List.set_cons_succ, List.set_cons_zero]
          repeat (refine Own.st_blind _ rfl rfl (CR.off _ (by decide) _) ?_; go_big_quiet_step (fail); refine wpQuiet_nil ?_)
          refine Own.st_load _ rfl rfl (.int .i64 (a : Nat)) (fun w' hw' => ?_) ?_ ?_
          · have hg0 := hw'.get (a := ⟨O, 1, none⟩) (v := .int .i64 (a : Nat)) (by decide) (by simp)
            go_simp
          · intro _ q hq e; simp only [List.mem_cons, List.mem_nil_iff, or_false] at hq; rcases hq with rfl | rfl | rfl | rfl | rfl | rfl | rfl <;> first | assumption | (simp at e; done) | (go_simp; done) | (simp; done)
          simp only [Act.put, List.setIfInBounds_toArray, List.set_cons_succ, List.set_cons_zero]
          repeat (refine Own.st_blind _ rfl rfl (CR.off _ (by decide) _) ?_; go_big_quiet_step (fail); refine wpQuiet_nil ?_)
          refine Own.st_load _ rfl rfl (.int .i64 (a : Nat)) (fun w' hw' => ?_) ?_ ?_
          · have hg0 := hw'.get (a := ⟨O, 1, none⟩) (v := .int .i64 (a : Nat)) (by decide) (by simp)
            go_simp
          · intro _ q hq e; simp only [List.mem_cons, List.mem_nil_iff, or_false] at hq; rcases hq with rfl | rfl | rfl | rfl | rfl | rfl | rfl <;> first | assumption | (simp at e; done) | (go_simp; done) | (simp; done)
          simp only [Act.put, List.setIfInBounds_toArray, List.set_cons_succ, List.set_cons_zero]
          repeat (refine Own.st_blind _ rfl rfl (CR.off _ (by decide) _) ?_; go_big_quiet_step (fail); refine wpQuiet_nil ?_)
          refine Own.st_load _ rfl rfl (.int .i64 (n : Nat)) (fun w' hw' => ?_) ?_ ?_
          · have hg0 := hw'.get (a := ⟨O, 2, none⟩) (v := .int .i64 (n : Nat)) (by decide) (by simp)
            go_simp
          · intro _ q hq e; simp only [List.mem_cons, List.mem_nil_iff, or_false] at hq; rcases hq with rfl | rfl | rfl | rfl | rfl | rfl | rfl <;> first | assumption | (simp at e; done) | (go_simp; done) | (simp; done)
          simp only [Act.put, List.setIfInBounds_toArray, List.set_cons_succ, List.set_cons_zero]
          repeat (refine Own.st_blind _ rfl rfl (CR.off _ (by decide) _) ?_; go_big_quiet_step (fail); refine wpQuiet_nil ?_)
          refine Own.mix_done ?_
          clear mc r1 r2 r3
          obtain rfl := hkk
          obtain rfl := hy
          have CPi2 := Lib.hid (bk_pieces B.out)
          go_wp2_with (fail)
          refine CPi2.out.mono ?_
          rintro e v0 ⟨rfl, rfl⟩
          clear CPi2
          go_wp2_with (fail)
          have hkl := B.out.pieces_le
          rw [show y.data.toList.length = y.size by simp] at hkl
          have CLn := Lib.hid (bk_len (B.out.drewN 1))
          rw [show y.data.toList.length = y.size by simp] at CLn
          have CTx := Lib.hid (ks_text y (B.out.drewN 1) (by omega))
          obtain ⟨yc, _, _⟩ := MM.out.cells
          have ym := (Array.getElem?_eq_some_iff.1 MM.out).1
          have gk1 : decide ((kk : Int) ≤ (y.size : Int)) = true := by simp; omega
          have gk2 : decide (kk ≤ y.size) = true := by simp; omega
          by_cases hk0 : kk = 0
          · have hy0 : y = ⟨#[]⟩ := by
              cases y with
              | mk d => congr 1; exact Array.eq_empty_of_size_eq_zero (hkl.2.1 hk0)
            have HY0 := Lib.hid hy0
            have ge1 : y.toList.isEmpty = true := by rw [hy0, Lib.toList_data]; rfl
            have ge2 : (kk == 0) = true := by simpa using hk0
            have ge3 : ((kk : Int) == 0) = true := by simp; exact hk0
            clear hk0 hy0 hkl
            refine Own.region_mix (CR [5, 14, 29, 39] [(5, ⟨m, 0, none⟩, .string y), (14, ⟨m, 0, none⟩, .string y), (29, ⟨m, 0, none⟩, .string y), (39, ⟨m, 0, none⟩, .string y)]) [5, 14, 29, 39] [0, 1, 0, 4, 12, 28, 60, 127, 255, 511, 1023, 511, 2559, 6655, 14847, 32767, 65535, 131071, 262143, 262143, 786431, 1835007, 4194303, 8388607, 16777215, 33554431, 33554431, 100663295, 234881023, 503316479, 1040187391, 2147483647, 4294967295, 8589934591, 17179869183, 34359738367, 17179869183, 85899345919, 223338299391, 498216206335, 1047972020223, 2199023255551, 4398046511103, 8796093022207] (Own.Ord.run [(0, true), (2, true), (3, true), (4, true), (5, true), (6, true), (1, false), (7, true), (8, true), (9, true), (11, true), (12, true), (13, true), (14, true), (10, false), (15, true), (16, true), (17, true), (18, true), (19, true), (20, false), (21, false), (22, true), (23, true), (24, true), (25, true), (26, true), (27, true), (28, true), (29, true), (30, true), (31, true), (32, true), (33, true), (34, true), (35, true), (36, true), (37, true), (38, true), (39, true), (40, true), (41, true), (42, true), (43, true)] .done) (by kernel_rfl) (by kernel_rfl) (fun dst v c a w h => by cases dst <;> exact h) (fun x hx w => CR.off x hx w) ?_
            simp only [Own.Ord.run]
            repeat (refine Own.st_blind _ rfl rfl (CR.off _ (by decide) _) ?_; go_big_quiet_step (fail); refine wpQuiet_nil ?_)
            refine Own.st_load _ rfl rfl (.pointer (some ⟨m, 0, none⟩)) (fun w' _ => by go_simp) (CR.off _ (by decide) _) ?_
            simp only [Act.put, List.setIfInBounds_toArray, List.set_cons_succ, List.set_cons_zero]
            repeat (refine Own.st_blind _ rfl rfl (CR.off _ (by decide) _) ?_; go_big_quiet_step (fail); refine wpQuiet_nil ?_)
            refine Own.st_load _ rfl rfl (.string y) (fun w' hw' => ?_) ?_ ?_
            · have hg0 := hw'.get (a := ⟨m, 0, none⟩) (v := .string y) (by decide) (by simp)
              go_simp
            · intro _ q hq e; simp only [List.mem_cons, List.mem_nil_iff, or_false] at hq; rcases hq with rfl | rfl | rfl | rfl <;> first | assumption | (simp at e; done) | (go_simp; done) | (simp; done)
            simp only [Act.put, List.setIfInBounds_toArray, List.set_cons_succ, List.set_cons_zero]
            repeat (refine Own.st_blind _ rfl rfl (CR.off _ (by decide) _) ?_; go_big_quiet_step (fail); refine wpQuiet_nil ?_)
            refine Own.st_do _ rfl rfl (fun K hK => ?_)
            go_simp
            refine CLn.out.mono ?_
            rintro e w9 ⟨rfl, rfl⟩
            refine hK _ _ (fun q hq hd _ => ?_) ?_
            · intro _ q hq e; simp only [List.mem_cons, List.mem_nil_iff, or_false] at hq; rcases hq with rfl | rfl | rfl | rfl <;> first | assumption | (simp at e; done) | (go_simp; done) | (simp; done)
            clear hK K
            repeat (refine Own.st_blind _ rfl rfl (CR.off _ (by decide) _) ?_; go_big_quiet_step (fail); refine wpQuiet_nil ?_)
            refine Own.st_load _ rfl rfl (.pointer (some ⟨m, 0, none⟩)) (fun w' _ => by go_simp) (CR.off _ (by decide) _) ?_
            simp only [Act.put, List.setIfInBounds_toArray, List.set_cons_succ, List.set_cons_zero]
            repeat (refine Own.st_blind _ rfl rfl (CR.off _ (by decide) _) ?_; go_big_quiet_step (fail); refine wpQuiet_nil ?_)
            refine Own.st_load _ rfl rfl (.string y) (fun w' hw' => ?_) ?_ ?_
            · have hg0 := hw'.get (a := ⟨m, 0, none⟩) (v := .string y) (by decide) (by simp)
              go_simp
            · intro _ q hq e; simp only [List.mem_cons, List.mem_nil_iff, or_false] at hq; rcases hq with rfl | rfl | rfl | rfl <;> first | assumption | (simp at e; done) | (go_simp; done) | (simp; done)
            simp only [Act.put, List.setIfInBounds_toArray, List.set_cons_succ, List.set_cons_zero]
            refine Own.st_do _ rfl rfl (fun K hK => ?_)
            go_simp
            refine CTx.out.mono ?_
            rintro e v2 ⟨rfl, tb, tk⟩
            have tk := (Kp.drewN _ _ 1).trans tk
            have tm : MdAt v2 m y M := by unfold MdAt; rw [tk.block ym (.inl (.inr rfl))]; exact MM.out
            obtain ⟨yc, _, _⟩ := tm.cells
            have TB := Lib.hid tb
            have TM := Lib.hid tm
            have TL := Lib.hid (LL.out.trans (tk.below (fun j hj => .inl (.inl hj)) LL.out.size))
            obtain ⟨hh, ⟨hh1, hh2⟩, hc0⟩ := bk_height tb
            have CHt := Lib.hid hc0
            have CLe := Lib.hid (fun w => least_calls hh w hh2)
            generalize Tr.least hh = q at *
            have gq1 : decide ((q : Int) ≤ (kk : Int)) = true := by simp; omega
            have gq2 : decide (q ≤ kk) = true := by simp; omega
            clear tb tk tm hc0 CTx
            refine hK _ _ (fun q hq hd _ => ?_) ?_
            · intro _ q hq e; simp only [List.mem_cons, List.mem_nil_iff, or_false] at hq; rcases hq with rfl | rfl | rfl | rfl <;> first | assumption | (simp at e; done) | (go_simp; done) | (simp; done)
            clear hK K
            repeat (refine Own.st_blind _ rfl rfl (CR.off _ (by decide) _) ?_; go_big_quiet_step (fail); refine wpQuiet_nil ?_)
            refine Own.st_do _ rfl rfl (fun K hK => ?_)
            go_simp
            refine CHt.out.mono ?_
            rintro e v3 ⟨rfl, rfl⟩
            refine hK _ _ (fun q hq hd _ => ?_) ?_
            · intro _ q hq e; simp only [List.mem_cons, List.mem_nil_iff, or_false] at hq; rcases hq with rfl | rfl | rfl | rfl <;> first | assumption | (simp at e; done) | (go_simp; done) | (simp; done)
            clear hK K
            refine Own.st_do _ rfl rfl (fun K hK => ?_)
            go_simp
            refine (CLe.out _).mono ?_
            rintro e v4 ⟨rfl, rfl⟩
            refine hK _ _ (fun q hq hd _ => ?_) ?_
            · intro _ q hq e; simp only [List.mem_cons, List.mem_nil_iff, or_false] at hq; rcases hq with rfl | rfl | rfl | rfl <;> first | assumption | (simp at e; done) | (go_simp; done) | (simp; done)
            clear hK K
            repeat (refine Own.st_blind _ rfl rfl (CR.off _ (by decide) _) ?_; go_big_quiet_step (fail); refine wpQuiet_nil ?_)
            refine Own.st_load _ rfl rfl (.pointer (some ⟨m, 0, none⟩)) (fun w' _ => by go_simp) (CR.off _ (by decide) _) ?_
            simp only [Act.put, List.setIfInBounds_toArray, List.set_cons_succ, List.set_cons_zero]
            repeat (refine Own.st_blind _ rfl rfl (CR.off _ (by decide) _) ?_; go_big_quiet_step (fail); refine wpQuiet_nil ?_)
            refine Own.st_load _ rfl rfl (.string y) (fun w' hw' => ?_) ?_ ?_
            · have hg0 := hw'.get (a := ⟨m, 0, none⟩) (v := .string y) (by decide) (by simp)
              go_simp
            · intro _ q hq e; simp only [List.mem_cons, List.mem_nil_iff, or_false] at hq; rcases hq with rfl | rfl | rfl | rfl <;> first | assumption | (simp at e; done) | (go_simp; done) | (simp; done)
            simp only [Act.put, List.setIfInBounds_toArray, List.set_cons_succ, List.set_cons_zero]
            repeat (refine Own.st_blind _ rfl rfl (CR.off _ (by decide) _) ?_; go_big_quiet_step (fail); refine wpQuiet_nil ?_)
            refine Own.st_load _ rfl rfl (.pointer (some ⟨m, 0, none⟩)) (fun w' _ => by go_simp) (CR.off _ (by decide) _) ?_
            simp only [Act.put, List.setIfInBounds_toArray, List.set_cons_succ, List.set_cons_zero]
            repeat (refine Own.st_blind _ rfl rfl (CR.off _ (by decide) _) ?_; go_big_quiet_step (fail); refine wpQuiet_nil ?_)
            refine Own.st_load _ rfl rfl (.string y) (fun w' hw' => ?_) ?_ ?_
            · have hg0 := hw'.get (a := ⟨m, 0, none⟩) (v := .string y) (by decide) (by simp)
              go_simp
            · intro _ q hq e; simp only [List.mem_cons, List.mem_nil_iff, or_false] at hq; rcases hq with rfl | rfl | rfl | rfl <;> first | assumption | (simp at e; done) | (go_simp; done) | (simp; done)
            simp only [Act.put, List.setIfInBounds_toArray, List.set_cons_succ, List.set_cons_zero]
            repeat (refine Own.st_blind _ rfl rfl (CR.off _ (by decide) _) ?_; go_big_quiet_step (fail); refine wpQuiet_nil ?_)
            refine Own.mix_done ?_
            go_wp2_with (fail)
            go_ret
            exact ⟨rfl, y, kk, TB.out.more (by omega) |>.mono (fun j hj => .inl hj), TM.out, TL.out⟩
          · have ge1 : y.toList.isEmpty = false := by
              rw [Lib.toList_data, List.isEmpty_eq_false_iff, ← List.length_pos_iff]
              have e1 : y.data.toList.length = y.size := by simp
              have e2 : ¬ y.size = 0 := fun e => hk0 (hkl.2.2 e)
              omega
            have ge2 : (kk == 0) = false := by simpa using hk0
            have ge3 : ((kk : Int) == 0) = false := by simp; exact hk0
            clear hk0 hkl
            refine Own.region_mix (CR [5, 14, 29, 39] [(5, ⟨m, 0, none⟩, .string y), (14, ⟨m, 0, none⟩, .string y), (29, ⟨m, 0, none⟩, .string y), (39, ⟨m, 0, none⟩, .string y)]) [5, 14, 29, 39] [0, 1, 0, 4, 12, 28, 60, 127, 255, 511, 1023, 511, 2559, 6655, 14847, 32767, 65535, 131071, 262143, 262143, 786431, 1835007, 4194303, 8388607, 16777215, 33554431, 33554431, 100663295, 234881023, 503316479, 1040187391, 2147483647, 4294967295, 8589934591, 17179869183, 34359738367, 17179869183, 85899345919, 223338299391, 498216206335, 1047972020223, 2199023255551, 4398046511103, 8796093022207] (Own.Ord.run [(0, true), (2, true), (3, true), (4, true), (5, true), (6, true), (1, false), (7, true), (8, true), (9, true), (11, true), (12, true), (13, true), (14, true), (10, false), (15, true), (16, true), (17, true), (18, true), (19, true), (20, false), (21, false), (22, true), (23, true), (24, true), (25, true), (26, true), (27, true), (28, true), (29, true), (30, true), (31, true), (32, true), (33, true), (34, true), (35, true), (36, true), (37, true), (38, true), (39, true), (40, true), (41, true), (42, true), (43, true)] .done) (by kernel_rfl) (by kernel_rfl) (fun dst v c a w h => by cases dst <;> exact h) (fun x hx w => CR.off x hx w) ?_
            simp only [Own.Ord.run]
            repeat (refine Own.st_blind _ rfl rfl (CR.off _ (by decide) _) ?_; go_big_quiet_step (fail); refine wpQuiet_nil ?_)
            refine Own.st_load _ rfl rfl (.pointer (some ⟨m, 0, none⟩)) (fun w' _ => by go_simp) (CR.off _ (by decide) _) ?_
            simp only [Act.put, List.setIfInBounds_toArray, List.set_cons_succ, List.set_cons_zero]
            repeat (refine Own.st_blind _ rfl rfl (CR.off _ (by decide) _) ?_; go_big_quiet_step (fail); refine wpQuiet_nil ?_)
            refine Own.st_load _ rfl rfl (.string y) (fun w' hw' => ?_) ?_ ?_
            · have hg0 := hw'.get (a := ⟨m, 0, none⟩) (v := .string y) (by decide) (by simp)
              go_simp
            · intro _ q hq e; simp only [List.mem_cons, List.mem_nil_iff, or_false] at hq; rcases hq with rfl | rfl | rfl | rfl <;> first | assumption | (simp at e; done) | (go_simp; done) | (simp; done)
            simp only [Act.put, List.setIfInBounds_toArray, List.set_cons_succ, List.set_cons_zero]
            repeat (refine Own.st_blind _ rfl rfl (CR.off _ (by decide) _) ?_; go_big_quiet_step (fail); refine wpQuiet_nil ?_)
            refine Own.st_do _ rfl rfl (fun K hK => ?_)
            go_simp
            refine CLn.out.mono ?_
            rintro e w9 ⟨rfl, rfl⟩
            refine hK _ _ (fun q hq hd _ => ?_) ?_
            · intro _ q hq e; simp only [List.mem_cons, List.mem_nil_iff, or_false] at hq; rcases hq with rfl | rfl | rfl | rfl <;> first | assumption | (simp at e; done) | (go_simp; done) | (simp; done)
            clear hK K
            repeat (refine Own.st_blind _ rfl rfl (CR.off _ (by decide) _) ?_; go_big_quiet_step (fail); refine wpQuiet_nil ?_)
            refine Own.st_load _ rfl rfl (.pointer (some ⟨m, 0, none⟩)) (fun w' _ => by go_simp) (CR.off _ (by decide) _) ?_
            simp only [Act.put, List.setIfInBounds_toArray, List.set_cons_succ, List.set_cons_zero]
            repeat (refine Own.st_blind _ rfl rfl (CR.off _ (by decide) _) ?_; go_big_quiet_step (fail); refine wpQuiet_nil ?_)
            refine Own.st_load _ rfl rfl (.string y) (fun w' hw' => ?_) ?_ ?_
            · have hg0 := hw'.get (a := ⟨m, 0, none⟩) (v := .string y) (by decide) (by simp)
              go_simp
            · intro _ q hq e; simp only [List.mem_cons, List.mem_nil_iff, or_false] at hq; rcases hq with rfl | rfl | rfl | rfl <;> first | assumption | (simp at e; done) | (go_simp; done) | (simp; done)
            simp only [Act.put, List.setIfInBounds_toArray, List.set_cons_succ, List.set_cons_zero]
            refine Own.st_do _ rfl rfl (fun K hK => ?_)
            go_simp
            refine CTx.out.mono ?_
            rintro e v2 ⟨rfl, tb, tk⟩
            have tk := (Kp.drewN _ _ 1).trans tk
            have tm : MdAt v2 m y M := by unfold MdAt; rw [tk.block ym (.inl (.inr rfl))]; exact MM.out
            obtain ⟨yc, _, _⟩ := tm.cells
            have TB := Lib.hid tb
            have TM := Lib.hid tm
            have TL := Lib.hid (LL.out.trans (tk.below (fun j hj => .inl (.inl hj)) LL.out.size))
            obtain ⟨hh, ⟨hh1, hh2⟩, hc0⟩ := bk_height tb
            have CHt := Lib.hid hc0
            have CLe := Lib.hid (fun w => least_calls hh w hh2)
            generalize Tr.least hh = q at *
            have gq1 : decide ((q : Int) ≤ (kk : Int)) = true := by simp; omega
            have gq2 : decide (q ≤ kk) = true := by simp; omega
            clear tb tk tm hc0 CTx
            refine hK _ _ (fun q hq hd _ => ?_) ?_
            · intro _ q hq e; simp only [List.mem_cons, List.mem_nil_iff, or_false] at hq; rcases hq with rfl | rfl | rfl | rfl <;> first | assumption | (simp at e; done) | (go_simp; done) | (simp; done)
            clear hK K
            repeat (refine Own.st_blind _ rfl rfl (CR.off _ (by decide) _) ?_; go_big_quiet_step (fail); refine wpQuiet_nil ?_)
            refine Own.st_do _ rfl rfl (fun K hK => ?_)
            go_simp
            refine CHt.out.mono ?_
            rintro e v3 ⟨rfl, rfl⟩
            refine hK _ _ (fun q hq hd _ => ?_) ?_
            · intro _ q hq e; simp only [List.mem_cons, List.mem_nil_iff, or_false] at hq; rcases hq with rfl | rfl | rfl | rfl <;> first | assumption | (simp at e; done) | (go_simp; done) | (simp; done)
            clear hK K
            refine Own.st_do _ rfl rfl (fun K hK => ?_)
            go_simp
            refine (CLe.out _).mono ?_
            rintro e v4 ⟨rfl, rfl⟩
            refine hK _ _ (fun q hq hd _ => ?_) ?_
            · intro _ q hq e; simp only [List.mem_cons, List.mem_nil_iff, or_false] at hq; rcases hq with rfl | rfl | rfl | rfl <;> first | assumption | (simp at e; done) | (go_simp; done) | (simp; done)
            clear hK K
            repeat (refine Own.st_blind _ rfl rfl (CR.off _ (by decide) _) ?_; go_big_quiet_step (fail); refine wpQuiet_nil ?_)
            refine Own.st_load _ rfl rfl (.pointer (some ⟨m, 0, none⟩)) (fun w' _ => by go_simp) (CR.off _ (by decide) _) ?_
            simp only [Act.put, List.setIfInBounds_toArray, List.set_cons_succ, List.set_cons_zero]
            repeat (refine Own.st_blind _ rfl rfl (CR.off _ (by decide) _) ?_; go_big_quiet_step (fail); refine wpQuiet_nil ?_)
            refine Own.st_load _ rfl rfl (.string y) (fun w' hw' => ?_) ?_ ?_
            · have hg0 := hw'.get (a := ⟨m, 0, none⟩) (v := .string y) (by decide) (by simp)
              go_simp
            · intro _ q hq e; simp only [List.mem_cons, List.mem_nil_iff, or_false] at hq; rcases hq with rfl | rfl | rfl | rfl <;> first | assumption | (simp at e; done) | (go_simp; done) | (simp; done)
            simp only [Act.put, List.setIfInBounds_toArray, List.set_cons_succ, List.set_cons_zero]
            repeat (refine Own.st_blind _ rfl rfl (CR.off _ (by decide) _) ?_; go_big_quiet_step (fail); refine wpQuiet_nil ?_)
            refine Own.st_load _ rfl rfl (.pointer (some ⟨m, 0, none⟩)) (fun w' _ => by go_simp) (CR.off _ (by decide) _) ?_
            simp only [Act.put, List.setIfInBounds_toArray, List.set_cons_succ, List.set_cons_zero]
            repeat (refine Own.st_blind _ rfl rfl (CR.off _ (by decide) _) ?_; go_big_quiet_step (fail); refine wpQuiet_nil ?_)
            refine Own.st_load _ rfl rfl (.string y) (fun w' hw' => ?_) ?_ ?_
            · have hg0 := hw'.get (a := ⟨m, 0, none⟩) (v := .string y) (by decide) (by simp)
              go_simp
            · intro _ q hq e; simp only [List.mem_cons, List.mem_nil_iff, or_false] at hq; rcases hq with rfl | rfl | rfl | rfl <;> first | assumption | (simp at e; done) | (go_simp; done) | (simp; done)
            simp only [Act.put, List.setIfInBounds_toArray, List.set_cons_succ, List.set_cons_zero]
            repeat (refine Own.st_blind _ rfl rfl (CR.off _ (by decide) _) ?_; go_big_quiet_step (fail); refine wpQuiet_nil ?_)
            refine Own.mix_done ?_
            go_wp2_with (fail)
            go_ret
            exact ⟨rfl, y, kk, TB.out.more (by omega) |>.mono (fun j hj => .inl hj), TM.out, TL.out⟩
        · skip
          have CS := Lib.hid (bk_slice_no KB.out a n (by rw [show x.data.toList.length = x.size by simp]; exact hin))
          go_wp2_with (fail)
          refine CS.out.mono ?_
          rintro e w2 ⟨rfl, hw2⟩
          have t2 := KB.out
          rw [hw2] at t2
          have p2 : Kp (fun j => (j < W.heap.size ∨ j = m) ∨ j = O) w1 w2 := by rw [← hw2]; exact Kp.refl _ _
          clear hw2
          have p2 := p2
          have q0 : ∀ j, w2.cell? ⟨O, j, none⟩ = w1.cell? ⟨O, j, none⟩ := fun j => World.cell?_of_block (p2.block (by exact (Array.getElem?_eq_some_iff.1 N1.out).1) (.inr rfl))
          have r1 : w2.cell? ⟨O, 1, none⟩ = some (Value.int .i64 a) := (q0 1).trans d1
          have r2 : w2.cell? ⟨O, 2, none⟩ = some (Value.int .i64 n) := (q0 2).trans d2
          have r3 : w2.cell? ⟨O, 3, none⟩ = some (Value.string s) := (q0 3).trans d3
          have m2 : MdAt w2 m x M := by unfold MdAt; rw [p2.block (Array.getElem?_eq_some_iff.1 M1.out).1 (.inl (.inr rfl))]; exact M1.out
          obtain ⟨mc, _, _⟩ := m2.cells
          have B := Lib.hid (t2.drewN 1)
          have MM := Lib.hid (m2.drewN 1)
          have LL := Lib.hid ((L1.out.trans (p2.below (fun j hj => .inl (.inl hj)) L1.out.size)).trans (show Below W.heap.size w2 (w2.drewN 1) from ⟨rfl, rfl, rfl, Nat.le_refl _, fun _ _ => rfl⟩))
          obtain ⟨kk, hkk⟩ : ∃ kk, kk = k := ⟨_, rfl⟩
          obtain ⟨y, hy⟩ : ∃ y, y = x := ⟨_, rfl⟩
          clear t2 p2 q0 m2 CS d0 d1 d2 d3
          go_wp2_with (fail)
          refine Own.region_mix (CR [5, 7, 9] [(5, ⟨m, 0, none⟩, .string x), (7, ⟨O, 1, none⟩, .int .i64 a), (9, ⟨O, 2, none⟩, .int .i64 n)]) [5, 7, 9] [0, 1, 0, 4, 12, 28, 0, 64, 0, 256, 1020, 2047, 4095, 8191, 16383, 32767, 65535, 131071, 262143, 524287, 1048575, 2097151, 4194303, 8388607, 16777215, 33554431, 67108863, 134217727, 268435455, 268435455, 805306367, 1879048191, 4026531839, 268435455, 8858370047, 268435455, 34628173823, 268435455, 137707388927, 515664510975, 1099243192319, 2199023255551, 4398046511103, 8796093022207] (Own.Ord.run [(0, true), (1, true), (2, true), (3, true), (4, true), (5, true), (6, true), (7, true), (8, true), (9, true), (10, false), (11, true), (12, true), (13, true), (14, true), (15, true), (16, true), (17, true), (18, true), (19, true), (20, true), (21, true), (22, true), (23, true), (24, true), (25, true), (26, true), (27, true), (28, true), (29, true), (30, true), (31, true), (32, true), (33, true), (34, true), (35, true), (36, true), (37, true), (38, true), (39, true), (40, true), (41, true), (42, true), (43, true)] .done) (by kernel_rfl) (by kernel_rfl) (fun dst v c a w h => by cases dst <;> exact h) (fun x hx w => CR.off x hx w) ?_
          simp only [Own.Ord.run]
          repeat (refine Own.st_blind _ rfl rfl (CR.off _ (by decide) _) ?_; go_big_quiet_step (fail); refine wpQuiet_nil ?_)
          refine Own.st_load _ rfl rfl (.pointer (some ⟨m, 0, none⟩)) (fun w' _ => by go_simp) (CR.off _ (by decide) _) ?_
          simp only [Act.put, List.setIfInBounds_toArray, List.set_cons_succ, List.set_cons_zero]
          repeat (refine Own.st_blind _ rfl rfl (CR.off _ (by decide) _) ?_; go_big_quiet_step (fail); refine wpQuiet_nil ?_)
          refine Own.st_load _ rfl rfl (.string x) (fun w' hw' => ?_) ?_ ?_
          · have hg0 := hw'.get (a := ⟨m, 0, none⟩) (v := .string x) (by decide) (by simp)
            go_simp
          · intro _ q hq e; simp only [List.mem_cons, List.mem_nil_iff, or_false] at hq; rcases hq with rfl | rfl | rfl <;> first | assumption | (simp at e; done) | (go_simp; done) | (simp; done)
          simp only [Act.put, List.setIfInBounds_toArray, List.set_cons_succ, List.set_cons_zero]
          repeat (refine Own.st_blind _ rfl rfl (CR.off _ (by decide) _) ?_; go_big_quiet_step (fail); refine wpQuiet_nil ?_)
          refine Own.st_load _ rfl rfl (.int .i64 a) (fun w' hw' => ?_) ?_ ?_
          · have hg0 := hw'.get (a := ⟨O, 1, none⟩) (v := .int .i64 a) (by decide) (by simp)
            go_simp
          · intro _ q hq e; simp only [List.mem_cons, List.mem_nil_iff, or_false] at hq; rcases hq with rfl | rfl | rfl <;> first | assumption | (simp at e; done) | (go_simp; done) | (simp; done)
          simp only [Act.put, List.setIfInBounds_toArray, List.set_cons_succ, List.set_cons_zero]
          repeat (refine Own.st_blind _ rfl rfl (CR.off _ (by decide) _) ?_; go_big_quiet_step (fail); refine wpQuiet_nil ?_)
          refine Own.st_load _ rfl rfl (.int .i64 n) (fun w' hw' => ?_) ?_ ?_
          · have hg0 := hw'.get (a := ⟨O, 2, none⟩) (v := .int .i64 n) (by decide) (by simp)
            go_simp
          · intro _ q hq e; simp only [List.mem_cons, List.mem_nil_iff, or_false] at hq; rcases hq with rfl | rfl | rfl <;> first | assumption | (simp at e; done) | (go_simp; done) | (simp; done)
          simp only [Act.put, List.setIfInBounds_toArray, List.set_cons_succ, List.set_cons_zero]
          refine Own.st_do _ rfl rfl (fun K hK => ?_)
          go_simp
          refine (min_no x a n _ hin (by omega)).mono ?_
          rintro e w5 ⟨rfl, rfl⟩
          refine hK _ _ (fun q hq hd => by rw [(by decide : ∀ x ∈ [5, 7, 9], Own.dep [0, 1, 0, 4, 12, 28, 0, 64, 0, 256, 1020, 2047, 4095, 8191, 16383, 32767, 65535, 131071, 262143, 524287, 1048575, 2097151, 4194303, 8388607, 16777215, 33554431, 67108863, 134217727, 268435455, 268435455, 805306367, 1879048191, 4026531839, 268435455, 8858370047, 268435455, 34628173823, 268435455, 137707388927, 515664510975, 1099243192319, 2199023255551, 4398046511103, 8796093022207] 10 x = true) q hq] at hd; cases hd) ?_
          clear hK K
          repeat (refine Own.st_blind _ rfl rfl (CR.off _ (by decide) _) ?_; go_big_quiet_step (fail); refine wpQuiet_nil ?_)
          refine Own.st_skip _ rfl rfl ?_
          simp only [Act.put, List.setIfInBounds_toArray, List.set_cons_succ, List.set_cons_zero]
          repeat (refine Own.st_blind _ rfl rfl (CR.off _ (by decide) _) ?_; go_big_quiet_step (fail); refine wpQuiet_nil ?_)
          refine Own.st_skip _ rfl rfl ?_
          simp only [Act.put, List.setIfInBounds_toArray, List.set_cons_succ, List.set_cons_zero]
          repeat (refine Own.st_blind _ rfl rfl (CR.off _ (by decide) _) ?_; go_big_quiet_step (fail); refine wpQuiet_nil ?_)
          refine Own.st_skip _ rfl rfl ?_
          simp only [Act.put, List.setIfInBounds_toArray, List.set_cons_succ, List.set_cons_zero]
          repeat (refine Own.st_blind _ rfl rfl (CR.off _ (by decide) _) ?_; go_big_quiet_step (fail); refine wpQuiet_nil ?_)
          refine Own.st_skip _ rfl rfl ?_
          simp only [Act.put, List.setIfInBounds_toArray, List.set_cons_succ, List.set_cons_zero]
          repeat (refine Own.st_blind _ rfl rfl (CR.off _ (by decide) _) ?_; go_big_quiet_step (fail); refine wpQuiet_nil ?_)
          refine Own.st_skip _ rfl rfl ?_
          simp only [Act.put, List.setIfInBounds_toArray, List.set_cons_succ, List.set_cons_zero]
          repeat (refine Own.st_blind _ rfl rfl (CR.off _ (by decide) _) ?_; go_big_quiet_step (fail); refine wpQuiet_nil ?_)
          refine Own.mix_done ?_
          clear mc r1 r2 r3
          obtain rfl := hkk
          obtain rfl := hy
          have CPi2 := Lib.hid (bk_pieces B.out)
          go_wp2_with (fail)
          refine CPi2.out.mono ?_
          rintro e v0 ⟨rfl, rfl⟩
          clear CPi2
          go_wp2_with (fail)
          have hkl := B.out.pieces_le
          rw [show y.data.toList.length = y.size by simp] at hkl
          have CLn := Lib.hid (bk_len (B.out.drewN 1))
          rw [show y.data.toList.length = y.size by simp] at CLn
          have CTx := Lib.hid (ks_text y (B.out.drewN 1) (by omega))
          obtain ⟨yc, _, _⟩ := MM.out.cells
          have ym := (Array.getElem?_eq_some_iff.1 MM.out).1
          have gk1 : decide ((kk : Int) ≤ (y.size : Int)) = true := by simp; omega
          have gk2 : decide (kk ≤ y.size) = true := by simp; omega
          by_cases hk0 : kk = 0
          · have hy0 : y = ⟨#[]⟩ := by
              cases y with
              | mk d => congr 1; exact Array.eq_empty_of_size_eq_zero (hkl.2.1 hk0)
            have HY0 := Lib.hid hy0
            have ge1 : y.toList.isEmpty = true := by rw [hy0, Lib.toList_data]; rfl
            have ge2 : (kk == 0) = true := by simpa using hk0
            have ge3 : ((kk : Int) == 0) = true := by simp; exact hk0
            clear hk0 hy0 hkl
            refine Own.region_mix (CR [5, 14, 29, 39] [(5, ⟨m, 0, none⟩, .string y), (14, ⟨m, 0, none⟩, .string y), (29, ⟨m, 0, none⟩, .string y), (39, ⟨m, 0, none⟩, .string y)]) [5, 14, 29, 39] [0, 1, 0, 4, 12, 28, 60, 127, 255, 511, 1023, 511, 2559, 6655, 14847, 32767, 65535, 131071, 262143, 262143, 786431, 1835007, 4194303, 8388607, 16777215, 33554431, 33554431, 100663295, 234881023, 503316479, 1040187391, 2147483647, 4294967295, 8589934591, 17179869183, 34359738367, 17179869183, 85899345919, 223338299391, 498216206335, 1047972020223, 2199023255551, 4398046511103, 8796093022207] (Own.Ord.run [(0, true), (2, true), (3, true), (4, true), (5, true), (6, true), (1, false), (7, true), (8, true), (9, true), (11, true), (12, true), (13, true), (14, true), (10, false), (15, true), (16, true), (17, true), (18, true), (19, true), (20, false), (21, false), (22, true), (23, true), (24, true), (25, true), (26, true), (27, true), (28, true), (29, true), (30, true), (31, true), (32, true), (33, true), (34, true), (35, true), (36, true), (37, true), (38, true), (39, true), (40, true), (41, true), (42, true), (43, true)] .done) (by kernel_rfl) (by kernel_rfl) (fun dst v c a w h => by cases dst <;> exact h) (fun x hx w => CR.off x hx w) ?_
            simp only [Own.Ord.run]
            repeat (refine Own.st_blind _ rfl rfl (CR.off _ (by decide) _) ?_; go_big_quiet_step (fail); refine wpQuiet_nil ?_)
            refine Own.st_load _ rfl rfl (.pointer (some ⟨m, 0, none⟩)) (fun w' _ => by go_simp) (CR.off _ (by decide) _) ?_
            simp only [Act.put, List.setIfInBounds_toArray, List.set_cons_succ, List.set_cons_zero]
            repeat (refine Own.st_blind _ rfl rfl (CR.off _ (by decide) _) ?_; go_big_quiet_step (fail); refine wpQuiet_nil ?_)
            refine Own.st_load _ rfl rfl (.string y) (fun w' hw' => ?_) ?_ ?_
            · have hg0 := hw'.get (a := ⟨m, 0, none⟩) (v := .string y) (by decide) (by simp)
              go_simp
            · intro _ q hq e; simp only [List.mem_cons, List.mem_nil_iff, or_false] at hq; rcases hq with rfl | rfl | rfl | rfl <;> first | assumption | (simp at e; done) | (go_simp; done) | (simp; done)
            simp only [Act.put, List.setIfInBounds_toArray, List.set_cons_succ, List.set_cons_zero]
            repeat (refine Own.st_blind _ rfl rfl (CR.off _ (by decide) _) ?_; go_big_quiet_step (fail); refine wpQuiet_nil ?_)
            refine Own.st_do _ rfl rfl (fun K hK => ?_)
            go_simp
            refine CLn.out.mono ?_
            rintro e w9 ⟨rfl, rfl⟩
            refine hK _ _ (fun q hq hd _ => ?_) ?_
            · intro _ q hq e; simp only [List.mem_cons, List.mem_nil_iff, or_false] at hq; rcases hq with rfl | rfl | rfl | rfl <;> first | assumption | (simp at e; done) | (go_simp; done) | (simp; done)
            clear hK K
            repeat (refine Own.st_blind _ rfl rfl (CR.off _ (by decide) _) ?_; go_big_quiet_step (fail); refine wpQuiet_nil ?_)
            refine Own.st_load _ rfl rfl (.pointer (some ⟨m, 0, none⟩)) (fun w' _ => by go_simp) (CR.off _ (by decide) _) ?_
            simp only [Act.put, List.setIfInBounds_toArray, List.set_cons_succ, List.set_cons_zero]
            repeat (refine Own.st_blind _ rfl rfl (CR.off _ (by decide) _) ?_; go_big_quiet_step (fail); refine wpQuiet_nil ?_)
            refine Own.st_load _ rfl rfl (.string y) (fun w' hw' => ?_) ?_ ?_
            · have hg0 := hw'.get (a := ⟨m, 0, none⟩) (v := .string y) (by decide) (by simp)
              go_simp
            · intro _ q hq e; simp only [List.mem_cons, List.mem_nil_iff, or_false] at hq; rcases hq with rfl | rfl | rfl | rfl <;> first | assumption | (simp at e; done) | (go_simp; done) | (simp; done)
            simp only [Act.put, List.setIfInBounds_toArray, List.set_cons_succ, List.set_cons_zero]
            refine Own.st_do _ rfl rfl (fun K hK => ?_)
            go_simp
            refine CTx.out.mono ?_
            rintro e v2 ⟨rfl, tb, tk⟩
            have tk := (Kp.drewN _ _ 1).trans tk
            have tm : MdAt v2 m y M := by unfold MdAt; rw [tk.block ym (.inl (.inr rfl))]; exact MM.out
            obtain ⟨yc, _, _⟩ := tm.cells
            have TB := Lib.hid tb
            have TM := Lib.hid tm
            have TL := Lib.hid (LL.out.trans (tk.below (fun j hj => .inl (.inl hj)) LL.out.size))
            obtain ⟨hh, ⟨hh1, hh2⟩, hc0⟩ := bk_height tb
            have CHt := Lib.hid hc0
            have CLe := Lib.hid (fun w => least_calls hh w hh2)
            generalize Tr.least hh = q at *
            have gq1 : decide ((q : Int) ≤ (kk : Int)) = true := by simp; omega
            have gq2 : decide (q ≤ kk) = true := by simp; omega
            clear tb tk tm hc0 CTx
            refine hK _ _ (fun q hq hd _ => ?_) ?_
            · intro _ q hq e; simp only [List.mem_cons, List.mem_nil_iff, or_false] at hq; rcases hq with rfl | rfl | rfl | rfl <;> first | assumption | (simp at e; done) | (go_simp; done) | (simp; done)
            clear hK K
            repeat (refine Own.st_blind _ rfl rfl (CR.off _ (by decide) _) ?_; go_big_quiet_step (fail); refine wpQuiet_nil ?_)
            refine Own.st_do _ rfl rfl (fun K hK => ?_)
            go_simp
            refine CHt.out.mono ?_
            rintro e v3 ⟨rfl, rfl⟩
            refine hK _ _ (fun q hq hd _ => ?_) ?_
            · intro _ q hq e; simp only [List.mem_cons, List.mem_nil_iff, or_false] at hq; rcases hq with rfl | rfl | rfl | rfl <;> first | assumption | (simp at e; done) | (go_simp; done) | (simp; done)
            clear hK K
            refine Own.st_do _ rfl rfl (fun K hK => ?_)
            go_simp
            refine (CLe.out _).mono ?_
            rintro e v4 ⟨rfl, rfl⟩
            refine hK _ _ (fun q hq hd _ => ?_) ?_
            · intro _ q hq e; simp only [List.mem_cons, List.mem_nil_iff, or_false] at hq; rcases hq with rfl | rfl | rfl | rfl <;> first | assumption | (simp at e; done) | (go_simp; done) | (simp; done)
            clear hK K
            repeat (refine Own.st_blind _ rfl rfl (CR.off _ (by decide) _) ?_; go_big_quiet_step (fail); refine wpQuiet_nil ?_)
            refine Own.st_load _ rfl rfl (.pointer (some ⟨m, 0, none⟩)) (fun w' _ => by go_simp) (CR.off _ (by decide) _) ?_
            simp only [Act.put, List.setIfInBounds_toArray, List.set_cons_succ, List.set_cons_zero]
            repeat (refine Own.st_blind _ rfl rfl (CR.off _ (by decide) _) ?_; go_big_quiet_step (fail); refine wpQuiet_nil ?_)
            refine Own.st_load _ rfl rfl (.string y) (fun w' hw' => ?_) ?_ ?_
            · have hg0 := hw'.get (a := ⟨m, 0, none⟩) (v := .string y) (by decide) (by simp)
              go_simp
            · intro _ q hq e; simp only [List.mem_cons, List.mem_nil_iff, or_false] at hq; rcases hq with rfl | rfl | rfl | rfl <;> first | assumption | (simp at e; done) | (go_simp; done) | (simp; done)
            simp only [Act.put, List.setIfInBounds_toArray, List.set_cons_succ, List.set_cons_zero]
            repeat (refine Own.st_blind _ rfl rfl (CR.off _ (by decide) _) ?_; go_big_quiet_step (fail); refine wpQuiet_nil ?_)
            refine Own.st_load _ rfl rfl (.pointer (some ⟨m, 0, none⟩)) (fun w' _ => by go_simp) (CR.off _ (by decide) _) ?_
            simp only [Act.put, List.setIfInBounds_toArray, List.set_cons_succ, List.set_cons_zero]
            repeat (refine Own.st_blind _ rfl rfl (CR.off _ (by decide) _) ?_; go_big_quiet_step (fail); refine wpQuiet_nil ?_)
            refine Own.st_load _ rfl rfl (.string y) (fun w' hw' => ?_) ?_ ?_
            · have hg0 := hw'.get (a := ⟨m, 0, none⟩) (v := .string y) (by decide) (by simp)
              go_simp
            · intro _ q hq e; simp only [List.mem_cons, List.mem_nil_iff, or_false] at hq; rcases hq with rfl | rfl | rfl | rfl <;> first | assumption | (simp at e; done) | (go_simp; done) | (simp; done)
            simp only [Act.put, List.setIfInBounds_toArray, List.set_cons_succ, List.set_cons_zero]
            repeat (refine Own.st_blind _ rfl rfl (CR.off _ (by decide) _) ?_; go_big_quiet_step (fail); refine wpQuiet_nil ?_)
            refine Own.mix_done ?_
            go_wp2_with (fail)
            go_ret
            exact ⟨rfl, y, kk, TB.out.more (by omega) |>.mono (fun j hj => .inl hj), TM.out, TL.out⟩
          · have ge1 : y.toList.isEmpty = false := by
              rw [Lib.toList_data, List.isEmpty_eq_false_iff, ← List.length_pos_iff]
              have e1 : y.data.toList.length = y.size := by simp
              have e2 : ¬ y.size = 0 := fun e => hk0 (hkl.2.2 e)
              omega
            have ge2 : (kk == 0) = false := by simpa using hk0
            have ge3 : ((kk : Int) == 0) = false := by simp; exact hk0
            clear hk0 hkl
            refine Own.region_mix (CR [5, 14, 29, 39] [(5, ⟨m, 0, none⟩, .string y), (14, ⟨m, 0, none⟩, .string y), (29, ⟨m, 0, none⟩, .string y), (39, ⟨m, 0, none⟩, .string y)]) [5, 14, 29, 39] [0, 1, 0, 4, 12, 28, 60, 127, 255, 511, 1023, 511, 2559, 6655, 14847, 32767, 65535, 131071, 262143, 262143, 786431, 1835007, 4194303, 8388607, 16777215, 33554431, 33554431, 100663295, 234881023, 503316479, 1040187391, 2147483647, 4294967295, 8589934591, 17179869183, 34359738367, 17179869183, 85899345919, 223338299391, 498216206335, 1047972020223, 2199023255551, 4398046511103, 8796093022207] (Own.Ord.run [(0, true), (2, true), (3, true), (4, true), (5, true), (6, true), (1, false), (7, true), (8, true), (9, true), (11, true), (12, true), (13, true), (14, true), (10, false), (15, true), (16, true), (17, true), (18, true), (19, true), (20, false), (21, false), (22, true), (23, true), (24, true), (25, true), (26, true), (27, true), (28, true), (29, true), (30, true), (31, true), (32, true), (33, true), (34, true), (35, true), (36, true), (37, true), (38, true), (39, true), (40, true), (41, true), (42, true), (43, true)] .done) (by kernel_rfl) (by kernel_rfl) (fun dst v c a w h => by cases dst <;> exact h) (fun x hx w => CR.off x hx w) ?_
            simp only [Own.Ord.run]
            repeat (refine Own.st_blind _ rfl rfl (CR.off _ (by decide) _) ?_; go_big_quiet_step (fail); refine wpQuiet_nil ?_)
            refine Own.st_load _ rfl rfl (.pointer (some ⟨m, 0, none⟩)) (fun w' _ => by go_simp) (CR.off _ (by decide) _) ?_
            simp only [Act.put, List.setIfInBounds_toArray, List.set_cons_succ, List.set_cons_zero]
            repeat (refine Own.st_blind _ rfl rfl (CR.off _ (by decide) _) ?_; go_big_quiet_step (fail); refine wpQuiet_nil ?_)
            refine Own.st_load _ rfl rfl (.string y) (fun w' hw' => ?_) ?_ ?_
            · have hg0 := hw'.get (a := ⟨m, 0, none⟩) (v := .string y) (by decide) (by simp)
              go_simp
            · intro _ q hq e; simp only [List.mem_cons, List.mem_nil_iff, or_false] at hq; rcases hq with rfl | rfl | rfl | rfl <;> first | assumption | (simp at e; done) | (go_simp; done) | (simp; done)
            simp only [Act.put, List.setIfInBounds_toArray, List.set_cons_succ, List.set_cons_zero]
            repeat (refine Own.st_blind _ rfl rfl (CR.off _ (by decide) _) ?_; go_big_quiet_step (fail); refine wpQuiet_nil ?_)
            refine Own.st_do _ rfl rfl (fun K hK => ?_)
            go_simp
            refine CLn.out.mono ?_
            rintro e w9 ⟨rfl, rfl⟩
            refine hK _ _ (fun q hq hd _ => ?_) ?_
            · intro _ q hq e; simp only [List.mem_cons, List.mem_nil_iff, or_false] at hq; rcases hq with rfl | rfl | rfl | rfl <;> first | assumption | (simp at e; done) | (go_simp; done) | (simp; done)
            clear hK K
            repeat (refine Own.st_blind _ rfl rfl (CR.off _ (by decide) _) ?_; go_big_quiet_step (fail); refine wpQuiet_nil ?_)
            refine Own.st_load _ rfl rfl (.pointer (some ⟨m, 0, none⟩)) (fun w' _ => by go_simp) (CR.off _ (by decide) _) ?_
            simp only [Act.put, List.setIfInBounds_toArray, List.set_cons_succ, List.set_cons_zero]
            repeat (refine Own.st_blind _ rfl rfl (CR.off _ (by decide) _) ?_; go_big_quiet_step (fail); refine wpQuiet_nil ?_)
            refine Own.st_load _ rfl rfl (.string y) (fun w' hw' => ?_) ?_ ?_
            · have hg0 := hw'.get (a := ⟨m, 0, none⟩) (v := .string y) (by decide) (by simp)
              go_simp
            · intro _ q hq e; simp only [List.mem_cons, List.mem_nil_iff, or_false] at hq; rcases hq with rfl | rfl | rfl | rfl <;> first | assumption | (simp at e; done) | (go_simp; done) | (simp; done)
            simp only [Act.put, List.setIfInBounds_toArray, List.set_cons_succ, List.set_cons_zero]
            refine Own.st_do _ rfl rfl (fun K hK => ?_)
            go_simp
            refine CTx.out.mono ?_
            rintro e v2 ⟨rfl, tb, tk⟩
            have tk := (Kp.drewN _ _ 1).trans tk
            have tm : MdAt v2 m y M := by unfold MdAt; rw [tk.block ym (.inl (.inr rfl))]; exact MM.out
            obtain ⟨yc, _, _⟩ := tm.cells
            have TB := Lib.hid tb
            have TM := Lib.hid tm
            have TL := Lib.hid (LL.out.trans (tk.below (fun j hj => .inl (.inl hj)) LL.out.size))
            obtain ⟨hh, ⟨hh1, hh2⟩, hc0⟩ := bk_height tb
            have CHt := Lib.hid hc0
            have CLe := Lib.hid (fun w => least_calls hh w hh2)
            generalize Tr.least hh = q at *
            have gq1 : decide ((q : Int) ≤ (kk : Int)) = true := by simp; omega
            have gq2 : decide (q ≤ kk) = true := by simp; omega
            clear tb tk tm hc0 CTx
            refine hK _ _ (fun q hq hd _ => ?_) ?_
            · intro _ q hq e; simp only [List.mem_cons, List.mem_nil_iff, or_false] at hq; rcases hq with rfl | rfl | rfl | rfl <;> first | assumption | (simp at e; done) | (go_simp; done) | (simp; done)
            clear hK K
            repeat (refine Own.st_blind _ rfl rfl (CR.off _ (by decide) _) ?_; go_big_quiet_step (fail); refine wpQuiet_nil ?_)
            refine Own.st_do _ rfl rfl (fun K hK => ?_)
            go_simp
            refine CHt.out.mono ?_
            rintro e v3 ⟨rfl, rfl⟩
            refine hK _ _ (fun q hq hd _ => ?_) ?_
            · intro _ q hq e; simp only [List.mem_cons, List.mem_nil_iff, or_false] at hq; rcases hq with rfl | rfl | rfl | rfl <;> first | assumption | (simp at e; done) | (go_simp; done) | (simp; done)
            clear hK K
            refine Own.st_do _ rfl rfl (fun K hK => ?_)
            go_simp
            refine (CLe.out _).mono ?_
            rintro e v4 ⟨rfl, rfl⟩
            refine hK _ _ (fun q hq hd _ => ?_) ?_
            · intro _ q hq e; simp only [List.mem_cons, List.mem_nil_iff, or_false] at hq; rcases hq with rfl | rfl | rfl | rfl <;> first | assumption | (simp at e; done) | (go_simp; done) | (simp; done)
            clear hK K
            repeat (refine Own.st_blind _ rfl rfl (CR.off _ (by decide) _) ?_; go_big_quiet_step (fail); refine wpQuiet_nil ?_)
            refine Own.st_load _ rfl rfl (.pointer (some ⟨m, 0, none⟩)) (fun w' _ => by go_simp) (CR.off _ (by decide) _) ?_
            simp only [Act.put, List.setIfInBounds_toArray, List.set_cons_succ, List.set_cons_zero]
            repeat (refine Own.st_blind _ rfl rfl (CR.off _ (by decide) _) ?_; go_big_quiet_step (fail); refine wpQuiet_nil ?_)
            refine Own.st_load _ rfl rfl (.string y) (fun w' hw' => ?_) ?_ ?_
            · have hg0 := hw'.get (a := ⟨m, 0, none⟩) (v := .string y) (by decide) (by simp)
              go_simp
            · intro _ q hq e; simp only [List.mem_cons, List.mem_nil_iff, or_false] at hq; rcases hq with rfl | rfl | rfl | rfl <;> first | assumption | (simp at e; done) | (go_simp; done) | (simp; done)
            simp only [Act.put, List.setIfInBounds_toArray, List.set_cons_succ, List.set_cons_zero]
            repeat (refine Own.st_blind _ rfl rfl (CR.off _ (by decide) _) ?_; go_big_quiet_step (fail); refine wpQuiet_nil ?_)
            refine Own.st_load _ rfl rfl (.pointer (some ⟨m, 0, none⟩)) (fun w' _ => by go_simp) (CR.off _ (by decide) _) ?_
            simp only [Act.put, List.setIfInBounds_toArray, List.set_cons_succ, List.set_cons_zero]
            repeat (refine Own.st_blind _ rfl rfl (CR.off _ (by decide) _) ?_; go_big_quiet_step (fail); refine wpQuiet_nil ?_)
            refine Own.st_load _ rfl rfl (.string y) (fun w' hw' => ?_) ?_ ?_
            · have hg0 := hw'.get (a := ⟨m, 0, none⟩) (v := .string y) (by decide) (by simp)
              go_simp
            · intro _ q hq e; simp only [List.mem_cons, List.mem_nil_iff, or_false] at hq; rcases hq with rfl | rfl | rfl | rfl <;> first | assumption | (simp at e; done) | (go_simp; done) | (simp; done)
            simp only [Act.put, List.setIfInBounds_toArray, List.set_cons_succ, List.set_cons_zero]
            repeat (refine Own.st_blind _ rfl rfl (CR.off _ (by decide) _) ?_; go_big_quiet_step (fail); refine wpQuiet_nil ?_)
            refine Own.mix_done ?_
            go_wp2_with (fail)
            go_ret
            exact ⟨rfl, y, kk, TB.out.more (by omega) |>.mono (fun j hj => .inl hj), TM.out, TL.out⟩
      · have ge5 : (k7 == 5) = false := by simpa using h55
        have ge6 : ((k7 : Int) == 5) = false := by simp; omega
        clear h55
        by_cases h0 : 0 ≤ a
        · have g0 : decide (0 ≤ a) = true := by simpa using h0
          obtain ⟨a, rfl⟩ : ∃ j : Nat, a = (j : Int) := ⟨a.toNat, by omega⟩
          clear h0
          by_cases hax : a < x.size
          · have gax : decide (a < x.size) = true := by simpa using hax
            obtain ⟨v, hv⟩ : ∃ v, x.data.toList[a]? = some v := ⟨_, List.getElem?_eq_getElem (by simpa using hax)⟩
            have ix : ∀ w : World, (Instr.index 9 (.string x) (.int .i64 (a : Nat))).run Try.prog w = .ok (.int .u8 (v.toNat : Int)) w := fun w => by
              rw [run_index_string (t := 9) (s := x) (k := .i64) (i := (a : Nat)) (h := Try.underlying9), dif_pos ⟨by omega, by omega⟩]
              have e : x[((a : Nat) : Int).toNat]'(by omega) = v := by
                have h1 := (List.getElem?_eq_some_iff.1 hv).2
                rw [← h1]; simp; rfl
              rw [e]
            have CS := Lib.hid (bk_byte KB.out (by omega) a v hv)
            go_wp2_with (fail)
            refine CS.out.mono ?_
            rintro e w2 ⟨rfl, t2, p2⟩
            have p2 := p2
            have q0 : ∀ j, w2.cell? ⟨O, j, none⟩ = w1.cell? ⟨O, j, none⟩ := fun j => World.cell?_of_block (p2.block (by exact (Array.getElem?_eq_some_iff.1 N1.out).1) (.inr rfl))
            have r1 : w2.cell? ⟨O, 1, none⟩ = some (Value.int .i64 (a : Nat)) := (q0 1).trans d1
            have r2 : w2.cell? ⟨O, 2, none⟩ = some (Value.int .i64 n) := (q0 2).trans d2
            have r3 : w2.cell? ⟨O, 3, none⟩ = some (Value.string s) := (q0 3).trans d3
            have m2 : MdAt w2 m x M := by unfold MdAt; rw [p2.block (Array.getElem?_eq_some_iff.1 M1.out).1 (.inl (.inr rfl))]; exact M1.out
            obtain ⟨mc, _, _⟩ := m2.cells
            have B := Lib.hid (fun j => t2.drewN j)
            have MM := Lib.hid (fun j => m2.drewN j)
            have LL := Lib.hid ((L1.out.trans (p2.below (fun j hj => .inl (.inl hj)) L1.out.size)).trans (Below.refl _ w2))
            obtain ⟨kk, hkk⟩ : ∃ kk, kk = k := ⟨_, rfl⟩
            obtain ⟨y, hy⟩ : ∃ y, y = x := ⟨_, rfl⟩
            clear t2 p2 q0 m2 CS d0 d1 d2 d3
            go_wp2_with (fail)
            refine Own.region_all (fun w' => ∃ n, w' = World.drewN w2 n) (by kernel_rfl) (by kernel_rfl) ⟨1, rfl⟩ ?_
            repeat (go_big_quiet_step (fail))
            refine wpQuiet_nil ?_
            rintro _ ⟨nq, rfl⟩
            go_wp2_with (fail)
            refine Own.region_all (fun w' => ∃ n, w' = World.drewN w2 n) (by kernel_rfl) (by kernel_rfl) ⟨nq + 1, rfl⟩ ?_
            repeat (go_big_quiet_step (fail))
            refine wpQuiet_nil ?_
            rintro _ ⟨nq2, rfl⟩
            clear mc r1 r2 r3
            have B := Lib.hid (B.out nq2)
            have MM := Lib.hid (MM.out nq2)
            have LL := Lib.hid (LL.out.trans (show Below W.heap.size w2 (w2.drewN nq2) from ⟨rfl, rfl, rfl, Nat.le_refl _, fun _ _ => rfl⟩))
            obtain rfl := hkk
            obtain rfl := hy
            have CPi2 := Lib.hid (bk_pieces B.out)
            go_wp2_with (fail)
            refine CPi2.out.mono ?_
            rintro e v0 ⟨rfl, rfl⟩
            clear CPi2
            go_wp2_with (fail)
            have hkl := B.out.pieces_le
            rw [show y.data.toList.length = y.size by simp] at hkl
            have CLn := Lib.hid (bk_len (B.out.drewN 1))
            rw [show y.data.toList.length = y.size by simp] at CLn
            have CTx := Lib.hid (ks_text y (B.out.drewN 1) (by omega))
            obtain ⟨yc, _, _⟩ := MM.out.cells
            have ym := (Array.getElem?_eq_some_iff.1 MM.out).1
            have gk1 : decide ((kk : Int) ≤ (y.size : Int)) = true := by simp; omega
            have gk2 : decide (kk ≤ y.size) = true := by simp; omega
            by_cases hk0 : kk = 0
            · have hy0 : y = ⟨#[]⟩ := by
                cases y with
                | mk d => congr 1; exact Array.eq_empty_of_size_eq_zero (hkl.2.1 hk0)
              have HY0 := Lib.hid hy0
              have ge1 : y.toList.isEmpty = true := by rw [hy0, Lib.toList_data]; rfl
              have ge2 : (kk == 0) = true := by simpa using hk0
              have ge3 : ((kk : Int) == 0) = true := by simp; exact hk0
              clear hk0 hy0 hkl
              refine Own.region_mix (CR [5, 14, 29, 39] [(5, ⟨m, 0, none⟩, .string y), (14, ⟨m, 0, none⟩, .string y), (29, ⟨m, 0, none⟩, .string y), (39, ⟨m, 0, none⟩, .string y)]) [5, 14, 29, 39] [0, 1, 0, 4, 12, 28, 60, 127, 255, 511, 1023, 511, 2559, 6655, 14847, 32767, 65535, 131071, 262143, 262143, 786431, 1835007, 4194303, 8388607, 16777215, 33554431, 33554431, 100663295, 234881023, 503316479, 1040187391, 2147483647, 4294967295, 8589934591, 17179869183, 34359738367, 17179869183, 85899345919, 223338299391, 498216206335, 1047972020223, 2199023255551, 4398046511103, 8796093022207] (Own.Ord.run [(0, true), (2, true), (3, true), (4, true), (5, true), (6, true), (1, false), (7, true), (8, true), (9, true), (11, true), (12, true), (13, true), (14, true), (10, false), (15, true), (16, true), (17, true), (18, true), (19, true), (20, false), (21, false), (22, true), (23, true), (24, true), (25, true), (26, true), (27, true), (28, true), (29, true), (30, true), (31, true), (32, true), (33, true), (34, true), (35, true), (36, true), (37, true), (38, true), (39, true), (40, true), (41, true), (42, true), (43, true)] .done) (by kernel_rfl) (by kernel_rfl) (fun dst v c a w h => by cases dst <;> exact h) (fun x hx w => CR.off x hx w) ?_
              simp only [Own.Ord.run]
              repeat (refine Own.st_blind _ rfl rfl (CR.off _ (by decide) _) ?_; go_big_quiet_step (fail); refine wpQuiet_nil ?_)
              refine Own.st_load _ rfl rfl (.pointer (some ⟨m, 0, none⟩)) (fun w' _ => by go_simp) (CR.off _ (by decide) _) ?_
              simp only [Act.put, List.setIfInBounds_toArray, List.set_cons_succ, List.set_cons_zero]
              repeat (refine Own.st_blind _ rfl rfl (CR.off _ (by decide) _) ?_; go_big_quiet_step (fail); refine wpQuiet_nil ?_)
              refine Own.st_load _ rfl rfl (.string y) (fun w' hw' => ?_) ?_ ?_
              · have hg0 := hw'.get (a := ⟨m, 0, none⟩) (v := .string y) (by decide) (by simp)
                go_simp
              · intro _ q hq e; simp only [List.mem_cons, List.mem_nil_iff, or_false] at hq; rcases hq with rfl | rfl | rfl | rfl <;> first | assumption | (simp at e; done) | (go_simp; done) | (simp; done)
              simp only [Act.put, List.setIfInBounds_toArray, List.set_cons_succ, List.set_cons_zero]
              repeat (refine Own.st_blind _ rfl rfl (CR.off _ (by decide) _) ?_; go_big_quiet_step (fail); refine wpQuiet_nil ?_)
              refine Own.st_do _ rfl rfl (fun K hK => ?_)
              go_simp
              refine CLn.out.mono ?_
              rintro e w9 ⟨rfl, rfl⟩
              refine hK _ _ (fun q hq hd _ => ?_) ?_
              · intro _ q hq e; simp only [List.mem_cons, List.mem_nil_iff, or_false] at hq; rcases hq with rfl | rfl | rfl | rfl <;> first | assumption | (simp at e; done) | (go_simp; done) | (simp; done)
              clear hK K
              repeat (refine Own.st_blind _ rfl rfl (CR.off _ (by decide) _) ?_; go_big_quiet_step (fail); refine wpQuiet_nil ?_)
              refine Own.st_load _ rfl rfl (.pointer (some ⟨m, 0, none⟩)) (fun w' _ => by go_simp) (CR.off _ (by decide) _) ?_
              simp only [Act.put, List.setIfInBounds_toArray, List.set_cons_succ, List.set_cons_zero]
              repeat (refine Own.st_blind _ rfl rfl (CR.off _ (by decide) _) ?_; go_big_quiet_step (fail); refine wpQuiet_nil ?_)
              refine Own.st_load _ rfl rfl (.string y) (fun w' hw' => ?_) ?_ ?_
              · have hg0 := hw'.get (a := ⟨m, 0, none⟩) (v := .string y) (by decide) (by simp)
                go_simp
              · intro _ q hq e; simp only [List.mem_cons, List.mem_nil_iff, or_false] at hq; rcases hq with rfl | rfl | rfl | rfl <;> first | assumption | (simp at e; done) | (go_simp; done) | (simp; done)
              simp only [Act.put, List.setIfInBounds_toArray, List.set_cons_succ, List.set_cons_zero]
              refine Own.st_do _ rfl rfl (fun K hK => ?_)
              go_simp
              refine CTx.out.mono ?_
              rintro e v2 ⟨rfl, tb, tk⟩
              have tk := (Kp.drewN _ _ 1).trans tk
              have tm : MdAt v2 m y M := by unfold MdAt; rw [tk.block ym (.inl (.inr rfl))]; exact MM.out
              obtain ⟨yc, _, _⟩ := tm.cells
              have TB := Lib.hid tb
              have TM := Lib.hid tm
              have TL := Lib.hid (LL.out.trans (tk.below (fun j hj => .inl (.inl hj)) LL.out.size))
              obtain ⟨hh, ⟨hh1, hh2⟩, hc0⟩ := bk_height tb
              have CHt := Lib.hid hc0
              have CLe := Lib.hid (fun w => least_calls hh w hh2)
              generalize Tr.least hh = q at *
              have gq1 : decide ((q : Int) ≤ (kk : Int)) = true := by simp; omega
              have gq2 : decide (q ≤ kk) = true := by simp; omega
              clear tb tk tm hc0 CTx
              refine hK _ _ (fun q hq hd _ => ?_) ?_
              · intro _ q hq e; simp only [List.mem_cons, List.mem_nil_iff, or_false] at hq; rcases hq with rfl | rfl | rfl | rfl <;> first | assumption | (simp at e; done) | (go_simp; done) | (simp; done)
              clear hK K
              repeat (refine Own.st_blind _ rfl rfl (CR.off _ (by decide) _) ?_; go_big_quiet_step (fail); refine wpQuiet_nil ?_)
              refine Own.st_do _ rfl rfl (fun K hK => ?_)
              go_simp
              refine CHt.out.mono ?_
              rintro e v3 ⟨rfl, rfl⟩
              refine hK _ _ (fun q hq hd _ => ?_) ?_
              · intro _ q hq e; simp only [List.mem_cons, List.mem_nil_iff, or_false] at hq; rcases hq with rfl | rfl | rfl | rfl <;> first | assumption | (simp at e; done) | (go_simp; done) | (simp; done)
              clear hK K
              refine Own.st_do _ rfl rfl (fun K hK => ?_)
              go_simp
              refine (CLe.out _).mono ?_
              rintro e v4 ⟨rfl, rfl⟩
              refine hK _ _ (fun q hq hd _ => ?_) ?_
              · intro _ q hq e; simp only [List.mem_cons, List.mem_nil_iff, or_false] at hq; rcases hq with rfl | rfl | rfl | rfl <;> first | assumption | (simp at e; done) | (go_simp; done) | (simp; done)
              clear hK K
              repeat (refine Own.st_blind _ rfl rfl (CR.off _ (by decide) _) ?_; go_big_quiet_step (fail); refine wpQuiet_nil ?_)
              refine Own.st_load _ rfl rfl (.pointer (some ⟨m, 0, none⟩)) (fun w' _ => by go_simp) (CR.off _ (by decide) _) ?_
              simp only [Act.put, List.setIfInBounds_toArray, List.set_cons_succ, List.set_cons_zero]
              repeat (refine Own.st_blind _ rfl rfl (CR.off _ (by decide) _) ?_; go_big_quiet_step (fail); refine wpQuiet_nil ?_)
              refine Own.st_load _ rfl rfl (.string y) (fun w' hw' => ?_) ?_ ?_
              · have hg0 := hw'.get (a := ⟨m, 0, none⟩) (v := .string y) (by decide) (by simp)
                go_simp
              · intro _ q hq e; simp only [List.mem_cons, List.mem_nil_iff, or_false] at hq; rcases hq with rfl | rfl | rfl | rfl <;> first | assumption | (simp at e; done) | (go_simp; done) | (simp; done)
              simp only [Act.put, List.setIfInBounds_toArray, List.set_cons_succ, List.set_cons_zero]
              repeat (refine Own.st_blind _ rfl rfl (CR.off _ (by decide) _) ?_; go_big_quiet_step (fail); refine wpQuiet_nil ?_)
              refine Own.st_load _ rfl rfl (.pointer (some ⟨m, 0, none⟩)) (fun w' _ => by go_simp) (CR.off _ (by decide) _) ?_
              simp only [Act.put, List.setIfInBounds_toArray, List.set_cons_succ, List.set_cons_zero]
              repeat (refine Own.st_blind _ rfl rfl (CR.off _ (by decide) _) ?_; go_big_quiet_step (fail); refine wpQuiet_nil ?_)
              refine Own.st_load _ rfl rfl (.string y) (fun w' hw' => ?_) ?_ ?_
              · have hg0 := hw'.get (a := ⟨m, 0, none⟩) (v := .string y) (by decide) (by simp)
                go_simp
              · intro _ q hq e; simp only [List.mem_cons, List.mem_nil_iff, or_false] at hq; rcases hq with rfl | rfl | rfl | rfl <;> first | assumption | (simp at e; done) | (go_simp; done) | (simp; done)
              simp only [Act.put, List.setIfInBounds_toArray, List.set_cons_succ, List.set_cons_zero]
              repeat (refine Own.st_blind _ rfl rfl (CR.off _ (by decide) _) ?_; go_big_quiet_step (fail); refine wpQuiet_nil ?_)
              refine Own.mix_done ?_
              go_wp2_with (fail)
              go_ret
              exact ⟨rfl, y, kk, TB.out.more (by omega) |>.mono (fun j hj => .inl hj), TM.out, TL.out⟩
            · have ge1 : y.toList.isEmpty = false := by
                rw [Lib.toList_data, List.isEmpty_eq_false_iff, ← List.length_pos_iff]
                have e1 : y.data.toList.length = y.size := by simp
                have e2 : ¬ y.size = 0 := fun e => hk0 (hkl.2.2 e)
                omega
              have ge2 : (kk == 0) = false := by simpa using hk0
              have ge3 : ((kk : Int) == 0) = false := by simp; exact hk0
              clear hk0 hkl
              refine Own.region_mix (CR [5, 14, 29, 39] [(5, ⟨m, 0, none⟩, .string y), (14, ⟨m, 0, none⟩, .string y), (29, ⟨m, 0, none⟩, .string y), (39, ⟨m, 0, none⟩, .string y)]) [5, 14, 29, 39] [0, 1, 0, 4, 12, 28, 60, 127, 255, 511, 1023, 511, 2559, 6655, 14847, 32767, 65535, 131071, 262143, 262143, 786431, 1835007, 4194303, 8388607, 16777215, 33554431, 33554431, 100663295, 234881023, 503316479, 1040187391, 2147483647, 4294967295, 8589934591, 17179869183, 34359738367, 17179869183, 85899345919, 223338299391, 498216206335, 1047972020223, 2199023255551, 4398046511103, 8796093022207] (Own.Ord.run [(0, true), (2, true), (3, true), (4, true), (5, true), (6, true), (1, false), (7, true), (8, true), (9, true), (11, true), (12, true), (13, true), (14, true), (10, false), (15, true), (16, true), (17, true), (18, true), (19, true), (20, false), (21, false), (22, true), (23, true), (24, true), (25, true), (26, true), (27, true), (28, true), (29, true), (30, true), (31, true), (32, true), (33, true), (34, true), (35, true), (36, true), (37, true), (38, true), (39, true), (40, true), (41, true), (42, true), (43, true)] .done) (by kernel_rfl) (by kernel_rfl) (fun dst v c a w h => by cases dst <;> exact h) (fun x hx w => CR.off x hx w) ?_
              simp only [Own.Ord.run]
              repeat (refine Own.st_blind _ rfl rfl (CR.off _ (by decide) _) ?_; go_big_quiet_step (fail); refine wpQuiet_nil ?_)
              refine Own.st_load _ rfl rfl (.pointer (some ⟨m, 0, none⟩)) (fun w' _ => by go_simp) (CR.off _ (by decide) _) ?_
              simp only [Act.put, List.setIfInBounds_toArray, List.set_cons_succ, List.set_cons_zero]
              repeat (refine Own.st_blind _ rfl rfl (CR.off _ (by decide) _) ?_; go_big_quiet_step (fail); refine wpQuiet_nil ?_)
              refine Own.st_load _ rfl rfl (.string y) (fun w' hw' => ?_) ?_ ?_
              · have hg0 := hw'.get (a := ⟨m, 0, none⟩) (v := .string y) (by decide) (by simp)
                go_simp
              · intro _ q hq e; simp only [List.mem_cons, List.mem_nil_iff, or_false] at hq; rcases hq with rfl | rfl | rfl | rfl <;> first | assumption | (simp at e; done) | (go_simp; done) | (simp; done)
              simp only [Act.put, List.setIfInBounds_toArray, List.set_cons_succ, List.set_cons_zero]
              repeat (refine Own.st_blind _ rfl rfl (CR.off _ (by decide) _) ?_; go_big_quiet_step (fail); refine wpQuiet_nil ?_)
              refine Own.st_do _ rfl rfl (fun K hK => ?_)
              go_simp
              refine CLn.out.mono ?_
              rintro e w9 ⟨rfl, rfl⟩
              refine hK _ _ (fun q hq hd _ => ?_) ?_
              · intro _ q hq e; simp only [List.mem_cons, List.mem_nil_iff, or_false] at hq; rcases hq with rfl | rfl | rfl | rfl <;> first | assumption | (simp at e; done) | (go_simp; done) | (simp; done)
              clear hK K
              repeat (refine Own.st_blind _ rfl rfl (CR.off _ (by decide) _) ?_; go_big_quiet_step (fail); refine wpQuiet_nil ?_)
              refine Own.st_load _ rfl rfl (.pointer (some ⟨m, 0, none⟩)) (fun w' _ => by go_simp) (CR.off _ (by decide) _) ?_
              simp only [Act.put, List.setIfInBounds_toArray, List.set_cons_succ, List.set_cons_zero]
              repeat (refine Own.st_blind _ rfl rfl (CR.off _ (by decide) _) ?_; go_big_quiet_step (fail); refine wpQuiet_nil ?_)
              refine Own.st_load _ rfl rfl (.string y) (fun w' hw' => ?_) ?_ ?_
              · have hg0 := hw'.get (a := ⟨m, 0, none⟩) (v := .string y) (by decide) (by simp)
                go_simp
              · intro _ q hq e; simp only [List.mem_cons, List.mem_nil_iff, or_false] at hq; rcases hq with rfl | rfl | rfl | rfl <;> first | assumption | (simp at e; done) | (go_simp; done) | (simp; done)
              simp only [Act.put, List.setIfInBounds_toArray, List.set_cons_succ, List.set_cons_zero]
              refine Own.st_do _ rfl rfl (fun K hK => ?_)
              go_simp
              refine CTx.out.mono ?_
              rintro e v2 ⟨rfl, tb, tk⟩
              have tk := (Kp.drewN _ _ 1).trans tk
              have tm : MdAt v2 m y M := by unfold MdAt; rw [tk.block ym (.inl (.inr rfl))]; exact MM.out
              obtain ⟨yc, _, _⟩ := tm.cells
              have TB := Lib.hid tb
              have TM := Lib.hid tm
              have TL := Lib.hid (LL.out.trans (tk.below (fun j hj => .inl (.inl hj)) LL.out.size))
              obtain ⟨hh, ⟨hh1, hh2⟩, hc0⟩ := bk_height tb
              have CHt := Lib.hid hc0
              have CLe := Lib.hid (fun w => least_calls hh w hh2)
              generalize Tr.least hh = q at *
              have gq1 : decide ((q : Int) ≤ (kk : Int)) = true := by simp; omega
              have gq2 : decide (q ≤ kk) = true := by simp; omega
              clear tb tk tm hc0 CTx
              refine hK _ _ (fun q hq hd _ => ?_) ?_
              · intro _ q hq e; simp only [List.mem_cons, List.mem_nil_iff, or_false] at hq; rcases hq with rfl | rfl | rfl | rfl <;> first | assumption | (simp at e; done) | (go_simp; done) | (simp; done)
              clear hK K
              repeat (refine Own.st_blind _ rfl rfl (CR.off _ (by decide) _) ?_; go_big_quiet_step (fail); refine wpQuiet_nil ?_)
              refine Own.st_do _ rfl rfl (fun K hK => ?_)
              go_simp
              refine CHt.out.mono ?_
              rintro e v3 ⟨rfl, rfl⟩
              refine hK _ _ (fun q hq hd _ => ?_) ?_
              · intro _ q hq e; simp only [List.mem_cons, List.mem_nil_iff, or_false] at hq; rcases hq with rfl | rfl | rfl | rfl <;> first | assumption | (simp at e; done) | (go_simp; done) | (simp; done)
              clear hK K
              refine Own.st_do _ rfl rfl (fun K hK => ?_)
              go_simp
              refine (CLe.out _).mono ?_
              rintro e v4 ⟨rfl, rfl⟩
              refine hK _ _ (fun q hq hd _ => ?_) ?_
              · intro _ q hq e; simp only [List.mem_cons, List.mem_nil_iff, or_false] at hq; rcases hq with rfl | rfl | rfl | rfl <;> first | assumption | (simp at e; done) | (go_simp; done) | (simp; done)
              clear hK K
              repeat (refine Own.st_blind _ rfl rfl (CR.off _ (by decide) _) ?_; go_big_quiet_step (fail); refine wpQuiet_nil ?_)
              refine Own.st_load _ rfl rfl (.pointer (some ⟨m, 0, none⟩)) (fun w' _ => by go_simp) (CR.off _ (by decide) _) ?_
              simp only [Act.put, List.setIfInBounds_toArray, List.set_cons_succ, List.set_cons_zero]
              repeat (refine Own.st_blind _ rfl rfl (CR.off _ (by decide) _) ?_; go_big_quiet_step (fail); refine wpQuiet_nil ?_)
              refine Own.st_load _ rfl rfl (.string y) (fun w' hw' => ?_) ?_ ?_
              · have hg0 := hw'.get (a := ⟨m, 0, none⟩) (v := .string y) (by decide) (by simp)
                go_simp
              · intro _ q hq e; simp only [List.mem_cons, List.mem_nil_iff, or_false] at hq; rcases hq with rfl | rfl | rfl | rfl <;> first | assumption | (simp at e; done) | (go_simp; done) | (simp; done)
              simp only [Act.put, List.setIfInBounds_toArray, List.set_cons_succ, List.set_cons_zero]
              repeat (refine Own.st_blind _ rfl rfl (CR.off _ (by decide) _) ?_; go_big_quiet_step (fail); refine wpQuiet_nil ?_)
              refine Own.st_load _ rfl rfl (.pointer (some ⟨m, 0, none⟩)) (fun w' _ => by go_simp) (CR.off _ (by decide) _) ?_
              simp only [Act.put, List.setIfInBounds_toArray, List.set_cons_succ, List.set_cons_zero]
              repeat (refine Own.st_blind _ rfl rfl (CR.off _ (by decide) _) ?_; go_big_quiet_step (fail); refine wpQuiet_nil ?_)
              refine Own.st_load _ rfl rfl (.string y) (fun w' hw' => ?_) ?_ ?_
              · have hg0 := hw'.get (a := ⟨m, 0, none⟩) (v := .string y) (by decide) (by simp)
                go_simp
              · intro _ q hq e; simp only [List.mem_cons, List.mem_nil_iff, or_false] at hq; rcases hq with rfl | rfl | rfl | rfl <;> first | assumption | (simp at e; done) | (go_simp; done) | (simp; done)
              simp only [Act.put, List.setIfInBounds_toArray, List.set_cons_succ, List.set_cons_zero]
              repeat (refine Own.st_blind _ rfl rfl (CR.off _ (by decide) _) ?_; go_big_quiet_step (fail); refine wpQuiet_nil ?_)
              refine Own.mix_done ?_
              go_wp2_with (fail)
              go_ret
              exact ⟨rfl, y, kk, TB.out.more (by omega) |>.mono (fun j hj => .inl hj), TM.out, TL.out⟩
          · have gax : decide (a < x.size) = false := by simpa using hax
            have hno : ¬ (0 ≤ (a : Int) ∧ (a : Int) < x.size) := by omega
            have CS := Lib.hid (bk_byte_no KB.out _ (by rw [show x.data.toList.length = x.size by simp]; exact hno))
            go_wp2_with (fail)
            refine CS.out.mono ?_
            rintro e w2 ⟨rfl, hw2⟩
            have t2 := KB.out
            rw [hw2] at t2
            have p2 : Kp (fun j => (j < W.heap.size ∨ j = m) ∨ j = O) w1 w2 := by rw [← hw2]; exact Kp.refl _ _
            clear hw2
            have p2 := p2
            have q0 : ∀ j, w2.cell? ⟨O, j, none⟩ = w1.cell? ⟨O, j, none⟩ := fun j => World.cell?_of_block (p2.block (by exact (Array.getElem?_eq_some_iff.1 N1.out).1) (.inr rfl))
            have r1 : w2.cell? ⟨O, 1, none⟩ = some (Value.int .i64 (a : Nat)) := (q0 1).trans d1
            have r2 : w2.cell? ⟨O, 2, none⟩ = some (Value.int .i64 n) := (q0 2).trans d2
            have r3 : w2.cell? ⟨O, 3, none⟩ = some (Value.string s) := (q0 3).trans d3
            have m2 : MdAt w2 m x M := by unfold MdAt; rw [p2.block (Array.getElem?_eq_some_iff.1 M1.out).1 (.inl (.inr rfl))]; exact M1.out
            obtain ⟨mc, _, _⟩ := m2.cells
            have B := Lib.hid (fun j => t2.drewN j)
            have MM := Lib.hid (fun j => m2.drewN j)
            have LL := Lib.hid ((L1.out.trans (p2.below (fun j hj => .inl (.inl hj)) L1.out.size)).trans (Below.refl _ w2))
            obtain ⟨kk, hkk⟩ : ∃ kk, kk = k := ⟨_, rfl⟩
            obtain ⟨y, hy⟩ : ∃ y, y = x := ⟨_, rfl⟩
            clear t2 p2 q0 m2 CS d0 d1 d2 d3
            go_wp2_with (fail)
            refine Own.region_all (fun w' => ∃ n, w' = World.drewN w2 n) (by kernel_rfl) (by kernel_rfl) ⟨1, rfl⟩ ?_
            repeat (go_big_quiet_step (fail))
            refine wpQuiet_nil ?_
            rintro _ ⟨nq, rfl⟩
            go_wp2_with (fail)
            refine Own.region_all (fun w' => ∃ n, w' = World.drewN w2 n) (by kernel_rfl) (by kernel_rfl) ⟨nq + 1, rfl⟩ ?_
            repeat (go_big_quiet_step (fail))
            refine wpQuiet_nil ?_
            rintro _ ⟨nq2, rfl⟩
            clear mc r1 r2 r3
            have B := Lib.hid (B.out nq2)
            have MM := Lib.hid (MM.out nq2)
            have LL := Lib.hid (LL.out.trans (show Below W.heap.size w2 (w2.drewN nq2) from ⟨rfl, rfl, rfl, Nat.le_refl _, fun _ _ => rfl⟩))
            obtain rfl := hkk
            obtain rfl := hy
            have CPi2 := Lib.hid (bk_pieces B.out)
            go_wp2_with (fail)
            refine CPi2.out.mono ?_
            rintro e v0 ⟨rfl, rfl⟩
            clear CPi2
            go_wp2_with (fail)
            have hkl := B.out.pieces_le
            rw [show y.data.toList.length = y.size by simp] at hkl
            have CLn := Lib.hid (bk_len (B.out.drewN 1))
            rw [show y.data.toList.length = y.size by simp] at CLn
            have CTx := Lib.hid (ks_text y (B.out.drewN 1) (by omega))
            obtain ⟨yc, _, _⟩ := MM.out.cells
            have ym := (Array.getElem?_eq_some_iff.1 MM.out).1
            have gk1 : decide ((kk : Int) ≤ (y.size : Int)) = true := by simp; omega
            have gk2 : decide (kk ≤ y.size) = true := by simp; omega
            by_cases hk0 : kk = 0
            · have hy0 : y = ⟨#[]⟩ := by
                cases y with
                | mk d => congr 1; exact Array.eq_empty_of_size_eq_zero (hkl.2.1 hk0)
              have HY0 := Lib.hid hy0
              have ge1 : y.toList.isEmpty = true := by rw [hy0, Lib.toList_data]; rfl
              have ge2 : (kk == 0) = true := by simpa using hk0
              have ge3 : ((kk : Int) == 0) = true := by simp; exact hk0
              clear hk0 hy0 hkl
              refine Own.region_mix (CR [5, 14, 29, 39] [(5, ⟨m, 0, none⟩, .string y), (14, ⟨m, 0, none⟩, .string y), (29, ⟨m, 0, none⟩, .string y), (39, ⟨m, 0, none⟩, .string y)]) [5, 14, 29, 39] [0, 1, 0, 4, 12, 28, 60, 127, 255, 511, 1023, 511, 2559, 6655, 14847, 32767, 65535, 131071, 262143, 262143, 786431, 1835007, 4194303, 8388607, 16777215, 33554431, 33554431, 100663295, 234881023, 503316479, 1040187391, 2147483647, 4294967295, 8589934591, 17179869183, 34359738367, 17179869183, 85899345919, 223338299391, 498216206335, 1047972020223, 2199023255551, 4398046511103, 8796093022207] (Own.Ord.run [(0, true), (2, true), (3, true), (4, true), (5, true), (6, true), (1, false), (7, true), (8, true), (9, true), (11, true), (12, true), (13, true), (14, true), (10, false), (15, true), (16, true), (17, true), (18, true), (19, true), (20, false), (21, false), (22, true), (23, true), (24, true), (25, true), (26, true), (27, true), (28, true), (29, true), (30, true), (31, true), (32, true), (33, true), (34, true), (35, true), (36, true), (37, true), (38, true), (39, true), (40, true), (41, true), (42, true), (43, true)] .done) (by kernel_rfl) (by kernel_rfl) (fun dst v c a w h => by cases dst <;> exact h) (fun x hx w => CR.off x hx w) ?_
              simp only [Own.Ord.run]
              repeat (refine Own.st_blind _ rfl rfl (CR.off _ (by decide) _) ?_; go_big_quiet_step (fail); refine wpQuiet_nil ?_)
              refine Own.st_load _ rfl rfl (.pointer (some ⟨m, 0, none⟩)) (fun w' _ => by go_simp) (CR.off _ (by decide) _) ?_
              simp only [Act.put, List.setIfInBounds_toArray, List.set_cons_succ, List.set_cons_zero]
              repeat (refine Own.st_blind _ rfl rfl (CR.off _ (by decide) _) ?_; go_big_quiet_step (fail); refine wpQuiet_nil ?_)
              refine Own.st_load _ rfl rfl (.string y) (fun w' hw' => ?_) ?_ ?_
              · have hg0 := hw'.get (a := ⟨m, 0, none⟩) (v := .string y) (by decide) (by simp)
                go_simp
              · intro _ q hq e; simp only [List.mem_cons, List.mem_nil_iff, or_false] at hq; rcases hq with rfl | rfl | rfl | rfl <;> first | assumption | (simp at e; done) | (go_simp; done) | (simp; done)
              simp only [Act.put, List.setIfInBounds_toArray, List.set_cons_succ, List.set_cons_zero]
              repeat (refine Own.st_blind _ rfl rfl (CR.off _ (by decide) _) ?_; go_big_quiet_step (fail); refine wpQuiet_nil ?_)
              refine Own.st_do _ rfl rfl (fun K hK => ?_)
              go_simp
              refine CLn.out.mono ?_
              rintro e w9 ⟨rfl, rfl⟩
              refine hK _ _ (fun q hq hd _ => ?_) ?_
              · intro _ q hq e; simp only [List.mem_cons, List.mem_nil_iff, or_false] at hq; rcases hq with rfl | rfl | rfl | rfl <;> first | assumption | (simp at e; done) | (go_simp; done) | (simp; done)
              clear hK K
              repeat (refine Own.st_blind _ rfl rfl (CR.off _ (by decide) _) ?_; go_big_quiet_step (fail); refine wpQuiet_nil ?_)
              refine Own.st_load _ rfl rfl (.pointer (some ⟨m, 0, none⟩)) (fun w' _ => by go_simp) (CR.off _ (by decide) _) ?_
              simp only [Act.put, List.setIfInBounds_toArray, List.set_cons_succ, List.set_cons_zero]
              repeat (refine Own.st_blind _ rfl rfl (CR.off _ (by decide) _) ?_; go_big_quiet_step (fail); refine wpQuiet_nil ?_)
              refine Own.st_load _ rfl rfl (.string y) (fun w' hw' => ?_) ?_ ?_
              · have hg0 := hw'.get (a := ⟨m, 0, none⟩) (v := .string y) (by decide) (by simp)
                go_simp
              · intro _ q hq e; simp only [List.mem_cons, List.mem_nil_iff, or_false] at hq; rcases hq with rfl | rfl | rfl | rfl <;> first | assumption | (simp at e; done) | (go_simp; done) | (simp; done)
              simp only [Act.put, List.setIfInBounds_toArray, List.set_cons_succ, List.set_cons_zero]
              refine Own.st_do _ rfl rfl (fun K hK => ?_)
              go_simp
              refine CTx.out.mono ?_
              rintro e v2 ⟨rfl, tb, tk⟩
              have tk := (Kp.drewN _ _ 1).trans tk
              have tm : MdAt v2 m y M := by unfold MdAt; rw [tk.block ym (.inl (.inr rfl))]; exact MM.out
              obtain ⟨yc, _, _⟩ := tm.cells
              have TB := Lib.hid tb
              have TM := Lib.hid tm
              have TL := Lib.hid (LL.out.trans (tk.below (fun j hj => .inl (.inl hj)) LL.out.size))
              obtain ⟨hh, ⟨hh1, hh2⟩, hc0⟩ := bk_height tb
              have CHt := Lib.hid hc0
              have CLe := Lib.hid (fun w => least_calls hh w hh2)
              generalize Tr.least hh = q at *
              have gq1 : decide ((q : Int) ≤ (kk : Int)) = true := by simp; omega
              have gq2 : decide (q ≤ kk) = true := by simp; omega
              clear tb tk tm hc0 CTx
              refine hK _ _ (fun q hq hd _ => ?_) ?_
              · intro _ q hq e; simp only [List.mem_cons, List.mem_nil_iff, or_false] at hq; rcases hq with rfl | rfl | rfl | rfl <;> first | assumption | (simp at e; done) | (go_simp; done) | (simp; done)
              clear hK K
              repeat (refine Own.st_blind _ rfl rfl (CR.off _ (by decide) _) ?_; go_big_quiet_step (fail); refine wpQuiet_nil ?_)
              refine Own.st_do _ rfl rfl (fun K hK => ?_)
              go_simp
              refine CHt.out.mono ?_
              rintro e v3 ⟨rfl, rfl⟩
              refine hK _ _ (fun q hq hd _ => ?_) ?_
              · intro _ q hq e; simp only [List.mem_cons, List.mem_nil_iff, or_false] at hq; rcases hq with rfl | rfl | rfl | rfl <;> first | assumption | (simp at e; done) | (go_simp; done) | (simp; done)
              clear hK K
              refine Own.st_do _ rfl rfl (fun K hK => ?_)
              go_simp
              refine (CLe.out _).mono ?_
              rintro e v4 ⟨rfl, rfl⟩
              refine hK _ _ (fun q hq hd _ => ?_) ?_
              · intro _ q hq e; simp only [List.mem_cons, List.mem_nil_iff, or_false] at hq; rcases hq with rfl | rfl | rfl | rfl <;> first | assumption | (simp at e; done) | (go_simp; done) | (simp; done)
              clear hK K
              repeat (refine Own.st_blind _ rfl rfl (CR.off _ (by decide) _) ?_; go_big_quiet_step (fail); refine wpQuiet_nil ?_)
              refine Own.st_load _ rfl rfl (.pointer (some ⟨m, 0, none⟩)) (fun w' _ => by go_simp) (CR.off _ (by decide) _) ?_
              simp only [Act.put, List.setIfInBounds_toArray, List.set_cons_succ, List.set_cons_zero]
              repeat (refine Own.st_blind _ rfl rfl (CR.off _ (by decide) _) ?_; go_big_quiet_step (fail); refine wpQuiet_nil ?_)
              refine Own.st_load _ rfl rfl (.string y) (fun w' hw' => ?_) ?_ ?_
              · have hg0 := hw'.get (a := ⟨m, 0, none⟩) (v := .string y) (by decide) (by simp)
                go_simp
              · intro _ q hq e; simp only [List.mem_cons, List.mem_nil_iff, or_false] at hq; rcases hq with rfl | rfl | rfl | rfl <;> first | assumption | (simp at e; done) | (go_simp; done) | (simp; done)
              simp only [Act.put, List.setIfInBounds_toArray, List.set_cons_succ, List.set_cons_zero]
              repeat (refine Own.st_blind _ rfl rfl (CR.off _ (by decide) _) ?_; go_big_quiet_step (fail); refine wpQuiet_nil ?_)
              refine Own.st_load _ rfl rfl (.pointer (some ⟨m, 0, none⟩)) (fun w' _ => by go_simp) (CR.off _ (by decide) _) ?_
              simp only [Act.put, List.setIfInBounds_toArray, List.set_cons_succ, List.set_cons_zero]
              repeat (refine Own.st_blind _ rfl rfl (CR.off _ (by decide) _) ?_; go_big_quiet_step (fail); refine wpQuiet_nil ?_)
              refine Own.st_load _ rfl rfl (.string y) (fun w' hw' => ?_) ?_ ?_
              · have hg0 := hw'.get (a := ⟨m, 0, none⟩) (v := .string y) (by decide) (by simp)
                go_simp
              · intro _ q hq e; simp only [List.mem_cons, List.mem_nil_iff, or_false] at hq; rcases hq with rfl | rfl | rfl | rfl <;> first | assumption | (simp at e; done) | (go_simp; done) | (simp; done)
              simp only [Act.put, List.setIfInBounds_toArray, List.set_cons_succ, List.set_cons_zero]
              repeat (refine Own.st_blind _ rfl rfl (CR.off _ (by decide) _) ?_; go_big_quiet_step (fail); refine wpQuiet_nil ?_)
              refine Own.mix_done ?_
              go_wp2_with (fail)
              go_ret
              exact ⟨rfl, y, kk, TB.out.more (by omega) |>.mono (fun j hj => .inl hj), TM.out, TL.out⟩
            · have ge1 : y.toList.isEmpty = false := by
                rw [Lib.toList_data, List.isEmpty_eq_false_iff, ← List.length_pos_iff]
                have e1 : y.data.toList.length = y.size := by simp
                have e2 : ¬ y.size = 0 := fun e => hk0 (hkl.2.2 e)
                omega
              have ge2 : (kk == 0) = false := by simpa using hk0
              have ge3 : ((kk : Int) == 0) = false := by simp; exact hk0
              clear hk0 hkl
              refine Own.region_mix (CR [5, 14, 29, 39] [(5, ⟨m, 0, none⟩, .string y), (14, ⟨m, 0, none⟩, .string y), (29, ⟨m, 0, none⟩, .string y), (39, ⟨m, 0, none⟩, .string y)]) [5, 14, 29, 39] [0, 1, 0, 4, 12, 28, 60, 127, 255, 511, 1023, 511, 2559, 6655, 14847, 32767, 65535, 131071, 262143, 262143, 786431, 1835007, 4194303, 8388607, 16777215, 33554431, 33554431, 100663295, 234881023, 503316479, 1040187391, 2147483647, 4294967295, 8589934591, 17179869183, 34359738367, 17179869183, 85899345919, 223338299391, 498216206335, 1047972020223, 2199023255551, 4398046511103, 8796093022207] (Own.Ord.run [(0, true), (2, true), (3, true), (4, true), (5, true), (6, true), (1, false), (7, true), (8, true), (9, true), (11, true), (12, true), (13, true), (14, true), (10, false), (15, true), (16, true), (17, true), (18, true), (19, true), (20, false), (21, false), (22, true), (23, true), (24, true), (25, true), (26, true), (27, true), (28, true), (29, true), (30, true), (31, true), (32, true), (33, true), (34, true), (35, true), (36, true), (37, true), (38, true), (39, true), (40, true), (41, true), (42, true), (43, true)] .done) (by kernel_rfl) (by kernel_rfl) (fun dst v c a w h => by cases dst <;> exact h) (fun x hx w => CR.off x hx w) ?_
              simp only [Own.Ord.run]
              repeat (refine Own.st_blind _ rfl rfl (CR.off _ (by decide) _) ?_; go_big_quiet_step (fail); refine wpQuiet_nil ?_)
              refine Own.st_load _ rfl rfl (.pointer (some ⟨m, 0, none⟩)) (fun w' _ => by go_simp) (CR.off _ (by decide) _) ?_
              simp only [Act.put, List.setIfInBounds_toArray, List.set_cons_succ, List.set_cons_zero]
              repeat (refine Own.st_blind _ rfl rfl (CR.off _ (by decide) _) ?_; go_big_quiet_step (fail); refine wpQuiet_nil ?_)
              refine Own.st_load _ rfl rfl (.string y) (fun w' hw' => ?_) ?_ ?_
              · have hg0 := hw'.get (a := ⟨m, 0, none⟩) (v := .string y) (by decide) (by simp)
                go_simp
              · intro _ q hq e; simp only [List.mem_cons, List.mem_nil_iff, or_false] at hq; rcases hq with rfl | rfl | rfl | rfl <;> first | assumption | (simp at e; done) | (go_simp; done) | (simp; done)
              simp only [Act.put, List.setIfInBounds_toArray, List.set_cons_succ, List.set_cons_zero]
              repeat (refine Own.st_blind _ rfl rfl (CR.off _ (by decide) _) ?_; go_big_quiet_step (fail); refine wpQuiet_nil ?_)
              refine Own.st_do _ rfl rfl (fun K hK => ?_)
              go_simp
              refine CLn.out.mono ?_
              rintro e w9 ⟨rfl, rfl⟩
              refine hK _ _ (fun q hq hd _ => ?_) ?_
              · intro _ q hq e; simp only [List.mem_cons, List.mem_nil_iff, or_false] at hq; rcases hq with rfl | rfl | rfl | rfl <;> first | assumption | (simp at e; done) | (go_simp; done) | (simp; done)
              clear hK K
              repeat (refine Own.st_blind _ rfl rfl (CR.off _ (by decide) _) ?_; go_big_quiet_step (fail); refine wpQuiet_nil ?_)
              refine Own.st_load _ rfl rfl (.pointer (some ⟨m, 0, none⟩)) (fun w' _ => by go_simp) (CR.off _ (by decide) _) ?_
              simp only [Act.put, List.setIfInBounds_toArray, List.set_cons_succ, List.set_cons_zero]
              repeat (refine Own.st_blind _ rfl rfl (CR.off _ (by decide) _) ?_; go_big_quiet_step (fail); refine wpQuiet_nil ?_)
              refine Own.st_load _ rfl rfl (.string y) (fun w' hw' => ?_) ?_ ?_
              · have hg0 := hw'.get (a := ⟨m, 0, none⟩) (v := .string y) (by decide) (by simp)
                go_simp
              · intro _ q hq e; simp only [List.mem_cons, List.mem_nil_iff, or_false] at hq; rcases hq with rfl | rfl | rfl | rfl <;> first | assumption | (simp at e; done) | (go_simp; done) | (simp; done)
              simp only [Act.put, List.setIfInBounds_toArray, List.set_cons_succ, List.set_cons_zero]
              refine Own.st_do _ rfl rfl (fun K hK => ?_)
              go_simp
              refine CTx.out.mono ?_
              rintro e v2 ⟨rfl, tb, tk⟩
              have tk := (Kp.drewN _ _ 1).trans tk
              have tm : MdAt v2 m y M := by unfold MdAt; rw [tk.block ym (.inl (.inr rfl))]; exact MM.out
              obtain ⟨yc, _, _⟩ := tm.cells
              have TB := Lib.hid tb
              have TM := Lib.hid tm
              have TL := Lib.hid (LL.out.trans (tk.below (fun j hj => .inl (.inl hj)) LL.out.size))
              obtain ⟨hh, ⟨hh1, hh2⟩, hc0⟩ := bk_height tb
              have CHt := Lib.hid hc0
              have CLe := Lib.hid (fun w => least_calls hh w hh2)
              generalize Tr.least hh = q at *
              have gq1 : decide ((q : Int) ≤ (kk : Int)) = true := by simp; omega
              have gq2 : decide (q ≤ kk) = true := by simp; omega
              clear tb tk tm hc0 CTx
              refine hK _ _ (fun q hq hd _ => ?_) ?_
              · intro _ q hq e; simp only [List.mem_cons, List.mem_nil_iff, or_false] at hq; rcases hq with rfl | rfl | rfl | rfl <;> first | assumption | (simp at e; done) | (go_simp; done) | (simp; done)
              clear hK K
              repeat (refine Own.st_blind _ rfl rfl (CR.off _ (by decide) _) ?_; go_big_quiet_step (fail); refine wpQuiet_nil ?_)
              refine Own.st_do _ rfl rfl (fun K hK => ?_)
              go_simp
              refine CHt.out.mono ?_
              rintro e v3 ⟨rfl, rfl⟩
              refine hK _ _ (fun q hq hd _ => ?_) ?_
              · intro _ q hq e; simp only [List.mem_cons, List.mem_nil_iff, or_false] at hq; rcases hq with rfl | rfl | rfl | rfl <;> first | assumption | (simp at e; done) | (go_simp; done) | (simp; done)
              clear hK K
              refine Own.st_do _ rfl rfl (fun K hK => ?_)
              go_simp
              refine (CLe.out _).mono ?_
              rintro e v4 ⟨rfl, rfl⟩
              refine hK _ _ (fun q hq hd _ => ?_) ?_
              · intro _ q hq e; simp only [List.mem_cons, List.mem_nil_iff, or_false] at hq; rcases hq with rfl | rfl | rfl | rfl <;> first | assumption | (simp at e; done) | (go_simp; done) | (simp; done)
              clear hK K
              repeat (refine Own.st_blind _ rfl rfl (CR.off _ (by decide) _) ?_; go_big_quiet_step (fail); refine wpQuiet_nil ?_)
              refine Own.st_load _ rfl rfl (.pointer (some ⟨m, 0, none⟩)) (fun w' _ => by go_simp) (CR.off _ (by decide) _) ?_
              simp only [Act.put, List.setIfInBounds_toArray, List.set_cons_succ, List.set_cons_zero]
              repeat (refine Own.st_blind _ rfl rfl (CR.off _ (by decide) _) ?_; go_big_quiet_step (fail); refine wpQuiet_nil ?_)
              refine Own.st_load _ rfl rfl (.string y) (fun w' hw' => ?_) ?_ ?_
              · have hg0 := hw'.get (a := ⟨m, 0, none⟩) (v := .string y) (by decide) (by simp)
                go_simp
              · intro _ q hq e; simp only [List.mem_cons, List.mem_nil_iff, or_false] at hq; rcases hq with rfl | rfl | rfl | rfl <;> first | assumption | (simp at e; done) | (go_simp; done) | (simp; done)
              simp only [Act.put, List.setIfInBounds_toArray, List.set_cons_succ, List.set_cons_zero]
              repeat (refine Own.st_blind _ rfl rfl (CR.off _ (by decide) _) ?_; go_big_quiet_step (fail); refine wpQuiet_nil ?_)
              refine Own.st_load _ rfl rfl (.pointer (some ⟨m, 0, none⟩)) (fun w' _ => by go_simp) (CR.off _ (by decide) _) ?_
              simp only [Act.put, List.setIfInBounds_toArray, List.set_cons_succ, List.set_cons_zero]
              repeat (refine Own.st_blind _ rfl rfl (CR.off _ (by decide) _) ?_; go_big_quiet_step (fail); refine wpQuiet_nil ?_)
              refine Own.st_load _ rfl rfl (.string y) (fun w' hw' => ?_) ?_ ?_
              · have hg0 := hw'.get (a := ⟨m, 0, none⟩) (v := .string y) (by decide) (by simp)
                go_simp
              · intro _ q hq e; simp only [List.mem_cons, List.mem_nil_iff, or_false] at hq; rcases hq with rfl | rfl | rfl | rfl <;> first | assumption | (simp at e; done) | (go_simp; done) | (simp; done)
              simp only [Act.put, List.setIfInBounds_toArray, List.set_cons_succ, List.set_cons_zero]
              repeat (refine Own.st_blind _ rfl rfl (CR.off _ (by decide) _) ?_; go_big_quiet_step (fail); refine wpQuiet_nil ?_)
              refine Own.mix_done ?_
              go_wp2_with (fail)
              go_ret
              exact ⟨rfl, y, kk, TB.out.more (by omega) |>.mono (fun j hj => .inl hj), TM.out, TL.out⟩
        · have g0 : decide (0 ≤ a) = false := by simpa using h0
          have hno : ¬ (0 ≤ a ∧ a < x.size) := by omega
          have CS := Lib.hid (bk_byte_no KB.out _ (by rw [show x.data.toList.length = x.size by simp]; exact hno))
          go_wp2_with (fail)
          refine CS.out.mono ?_
          rintro e w2 ⟨rfl, hw2⟩
          have t2 := KB.out
          rw [hw2] at t2
          have p2 : Kp (fun j => (j < W.heap.size ∨ j = m) ∨ j = O) w1 w2 := by rw [← hw2]; exact Kp.refl _ _
          clear hw2
          have p2 := p2
          have q0 : ∀ j, w2.cell? ⟨O, j, none⟩ = w1.cell? ⟨O, j, none⟩ := fun j => World.cell?_of_block (p2.block (by exact (Array.getElem?_eq_some_iff.1 N1.out).1) (.inr rfl))
          have r1 : w2.cell? ⟨O, 1, none⟩ = some (Value.int .i64 a) := (q0 1).trans d1
          have r2 : w2.cell? ⟨O, 2, none⟩ = some (Value.int .i64 n) := (q0 2).trans d2
          have r3 : w2.cell? ⟨O, 3, none⟩ = some (Value.string s) := (q0 3).trans d3
          have m2 : MdAt w2 m x M := by unfold MdAt; rw [p2.block (Array.getElem?_eq_some_iff.1 M1.out).1 (.inl (.inr rfl))]; exact M1.out
          obtain ⟨mc, _, _⟩ := m2.cells
          have B := Lib.hid (fun j => t2.drewN j)
          have MM := Lib.hid (fun j => m2.drewN j)
          have LL := Lib.hid ((L1.out.trans (p2.below (fun j hj => .inl (.inl hj)) L1.out.size)).trans (Below.refl _ w2))
          obtain ⟨kk, hkk⟩ : ∃ kk, kk = k := ⟨_, rfl⟩
          obtain ⟨y, hy⟩ : ∃ y, y = x := ⟨_, rfl⟩
          clear t2 p2 q0 m2 CS d0 d1 d2 d3
          go_wp2_with (fail)
          refine Own.region_all (fun w' => ∃ n, w' = World.drewN w2 n) (by kernel_rfl) (by kernel_rfl) ⟨1, rfl⟩ ?_
          repeat (go_big_quiet_step (fail))
          refine wpQuiet_nil ?_
          rintro _ ⟨nq, rfl⟩
          go_wp2_with (fail)
          refine Own.region_all (fun w' => ∃ n, w' = World.drewN w2 n) (by kernel_rfl) (by kernel_rfl) ⟨nq + 1, rfl⟩ ?_
          repeat (go_big_quiet_step (fail))
          refine wpQuiet_nil ?_
          rintro _ ⟨nq2, rfl⟩
          clear mc r1 r2 r3
          have B := Lib.hid (B.out nq2)
          have MM := Lib.hid (MM.out nq2)
          have LL := Lib.hid (LL.out.trans (show Below W.heap.size w2 (w2.drewN nq2) from ⟨rfl, rfl, rfl, Nat.le_refl _, fun _ _ => rfl⟩))
          obtain rfl := hkk
          obtain rfl := hy
          have CPi2 := Lib.hid (bk_pieces B.out)
          go_wp2_with (fail)
          refine CPi2.out.mono ?_
          rintro e v0 ⟨rfl, rfl⟩
          clear CPi2
          go_wp2_with (fail)
          have hkl := B.out.pieces_le
          rw [show y.data.toList.length = y.size by simp] at hkl
          have CLn := Lib.hid (bk_len (B.out.drewN 1))
          rw [show y.data.toList.length = y.size by simp] at CLn
          have CTx := Lib.hid (ks_text y (B.out.drewN 1) (by omega))
          obtain ⟨yc, _, _⟩ := MM.out.cells
          have ym := (Array.getElem?_eq_some_iff.1 MM.out).1
          have gk1 : decide ((kk : Int) ≤ (y.size : Int)) = true := by simp; omega
          have gk2 : decide (kk ≤ y.size) = true := by simp; omega
          by_cases hk0 : kk = 0
          · have hy0 : y = ⟨#[]⟩ := by
              cases y with
              | mk d => congr 1; exact Array.eq_empty_of_size_eq_zero (hkl.2.1 hk0)
            have HY0 := Lib.hid hy0
            have ge1 : y.toList.isEmpty = true := by rw [hy0, Lib.toList_data]; rfl
            have ge2 : (kk == 0) = true := by simpa using hk0
            have ge3 : ((kk : Int) == 0) = true := by simp; exact hk0
            clear hk0 hy0 hkl
            refine Own.region_mix (CR [5, 14, 29, 39] [(5, ⟨m, 0, none⟩, .string y), (14, ⟨m, 0, none⟩, .string y), (29, ⟨m, 0, none⟩, .string y), (39, ⟨m, 0, none⟩, .string y)]) [5, 14, 29, 39] [0, 1, 0, 4, 12, 28, 60, 127, 255, 511, 1023, 511, 2559, 6655, 14847, 32767, 65535, 131071, 262143, 262143, 786431, 1835007, 4194303, 8388607, 16777215, 33554431, 33554431, 100663295, 234881023, 503316479, 1040187391, 2147483647, 4294967295, 8589934591, 17179869183, 34359738367, 17179869183, 85899345919, 223338299391, 498216206335, 1047972020223, 2199023255551, 4398046511103, 8796093022207] (Own.Ord.run [(0, true), (2, true), (3, true), (4, true), (5, true), (6, true), (1, false), (7, true), (8, true), (9, true), (11, true), (12, true), (13, true), (14, true), (10, false), (15, true), (16, true), (17, true), (18, true), (19, true), (20, false), (21, false), (22, true), (23, true), (24, true), (25, true), (26, true), (27, true), (28, true), (29, true), (30, true), (31, true), (32, true), (33, true), (34, true), (35, true), (36, true), (37, true), (38, true), (39, true), (40, true), (41, true), (42, true), (43, true)] .done) (by kernel_rfl) (by kernel_rfl) (fun dst v c a w h => by cases dst <;> exact h) (fun x hx w => CR.off x hx w) ?_
            simp only [Own.Ord.run]
            repeat (refine Own.st_blind _ rfl rfl (CR.off _ (by decide) _) ?_; go_big_quiet_step (fail); refine wpQuiet_nil ?_)
            refine Own.st_load _ rfl rfl (.pointer (some ⟨m, 0, none⟩)) (fun w' _ => by go_simp) (CR.off _ (by decide) _) ?_
            simp only [Act.put, List.setIfInBounds_toArray, List.set_cons_succ, List.set_cons_zero]
            repeat (refine Own.st_blind _ rfl rfl (CR.off _ (by decide) _) ?_; go_big_quiet_step (fail); refine wpQuiet_nil ?_)
            refine Own.st_load _ rfl rfl (.string y) (fun w' hw' => ?_) ?_ ?_
            · have hg0 := hw'.get (a := ⟨m, 0, none⟩) (v := .string y) (by decide) (by simp)
              go_simp
            · intro _ q hq e; simp only [List.mem_cons, List.mem_nil_iff, or_false] at hq; rcases hq with rfl | rfl | rfl | rfl <;> first | assumption | (simp at e; done) | (go_simp; done) | (simp; done)
            simp only [Act.put, List.setIfInBounds_toArray, List.set_cons_succ, List.set_cons_zero]
            repeat (refine Own.st_blind _ rfl rfl (CR.off _ (by decide) _) ?_; go_big_quiet_step (fail); refine wpQuiet_nil ?_)
            refine Own.st_do _ rfl rfl (fun K hK => ?_)
            go_simp
            refine CLn.out.mono ?_
            rintro e w9 ⟨rfl, rfl⟩
            refine hK _ _ (fun q hq hd _ => ?_) ?_
            · intro _ q hq e; simp only [List.mem_cons, List.mem_nil_iff, or_false] at hq; rcases hq with rfl | rfl | rfl | rfl <;> first | assumption | (simp at e; done) | (go_simp; done) | (simp; done)
            clear hK K
            repeat (refine Own.st_blind _ rfl rfl (CR.off _ (by decide) _) ?_; go_big_quiet_step (fail); refine wpQuiet_nil ?_)
            refine Own.st_load _ rfl rfl (.pointer (some ⟨m, 0, none⟩)) (fun w' _ => by go_simp) (CR.off _ (by decide) _) ?_
            simp only [Act.put, List.setIfInBounds_toArray, List.set_cons_succ, List.set_cons_zero]
            repeat (refine Own.st_blind _ rfl rfl (CR.off _ (by decide) _) ?_; go_big_quiet_step (fail); refine wpQuiet_nil ?_)
            refine Own.st_load _ rfl rfl (.string y) (fun w' hw' => ?_) ?_ ?_
            · have hg0 := hw'.get (a := ⟨m, 0, none⟩) (v := .string y) (by decide) (by simp)
              go_simp
            · intro _ q hq e; simp only [List.mem_cons, List.mem_nil_iff, or_false] at hq; rcases hq with rfl | rfl | rfl | rfl <;> first | assumption | (simp at e; done) | (go_simp; done) | (simp; done)
            simp only [Act.put, List.setIfInBounds_toArray, List.set_cons_succ, List.set_cons_zero]
            refine Own.st_do _ rfl rfl (fun K hK => ?_)
            go_simp
            refine CTx.out.mono ?_
            rintro e v2 ⟨rfl, tb, tk⟩
            have tk := (Kp.drewN _ _ 1).trans tk
            have tm : MdAt v2 m y M := by unfold MdAt; rw [tk.block ym (.inl (.inr rfl))]; exact MM.out
            obtain ⟨yc, _, _⟩ := tm.cells
            have TB := Lib.hid tb
            have TM := Lib.hid tm
            have TL := Lib.hid (LL.out.trans (tk.below (fun j hj => .inl (.inl hj)) LL.out.size))
            obtain ⟨hh, ⟨hh1, hh2⟩, hc0⟩ := bk_height tb
            have CHt := Lib.hid hc0
            have CLe := Lib.hid (fun w => least_calls hh w hh2)
            generalize Tr.least hh = q at *
            have gq1 : decide ((q : Int) ≤ (kk : Int)) = true := by simp; omega
            have gq2 : decide (q ≤ kk) = true := by simp; omega
            clear tb tk tm hc0 CTx
            refine hK _ _ (fun q hq hd _ => ?_) ?_
            · intro _ q hq e; simp only [List.mem_cons, List.mem_nil_iff, or_false] at hq; rcases hq with rfl | rfl | rfl | rfl <;> first | assumption | (simp at e; done) | (go_simp; done) | (simp; done)
            clear hK K
            repeat (refine Own.st_blind _ rfl rfl (CR.off _ (by decide) _) ?_; go_big_quiet_step (fail); refine wpQuiet_nil ?_)
            refine Own.st_do _ rfl rfl (fun K hK => ?_)
            go_simp
            refine CHt.out.mono ?_
            rintro e v3 ⟨rfl, rfl⟩
            refine hK _ _ (fun q hq hd _ => ?_) ?_
            · intro _ q hq e; simp only [List.mem_cons, List.mem_nil_iff, or_false] at hq; rcases hq with rfl | rfl | rfl | rfl <;> first | assumption | (simp at e; done) | (go_simp; done) | (simp; done)
            clear hK K
            refine Own.st_do _ rfl rfl (fun K hK => ?_)
            go_simp
            refine (CLe.out _).mono ?_
            rintro e v4 ⟨rfl, rfl⟩
            refine hK _ _ (fun q hq hd _ => ?_) ?_
            · intro _ q hq e; simp only [List.mem_cons, List.mem_nil_iff, or_false] at hq; rcases hq with rfl | rfl | rfl | rfl <;> first | assumption | (simp at e; done) | (go_simp; done) | (simp; done)
            clear hK K
            repeat (refine Own.st_blind _ rfl rfl (CR.off _ (by decide) _) ?_; go_big_quiet_step (fail); refine wpQuiet_nil ?_)
            refine Own.st_load _ rfl rfl (.pointer (some ⟨m, 0, none⟩)) (fun w' _ => by go_simp) (CR.off _ (by decide) _) ?_
            simp only [Act.put, List.setIfInBounds_toArray, List.set_cons_succ, List.set_cons_zero]
            repeat (refine Own.st_blind _ rfl rfl (CR.off _ (by decide) _) ?_; go_big_quiet_step (fail); refine wpQuiet_nil ?_)
            refine Own.st_load _ rfl rfl (.string y) (fun w' hw' => ?_) ?_ ?_
            · have hg0 := hw'.get (a := ⟨m, 0, none⟩) (v := .string y) (by decide) (by simp)
              go_simp
            · intro _ q hq e; simp only [List.mem_cons, List.mem_nil_iff, or_false] at hq; rcases hq with rfl | rfl | rfl | rfl <;> first | assumption | (simp at e; done) | (go_simp; done) | (simp; done)
            simp only [Act.put, List.setIfInBounds_toArray, List.set_cons_succ, List.set_cons_zero]
            repeat (refine Own.st_blind _ rfl rfl (CR.off _ (by decide) _) ?_; go_big_quiet_step (fail); refine wpQuiet_nil ?_)
            refine Own.st_load _ rfl rfl (.pointer (some ⟨m, 0, none⟩)) (fun w' _ => by go_simp) (CR.off _ (by decide) _) ?_
            simp only [Act.put, List.setIfInBounds_toArray, List.set_cons_succ, List.set_cons_zero]
            repeat (refine Own.st_blind _ rfl rfl (CR.off _ (by decide) _) ?_; go_big_quiet_step (fail); refine wpQuiet_nil ?_)
            refine Own.st_load _ rfl rfl (.string y) (fun w' hw' => ?_) ?_ ?_
            · have hg0 := hw'.get (a := ⟨m, 0, none⟩) (v := .string y) (by decide) (by simp)
              go_simp
            · intro _ q hq e; simp only [List.mem_cons, List.mem_nil_iff, or_false] at hq; rcases hq with rfl | rfl | rfl | rfl <;> first | assumption | (simp at e; done) | (go_simp; done) | (simp; done)
            simp only [Act.put, List.setIfInBounds_toArray, List.set_cons_succ, List.set_cons_zero]
            repeat (refine Own.st_blind _ rfl rfl (CR.off _ (by decide) _) ?_; go_big_quiet_step (fail); refine wpQuiet_nil ?_)
            refine Own.mix_done ?_
            go_wp2_with (fail)
            go_ret
            exact ⟨rfl, y, kk, TB.out.more (by omega) |>.mono (fun j hj => .inl hj), TM.out, TL.out⟩
          · have ge1 : y.toList.isEmpty = false := by
              rw [Lib.toList_data, List.isEmpty_eq_false_iff, ← List.length_pos_iff]
              have e1 : y.data.toList.length = y.size := by simp
              have e2 : ¬ y.size = 0 := fun e => hk0 (hkl.2.2 e)
              omega
            have ge2 : (kk == 0) = false := by simpa using hk0
            have ge3 : ((kk : Int) == 0) = false := by simp; exact hk0
            clear hk0 hkl
            refine Own.region_mix (CR [5, 14, 29, 39] [(5, ⟨m, 0, none⟩, .string y), (14, ⟨m, 0, none⟩, .string y), (29, ⟨m, 0, none⟩, .string y), (39, ⟨m, 0, none⟩, .string y)]) [5, 14, 29, 39] [0, 1, 0, 4, 12, 28, 60, 127, 255, 511, 1023, 511, 2559, 6655, 14847, 32767, 65535, 131071, 262143, 262143, 786431, 1835007, 4194303, 8388607, 16777215, 33554431, 33554431, 100663295, 234881023, 503316479, 1040187391, 2147483647, 4294967295, 8589934591, 17179869183, 34359738367, 17179869183, 85899345919, 223338299391, 498216206335, 1047972020223, 2199023255551, 4398046511103, 8796093022207] (Own.Ord.run [(0, true), (2, true), (3, true), (4, true), (5, true), (6, true), (1, false), (7, true), (8, true), (9, true), (11, true), (12, true), (13, true), (14, true), (10, false), (15, true), (16, true), (17, true), (18, true), (19, true), (20, false), (21, false), (22, true), (23, true), (24, true), (25, true), (26, true), (27, true), (28, true), (29, true), (30, true), (31, true), (32, true), (33, true), (34, true), (35, true), (36, true), (37, true), (38, true), (39, true), (40, true), (41, true), (42, true), (43, true)] .done) (by kernel_rfl) (by kernel_rfl) (fun dst v c a w h => by cases dst <;> exact h) (fun x hx w => CR.off x hx w) ?_
            simp only [Own.Ord.run]
            repeat (refine Own.st_blind _ rfl rfl (CR.off _ (by decide) _) ?_; go_big_quiet_step (fail); refine wpQuiet_nil ?_)
            refine Own.st_load _ rfl rfl (.pointer (some ⟨m, 0, none⟩)) (fun w' _ => by go_simp) (CR.off _ (by decide) _) ?_
            simp only [Act.put, List.setIfInBounds_toArray, List.set_cons_succ, List.set_cons_zero]
            repeat (refine Own.st_blind _ rfl rfl (CR.off _ (by decide) _) ?_; go_big_quiet_step (fail); refine wpQuiet_nil ?_)
            refine Own.st_load _ rfl rfl (.string y) (fun w' hw' => ?_) ?_ ?_
            · have hg0 := hw'.get (a := ⟨m, 0, none⟩) (v := .string y) (by decide) (by simp)
              go_simp
            · intro _ q hq e; simp only [List.mem_cons, List.mem_nil_iff, or_false] at hq; rcases hq with rfl | rfl | rfl | rfl <;> first | assumption | (simp at e; done) | (go_simp; done) | (simp; done)
            simp only [Act.put, List.setIfInBounds_toArray, List.set_cons_succ, List.set_cons_zero]
            repeat (refine Own.st_blind _ rfl rfl (CR.off _ (by decide) _) ?_; go_big_quiet_step (fail); refine wpQuiet_nil ?_)
            refine Own.st_do _ rfl rfl (fun K hK => ?_)
            go_simp
            refine CLn.out.mono ?_
            rintro e w9 ⟨rfl, rfl⟩
            refine hK _ _ (fun q hq hd _ => ?_) ?_
            · intro _ q hq e; simp only [List.mem_cons, List.mem_nil_iff, or_false] at hq; rcases hq with rfl | rfl | rfl | rfl <;> first | assumption | (simp at e; done) | (go_simp; done) | (simp; done)
            clear hK K
            repeat (refine Own.st_blind _ rfl rfl (CR.off _ (by decide) _) ?_; go_big_quiet_step (fail); refine wpQuiet_nil ?_)
            refine Own.st_load _ rfl rfl (.pointer (some ⟨m, 0, none⟩)) (fun w' _ => by go_simp) (CR.off _ (by decide) _) ?_
            simp only [Act.put, List.setIfInBounds_toArray, List.set_cons_succ, List.set_cons_zero]
            repeat (refine Own.st_blind _ rfl rfl (CR.off _ (by decide) _) ?_; go_big_quiet_step (fail); refine wpQuiet_nil ?_)
            refine Own.st_load _ rfl rfl (.string y) (fun w' hw' => ?_) ?_ ?_
            · have hg0 := hw'.get (a := ⟨m, 0, none⟩) (v := .string y) (by decide) (by simp)
              go_simp
            · intro _ q hq e; simp only [List.mem_cons, List.mem_nil_iff, or_false] at hq; rcases hq with rfl | rfl | rfl | rfl <;> first | assumption | (simp at e; done) | (go_simp; done) | (simp; done)
            simp only [Act.put, List.setIfInBounds_toArray, List.set_cons_succ, List.set_cons_zero]
            refine Own.st_do _ rfl rfl (fun K hK => ?_)
            go_simp
            refine CTx.out.mono ?_
            rintro e v2 ⟨rfl, tb, tk⟩
            have tk := (Kp.drewN _ _ 1).trans tk
            have tm : MdAt v2 m y M := by unfold MdAt; rw [tk.block ym (.inl (.inr rfl))]; exact MM.out
            obtain ⟨yc, _, _⟩ := tm.cells
            have TB := Lib.hid tb
            have TM := Lib.hid tm
            have TL := Lib.hid (LL.out.trans (tk.below (fun j hj => .inl (.inl hj)) LL.out.size))
            obtain ⟨hh, ⟨hh1, hh2⟩, hc0⟩ := bk_height tb
            have CHt := Lib.hid hc0
            have CLe := Lib.hid (fun w => least_calls hh w hh2)
            generalize Tr.least hh = q at *
            have gq1 : decide ((q : Int) ≤ (kk : Int)) = true := by simp; omega
            have gq2 : decide (q ≤ kk) = true := by simp; omega
            clear tb tk tm hc0 CTx
            refine hK _ _ (fun q hq hd _ => ?_) ?_
            · intro _ q hq e; simp only [List.mem_cons, List.mem_nil_iff, or_false] at hq; rcases hq with rfl | rfl | rfl | rfl <;> first | assumption | (simp at e; done) | (go_simp; done) | (simp; done)
            clear hK K
            repeat (refine Own.st_blind _ rfl rfl (CR.off _ (by decide) _) ?_; go_big_quiet_step (fail); refine wpQuiet_nil ?_)
            refine Own.st_do _ rfl rfl (fun K hK => ?_)
            go_simp
            refine CHt.out.mono ?_
            rintro e v3 ⟨rfl, rfl⟩
            refine hK _ _ (fun q hq hd _ => ?_) ?_
            · intro _ q hq e; simp only [List.mem_cons, List.mem_nil_iff, or_false] at hq; rcases hq with rfl | rfl | rfl | rfl <;> first | assumption | (simp at e; done) | (go_simp; done) | (simp; done)
            clear hK K
            refine Own.st_do _ rfl rfl (fun K hK => ?_)
            go_simp
            refine (CLe.out _).mono ?_
            rintro e v4 ⟨rfl, rfl⟩
            refine hK _ _ (fun q hq hd _ => ?_) ?_
            · intro _ q hq e; simp only [List.mem_cons, List.mem_nil_iff, or_false] at hq; rcases hq with rfl | rfl | rfl | rfl <;> first | assumption | (simp at e; done) | (go_simp; done) | (simp; done)
            clear hK K
            repeat (refine Own.st_blind _ rfl rfl (CR.off _ (by decide) _) ?_; go_big_quiet_step (fail); refine wpQuiet_nil ?_)
            refine Own.st_load _ rfl rfl (.pointer (some ⟨m, 0, none⟩)) (fun w' _ => by go_simp) (CR.off _ (by decide) _) ?_
            simp only [Act.put, List.setIfInBounds_toArray, List.set_cons_succ, List.set_cons_zero]
            repeat (refine Own.st_blind _ rfl rfl (CR.off _ (by decide) _) ?_; go_big_quiet_step (fail); refine wpQuiet_nil ?_)
            refine Own.st_load _ rfl rfl (.string y) (fun w' hw' => ?_) ?_ ?_
            · have hg0 := hw'.get (a := ⟨m, 0, none⟩) (v := .string y) (by decide) (by simp)
              go_simp
            · intro _ q hq e; simp only [List.mem_cons, List.mem_nil_iff, or_false] at hq; rcases hq with rfl | rfl | rfl | rfl <;> first | assumption | (simp at e; done) | (go_simp; done) | (simp; done)
            simp only [Act.put, List.setIfInBounds_toArray, List.set_cons_succ, List.set_cons_zero]
            repeat (refine Own.st_blind _ rfl rfl (CR.off _ (by decide) _) ?_; go_big_quiet_step (fail); refine wpQuiet_nil ?_)
            refine Own.st_load _ rfl rfl (.pointer (some ⟨m, 0, none⟩)) (fun w' _ => by go_simp) (CR.off _ (by decide) _) ?_
            simp only [Act.put, List.setIfInBounds_toArray, List.set_cons_succ, List.set_cons_zero]
            repeat (refine Own.st_blind _ rfl rfl (CR.off _ (by decide) _) ?_; go_big_quiet_step (fail); refine wpQuiet_nil ?_)
            refine Own.st_load _ rfl rfl (.string y) (fun w' hw' => ?_) ?_ ?_
            · have hg0 := hw'.get (a := ⟨m, 0, none⟩) (v := .string y) (by decide) (by simp)
              go_simp
            · intro _ q hq e; simp only [List.mem_cons, List.mem_nil_iff, or_false] at hq; rcases hq with rfl | rfl | rfl | rfl <;> first | assumption | (simp at e; done) | (go_simp; done) | (simp; done)
            simp only [Act.put, List.setIfInBounds_toArray, List.set_cons_succ, List.set_cons_zero]
            repeat (refine Own.st_blind _ rfl rfl (CR.off _ (by decide) _) ?_; go_big_quiet_step (fail); refine wpQuiet_nil ?_)
            refine Own.mix_done ?_
            go_wp2_with (fail)
            go_ret
            exact ⟨rfl, y, kk, TB.out.more (by omega) |>.mono (fun j hj => .inl hj), TM.out, TL.out⟩
end Go.Proofs.Ytemcffihfeaniaa

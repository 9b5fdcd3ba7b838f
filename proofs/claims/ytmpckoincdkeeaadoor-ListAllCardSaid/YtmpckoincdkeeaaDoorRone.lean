/- The reference's one unit. -/
import Derived.Test.YtmpckoincdkeeaaDoorRat
namespace Go.Proofs.YtmpckoincdkeeaaDoor
open Go.RowKit Go.Deep Go.Own
set_option linter.unusedVariables false
theorem wraps_i64 (n : Int) (h₀ : 0 ≤ n) (h₁ : n < 2 ^ 62) : IntKind.i64.wrap n = n := by rw [IntKind.wrap_i64]; omega
theorem and31 (c : Nat) (h : c < 256) : bits .and .i64 (c : Int) 31 = ((c % 32 : Nat) : Int) := by
  have := bits_mask .i64 62 (by decide) wraps_i64 5 (by decide) (c : Int) (by omega) (by omega)
  simpa using this
theorem and15 (c : Nat) (h : c < 256) : bits .and .i64 (c : Int) 15 = ((c % 16 : Nat) : Int) := by
  have := bits_mask .i64 62 (by decide) wraps_i64 4 (by decide) (c : Int) (by omega) (by omega)
  simpa using this
theorem and7' (c : Nat) (h : c < 256) : bits .and .i64 (c : Int) 7 = ((c % 8 : Nat) : Int) := by
  have := bits_mask .i64 62 (by decide) wraps_i64 3 (by decide) (c : Int) (by omega) (by omega)
  simpa using this
theorem and63 (c : Nat) (h : c < 256) : bits .and .u8 (c : Int) 63 = ((c % 64 : Nat) : Int) := by
  have := u8_and63 (c : Int) (by omega) (by omega)
  rw [this]; omega
set_option maxRecDepth 100000 in
theorem and192_all : ∀ x : Fin 256, bits .and .u8 ((x.val : Nat) : Int) 192 = ((x.val / 64 * 64 : Nat) : Int) := by decide
theorem and192 (c : Nat) (h : c < 256) : bits .and .u8 (c : Int) 192 = ((c / 64 * 64 : Nat) : Int) := and192_all ⟨c, h⟩
theorem or6 (a b : Nat) (ha : a < 1048576) (hb : b < 64) : bits .or .i64 ((a * 64 : Nat) : Int) (b : Int) = ((a * 64 + b : Nat) : Int) := by
  have := bits_join .i64 62 (by decide) wraps_i64 6 ((a * 64 : Nat) : Int) (b : Int) (by omega) (by omega) (by omega) (by omega) (by omega) (by omega)
  rw [this]; omega
set_option maxRecDepth 100000 in
set_option maxHeartbeats 2000000 in
theorem one_ascii (s : ByteArray) (i : Nat) (w : World) (h : i < s.size) (hs : s.size ≤ 140737488351232) (hc : uB s i < 128) :
    Calls Tryd.prog 72 #[.string s, .int .i64 (i : Nat)] w fun e w' => e = .returned (unitV i (uLen s i) (uCode s i)) ∧ Below w.heap.size w w' := by
  obtain ⟨e1, e2⟩ := u_one s i hc
  rw [e1, e2]
  have HX := s_index s i h
  have hb := uB_lt s i
  have g1 : decide (uB s i < 128) = true := by simpa using hc
  have g2 : decide ((uB s i : Int) < 128) = true := by simp; omega
  clear e1 e2
  go_enter Tryd.func72, Tryd.ntmps72
  go_wp2_with (fail)
  refine bodyPost_ret (v := unitV i 1 (uB s i : Nat)) (by simp [results, Tryd.results72, go_sem, unitV]) rfl ⟨rfl, ?_⟩
  exact ((Below.refl _ _).alloc (Nat.le_refl _) _).alloc (by simp) _
set_option maxRecDepth 100000 in
set_option maxHeartbeats 2000000 in
theorem one_2_short (s : ByteArray) (i : Nat) (w : World) (h : i < s.size) (hs : s.size ≤ 140737488351232) (c : Nat) (hc : c < 256) (HX : ∀ w, (Instr.index 9 (.string s) (.int .i64 (i : Nat))).run Tryd.prog w = .ok (.int .u8 (c : Nat)) w) (h0 : 194 ≤ c) (h1 : c ≤ 223) (v0 : Nat) (m0 : bits .and .i64 (c : Int) 31 = (v0 : Nat)) (hv0 : v0 < 32) (hz : s.size < i + 2) :
    Calls Tryd.prog 72 #[.string s, .int .i64 (i : Nat)] w fun e w' => e = .returned (unitV i 1 (-1 - (c : Int))) ∧ Below w.heap.size w w' := by
  have g1 : decide (c < 128) = false := by simp; omega
  have a2 : decide (194 ≤ c) = true := by simp; omega
  have z2 : decide (c ≤ 223) = true := by simp; omega
  have g2 : decide ((s.size : Int) < (i : Int) + 2) = true := by simp; omega
  go_enter Tryd.func72, Tryd.ntmps72
  go_wp2_with (fail)
  refine bodyPost_ret (v := unitV i 1 (-1 - (c : Int))) (by simp [results, Tryd.results72, go_sem, unitV]) rfl ⟨rfl, ?_⟩
  exact ((Below.refl _ _).alloc (Nat.le_refl _) _).alloc (by simp) _
set_option maxRecDepth 100000 in
set_option maxHeartbeats 2000000 in
theorem one_2_1 (s : ByteArray) (i : Nat) (w : World) (h : i < s.size) (hs : s.size ≤ 140737488351232) (c : Nat) (hc : c < 256) (HX : ∀ w, (Instr.index 9 (.string s) (.int .i64 (i : Nat))).run Tryd.prog w = .ok (.int .u8 (c : Nat)) w) (h0 : 194 ≤ c) (h1 : c ≤ 223) (v0 : Nat) (m0 : bits .and .i64 (c : Int) 31 = (v0 : Nat)) (hv0 : v0 < 32) (hz : i + 2 ≤ s.size) (b1 : Nat) (hb1 : b1 < 256) (HX1 : ∀ w, (Instr.index 9 (.string s) (.int .i64 ((i : Int) + 1))).run Tryd.prog w = .ok (.int .u8 (b1 : Nat)) w) (y1 : Nat) (n1 : bits .and .u8 (b1 : Int) 192 = (y1 : Nat)) (q1 : ((y1 : Int) == 128) = false) (r1 : y1 ≠ 128) :
    Calls Tryd.prog 72 #[.string s, .int .i64 (i : Nat)] w fun e w' => e = .returned (unitV i 1 (-1 - (c : Int))) ∧ Below w.heap.size w w' := by
  have g1 : decide (c < 128) = false := by simp; omega
  have a2 : decide (194 ≤ c) = true := by simp; omega
  have z2 : decide (c ≤ 223) = true := by simp; omega
  have g2 : decide ((s.size : Int) < (i : Int) + 2) = false := by simp; omega
  go_enter Tryd.func72, Tryd.ntmps72
  go_wp2_with (fail)
  refine wp_loop_rounds 2 ?_
  rw [rounds_succ]
  go_wp2_with (fail)
  refine bodyPost_ret (v := unitV i 1 (-1 - (c : Int))) (by simp [results, Tryd.results72, go_sem, unitV]) rfl ⟨rfl, ?_⟩
  exact ((Below.refl _ _).alloc (Nat.le_refl _) _).alloc (by simp) _
set_option maxRecDepth 100000 in
set_option maxHeartbeats 2000000 in
theorem one_2_ok (s : ByteArray) (i : Nat) (w : World) (h : i < s.size) (hs : s.size ≤ 140737488351232) (c : Nat) (hc : c < 256) (HX : ∀ w, (Instr.index 9 (.string s) (.int .i64 (i : Nat))).run Tryd.prog w = .ok (.int .u8 (c : Nat)) w) (h0 : 194 ≤ c) (h1 : c ≤ 223) (v0 : Nat) (m0 : bits .and .i64 (c : Int) 31 = (v0 : Nat)) (hv0 : v0 < 32) (hz : i + 2 ≤ s.size) (b1 : Nat) (hb1 : b1 < 256) (HX1 : ∀ w, (Instr.index 9 (.string s) (.int .i64 ((i : Int) + 1))).run Tryd.prog w = .ok (.int .u8 (b1 : Nat)) w) (y1 : Nat) (n1 : bits .and .u8 (b1 : Int) 192 = (y1 : Nat)) (e1 : y1 = 128) (x1 : Nat) (hx1 : x1 < 64) (p1 : bits .and .u8 (b1 : Int) 63 = (x1 : Nat)) (v1 : Nat) (o1 : bits .or .i64 ((v0 : Int) * 64) (x1 : Int) = (v1 : Nat)) (hv1 : v1 < 2048) (u1 : decide (55296 ≤ v1) = false) :
    Calls Tryd.prog 72 #[.string s, .int .i64 (i : Nat)] w fun e w' => e = .returned (unitV i 2 (v1 : Nat)) ∧ Below w.heap.size w w' := by
  subst e1
  have g1 : decide (c < 128) = false := by simp; omega
  have a2 : decide (194 ≤ c) = true := by simp; omega
  have z2 : decide (c ≤ 223) = true := by simp; omega
  have g2 : decide ((s.size : Int) < (i : Int) + 2) = false := by simp; omega
  have u1i : decide (55296 ≤ (v1 : Int)) = false := by simp at u1 ⊢; omega
  go_enter Tryd.func72, Tryd.ntmps72
  go_wp2_with (fail)
  refine wp_loop_rounds 2 ?_
  rw [rounds_succ]
  go_wp2_with (fail)
  rw [rounds_succ]
  go_wp2_with (fail)
  refine bodyPost_ret (v := unitV i 2 (v1 : Nat)) (by simp [results, Tryd.results72, go_sem, unitV]) rfl ⟨rfl, ?_⟩
  exact ((Below.refl _ _).alloc (Nat.le_refl _) _).alloc (by simp) _
set_option maxRecDepth 100000 in
set_option maxHeartbeats 2000000 in
theorem one_3_short (s : ByteArray) (i : Nat) (w : World) (h : i < s.size) (hs : s.size ≤ 140737488351232) (c : Nat) (hc : c < 256) (HX : ∀ w, (Instr.index 9 (.string s) (.int .i64 (i : Nat))).run Tryd.prog w = .ok (.int .u8 (c : Nat)) w) (h0 : 224 ≤ c) (h1 : c ≤ 239) (v0 : Nat) (m0 : bits .and .i64 (c : Int) 15 = (v0 : Nat)) (hv0 : v0 < 32) (hz : s.size < i + 3) :
    Calls Tryd.prog 72 #[.string s, .int .i64 (i : Nat)] w fun e w' => e = .returned (unitV i 1 (-1 - (c : Int))) ∧ Below w.heap.size w w' := by
  have g1 : decide (c < 128) = false := by simp; omega
  have a2 : decide (194 ≤ c) = true := by simp; omega
  have z2 : decide (c ≤ 223) = false := by simp; omega
  have a3 : decide (224 ≤ c) = true := by simp; omega
  have z3 : decide (c ≤ 239) = true := by simp; omega
  have g2 : decide ((s.size : Int) < (i : Int) + 3) = true := by simp; omega
  go_enter Tryd.func72, Tryd.ntmps72
  go_wp2_with (fail)
  refine bodyPost_ret (v := unitV i 1 (-1 - (c : Int))) (by simp [results, Tryd.results72, go_sem, unitV]) rfl ⟨rfl, ?_⟩
  exact ((Below.refl _ _).alloc (Nat.le_refl _) _).alloc (by simp) _
set_option maxRecDepth 100000 in
set_option maxHeartbeats 2000000 in
theorem one_3_1 (s : ByteArray) (i : Nat) (w : World) (h : i < s.size) (hs : s.size ≤ 140737488351232) (c : Nat) (hc : c < 256) (HX : ∀ w, (Instr.index 9 (.string s) (.int .i64 (i : Nat))).run Tryd.prog w = .ok (.int .u8 (c : Nat)) w) (h0 : 224 ≤ c) (h1 : c ≤ 239) (v0 : Nat) (m0 : bits .and .i64 (c : Int) 15 = (v0 : Nat)) (hv0 : v0 < 32) (hz : i + 3 ≤ s.size) (b1 : Nat) (hb1 : b1 < 256) (HX1 : ∀ w, (Instr.index 9 (.string s) (.int .i64 ((i : Int) + 1))).run Tryd.prog w = .ok (.int .u8 (b1 : Nat)) w) (y1 : Nat) (n1 : bits .and .u8 (b1 : Int) 192 = (y1 : Nat)) (q1 : ((y1 : Int) == 128) = false) (r1 : y1 ≠ 128) :
    Calls Tryd.prog 72 #[.string s, .int .i64 (i : Nat)] w fun e w' => e = .returned (unitV i 1 (-1 - (c : Int))) ∧ Below w.heap.size w w' := by
  have g1 : decide (c < 128) = false := by simp; omega
  have a2 : decide (194 ≤ c) = true := by simp; omega
  have z2 : decide (c ≤ 223) = false := by simp; omega
  have a3 : decide (224 ≤ c) = true := by simp; omega
  have z3 : decide (c ≤ 239) = true := by simp; omega
  have g2 : decide ((s.size : Int) < (i : Int) + 3) = false := by simp; omega
  go_enter Tryd.func72, Tryd.ntmps72
  go_wp2_with (fail)
  refine wp_loop_rounds 3 ?_
  rw [rounds_succ]
  go_wp2_with (fail)
  refine bodyPost_ret (v := unitV i 1 (-1 - (c : Int))) (by simp [results, Tryd.results72, go_sem, unitV]) rfl ⟨rfl, ?_⟩
  exact ((Below.refl _ _).alloc (Nat.le_refl _) _).alloc (by simp) _
set_option maxRecDepth 100000 in
set_option maxHeartbeats 2000000 in
theorem one_3_2 (s : ByteArray) (i : Nat) (w : World) (h : i < s.size) (hs : s.size ≤ 140737488351232) (c : Nat) (hc : c < 256) (HX : ∀ w, (Instr.index 9 (.string s) (.int .i64 (i : Nat))).run Tryd.prog w = .ok (.int .u8 (c : Nat)) w) (h0 : 224 ≤ c) (h1 : c ≤ 239) (v0 : Nat) (m0 : bits .and .i64 (c : Int) 15 = (v0 : Nat)) (hv0 : v0 < 32) (hz : i + 3 ≤ s.size) (b1 : Nat) (hb1 : b1 < 256) (HX1 : ∀ w, (Instr.index 9 (.string s) (.int .i64 ((i : Int) + 1))).run Tryd.prog w = .ok (.int .u8 (b1 : Nat)) w) (y1 : Nat) (n1 : bits .and .u8 (b1 : Int) 192 = (y1 : Nat)) (e1 : y1 = 128) (x1 : Nat) (hx1 : x1 < 64) (p1 : bits .and .u8 (b1 : Int) 63 = (x1 : Nat)) (v1 : Nat) (o1 : bits .or .i64 ((v0 : Int) * 64) (x1 : Int) = (v1 : Nat)) (hv1 : v1 < 2048) (b2 : Nat) (hb2 : b2 < 256) (HX2 : ∀ w, (Instr.index 9 (.string s) (.int .i64 ((i : Int) + 2))).run Tryd.prog w = .ok (.int .u8 (b2 : Nat)) w) (y2 : Nat) (n2 : bits .and .u8 (b2 : Int) 192 = (y2 : Nat)) (q2 : ((y2 : Int) == 128) = false) (r2 : y2 ≠ 128) :
    Calls Tryd.prog 72 #[.string s, .int .i64 (i : Nat)] w fun e w' => e = .returned (unitV i 1 (-1 - (c : Int))) ∧ Below w.heap.size w w' := by
  subst e1
  have g1 : decide (c < 128) = false := by simp; omega
  have a2 : decide (194 ≤ c) = true := by simp; omega
  have z2 : decide (c ≤ 223) = false := by simp; omega
  have a3 : decide (224 ≤ c) = true := by simp; omega
  have z3 : decide (c ≤ 239) = true := by simp; omega
  have g2 : decide ((s.size : Int) < (i : Int) + 3) = false := by simp; omega
  go_enter Tryd.func72, Tryd.ntmps72
  go_wp2_with (fail)
  refine wp_loop_rounds 3 ?_
  rw [rounds_succ]
  go_wp2_with (fail)
  rw [rounds_succ]
  go_wp2_with (fail)
  refine bodyPost_ret (v := unitV i 1 (-1 - (c : Int))) (by simp [results, Tryd.results72, go_sem, unitV]) rfl ⟨rfl, ?_⟩
  exact ((Below.refl _ _).alloc (Nat.le_refl _) _).alloc (by simp) _
set_option maxRecDepth 100000 in
set_option maxHeartbeats 2000000 in
theorem one_3_vala (s : ByteArray) (i : Nat) (w : World) (h : i < s.size) (hs : s.size ≤ 140737488351232) (c : Nat) (hc : c < 256) (HX : ∀ w, (Instr.index 9 (.string s) (.int .i64 (i : Nat))).run Tryd.prog w = .ok (.int .u8 (c : Nat)) w) (h0 : 224 ≤ c) (h1 : c ≤ 239) (v0 : Nat) (m0 : bits .and .i64 (c : Int) 15 = (v0 : Nat)) (hv0 : v0 < 32) (hz : i + 3 ≤ s.size) (b1 : Nat) (hb1 : b1 < 256) (HX1 : ∀ w, (Instr.index 9 (.string s) (.int .i64 ((i : Int) + 1))).run Tryd.prog w = .ok (.int .u8 (b1 : Nat)) w) (y1 : Nat) (n1 : bits .and .u8 (b1 : Int) 192 = (y1 : Nat)) (e1 : y1 = 128) (x1 : Nat) (hx1 : x1 < 64) (p1 : bits .and .u8 (b1 : Int) 63 = (x1 : Nat)) (v1 : Nat) (o1 : bits .or .i64 ((v0 : Int) * 64) (x1 : Int) = (v1 : Nat)) (hv1 : v1 < 2048) (b2 : Nat) (hb2 : b2 < 256) (HX2 : ∀ w, (Instr.index 9 (.string s) (.int .i64 ((i : Int) + 2))).run Tryd.prog w = .ok (.int .u8 (b2 : Nat)) w) (y2 : Nat) (n2 : bits .and .u8 (b2 : Int) 192 = (y2 : Nat)) (e2 : y2 = 128) (x2 : Nat) (hx2 : x2 < 64) (p2 : bits .and .u8 (b2 : Int) 63 = (x2 : Nat)) (v2 : Nat) (o2 : bits .or .i64 ((v1 : Int) * 64) (x2 : Int) = (v2 : Nat)) (hv2 : v2 < 131072) (u1 : decide (v2 < 2048) = true) :
    Calls Tryd.prog 72 #[.string s, .int .i64 (i : Nat)] w fun e w' => e = .returned (unitV i 1 (-1 - (c : Int))) ∧ Below w.heap.size w w' := by
  subst e1
  subst e2
  have g1 : decide (c < 128) = false := by simp; omega
  have a2 : decide (194 ≤ c) = true := by simp; omega
  have z2 : decide (c ≤ 223) = false := by simp; omega
  have a3 : decide (224 ≤ c) = true := by simp; omega
  have z3 : decide (c ≤ 239) = true := by simp; omega
  have g2 : decide ((s.size : Int) < (i : Int) + 3) = false := by simp; omega
  have u1i : decide ((v2 : Int) < 2048) = true := by simp at u1 ⊢; omega
  go_enter Tryd.func72, Tryd.ntmps72
  go_wp2_with (fail)
  refine wp_loop_rounds 3 ?_
  rw [rounds_succ]
  go_wp2_with (fail)
  rw [rounds_succ]
  go_wp2_with (fail)
  rw [rounds_succ]
  go_wp2_with (fail)
  refine bodyPost_ret (v := unitV i 1 (-1 - (c : Int))) (by simp [results, Tryd.results72, go_sem, unitV]) rfl ⟨rfl, ?_⟩
  exact ((Below.refl _ _).alloc (Nat.le_refl _) _).alloc (by simp) _
set_option maxRecDepth 100000 in
set_option maxHeartbeats 2000000 in
theorem one_3_valb (s : ByteArray) (i : Nat) (w : World) (h : i < s.size) (hs : s.size ≤ 140737488351232) (c : Nat) (hc : c < 256) (HX : ∀ w, (Instr.index 9 (.string s) (.int .i64 (i : Nat))).run Tryd.prog w = .ok (.int .u8 (c : Nat)) w) (h0 : 224 ≤ c) (h1 : c ≤ 239) (v0 : Nat) (m0 : bits .and .i64 (c : Int) 15 = (v0 : Nat)) (hv0 : v0 < 32) (hz : i + 3 ≤ s.size) (b1 : Nat) (hb1 : b1 < 256) (HX1 : ∀ w, (Instr.index 9 (.string s) (.int .i64 ((i : Int) + 1))).run Tryd.prog w = .ok (.int .u8 (b1 : Nat)) w) (y1 : Nat) (n1 : bits .and .u8 (b1 : Int) 192 = (y1 : Nat)) (e1 : y1 = 128) (x1 : Nat) (hx1 : x1 < 64) (p1 : bits .and .u8 (b1 : Int) 63 = (x1 : Nat)) (v1 : Nat) (o1 : bits .or .i64 ((v0 : Int) * 64) (x1 : Int) = (v1 : Nat)) (hv1 : v1 < 2048) (b2 : Nat) (hb2 : b2 < 256) (HX2 : ∀ w, (Instr.index 9 (.string s) (.int .i64 ((i : Int) + 2))).run Tryd.prog w = .ok (.int .u8 (b2 : Nat)) w) (y2 : Nat) (n2 : bits .and .u8 (b2 : Int) 192 = (y2 : Nat)) (e2 : y2 = 128) (x2 : Nat) (hx2 : x2 < 64) (p2 : bits .and .u8 (b2 : Int) 63 = (x2 : Nat)) (v2 : Nat) (o2 : bits .or .i64 ((v1 : Int) * 64) (x2 : Int) = (v2 : Nat)) (hv2 : v2 < 131072) (u1 : decide (v2 < 2048) = false) (u2 : decide (55296 ≤ v2) = true) (u3 : decide (v2 ≤ 57343) = true) :
    Calls Tryd.prog 72 #[.string s, .int .i64 (i : Nat)] w fun e w' => e = .returned (unitV i 1 (-1 - (c : Int))) ∧ Below w.heap.size w w' := by
  subst e1
  subst e2
  have g1 : decide (c < 128) = false := by simp; omega
  have a2 : decide (194 ≤ c) = true := by simp; omega
  have z2 : decide (c ≤ 223) = false := by simp; omega
  have a3 : decide (224 ≤ c) = true := by simp; omega
  have z3 : decide (c ≤ 239) = true := by simp; omega
  have g2 : decide ((s.size : Int) < (i : Int) + 3) = false := by simp; omega
  have u1i : decide ((v2 : Int) < 2048) = false := by simp at u1 ⊢; omega
  have u2i : decide (55296 ≤ (v2 : Int)) = true := by simp at u2 ⊢; omega
  have u3i : decide ((v2 : Int) ≤ 57343) = true := by simp at u3 ⊢; omega
  go_enter Tryd.func72, Tryd.ntmps72
  go_wp2_with (fail)
  refine wp_loop_rounds 3 ?_
  rw [rounds_succ]
  go_wp2_with (fail)
  rw [rounds_succ]
  go_wp2_with (fail)
  rw [rounds_succ]
  go_wp2_with (fail)
  refine bodyPost_ret (v := unitV i 1 (-1 - (c : Int))) (by simp [results, Tryd.results72, go_sem, unitV]) rfl ⟨rfl, ?_⟩
  exact ((Below.refl _ _).alloc (Nat.le_refl _) _).alloc (by simp) _
set_option maxRecDepth 100000 in
set_option maxHeartbeats 2000000 in
theorem one_3_oka (s : ByteArray) (i : Nat) (w : World) (h : i < s.size) (hs : s.size ≤ 140737488351232) (c : Nat) (hc : c < 256) (HX : ∀ w, (Instr.index 9 (.string s) (.int .i64 (i : Nat))).run Tryd.prog w = .ok (.int .u8 (c : Nat)) w) (h0 : 224 ≤ c) (h1 : c ≤ 239) (v0 : Nat) (m0 : bits .and .i64 (c : Int) 15 = (v0 : Nat)) (hv0 : v0 < 32) (hz : i + 3 ≤ s.size) (b1 : Nat) (hb1 : b1 < 256) (HX1 : ∀ w, (Instr.index 9 (.string s) (.int .i64 ((i : Int) + 1))).run Tryd.prog w = .ok (.int .u8 (b1 : Nat)) w) (y1 : Nat) (n1 : bits .and .u8 (b1 : Int) 192 = (y1 : Nat)) (e1 : y1 = 128) (x1 : Nat) (hx1 : x1 < 64) (p1 : bits .and .u8 (b1 : Int) 63 = (x1 : Nat)) (v1 : Nat) (o1 : bits .or .i64 ((v0 : Int) * 64) (x1 : Int) = (v1 : Nat)) (hv1 : v1 < 2048) (b2 : Nat) (hb2 : b2 < 256) (HX2 : ∀ w, (Instr.index 9 (.string s) (.int .i64 ((i : Int) + 2))).run Tryd.prog w = .ok (.int .u8 (b2 : Nat)) w) (y2 : Nat) (n2 : bits .and .u8 (b2 : Int) 192 = (y2 : Nat)) (e2 : y2 = 128) (x2 : Nat) (hx2 : x2 < 64) (p2 : bits .and .u8 (b2 : Int) 63 = (x2 : Nat)) (v2 : Nat) (o2 : bits .or .i64 ((v1 : Int) * 64) (x2 : Int) = (v2 : Nat)) (hv2 : v2 < 131072) (u1 : decide (v2 < 2048) = false) (u2 : decide (55296 ≤ v2) = false) :
    Calls Tryd.prog 72 #[.string s, .int .i64 (i : Nat)] w fun e w' => e = .returned (unitV i 3 (v2 : Nat)) ∧ Below w.heap.size w w' := by
  subst e1
  subst e2
  have g1 : decide (c < 128) = false := by simp; omega
  have a2 : decide (194 ≤ c) = true := by simp; omega
  have z2 : decide (c ≤ 223) = false := by simp; omega
  have a3 : decide (224 ≤ c) = true := by simp; omega
  have z3 : decide (c ≤ 239) = true := by simp; omega
  have g2 : decide ((s.size : Int) < (i : Int) + 3) = false := by simp; omega
  have u1i : decide ((v2 : Int) < 2048) = false := by simp at u1 ⊢; omega
  have u2i : decide (55296 ≤ (v2 : Int)) = false := by simp at u2 ⊢; omega
  go_enter Tryd.func72, Tryd.ntmps72
  go_wp2_with (fail)
  refine wp_loop_rounds 3 ?_
  rw [rounds_succ]
  go_wp2_with (fail)
  rw [rounds_succ]
  go_wp2_with (fail)
  rw [rounds_succ]
  go_wp2_with (fail)
  refine bodyPost_ret (v := unitV i 3 (v2 : Nat)) (by simp [results, Tryd.results72, go_sem, unitV]) rfl ⟨rfl, ?_⟩
  exact ((Below.refl _ _).alloc (Nat.le_refl _) _).alloc (by simp) _
set_option maxRecDepth 100000 in
set_option maxHeartbeats 2000000 in
theorem one_3_okb (s : ByteArray) (i : Nat) (w : World) (h : i < s.size) (hs : s.size ≤ 140737488351232) (c : Nat) (hc : c < 256) (HX : ∀ w, (Instr.index 9 (.string s) (.int .i64 (i : Nat))).run Tryd.prog w = .ok (.int .u8 (c : Nat)) w) (h0 : 224 ≤ c) (h1 : c ≤ 239) (v0 : Nat) (m0 : bits .and .i64 (c : Int) 15 = (v0 : Nat)) (hv0 : v0 < 32) (hz : i + 3 ≤ s.size) (b1 : Nat) (hb1 : b1 < 256) (HX1 : ∀ w, (Instr.index 9 (.string s) (.int .i64 ((i : Int) + 1))).run Tryd.prog w = .ok (.int .u8 (b1 : Nat)) w) (y1 : Nat) (n1 : bits .and .u8 (b1 : Int) 192 = (y1 : Nat)) (e1 : y1 = 128) (x1 : Nat) (hx1 : x1 < 64) (p1 : bits .and .u8 (b1 : Int) 63 = (x1 : Nat)) (v1 : Nat) (o1 : bits .or .i64 ((v0 : Int) * 64) (x1 : Int) = (v1 : Nat)) (hv1 : v1 < 2048) (b2 : Nat) (hb2 : b2 < 256) (HX2 : ∀ w, (Instr.index 9 (.string s) (.int .i64 ((i : Int) + 2))).run Tryd.prog w = .ok (.int .u8 (b2 : Nat)) w) (y2 : Nat) (n2 : bits .and .u8 (b2 : Int) 192 = (y2 : Nat)) (e2 : y2 = 128) (x2 : Nat) (hx2 : x2 < 64) (p2 : bits .and .u8 (b2 : Int) 63 = (x2 : Nat)) (v2 : Nat) (o2 : bits .or .i64 ((v1 : Int) * 64) (x2 : Int) = (v2 : Nat)) (hv2 : v2 < 131072) (u1 : decide (v2 < 2048) = false) (u2 : decide (55296 ≤ v2) = true) (u3 : decide (v2 ≤ 57343) = false) :
    Calls Tryd.prog 72 #[.string s, .int .i64 (i : Nat)] w fun e w' => e = .returned (unitV i 3 (v2 : Nat)) ∧ Below w.heap.size w w' := by
  subst e1
  subst e2
  have g1 : decide (c < 128) = false := by simp; omega
  have a2 : decide (194 ≤ c) = true := by simp; omega
  have z2 : decide (c ≤ 223) = false := by simp; omega
  have a3 : decide (224 ≤ c) = true := by simp; omega
  have z3 : decide (c ≤ 239) = true := by simp; omega
  have g2 : decide ((s.size : Int) < (i : Int) + 3) = false := by simp; omega
  have u1i : decide ((v2 : Int) < 2048) = false := by simp at u1 ⊢; omega
  have u2i : decide (55296 ≤ (v2 : Int)) = true := by simp at u2 ⊢; omega
  have u3i : decide ((v2 : Int) ≤ 57343) = false := by simp at u3 ⊢; omega
  go_enter Tryd.func72, Tryd.ntmps72
  go_wp2_with (fail)
  refine wp_loop_rounds 3 ?_
  rw [rounds_succ]
  go_wp2_with (fail)
  rw [rounds_succ]
  go_wp2_with (fail)
  rw [rounds_succ]
  go_wp2_with (fail)
  refine bodyPost_ret (v := unitV i 3 (v2 : Nat)) (by simp [results, Tryd.results72, go_sem, unitV]) rfl ⟨rfl, ?_⟩
  exact ((Below.refl _ _).alloc (Nat.le_refl _) _).alloc (by simp) _
set_option maxRecDepth 100000 in
set_option maxHeartbeats 2000000 in
theorem one_4_short (s : ByteArray) (i : Nat) (w : World) (h : i < s.size) (hs : s.size ≤ 140737488351232) (c : Nat) (hc : c < 256) (HX : ∀ w, (Instr.index 9 (.string s) (.int .i64 (i : Nat))).run Tryd.prog w = .ok (.int .u8 (c : Nat)) w) (h0 : 240 ≤ c) (h1 : c ≤ 244) (v0 : Nat) (m0 : bits .and .i64 (c : Int) 7 = (v0 : Nat)) (hv0 : v0 < 32) (hz : s.size < i + 4) :
    Calls Tryd.prog 72 #[.string s, .int .i64 (i : Nat)] w fun e w' => e = .returned (unitV i 1 (-1 - (c : Int))) ∧ Below w.heap.size w w' := by
  have g1 : decide (c < 128) = false := by simp; omega
  have a2 : decide (194 ≤ c) = true := by simp; omega
  have z2 : decide (c ≤ 223) = false := by simp; omega
  have a3 : decide (224 ≤ c) = true := by simp; omega
  have z3 : decide (c ≤ 239) = false := by simp; omega
  have a4 : decide (240 ≤ c) = true := by simp; omega
  have z4 : decide (c ≤ 244) = true := by simp; omega
  have g2 : decide ((s.size : Int) < (i : Int) + 4) = true := by simp; omega
  go_enter Tryd.func72, Tryd.ntmps72
  go_wp2_with (fail)
  refine bodyPost_ret (v := unitV i 1 (-1 - (c : Int))) (by simp [results, Tryd.results72, go_sem, unitV]) rfl ⟨rfl, ?_⟩
  exact ((Below.refl _ _).alloc (Nat.le_refl _) _).alloc (by simp) _
set_option maxRecDepth 100000 in
set_option maxHeartbeats 2000000 in
theorem one_4_1 (s : ByteArray) (i : Nat) (w : World) (h : i < s.size) (hs : s.size ≤ 140737488351232) (c : Nat) (hc : c < 256) (HX : ∀ w, (Instr.index 9 (.string s) (.int .i64 (i : Nat))).run Tryd.prog w = .ok (.int .u8 (c : Nat)) w) (h0 : 240 ≤ c) (h1 : c ≤ 244) (v0 : Nat) (m0 : bits .and .i64 (c : Int) 7 = (v0 : Nat)) (hv0 : v0 < 32) (hz : i + 4 ≤ s.size) (b1 : Nat) (hb1 : b1 < 256) (HX1 : ∀ w, (Instr.index 9 (.string s) (.int .i64 ((i : Int) + 1))).run Tryd.prog w = .ok (.int .u8 (b1 : Nat)) w) (y1 : Nat) (n1 : bits .and .u8 (b1 : Int) 192 = (y1 : Nat)) (q1 : ((y1 : Int) == 128) = false) (r1 : y1 ≠ 128) :
    Calls Tryd.prog 72 #[.string s, .int .i64 (i : Nat)] w fun e w' => e = .returned (unitV i 1 (-1 - (c : Int))) ∧ Below w.heap.size w w' := by
  have g1 : decide (c < 128) = false := by simp; omega
  have a2 : decide (194 ≤ c) = true := by simp; omega
  have z2 : decide (c ≤ 223) = false := by simp; omega
  have a3 : decide (224 ≤ c) = true := by simp; omega
  have z3 : decide (c ≤ 239) = false := by simp; omega
  have a4 : decide (240 ≤ c) = true := by simp; omega
  have z4 : decide (c ≤ 244) = true := by simp; omega
  have g2 : decide ((s.size : Int) < (i : Int) + 4) = false := by simp; omega
  go_enter Tryd.func72, Tryd.ntmps72
  go_wp2_with (fail)
  refine wp_loop_rounds 4 ?_
  rw [rounds_succ]
  go_wp2_with (fail)
  refine bodyPost_ret (v := unitV i 1 (-1 - (c : Int))) (by simp [results, Tryd.results72, go_sem, unitV]) rfl ⟨rfl, ?_⟩
  exact ((Below.refl _ _).alloc (Nat.le_refl _) _).alloc (by simp) _
set_option maxRecDepth 100000 in
set_option maxHeartbeats 2000000 in
theorem one_4_2 (s : ByteArray) (i : Nat) (w : World) (h : i < s.size) (hs : s.size ≤ 140737488351232) (c : Nat) (hc : c < 256) (HX : ∀ w, (Instr.index 9 (.string s) (.int .i64 (i : Nat))).run Tryd.prog w = .ok (.int .u8 (c : Nat)) w) (h0 : 240 ≤ c) (h1 : c ≤ 244) (v0 : Nat) (m0 : bits .and .i64 (c : Int) 7 = (v0 : Nat)) (hv0 : v0 < 32) (hz : i + 4 ≤ s.size) (b1 : Nat) (hb1 : b1 < 256) (HX1 : ∀ w, (Instr.index 9 (.string s) (.int .i64 ((i : Int) + 1))).run Tryd.prog w = .ok (.int .u8 (b1 : Nat)) w) (y1 : Nat) (n1 : bits .and .u8 (b1 : Int) 192 = (y1 : Nat)) (e1 : y1 = 128) (x1 : Nat) (hx1 : x1 < 64) (p1 : bits .and .u8 (b1 : Int) 63 = (x1 : Nat)) (v1 : Nat) (o1 : bits .or .i64 ((v0 : Int) * 64) (x1 : Int) = (v1 : Nat)) (hv1 : v1 < 2048) (b2 : Nat) (hb2 : b2 < 256) (HX2 : ∀ w, (Instr.index 9 (.string s) (.int .i64 ((i : Int) + 2))).run Tryd.prog w = .ok (.int .u8 (b2 : Nat)) w) (y2 : Nat) (n2 : bits .and .u8 (b2 : Int) 192 = (y2 : Nat)) (q2 : ((y2 : Int) == 128) = false) (r2 : y2 ≠ 128) :
    Calls Tryd.prog 72 #[.string s, .int .i64 (i : Nat)] w fun e w' => e = .returned (unitV i 1 (-1 - (c : Int))) ∧ Below w.heap.size w w' := by
  subst e1
  have g1 : decide (c < 128) = false := by simp; omega
  have a2 : decide (194 ≤ c) = true := by simp; omega
  have z2 : decide (c ≤ 223) = false := by simp; omega
  have a3 : decide (224 ≤ c) = true := by simp; omega
  have z3 : decide (c ≤ 239) = false := by simp; omega
  have a4 : decide (240 ≤ c) = true := by simp; omega
  have z4 : decide (c ≤ 244) = true := by simp; omega
  have g2 : decide ((s.size : Int) < (i : Int) + 4) = false := by simp; omega
  go_enter Tryd.func72, Tryd.ntmps72
  go_wp2_with (fail)
  refine wp_loop_rounds 4 ?_
  rw [rounds_succ]
  go_wp2_with (fail)
  rw [rounds_succ]
  go_wp2_with (fail)
  refine bodyPost_ret (v := unitV i 1 (-1 - (c : Int))) (by simp [results, Tryd.results72, go_sem, unitV]) rfl ⟨rfl, ?_⟩
  exact ((Below.refl _ _).alloc (Nat.le_refl _) _).alloc (by simp) _
set_option maxRecDepth 100000 in
set_option maxHeartbeats 2000000 in
theorem one_4_3 (s : ByteArray) (i : Nat) (w : World) (h : i < s.size) (hs : s.size ≤ 140737488351232) (c : Nat) (hc : c < 256) (HX : ∀ w, (Instr.index 9 (.string s) (.int .i64 (i : Nat))).run Tryd.prog w = .ok (.int .u8 (c : Nat)) w) (h0 : 240 ≤ c) (h1 : c ≤ 244) (v0 : Nat) (m0 : bits .and .i64 (c : Int) 7 = (v0 : Nat)) (hv0 : v0 < 32) (hz : i + 4 ≤ s.size) (b1 : Nat) (hb1 : b1 < 256) (HX1 : ∀ w, (Instr.index 9 (.string s) (.int .i64 ((i : Int) + 1))).run Tryd.prog w = .ok (.int .u8 (b1 : Nat)) w) (y1 : Nat) (n1 : bits .and .u8 (b1 : Int) 192 = (y1 : Nat)) (e1 : y1 = 128) (x1 : Nat) (hx1 : x1 < 64) (p1 : bits .and .u8 (b1 : Int) 63 = (x1 : Nat)) (v1 : Nat) (o1 : bits .or .i64 ((v0 : Int) * 64) (x1 : Int) = (v1 : Nat)) (hv1 : v1 < 2048) (b2 : Nat) (hb2 : b2 < 256) (HX2 : ∀ w, (Instr.index 9 (.string s) (.int .i64 ((i : Int) + 2))).run Tryd.prog w = .ok (.int .u8 (b2 : Nat)) w) (y2 : Nat) (n2 : bits .and .u8 (b2 : Int) 192 = (y2 : Nat)) (e2 : y2 = 128) (x2 : Nat) (hx2 : x2 < 64) (p2 : bits .and .u8 (b2 : Int) 63 = (x2 : Nat)) (v2 : Nat) (o2 : bits .or .i64 ((v1 : Int) * 64) (x2 : Int) = (v2 : Nat)) (hv2 : v2 < 131072) (b3 : Nat) (hb3 : b3 < 256) (HX3 : ∀ w, (Instr.index 9 (.string s) (.int .i64 ((i : Int) + 3))).run Tryd.prog w = .ok (.int .u8 (b3 : Nat)) w) (y3 : Nat) (n3 : bits .and .u8 (b3 : Int) 192 = (y3 : Nat)) (q3 : ((y3 : Int) == 128) = false) (r3 : y3 ≠ 128) :
    Calls Tryd.prog 72 #[.string s, .int .i64 (i : Nat)] w fun e w' => e = .returned (unitV i 1 (-1 - (c : Int))) ∧ Below w.heap.size w w' := by
  subst e1
  subst e2
  have g1 : decide (c < 128) = false := by simp; omega
  have a2 : decide (194 ≤ c) = true := by simp; omega
  have z2 : decide (c ≤ 223) = false := by simp; omega
  have a3 : decide (224 ≤ c) = true := by simp; omega
  have z3 : decide (c ≤ 239) = false := by simp; omega
  have a4 : decide (240 ≤ c) = true := by simp; omega
  have z4 : decide (c ≤ 244) = true := by simp; omega
  have g2 : decide ((s.size : Int) < (i : Int) + 4) = false := by simp; omega
  go_enter Tryd.func72, Tryd.ntmps72
  go_wp2_with (fail)
  refine wp_loop_rounds 4 ?_
  rw [rounds_succ]
  go_wp2_with (fail)
  rw [rounds_succ]
  go_wp2_with (fail)
  rw [rounds_succ]
  go_wp2_with (fail)
  refine bodyPost_ret (v := unitV i 1 (-1 - (c : Int))) (by simp [results, Tryd.results72, go_sem, unitV]) rfl ⟨rfl, ?_⟩
  exact ((Below.refl _ _).alloc (Nat.le_refl _) _).alloc (by simp) _
set_option maxRecDepth 100000 in
set_option maxHeartbeats 2000000 in
theorem one_4_vala (s : ByteArray) (i : Nat) (w : World) (h : i < s.size) (hs : s.size ≤ 140737488351232) (c : Nat) (hc : c < 256) (HX : ∀ w, (Instr.index 9 (.string s) (.int .i64 (i : Nat))).run Tryd.prog w = .ok (.int .u8 (c : Nat)) w) (h0 : 240 ≤ c) (h1 : c ≤ 244) (v0 : Nat) (m0 : bits .and .i64 (c : Int) 7 = (v0 : Nat)) (hv0 : v0 < 32) (hz : i + 4 ≤ s.size) (b1 : Nat) (hb1 : b1 < 256) (HX1 : ∀ w, (Instr.index 9 (.string s) (.int .i64 ((i : Int) + 1))).run Tryd.prog w = .ok (.int .u8 (b1 : Nat)) w) (y1 : Nat) (n1 : bits .and .u8 (b1 : Int) 192 = (y1 : Nat)) (e1 : y1 = 128) (x1 : Nat) (hx1 : x1 < 64) (p1 : bits .and .u8 (b1 : Int) 63 = (x1 : Nat)) (v1 : Nat) (o1 : bits .or .i64 ((v0 : Int) * 64) (x1 : Int) = (v1 : Nat)) (hv1 : v1 < 2048) (b2 : Nat) (hb2 : b2 < 256) (HX2 : ∀ w, (Instr.index 9 (.string s) (.int .i64 ((i : Int) + 2))).run Tryd.prog w = .ok (.int .u8 (b2 : Nat)) w) (y2 : Nat) (n2 : bits .and .u8 (b2 : Int) 192 = (y2 : Nat)) (e2 : y2 = 128) (x2 : Nat) (hx2 : x2 < 64) (p2 : bits .and .u8 (b2 : Int) 63 = (x2 : Nat)) (v2 : Nat) (o2 : bits .or .i64 ((v1 : Int) * 64) (x2 : Int) = (v2 : Nat)) (hv2 : v2 < 131072) (b3 : Nat) (hb3 : b3 < 256) (HX3 : ∀ w, (Instr.index 9 (.string s) (.int .i64 ((i : Int) + 3))).run Tryd.prog w = .ok (.int .u8 (b3 : Nat)) w) (y3 : Nat) (n3 : bits .and .u8 (b3 : Int) 192 = (y3 : Nat)) (e3 : y3 = 128) (x3 : Nat) (hx3 : x3 < 64) (p3 : bits .and .u8 (b3 : Int) 63 = (x3 : Nat)) (v3 : Nat) (o3 : bits .or .i64 ((v2 : Int) * 64) (x3 : Int) = (v3 : Nat)) (hv3 : v3 < 8388608) (U1 : RowKit.Hid (v3 < 65536)) :
    Calls Tryd.prog 72 #[.string s, .int .i64 (i : Nat)] w fun e w' => e = .returned (unitV i 1 (-1 - (c : Int))) ∧ Below w.heap.size w w' := by
  subst e1
  subst e2
  subst e3
  have g1 : decide (c < 128) = false := by simp; omega
  have a2 : decide (194 ≤ c) = true := by simp; omega
  have z2 : decide (c ≤ 223) = false := by simp; omega
  have a3 : decide (224 ≤ c) = true := by simp; omega
  have z3 : decide (c ≤ 239) = false := by simp; omega
  have a4 : decide (240 ≤ c) = true := by simp; omega
  have z4 : decide (c ≤ 244) = true := by simp; omega
  have g2 : decide ((s.size : Int) < (i : Int) + 4) = false := by simp; omega
  clear hv3
  go_enter Tryd.func72, Tryd.ntmps72
  go_wp2_with (fail)
  refine wp_loop_rounds 4 ?_
  rw [rounds_succ]
  go_wp2_with (fail)
  rw [rounds_succ]
  go_wp2_with (fail)
  rw [rounds_succ]
  go_wp2_with (fail)
  rw [rounds_succ]
  go_wp2_with (fail)
  all_goals have U2 := U1.out
  all_goals first | (exfalso; omega) | skip
  all_goals
    refine bodyPost_ret (v := unitV i 1 (-1 - (c : Int))) (by simp [results, Tryd.results72, go_sem, unitV]) rfl ⟨rfl, ?_⟩
    exact ((Below.refl _ _).alloc (Nat.le_refl _) _).alloc (by simp) _
set_option maxRecDepth 100000 in
set_option maxHeartbeats 2000000 in
theorem one_4_valb (s : ByteArray) (i : Nat) (w : World) (h : i < s.size) (hs : s.size ≤ 140737488351232) (c : Nat) (hc : c < 256) (HX : ∀ w, (Instr.index 9 (.string s) (.int .i64 (i : Nat))).run Tryd.prog w = .ok (.int .u8 (c : Nat)) w) (h0 : 240 ≤ c) (h1 : c ≤ 244) (v0 : Nat) (m0 : bits .and .i64 (c : Int) 7 = (v0 : Nat)) (hv0 : v0 < 32) (hz : i + 4 ≤ s.size) (b1 : Nat) (hb1 : b1 < 256) (HX1 : ∀ w, (Instr.index 9 (.string s) (.int .i64 ((i : Int) + 1))).run Tryd.prog w = .ok (.int .u8 (b1 : Nat)) w) (y1 : Nat) (n1 : bits .and .u8 (b1 : Int) 192 = (y1 : Nat)) (e1 : y1 = 128) (x1 : Nat) (hx1 : x1 < 64) (p1 : bits .and .u8 (b1 : Int) 63 = (x1 : Nat)) (v1 : Nat) (o1 : bits .or .i64 ((v0 : Int) * 64) (x1 : Int) = (v1 : Nat)) (hv1 : v1 < 2048) (b2 : Nat) (hb2 : b2 < 256) (HX2 : ∀ w, (Instr.index 9 (.string s) (.int .i64 ((i : Int) + 2))).run Tryd.prog w = .ok (.int .u8 (b2 : Nat)) w) (y2 : Nat) (n2 : bits .and .u8 (b2 : Int) 192 = (y2 : Nat)) (e2 : y2 = 128) (x2 : Nat) (hx2 : x2 < 64) (p2 : bits .and .u8 (b2 : Int) 63 = (x2 : Nat)) (v2 : Nat) (o2 : bits .or .i64 ((v1 : Int) * 64) (x2 : Int) = (v2 : Nat)) (hv2 : v2 < 131072) (b3 : Nat) (hb3 : b3 < 256) (HX3 : ∀ w, (Instr.index 9 (.string s) (.int .i64 ((i : Int) + 3))).run Tryd.prog w = .ok (.int .u8 (b3 : Nat)) w) (y3 : Nat) (n3 : bits .and .u8 (b3 : Int) 192 = (y3 : Nat)) (e3 : y3 = 128) (x3 : Nat) (hx3 : x3 < 64) (p3 : bits .and .u8 (b3 : Int) 63 = (x3 : Nat)) (v3 : Nat) (o3 : bits .or .i64 ((v2 : Int) * 64) (x3 : Int) = (v3 : Nat)) (hv3 : v3 < 8388608) (U1 : RowKit.Hid (1114111 < v3)) :
    Calls Tryd.prog 72 #[.string s, .int .i64 (i : Nat)] w fun e w' => e = .returned (unitV i 1 (-1 - (c : Int))) ∧ Below w.heap.size w w' := by
  subst e1
  subst e2
  subst e3
  have g1 : decide (c < 128) = false := by simp; omega
  have a2 : decide (194 ≤ c) = true := by simp; omega
  have z2 : decide (c ≤ 223) = false := by simp; omega
  have a3 : decide (224 ≤ c) = true := by simp; omega
  have z3 : decide (c ≤ 239) = false := by simp; omega
  have a4 : decide (240 ≤ c) = true := by simp; omega
  have z4 : decide (c ≤ 244) = true := by simp; omega
  have g2 : decide ((s.size : Int) < (i : Int) + 4) = false := by simp; omega
  clear hv3
  go_enter Tryd.func72, Tryd.ntmps72
  go_wp2_with (fail)
  refine wp_loop_rounds 4 ?_
  rw [rounds_succ]
  go_wp2_with (fail)
  rw [rounds_succ]
  go_wp2_with (fail)
  rw [rounds_succ]
  go_wp2_with (fail)
  rw [rounds_succ]
  go_wp2_with (fail)
  all_goals have U2 := U1.out
  all_goals first | (exfalso; omega) | skip
  all_goals
    refine bodyPost_ret (v := unitV i 1 (-1 - (c : Int))) (by simp [results, Tryd.results72, go_sem, unitV]) rfl ⟨rfl, ?_⟩
    exact ((Below.refl _ _).alloc (Nat.le_refl _) _).alloc (by simp) _
set_option maxRecDepth 100000 in
set_option maxHeartbeats 2000000 in
theorem one_4_ok (s : ByteArray) (i : Nat) (w : World) (h : i < s.size) (hs : s.size ≤ 140737488351232) (c : Nat) (hc : c < 256) (HX : ∀ w, (Instr.index 9 (.string s) (.int .i64 (i : Nat))).run Tryd.prog w = .ok (.int .u8 (c : Nat)) w) (h0 : 240 ≤ c) (h1 : c ≤ 244) (v0 : Nat) (m0 : bits .and .i64 (c : Int) 7 = (v0 : Nat)) (hv0 : v0 < 32) (hz : i + 4 ≤ s.size) (b1 : Nat) (hb1 : b1 < 256) (HX1 : ∀ w, (Instr.index 9 (.string s) (.int .i64 ((i : Int) + 1))).run Tryd.prog w = .ok (.int .u8 (b1 : Nat)) w) (y1 : Nat) (n1 : bits .and .u8 (b1 : Int) 192 = (y1 : Nat)) (e1 : y1 = 128) (x1 : Nat) (hx1 : x1 < 64) (p1 : bits .and .u8 (b1 : Int) 63 = (x1 : Nat)) (v1 : Nat) (o1 : bits .or .i64 ((v0 : Int) * 64) (x1 : Int) = (v1 : Nat)) (hv1 : v1 < 2048) (b2 : Nat) (hb2 : b2 < 256) (HX2 : ∀ w, (Instr.index 9 (.string s) (.int .i64 ((i : Int) + 2))).run Tryd.prog w = .ok (.int .u8 (b2 : Nat)) w) (y2 : Nat) (n2 : bits .and .u8 (b2 : Int) 192 = (y2 : Nat)) (e2 : y2 = 128) (x2 : Nat) (hx2 : x2 < 64) (p2 : bits .and .u8 (b2 : Int) 63 = (x2 : Nat)) (v2 : Nat) (o2 : bits .or .i64 ((v1 : Int) * 64) (x2 : Int) = (v2 : Nat)) (hv2 : v2 < 131072) (b3 : Nat) (hb3 : b3 < 256) (HX3 : ∀ w, (Instr.index 9 (.string s) (.int .i64 ((i : Int) + 3))).run Tryd.prog w = .ok (.int .u8 (b3 : Nat)) w) (y3 : Nat) (n3 : bits .and .u8 (b3 : Int) 192 = (y3 : Nat)) (e3 : y3 = 128) (x3 : Nat) (hx3 : x3 < 64) (p3 : bits .and .u8 (b3 : Int) 63 = (x3 : Nat)) (v3 : Nat) (o3 : bits .or .i64 ((v2 : Int) * 64) (x3 : Int) = (v3 : Nat)) (hv3 : v3 < 8388608) (U1 : RowKit.Hid (65536 ≤ v3 ∧ v3 ≤ 1114111)) :
    Calls Tryd.prog 72 #[.string s, .int .i64 (i : Nat)] w fun e w' => e = .returned (unitV i 4 (v3 : Nat)) ∧ Below w.heap.size w w' := by
  subst e1
  subst e2
  subst e3
  have g1 : decide (c < 128) = false := by simp; omega
  have a2 : decide (194 ≤ c) = true := by simp; omega
  have z2 : decide (c ≤ 223) = false := by simp; omega
  have a3 : decide (224 ≤ c) = true := by simp; omega
  have z3 : decide (c ≤ 239) = false := by simp; omega
  have a4 : decide (240 ≤ c) = true := by simp; omega
  have z4 : decide (c ≤ 244) = true := by simp; omega
  have g2 : decide ((s.size : Int) < (i : Int) + 4) = false := by simp; omega
  clear hv3
  go_enter Tryd.func72, Tryd.ntmps72
  go_wp2_with (fail)
  refine wp_loop_rounds 4 ?_
  rw [rounds_succ]
  go_wp2_with (fail)
  rw [rounds_succ]
  go_wp2_with (fail)
  rw [rounds_succ]
  go_wp2_with (fail)
  rw [rounds_succ]
  go_wp2_with (fail)
  all_goals have U2 := U1.out
  all_goals first | (exfalso; omega) | skip
  all_goals
    refine bodyPost_ret (v := unitV i 4 (v3 : Nat)) (by simp [results, Tryd.results72, go_sem, unitV]) rfl ⟨rfl, ?_⟩
    exact ((Below.refl _ _).alloc (Nat.le_refl _) _).alloc (by simp) _
end Go.Proofs.YtmpckoincdkeeaaDoor

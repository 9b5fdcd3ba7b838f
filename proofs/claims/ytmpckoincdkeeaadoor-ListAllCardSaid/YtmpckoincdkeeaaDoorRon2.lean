/- The reference's one unit: its arms joined. -/
import Derived.Test.YtmpckoincdkeeaaDoorRone
namespace Go.Proofs.YtmpckoincdkeeaaDoor
open Go.RowKit Go.Deep Go.Own
set_option linter.unusedVariables false
theorem s_index' (s : ByteArray) (i k : Nat) (h : i + k < s.size) (w : World) : (Instr.index 9 (.string s) (.int .i64 ((i : Int) + (k : Nat)))).run Tryd.prog w = .ok (.int .u8 (uB s (i + k) : Nat)) w := by
  have := s_index s (i + k) h w
  rwa [Int.natCast_add] at this
set_option maxRecDepth 100000 in
set_option maxHeartbeats 2000000 in
theorem one_none (s : ByteArray) (i : Nat) (w : World) (h : i < s.size) (hs : s.size ≤ 140737488351232) (hc : (128 ≤ uB s i ∧ uB s i < 194) ∨ 245 ≤ uB s i) :
    Calls Tryd.prog 72 #[.string s, .int .i64 (i : Nat)] w fun e w' => e = .returned (unitV i (uLen s i) (uCode s i)) ∧ Below w.heap.size w w' := by
  obtain ⟨e1, e2⟩ := u_none s i hc
  rw [e1, e2]
  have HX := s_index s i h
  have hb := uB_lt s i
  clear e1 e2
  obtain ⟨c, hcc⟩ : ∃ c, c = uB s i := ⟨_, rfl⟩
  rw [← hcc] at hc HX hb ⊢
  clear hcc
  have g1 : decide (c < 128) = false := by simp; omega
  rcases hc with ⟨k1, k2⟩ | k1
  · have a2 : decide (194 ≤ c) = false := by simp; omega
    have a3 : decide (224 ≤ c) = false := by simp; omega
    have a4 : decide (240 ≤ c) = false := by simp; omega
    go_enter Tryd.func72, Tryd.ntmps72
    go_wp2_with (fail)
    refine bodyPost_ret (v := unitV i 1 (-1 - (c : Int))) (by simp [results, Tryd.results72, go_sem, unitV]) rfl ⟨rfl, ?_⟩
    exact ((Below.refl _ _).alloc (Nat.le_refl _) _).alloc (by simp) _
  · have a2 : decide (194 ≤ c) = true := by simp; omega
    have a3 : decide (224 ≤ c) = true := by simp; omega
    have a4 : decide (240 ≤ c) = true := by simp; omega
    have z2 : decide (c ≤ 223) = false := by simp; omega
    have z3 : decide (c ≤ 239) = false := by simp; omega
    have z4 : decide (c ≤ 244) = false := by simp; omega
    go_enter Tryd.func72, Tryd.ntmps72
    go_wp2_with (fail)
    refine bodyPost_ret (v := unitV i 1 (-1 - (c : Int))) (by simp [results, Tryd.results72, go_sem, unitV]) rfl ⟨rfl, ?_⟩
    exact ((Below.refl _ _).alloc (Nat.le_refl _) _).alloc (by simp) _
theorem and192_no (c : Nat) (h : ¬ c / 64 = 2) : (((c / 64 * 64 : Nat) : Int) == 128) = false := by simp; omega
theorem one_n2 (s : ByteArray) (i : Nat) (w : World) (h : i < s.size) (hs : s.size ≤ 140737488351232) (h0 : 194 ≤ uB s i) (h1 : uB s i ≤ 223) :
    Calls Tryd.prog 72 #[.string s, .int .i64 (i : Nat)] w fun e w' => e = .returned (unitV i (uLen s i) (uCode s i)) ∧ Below w.heap.size w w' := by
  have hb := uB_lt s i
  by_cases z : i + 2 ≤ s.size
  · by_cases t1 : uB s (i + 1) / 64 = 2
    · obtain ⟨e1, e2⟩ := u_two s i h0 h1 (by omega) t1
      rw [e1, e2]
      exact one_2_ok s i w h hs (uB s i) hb (s_index s i h) h0 h1 _ (and31 _ hb) (by omega) z (uB s (i + 1)) (uB_lt _ _) (s_index' s i 1 (by omega)) _ (and192 _ (uB_lt _ _)) (by omega) _ (by omega) (and63 _ (uB_lt _ _)) _ (or6 _ _ (by omega) (by omega)) (by omega) (by simp; omega)
    · obtain ⟨e1, e2⟩ := u_two_no s i h0 h1 (fun a => t1 a.2)
      rw [e1, e2]
      exact one_2_1 s i w h hs (uB s i) hb (s_index s i h) h0 h1 _ (and31 _ hb) (by omega) z (uB s (i + 1)) (uB_lt _ _) (s_index' s i 1 (by omega)) _ (and192 _ (uB_lt _ _)) (and192_no _ t1) (by omega)
  · obtain ⟨e1, e2⟩ := u_two_no s i h0 h1 (fun a => z (by omega))
    rw [e1, e2]
    exact one_2_short s i w h hs (uB s i) hb (s_index s i h) h0 h1 _ (and31 _ hb) (by omega) (by omega)
theorem one_n3 (s : ByteArray) (i : Nat) (w : World) (h : i < s.size) (hs : s.size ≤ 140737488351232) (h0 : 224 ≤ uB s i) (h1 : uB s i ≤ 239) :
    Calls Tryd.prog 72 #[.string s, .int .i64 (i : Nat)] w fun e w' => e = .returned (unitV i (uLen s i) (uCode s i)) ∧ Below w.heap.size w w' := by
  have hb := uB_lt s i
  by_cases z : i + 3 ≤ s.size
  · by_cases t1 : uB s (i + 1) / 64 = 2
    · by_cases t2 : uB s (i + 2) / 64 = 2
      · obtain ⟨v2, e2v⟩ : ∃ v2, v2 = (uB s i % 16 * 64 + uB s (i + 1) % 64) * 64 + uB s (i + 2) % 64 := ⟨_, rfl⟩
        have hv2 := or6 (uB s i % 16 * 64 + uB s (i + 1) % 64) (uB s (i + 2) % 64) (by omega) (by omega)
        rw [← e2v, Int.natCast_mul] at hv2
        by_cases c1 : v2 < 2048
        · obtain ⟨e1, e2⟩ := u_three_no s i h0 h1 (fun a => by omega)
          rw [e1, e2]
          exact one_3_vala s i w h hs (uB s i) hb (s_index s i h) h0 h1 _ (and15 _ hb) (by omega) z (uB s (i + 1)) (uB_lt _ _) (s_index' s i 1 (by omega)) _ (and192 _ (uB_lt _ _)) (by omega) _ (by omega) (and63 _ (uB_lt _ _)) _ (or6 _ _ (by omega) (by omega)) (by omega) (uB s (i + 2)) (uB_lt _ _) (s_index' s i 2 (by omega)) _ (and192 _ (uB_lt _ _)) (by omega) _ (by omega) (and63 _ (uB_lt _ _)) v2 hv2 (by omega) (by simp; omega)
        · by_cases c2 : 55296 ≤ v2
          · by_cases c3 : v2 ≤ 57343
            · obtain ⟨e1, e2⟩ := u_three_no s i h0 h1 (fun a => by omega)
              rw [e1, e2]
              exact one_3_valb s i w h hs (uB s i) hb (s_index s i h) h0 h1 _ (and15 _ hb) (by omega) z (uB s (i + 1)) (uB_lt _ _) (s_index' s i 1 (by omega)) _ (and192 _ (uB_lt _ _)) (by omega) _ (by omega) (and63 _ (uB_lt _ _)) _ (or6 _ _ (by omega) (by omega)) (by omega) (uB s (i + 2)) (uB_lt _ _) (s_index' s i 2 (by omega)) _ (and192 _ (uB_lt _ _)) (by omega) _ (by omega) (and63 _ (uB_lt _ _)) v2 hv2 (by omega) (by simp; omega) (by simp; omega) (by simp; omega)
            · obtain ⟨e1, e2⟩ := u_three s i h0 h1 (by omega) t1 t2 (by omega) (by omega)
              rw [e1, e2, show uB s i % 16 * 4096 + uB s (i + 1) % 64 * 64 + uB s (i + 2) % 64 = v2 by omega]
              exact one_3_okb s i w h hs (uB s i) hb (s_index s i h) h0 h1 _ (and15 _ hb) (by omega) z (uB s (i + 1)) (uB_lt _ _) (s_index' s i 1 (by omega)) _ (and192 _ (uB_lt _ _)) (by omega) _ (by omega) (and63 _ (uB_lt _ _)) _ (or6 _ _ (by omega) (by omega)) (by omega) (uB s (i + 2)) (uB_lt _ _) (s_index' s i 2 (by omega)) _ (and192 _ (uB_lt _ _)) (by omega) _ (by omega) (and63 _ (uB_lt _ _)) v2 hv2 (by omega) (by simp; omega) (by simp; omega) (by simp; omega)
          · obtain ⟨e1, e2⟩ := u_three s i h0 h1 (by omega) t1 t2 (by omega) (by omega)
            rw [e1, e2, show uB s i % 16 * 4096 + uB s (i + 1) % 64 * 64 + uB s (i + 2) % 64 = v2 by omega]
            exact one_3_oka s i w h hs (uB s i) hb (s_index s i h) h0 h1 _ (and15 _ hb) (by omega) z (uB s (i + 1)) (uB_lt _ _) (s_index' s i 1 (by omega)) _ (and192 _ (uB_lt _ _)) (by omega) _ (by omega) (and63 _ (uB_lt _ _)) _ (or6 _ _ (by omega) (by omega)) (by omega) (uB s (i + 2)) (uB_lt _ _) (s_index' s i 2 (by omega)) _ (and192 _ (uB_lt _ _)) (by omega) _ (by omega) (and63 _ (uB_lt _ _)) v2 hv2 (by omega) (by simp; omega) (by simp; omega)
      · obtain ⟨e1, e2⟩ := u_three_no s i h0 h1 (fun a => t2 a.1.2.2)
        rw [e1, e2]
        exact one_3_2 s i w h hs (uB s i) hb (s_index s i h) h0 h1 _ (and15 _ hb) (by omega) z (uB s (i + 1)) (uB_lt _ _) (s_index' s i 1 (by omega)) _ (and192 _ (uB_lt _ _)) (by omega) _ (by omega) (and63 _ (uB_lt _ _)) _ (or6 _ _ (by omega) (by omega)) (by omega) (uB s (i + 2)) (uB_lt _ _) (s_index' s i 2 (by omega)) _ (and192 _ (uB_lt _ _)) (and192_no _ t2) (by omega)
    · obtain ⟨e1, e2⟩ := u_three_no s i h0 h1 (fun a => t1 a.1.2.1)
      rw [e1, e2]
      exact one_3_1 s i w h hs (uB s i) hb (s_index s i h) h0 h1 _ (and15 _ hb) (by omega) z (uB s (i + 1)) (uB_lt _ _) (s_index' s i 1 (by omega)) _ (and192 _ (uB_lt _ _)) (and192_no _ t1) (by omega)
  · obtain ⟨e1, e2⟩ := u_three_no s i h0 h1 (fun a => z (by omega))
    rw [e1, e2]
    exact one_3_short s i w h hs (uB s i) hb (s_index s i h) h0 h1 _ (and15 _ hb) (by omega) (by omega)
theorem one_n4 (s : ByteArray) (i : Nat) (w : World) (h : i < s.size) (hs : s.size ≤ 140737488351232) (h0 : 240 ≤ uB s i) (h1 : uB s i ≤ 244) :
    Calls Tryd.prog 72 #[.string s, .int .i64 (i : Nat)] w fun e w' => e = .returned (unitV i (uLen s i) (uCode s i)) ∧ Below w.heap.size w w' := by
  have hb := uB_lt s i
  by_cases z : i + 4 ≤ s.size
  · by_cases t1 : uB s (i + 1) / 64 = 2
    · obtain ⟨v2, e2v⟩ : ∃ v2, v2 = (uB s i % 8 * 64 + uB s (i + 1) % 64) * 64 + uB s (i + 2) % 64 := ⟨_, rfl⟩
      have hv2 := or6 (uB s i % 8 * 64 + uB s (i + 1) % 64) (uB s (i + 2) % 64) (by omega) (by omega)
      rw [← e2v, Int.natCast_mul] at hv2
      by_cases t2 : uB s (i + 2) / 64 = 2
      · by_cases t3 : uB s (i + 3) / 64 = 2
        · obtain ⟨v3, e3v⟩ : ∃ v3, v3 = v2 * 64 + uB s (i + 3) % 64 := ⟨_, rfl⟩
          have hv3 := or6 v2 (uB s (i + 3) % 64) (by omega) (by omega)
          rw [← e3v, Int.natCast_mul] at hv3
          by_cases c1 : v3 < 65536
          · obtain ⟨e1, e2⟩ := u_four_no s i h0 h1 (fun a => by omega)
            rw [e1, e2]
            exact one_4_vala s i w h hs (uB s i) hb (s_index s i h) h0 h1 _ (and7' _ hb) (by omega) z (uB s (i + 1)) (uB_lt _ _) (s_index' s i 1 (by omega)) _ (and192 _ (uB_lt _ _)) (by omega) _ (by omega) (and63 _ (uB_lt _ _)) _ (or6 _ _ (by omega) (by omega)) (by omega) (uB s (i + 2)) (uB_lt _ _) (s_index' s i 2 (by omega)) _ (and192 _ (uB_lt _ _)) (by omega) _ (by omega) (and63 _ (uB_lt _ _)) v2 hv2 (by omega) (uB s (i + 3)) (uB_lt _ _) (s_index' s i 3 (by omega)) _ (and192 _ (uB_lt _ _)) (by omega) _ (by omega) (and63 _ (uB_lt _ _)) v3 hv3 (by omega) (Lib.hid c1)
          · by_cases c2 : 1114111 < v3
            · obtain ⟨e1, e2⟩ := u_four_no s i h0 h1 (fun a => by omega)
              rw [e1, e2]
              exact one_4_valb s i w h hs (uB s i) hb (s_index s i h) h0 h1 _ (and7' _ hb) (by omega) z (uB s (i + 1)) (uB_lt _ _) (s_index' s i 1 (by omega)) _ (and192 _ (uB_lt _ _)) (by omega) _ (by omega) (and63 _ (uB_lt _ _)) _ (or6 _ _ (by omega) (by omega)) (by omega) (uB s (i + 2)) (uB_lt _ _) (s_index' s i 2 (by omega)) _ (and192 _ (uB_lt _ _)) (by omega) _ (by omega) (and63 _ (uB_lt _ _)) v2 hv2 (by omega) (uB s (i + 3)) (uB_lt _ _) (s_index' s i 3 (by omega)) _ (and192 _ (uB_lt _ _)) (by omega) _ (by omega) (and63 _ (uB_lt _ _)) v3 hv3 (by omega) (Lib.hid c2)
            · obtain ⟨e1, e2⟩ := u_four s i h0 h1 (by omega) t1 t2 t3 (by omega) (by omega)
              rw [e1, e2, show uB s i % 8 * 262144 + uB s (i + 1) % 64 * 4096 + uB s (i + 2) % 64 * 64 + uB s (i + 3) % 64 = v3 by omega]
              exact one_4_ok s i w h hs (uB s i) hb (s_index s i h) h0 h1 _ (and7' _ hb) (by omega) z (uB s (i + 1)) (uB_lt _ _) (s_index' s i 1 (by omega)) _ (and192 _ (uB_lt _ _)) (by omega) _ (by omega) (and63 _ (uB_lt _ _)) _ (or6 _ _ (by omega) (by omega)) (by omega) (uB s (i + 2)) (uB_lt _ _) (s_index' s i 2 (by omega)) _ (and192 _ (uB_lt _ _)) (by omega) _ (by omega) (and63 _ (uB_lt _ _)) v2 hv2 (by omega) (uB s (i + 3)) (uB_lt _ _) (s_index' s i 3 (by omega)) _ (and192 _ (uB_lt _ _)) (by omega) _ (by omega) (and63 _ (uB_lt _ _)) v3 hv3 (by omega) (Lib.hid ⟨by omega, by omega⟩)
        · obtain ⟨e1, e2⟩ := u_four_no s i h0 h1 (fun a => t3 a.1.2.2.2)
          rw [e1, e2]
          exact one_4_3 s i w h hs (uB s i) hb (s_index s i h) h0 h1 _ (and7' _ hb) (by omega) z (uB s (i + 1)) (uB_lt _ _) (s_index' s i 1 (by omega)) _ (and192 _ (uB_lt _ _)) (by omega) _ (by omega) (and63 _ (uB_lt _ _)) _ (or6 _ _ (by omega) (by omega)) (by omega) (uB s (i + 2)) (uB_lt _ _) (s_index' s i 2 (by omega)) _ (and192 _ (uB_lt _ _)) (by omega) _ (by omega) (and63 _ (uB_lt _ _)) v2 hv2 (by omega) (uB s (i + 3)) (uB_lt _ _) (s_index' s i 3 (by omega)) _ (and192 _ (uB_lt _ _)) (and192_no _ t3) (by omega)
      · obtain ⟨e1, e2⟩ := u_four_no s i h0 h1 (fun a => t2 a.1.2.2.1)
        rw [e1, e2]
        exact one_4_2 s i w h hs (uB s i) hb (s_index s i h) h0 h1 _ (and7' _ hb) (by omega) z (uB s (i + 1)) (uB_lt _ _) (s_index' s i 1 (by omega)) _ (and192 _ (uB_lt _ _)) (by omega) _ (by omega) (and63 _ (uB_lt _ _)) _ (or6 _ _ (by omega) (by omega)) (by omega) (uB s (i + 2)) (uB_lt _ _) (s_index' s i 2 (by omega)) _ (and192 _ (uB_lt _ _)) (and192_no _ t2) (by omega)
    · obtain ⟨e1, e2⟩ := u_four_no s i h0 h1 (fun a => t1 a.1.2.1)
      rw [e1, e2]
      exact one_4_1 s i w h hs (uB s i) hb (s_index s i h) h0 h1 _ (and7' _ hb) (by omega) z (uB s (i + 1)) (uB_lt _ _) (s_index' s i 1 (by omega)) _ (and192 _ (uB_lt _ _)) (and192_no _ t1) (by omega)
  · obtain ⟨e1, e2⟩ := u_four_no s i h0 h1 (fun a => z (by omega))
    rw [e1, e2]
    exact one_4_short s i w h hs (uB s i) hb (s_index s i h) h0 h1 _ (and7' _ hb) (by omega) (by omega)
/-- THE REFERENCE'S ONE UNIT -/
theorem rone_calls (s : ByteArray) (i : Nat) (w : World) (h : i < s.size) (hs : s.size ≤ 140737488351232) :
    Calls Tryd.prog 72 #[.string s, .int .i64 (i : Nat)] w fun e w' => e = .returned (unitV i (uLen s i) (uCode s i)) ∧ Below w.heap.size w w' := by
  by_cases c1 : uB s i < 128
  · exact one_ascii s i w h hs c1
  by_cases c2 : (128 ≤ uB s i ∧ uB s i < 194) ∨ 245 ≤ uB s i
  · exact one_none s i w h hs c2
  by_cases c3 : uB s i ≤ 223
  · exact one_n2 s i w h hs (by omega) c3
  by_cases c4 : uB s i ≤ 239
  · exact one_n3 s i w h hs (by omega) c4
  exact one_n4 s i w h hs (by omega) (by omega)
end Go.Proofs.YtmpckoincdkeeaaDoor

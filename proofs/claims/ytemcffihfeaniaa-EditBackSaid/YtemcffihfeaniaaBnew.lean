/- the buffer: New; a buffer that is a text. -/
import Derived.Test.YtemcffihfeaniaaBdel
namespace Go.Proofs.Ytemcffihfeaniaa
open Go.RowKit Go.Deep Go.Own
set_option linter.unusedVariables false
attribute [local go_sem] Own.own_max2 Own.own_max_two Own.own_min2 Own.own_min_two
def BigS (s : ByteArray) : Prop := s.size ≤ 140737488351232
theorem bnew_big (s : ByteArray) (most : Int) (M : Nat) (hM : imax 0 (imin most 65536) = (M : Int)) (W : World) (hs : M < s.size) (hs2 : BigS s) :
    Calls Try.prog 33 #[.string s, .int .i64 most] W fun e w' => e = .returned (.tuple #[.pointer none, .int .i64 3]) ∧ W = w' := by
  unfold BigS at hs2
  have g1 : decide (M < s.size) = true := by simpa using hs
  go_enter Try.func33, Try.ntmps33
  go_wp2_with (fail)
  go_ret2
  exact ⟨rfl, rfl⟩
def NewPost (W : World) (s : List UInt8) (M : Nat) (b : Nat) (w' : World) : Prop :=
  ∃ c bo ba bt vl ps qs, BufX w' c b s [] bo ba bt vl ps qs M ∧ (∀ k, c k ≠ 0 → W.heap.size ≤ k) ∧ Below W.heap.size W w' ∧ pText s [] qs = s ∧ ps.length ≤ 1 ∧ qs.length ≤ 1
set_option maxRecDepth 100000 in
set_option maxHeartbeats 4000000 in
theorem bnew_ok (s : ByteArray) (most : Int) (M : Nat) (hM : imax 0 (imin most 65536) = (M : Int)) (hM2 : M ≤ 65536) (W : World) (hs : s.size ≤ M) :
    Calls Try.prog 33 #[.string s, .int .i64 most] W fun e w' => ∃ b, e = .returned (.tuple #[.pointer (some ⟨b, 0, none⟩), .int .i64 0]) ∧ NewPost W s.data.toList M b w' := by
  have g1 : decide (M < s.size) = false := by simpa using hs
  have CN := Lib.hid (avl_new W)
  go_enter Try.func33, Try.ntmps33
  go_wp2_with (fail)
  refine CN.out.mono ?_
  rintro e w1 ⟨rfl, t1, b1⟩
  have CO := Lib.hid (fun o => new_calls s (w1.alloc o) (by omega))
  have T1 := Lib.hid t1
  have B1 := Lib.hid b1
  clear t1 b1 CN
  obtain ⟨bt, hbt⟩ : ∃ bt, bt = W.heap.size := ⟨_, rfl⟩
  rw [← hbt]
  have HBT := Lib.hid hbt
  clear hbt
  go_wp2_with (fail)
  refine (CO.out _).mono ?_
  rintro e w3 ⟨rfl, o3, b3⟩
  obtain ⟨w2, hw2⟩ : ∃ w2, w2 = w1.alloc (.cells #[Value.pointer none, .pointer none, .slice none 0 0, .pointer (some ⟨bt, 0, none⟩), .int .i64 (M : Nat)] 97) := ⟨_, rfl⟩
  rw [← hw2] at o3 b3
  rw [← hw2]
  obtain ⟨b, hb⟩ : ∃ b, b = w1.heap.size := ⟨_, rfl⟩
  rw [← hb]
  have n2 : w2.heap[b]? = some (.cells #[Value.pointer none, .pointer none, .slice none 0 0, .pointer (some ⟨bt, 0, none⟩), .int .i64 (M : Nat)] 97 (0, 0)) := by rw [hw2, hb]; exact blk_alloc_new w1 _
  have s2 : w2.heap.size = w1.heap.size + 1 := by rw [hw2]; simp
  have B2 := Lib.hid (show Below w1.heap.size w1 w2 by rw [hw2]; exact (Below.refl _ _).alloc (Nat.le_refl _) _)
  obtain ⟨bo, hbo⟩ : ∃ bo, bo = w2.heap.size := ⟨_, rfl⟩
  rw [← hbo] at o3
  rw [← hbo]
  have CA := Lib.hid (new_calls ⟨#[]⟩ w3 (by decide))
  have O3 := Lib.hid o3
  have B3 := Lib.hid b3
  have N2 := Lib.hid n2
  have S2 := Lib.hid s2
  have HB := Lib.hid hb
  have HBO := Lib.hid hbo
  clear o3 b3 n2 s2 hb hbo hw2 CO
  go_wp2_with (fail)
  refine CA.out.mono ?_
  rintro e w4 ⟨rfl, o4, b4⟩
  obtain ⟨ba, hba⟩ : ∃ ba, ba = w3.heap.size := ⟨_, rfl⟩
  rw [← hba] at o4
  rw [← hba]
  have z1 := B1.out.size
  have z3 : w2.heap.size ≤ w3.heap.size := B3.out.size
  have z4 : w3.heap.size ≤ w4.heap.size := b4.size
  have zb := HB.out
  have s2 := S2.out
  have n4 : w4.heap[b]? = some (.cells #[Value.pointer none, .pointer none, .slice none 0 0, .pointer (some ⟨bt, 0, none⟩), .int .i64 (M : Nat)] 97 (0, 0)) := (b4.block b (by omega)).trans ((B3.out.block b (by omega)).trans N2.out)
  have d0 : w4.cell? ⟨b, 0, none⟩ = some (.pointer none) := by simp [World.cell?, n4]
  have d1 : w4.cell? ⟨b, 1, none⟩ = some (.pointer none) := by simp [World.cell?, n4]
  have d5 : ∀ j, w4.frozen? ⟨b, j, none⟩ = false := fun j => by simp [World.frozen?, n4]
  have O4 := Lib.hid o4
  have B4 := Lib.hid b4
  have N4 := Lib.hid n4
  have HBA := Lib.hid hba
  have Z1 := Lib.hid (And.intro z1 (And.intro z3 (And.intro z4 (And.intro zb s2))))
  clear o4 b4 n4 hba CA z1 z3 z4 zb s2
  go_wp2_with (fail)
  generalize hw5 : (w4.setCell ⟨b, 0, none⟩ (.pointer (some ⟨bo, 0, none⟩))).setCell ⟨b, 1, none⟩ (.pointer (some ⟨ba, 0, none⟩)) = w5
  obtain ⟨z1, z3, z4, zb, s2⟩ := Z1.out
  have hbo := HBO.out
  have hba := HBA.out
  have hbt := HBT.out
  obtain ⟨c, hc⟩ : ∃ c : Nat → Nat, c = fun k => if k = b then 5 else if W.heap.size ≤ k ∧ k < w1.heap.size then 3 else if w2.heap.size ≤ k ∧ k < w3.heap.size then 1 else if w3.heap.size ≤ k ∧ k < w4.heap.size then 2 else 0 := ⟨_, rfl⟩
  have c5 : c b = 5 := by rw [hc]; simp
  have c3 : ∀ k, Mk W w1 k → c k = 3 := fun k hk => by
    have h1 := hk.1
    have h2 := hk.2
    rw [hc]; simp only
    rw [if_neg (by omega), if_pos ⟨h1, h2⟩]
  have c1 : ∀ k, Mk w2 w3 k → c k = 1 := fun k hk => by
    have h1 := hk.1
    have h2 := hk.2
    rw [hc]; simp only
    rw [if_neg (by omega), if_neg (by omega), if_pos ⟨h1, h2⟩]
  have c2 : ∀ k, Mk w3 w4 k → c k = 2 := fun k hk => by
    have h1 := hk.1
    have h2 := hk.2
    rw [hc]; simp only
    rw [if_neg (by omega), if_neg (by omega), if_neg (by omega), if_pos ⟨h1, h2⟩]
  have clt : ∀ k, c k ≠ 0 → W.heap.size ≤ k ∧ k < w4.heap.size := fun k hk => by
    rw [hc] at hk; simp only at hk
    split at hk
    · omega
    · split at hk
      · omega
      · split at hk
        · omega
        · split at hk
          · omega
          · exact absurd rfl hk
  have s5 : w5.heap.size = w4.heap.size := by rw [← hw5]; simp [World.setCell]
  have oth : ∀ k, k ≠ b → w5.heap[k]? = w4.heap[k]? := fun k hk => by rw [← hw5, setCell_other _ hk, setCell_other _ hk]
  have X5 : BufX w5 c b s.data.toList [] bo ba bt (.slice none 0 0) [] [] M := by
    refine ⟨?_, ?_, ?_, ?_, World.ownsRow_nil _ _ _ _, (fun k hk => by simp [Value.ownBlock] at hk), c5, (fun q hq => by cases hq), fun k hk => by rw [s5]; exact (clt k hk).2⟩
    · rw [← hw5, setCell_same (setCell_same N4.out _)]; rfl
    · exact (O3.out.keep fun k h1 h2 => by
        have h3 := h2.1
        rw [oth k (by omega)]; exact B4.out.block k h1).mono c1
    · exact (O4.out.keep fun k h1 h2 => by
        have h3 := h2.1
        rw [oth k (by omega)]).mono c2
    · rw [hbt]
      exact (T1.out.keep fun k h1 h2 => by
        have h3 := h2.2
        rw [oth k (by omega), B4.out.block k (by omega), B3.out.block k (by omega), B2.out.block k (by omega)]).mono c3
  have L5 : Below W.heap.size W w5 := by
    rw [← hw5]
    have h1 : Below W.heap.size W w4 := ((B1.out.trans (B2.out.mono z1)).trans ((show Below w2.heap.size w2 w3 from B3.out).mono (by omega))).trans ((show Below w3.heap.size w3 w4 from B4.out).mono (by omega))
    exact (h1.setCell (p := ⟨b, 0, none⟩) (by show W.heap.size ≤ b; omega) _).setCell (p := ⟨b, 1, none⟩) (by show W.heap.size ≤ b; omega) _
  have HX5 := Lib.hid X5
  have HL5 := Lib.hid L5
  have HCLT := Lib.hid clt
  have HS5 := Lib.hid s5
  have HZ := Lib.hid (show W.heap.size ≤ w5.heap.size by omega)
  by_cases h0 : s.size = 0
  · have CP := Lib.hid (bput_no b 0 (.pointer (some ⟨bo, 0, none⟩)) 0 w5 ⟨_, rfl⟩)
    have hsn : s.data.toList = [] := List.eq_nil_of_length_eq_zero (by simpa using h0)
    have HSN := Lib.hid hsn
    rw [h0]
    clear X5 L5 clt s5 oth c1 c2 c3 c5 hc z1 z3 z4 zb s2 hbo hba hbt hsn hw5
    go_wp2_with (fail)
    refine CP.out.mono ?_
    rintro e w6 ⟨rfl, b6⟩
    have B6 := Lib.hid b6
    clear b6
    go_wp2_with (fail)
    go_ret2
    refine ⟨b, rfl, c, bo, ba, bt, _, _, _, HX5.out.later B6.out, fun k hk => (HCLT.out k hk).1, HL5.out.trans (B6.out.mono HZ.out), ?_, by simp, by simp⟩
    rw [HSN.out]; rfl
  · have CP := Lib.hid (bput_calls X5 0 ⟨false, 0, s.size⟩ (Nat.zero_le _) (by simp) (by simp only; omega) (by simp) (by simp only; omega) (by simp))
    simp only [Bool.false_eq_true, if_false] at CP
    clear X5 L5 clt s5 oth c1 c2 c3 c5 hc z1 z3 z4 zb s2 hbo hba hbt hw5
    go_wp2_with (fail)
    refine CP.out.mono ?_
    rintro e w6 ⟨rfl, c6, vl6, k6, X6, f6⟩
    have HX6 := Lib.hid X6
    have HK6 := Lib.hid k6
    have HF6 := Lib.hid f6
    clear X6 k6 f6 CP
    go_wp2_with (fail)
    go_ret2
    have old : ∀ k, c6 k ≠ 0 → W.heap.size ≤ k := fun k hk => by
      rcases Nat.lt_or_ge k w5.heap.size with h | h
      · rw [HK6.out k h] at hk; exact (HCLT.out k hk).1
      · have := HZ.out; omega
    refine ⟨b, rfl, c6, bo, ba, bt, vl6, _, _, HX6.out, old, HL5.out.trans (HF6.out.below (fun k hk => (HCLT.out k hk.ne).1) HZ.out), ?_, by simp, by simp⟩
    show Pc.text _ _ ⟨false, 0, s.size⟩ ++ [] = _
    simp only [Pc.text, Bool.false_eq_true, if_false, List.drop_zero, List.append_nil]
    rw [List.take_of_length_le (by simp)]
end Go.Proofs.Ytemcffihfeaniaa

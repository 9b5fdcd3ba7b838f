/- FoldSides: the walk. -/
import Derived.Test.YtmpckoincdkeeaaDoorFoldF
namespace Go.Proofs.YtmpckoincdkeeaaDoor
open Go.RowKit Go.Deep Go.Own Go.Maps
set_option linter.unusedVariables false
theorem empty_small : turnS (smallF []) ⟨#[]⟩ 0 = ⟨#[]⟩ := by decide +kernel
set_option maxRecDepth 100000 in
set_option maxHeartbeats 8000000 in
theorem foldSides_walk (a b : ByteArray) (great : Int) (w : World) (ha : a.size ≤ 140737488351232) (hb : b.size ≤ 140737488351232) (hg : (Lit.int .i64 great).wf = true) (hT : Tabs2 w) :
    Calls Tryd.prog 6 #[.string a, .string b, .int .i64 great] w fun e w' => e = .returned (.bool true) ∧ Below w.heap.size w w' := by
  have HT := Lib.hid hT
  by_cases h1 : 600 < a.size + b.size
  · have g1 : decide (600 < a.size + b.size) = true := by simpa using h1
    have g2 : decide ((600 : Int) < (a.size : Int) + (b.size : Int)) = true := by simp; omega
    have CA := Lib.hid (fawake_calls w hT)
    clear hT
    go_enter Tryd.func6, Tryd.ntmps6
    go_wp2_with (fail)
    refine CA.out.mono ?_
    rintro e w1 ⟨rfl, b1⟩
    go_wp2_with (fail)
    go_ret
    exact ⟨rfl, b1⟩
  · have g1 : decide (600 < a.size + b.size) = false := by simpa using h1
    have g2 : decide ((600 : Int) < (a.size : Int) + (b.size : Int)) = false := by simp; omega
    have za : a.size ≤ 600 := by omega
    have zb : b.size ≤ 600 := by omega
    obtain ⟨k, hk, ek, CP⟩ := place_nat great 100 (by omega) (by omega)
    have CP := Lib.hid CP
    obtain ⟨G, hG⟩ : ∃ G : Int, G = 1024 + (k : Int) := ⟨_, rfl⟩
    have hG1 : 1024 ≤ G := by omega
    have hG2 : G ≤ 1200 := by omega
    obtain ⟨ps, hps⟩ : ∃ ps, ps = [(G, G + 200)] := ⟨_, rfl⟩
    have hv : PairsV ps := fun p hp => by
      rw [hps] at hp
      obtain rfl := List.mem_singleton.1 hp
      exact ⟨.inl (by simp only; omega), .inl (by simp only; omega)⟩
    have hs32 : smallF ps 32 = none := by rw [hps]; exact small32 G hG1
    have hg32 : greatF ps 32 = none := by rw [hps]; exact great32 G hG1
    obtain ⟨X, hX⟩ : ∃ X, X = a ++ ⟨#[32]⟩ := ⟨_, rfl⟩
    obtain ⟨Y, hY⟩ : ∃ Y, Y = b ++ ⟨#[32]⟩ := ⟨_, rfl⟩
    have hXz : X.size = a.size + 1 := by rw [hX, ByteArray.size_append]; rfl
    have hYz : Y.size = b.size + 1 := by rw [hY, ByteArray.size_append]; rfl
    have hsd := turn_sides (smallF ps) (small_v hv) hs32 a b
    rw [← hX, ← hY] at hsd
    have htb := title_blank (greatF ps) (great_v hv) hg32 a
    obtain ⟨w1, hw1⟩ : ∃ w1, w1 = w.alloc (.cells #[Value.int .i64 G, .int .i64 (G + 200)] 37) := ⟨_, rfl⟩
    obtain ⟨M, hM⟩ : ∃ M, M = w.heap.size := ⟨_, rfl⟩
    have b1 : Below w.heap.size w w1 := by rw [hw1]; exact (Below.refl _ _).alloc (Nat.le_refl _) _
    have n1 : w1.heap[M]? = some (.cells #[.int .i64 G, .int .i64 (G + 200)] 37 (0, 0)) := by rw [hw1, hM]; exact blk_new w _
    have hrd : ReadsP w1 (some ⟨M, 0, none⟩) ps := fun _ => by
      refine ⟨M, 0, rfl, (Array.getElem?_eq_some_iff.1 n1).1, fun j p hp => ?_⟩
      rw [hps] at hp
      match j, hp with
      | 0, hp =>
        obtain rfl : (G, G + 200) = p := by simpa using hp
        exact ⟨by simp [World.cell?, n1], by simp [World.cell?, n1]⟩
      | j + 1, hp => simp at hp
    have hl1 : ps.length = 1 := by rw [hps]; rfl
    have RD := Lib.hid hrd
    have B1 := Lib.hid b1
    have HV := Lib.hid hv
    have HX := Lib.hid hX
    have HY := Lib.hid hY
    have HSD := Lib.hid hsd
    have HTB := Lib.hid htb
    have HG := Lib.hid hG
    have HW1 := Lib.hid hw1
    have HM := Lib.hid hM
    have HL1 := Lib.hid hl1
    have hXY : (X ++ Y : ByteArray).size ≤ 1000000 := by rw [ByteArray.size_append]; omega
    have C1 : Hid (Calls Tryd.prog 14 #[.slice (some ⟨M, 0, none⟩) 1 1, .string (X ++ Y)] w1 fun e w' => e = .returned (.string (turnS (smallF ps) (X ++ Y) (X ++ Y : ByteArray).size)) ∧ Below w1.heap.size w1 w') := Lib.hid (by
      have := small_calls ps (X ++ Y) (some ⟨M, 0, none⟩) 1 w1 hrd (by omega) hv hXY (hT.below b1)
      rw [hl1] at this; exact this)
    have HXY := Lib.hid hXY
    clear hrd b1 hv hX hY hsd htb hG hw1 hM hl1 hT n1 hs32 hg32 hps ek hXY
    go_enter Tryd.func6, Tryd.ntmps6
    go_wp2_with (fail)
    refine (CP.out _).mono ?_
    rintro e w0 ⟨rfl, rfl⟩
    clear CP
    go_upto_region 4 with (fail)
    rw [← HG.out]
    go_upto_region 6 with (fail)
    rw [← HX.out, ← HY.out, ← HW1.out, ← HM.out]
    go_wp2_with (fail)
    refine C1.out.mono ?_
    rintro e w2 ⟨rfl, b2⟩
    rw [HSD.out]
    have hzT : ∀ Z : ByteArray, Z.size ≤ 601 → (turnS (smallF ps) Z Z.size).size ≤ 400000 := fun Z hZ => by
      have h1 := turnL_size (smallF ps) Z Z.size (small_v HV.out) (units Z) 0 0 (chain_units Z) (units Z).length
      rw [List.take_length] at h1
      have h2 : (units Z).length ≤ Z.size := unitsFrom_len Z Z.size 0
      have h3 : (units Z).length * (Z.size + 4) ≤ 601 * 605 := Nat.mul_le_mul (by omega) (by omega)
      unfold turnS
      omega
    have zTX := hzT X (by omega)
    have zTY := hzT Y (by omega)
    obtain ⟨TX, hTX⟩ : ∃ T, T = turnS (smallF ps) X X.size := ⟨_, rfl⟩
    obtain ⟨TY, hTY⟩ : ∃ T, T = turnS (smallF ps) Y Y.size := ⟨_, rfl⟩
    rw [← hTX] at zTX
    rw [← hTY] at zTY
    rw [← hTX, ← hTY]
    have B2 := Lib.hid (B1.out.trans (b2.mono B1.out.size))
    have R2 := Lib.hid (RD.out.below b2)
    have C2 : Hid (Calls Tryd.prog 14 #[.slice (some ⟨M, 0, none⟩) 1 1, .string X] w2 fun e w' => e = .returned (.string TX) ∧ Below w2.heap.size w2 w') := Lib.hid (by
      have := small_calls ps X (some ⟨M, 0, none⟩) 1 w2 R2.out (by have := HL1.out; omega) HV.out (by omega) (HT.out.below B2.out)
      rw [HL1.out, ← hTX] at this; exact this)
    have C3 : Hid (∀ w3, Below w2.heap.size w2 w3 → Calls Tryd.prog 14 #[.slice (some ⟨M, 0, none⟩) 1 1, .string Y] w3 fun e w' => e = .returned (.string TY) ∧ Below w3.heap.size w3 w') := Lib.hid (fun w3 h => by
      have := small_calls ps Y (some ⟨M, 0, none⟩) 1 w3 (R2.out.below h) (by have := HL1.out; omega) HV.out (by omega) (HT.out.below (B2.out.trans (h.mono B2.out.size)))
      rw [HL1.out, ← hTY] at this; exact this)
    have C4 : Hid (∀ w3, Below w2.heap.size w2 w3 → Calls Tryd.prog 16 #[.slice (some ⟨M, 0, none⟩) 1 1, .string (⟨#[32]⟩ ++ a)] w3 fun e w' => e = .returned (.string (⟨#[32]⟩ ++ a)) ∧ Below w3.heap.size w3 w') := Lib.hid (fun w3 h => by
      have := title_calls ps (⟨#[32]⟩ ++ a) (some ⟨M, 0, none⟩) 1 w3 (R2.out.below h) (by have := HL1.out; omega) HV.out (by rw [ByteArray.size_append]; show 1 + a.size ≤ 1000000; omega) (HT.out.below (B2.out.trans (h.mono B2.out.size)))
      rw [HL1.out, HTB.out] at this; exact this)
    have C5 : Hid (∀ w3, Below w2.heap.size w2 w3 → Calls Tryd.prog 14 #[.slice none 0 0, .string ⟨#[]⟩] w3 fun e w' => e = .returned (.string ⟨#[]⟩) ∧ Below w3.heap.size w3 w') := Lib.hid (fun w3 h => by
      have := small_calls [] ⟨#[]⟩ none 0 w3 (no_reads _ _) (by decide) no_pairs (by decide) (HT.out.below (B2.out.trans (h.mono B2.out.size)))
      rw [show (⟨#[]⟩ : ByteArray).size = 0 from rfl, empty_small] at this; exact this)
    have C6 : Hid (∀ w3, Below w2.heap.size w2 w3 → Calls Tryd.prog 12 #[] w3 fun e w' => e = .returned (.bool true) ∧ Below w3.heap.size w3 w') := Lib.hid (fun w3 h => fawake_calls w3 (HT.out.below (B2.out.trans (h.mono B2.out.size))))
    clear b2 hTX hTY C1 hzT HSD HTB
    go_wp2_with (fail)
    refine C2.out.mono ?_
    rintro e w3 ⟨rfl, b3⟩
    have B3 := Lib.hid b3
    clear b3 C2
    go_wp2_with (fail)
    refine (C3.out _ B3.out).mono ?_
    rintro e w4 ⟨rfl, b4⟩
    have B4 := Lib.hid (B3.out.trans (b4.mono B3.out.size))
    clear b4 C3
    go_wp2_with (fail)
    refine (C4.out _ B4.out).mono ?_
    rintro e w5 ⟨rfl, b5⟩
    have B5 := Lib.hid (B4.out.trans (b5.mono B4.out.size))
    clear b5 C4
    go_wp2_with (fail)
    refine (C5.out _ B5.out).mono ?_
    rintro e w6 ⟨rfl, b6⟩
    have B6 := Lib.hid (B5.out.trans (b6.mono B5.out.size))
    clear b6 C5
    go_wp2_with (fail)
    refine (C6.out _ B6.out).mono ?_
    rintro e w7 ⟨rfl, b7⟩
    have B7 := Lib.hid (B6.out.trans (b7.mono B6.out.size))
    clear b7 C6
    go_wp2_with (fail)
    go_ret
    exact ⟨rfl, B2.out.trans (B7.out.mono B2.out.size)⟩
end Go.Proofs.YtmpckoincdkeeaaDoor

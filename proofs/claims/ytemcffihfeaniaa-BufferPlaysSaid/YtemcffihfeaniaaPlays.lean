/- Buffer's laws: BufferPlays. -/
import Derived.Test.YtemcffihfeaniaaStep
namespace Go.Own
open Go Go.RowKit Go.Deep
set_option linter.unusedVariables false
structure OpR where
  kd : Int
  a : Int
  n : Int
  s : ByteArray
def OpR.at' (w : World) (b o : Nat) (r : OpR) : Prop := w.cell? ⟨b, o, none⟩ = some (.int .i64 r.kd) ∧ w.cell? ⟨b, o + 1, none⟩ = some (.int .i64 r.a) ∧ w.cell? ⟨b, o + 2, none⟩ = some (.int .i64 r.n) ∧ w.cell? ⟨b, o + 3, none⟩ = some (.string r.s)
/-- a slice of calls that is read -/
def ReadsO (w : World) (A : Option Addr) (l : List OpR) : Prop :=
  0 < l.length → ∃ b o, A = some ⟨b, o, none⟩ ∧ b < w.heap.size ∧ ∀ w' : World, Below w.heap.size w w' → ∀ (i : Nat) (r : OpR), l[i]? = some r → OpR.at' w' b (o + i * 4) r
end Go.Own
namespace Go.Proofs.Ytemcffihfeaniaa
open Go.RowKit Go.Deep Go.Own
set_option linter.unusedVariables false
attribute [local go_sem] Own.own_max2 Own.own_max_two Own.own_min2 Own.own_min_two
set_option maxRecDepth 100000 in
set_option maxHeartbeats 8000000 in
theorem bufferPlays_walk (s : ByteArray) (most : Int) (A : Option Addr) (cap : Nat) (l : List OpR) (W : World) (hs : s.size ≤ 140737488351232) (hmo : (Lit.int .i64 most).wf = true) (hA : ReadsO W A l) (hl : l.length ≤ 9223372036854775807) (hss : ∀ r ∈ l, r.s.size ≤ 9223372036854775807) :
    Calls Try.prog 11 #[.string s, .int .i64 most, .slice A l.length cap] W fun e w' => e = .returned (.bool true) ∧ Below W.heap.size W w' := by
  clear hmo
  have HA := Lib.hid hA
  have HSS := Lib.hid hss
  clear hA hss
  by_cases hbig : 500 < s.size ∨ 100 < l.length
  · by_cases h1 : 500 < s.size
    · clear hbig
      have g1 : decide (500 < s.size) = true := by simpa using h1
      go_enter Try.func11, Try.ntmps11
      go_wp2_with (fail)
      refine (bu_awake _).mono ?_
      rintro e w1 ⟨rfl, h1⟩
      go_wp2_with (fail)
      go_ret
      exact ⟨rfl, h1⟩
    · have h2 : 100 < l.length := by omega
      have g1 : decide (500 < s.size) = false := by simpa using h1
      have g2 : decide (100 < l.length) = true := by simpa using h2
      clear hbig
      go_enter Try.func11, Try.ntmps11
      go_wp2_with (fail)
      refine (bu_awake _).mono ?_
      rintro e w1 ⟨rfl, h1⟩
      go_wp2_with (fail)
      go_ret
      exact ⟨rfl, h1⟩
  · have hs5 : s.size ≤ 500 := by omega
    have hl1 : l.length ≤ 100 := by omega
    have g1 : decide (500 < s.size) = false := by simp; omega
    have g2 : decide (100 < l.length) = false := by simp; omega
    obtain ⟨M, hM⟩ : ∃ M : Nat, imax 0 (imin most 65536) = (M : Int) := ⟨(imax 0 (imin most 65536)).toNat, by rw [imax_eq]; omega⟩
    have hM2 : M ≤ 65536 := by rw [imax_eq, imin_eq] at hM; omega
    have hM3 : imin (imax most 0) 65536 = (M : Int) := by rw [imax_eq, imin_eq] at hM; rw [imin_eq, imax_eq]; omega
    clear hbig
    by_cases hb : M < s.size
    · have g3 : decide (M < s.size) = true := by simpa using hb
      have CN := Lib.hid (bnew_big s most M hM W hb (by unfold BigS; omega))
      clear hM
      go_enter Try.func11, Try.ntmps11
      go_wp2_with (fail)
      refine CN.out.mono ?_
      rintro e w1 ⟨rfl, rfl⟩
      go_wp2_with (fail)
      refine (bu_awake _).mono ?_
      rintro e w1 ⟨rfl, h1⟩
      go_wp2_with (fail)
      go_ret
      exact ⟨rfl, (show Below W.heap.size W _ from (Below.refl _ _).alloc (Nat.le_refl _) _).trans (h1.mono (by simp))⟩
    · have g3 : decide (M < s.size) = false := by simpa using hb
      have CN := Lib.hid (bs_new s most M hM hM2 W W (Below.refl _ _) (by omega))
      clear hM
      go_enter Try.func11, Try.ntmps11
      go_wp2_with (fail)
      refine CN.out.mono ?_
      rintro e w1 ⟨b, k, rfl, hk, t1⟩
      have T1 := Lib.hid t1
      clear t1 CN
      go_wp2_with (fail)
      obtain ⟨w2, hw2⟩ : ∃ w2, w2 = w1.alloc (.cells #[Value.string s, .int .i64 (M : Nat)] 59) := ⟨_, rfl⟩
      obtain ⟨m, hm⟩ : ∃ m, m = w1.heap.size := ⟨_, rfl⟩
      rw [← hw2, ← hm]
      have S2 := Lib.hid (show Sp W w2 b m s M k 0 by
        refine ⟨?_, ?_, ?_⟩
        · rw [hw2, hm]; exact T1.out.toBk.fresh _
        · unfold MdAt; rw [hw2, hm]; exact blk_alloc_new w1 _
        · rw [hw2]; exact T1.out.below.trans ((Below.refl _ _).alloc T1.out.below.size _))
      have hmW : ¬ m < W.heap.size := by have := T1.out.below.size; omega
      clear hw2 hm
      go_loopw [10] (fun i wr => ∃ j : Nat, j ≤ l.length ∧ i = .int .i64 (j : Nat) ∧ ∃ x k, Sp W wr b m x M k j) (fun i _ => l.length - (intOf i).toNat)
      case atStart => exact ⟨0, by omega, rfl, s, k, S2.out⟩
      case round =>
        obtain ⟨j, hj, rfl, x, k2, sp⟩ := hrel
        clear S2 hk
        by_cases hlt : j < l.length
        · obtain ⟨bl, ol, rfl, _, hc⟩ := HA.out (by omega)
          obtain ⟨r, hr⟩ : ∃ r, l[j]? = some r := ⟨_, List.getElem?_eq_getElem hlt⟩
          obtain ⟨y0, y1, y2, y3⟩ := hc wr sp.below j r hr
          have hrs := HSS.out r (List.mem_of_getElem? hr)
          clear hc
          by_cases h200 : 200 < r.s.size
          · have g5 : decide (200 < r.s.size) = true := by simpa using h200
            have BL := Lib.hid sp.below
            clear sp hr
            go_wp2_with (fail)
            refine (bu_awake _).mono ?_
            rintro e w3 ⟨rfl, h3⟩
            go_wp2_with (fail)
            go_ret
            exact ⟨rfl, BL.out.trans (h3.mono BL.out.size)⟩
          · have g5 : decide (200 < r.s.size) = false := by simpa using h200
            have CS := Lib.hid (step_calls r.kd r.a r.n r.s sp (by omega) (by omega) hmW)
            clear sp hr
            go_wp2_with (fail)
            refine CS.out.mono ?_
            rintro e w3 ⟨rfl, x', k', sp'⟩
            have SP := Lib.hid sp'
            clear sp' CS
            go_wp2_with (fail)
            go_roundw
            case rel => exact ⟨j + 1, by omega, by go_num, x', k', SP.out⟩
            case measure => simp [intOf]; omega
        · have BL := Lib.hid sp.below
          clear sp
          go_wp2_with (fail)
          refine (bu_awake _).mono ?_
          rintro e w3 ⟨rfl, h3⟩
          go_wp2_with (fail)
          go_ret
          exact ⟨rfl, BL.out.trans (h3.mono BL.out.size)⟩
end Go.Proofs.Ytemcffihfeaniaa

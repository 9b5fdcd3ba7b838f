/- The document's sameness of items; the example of conditions; CondBack. -/
import Derived.Test.YtmcnnfpeicnnjaaDoorCndB
import Derived.Deep.DeepCutAuto
namespace Go.Proofs.YtmcnnfpeicnnjaaDoor
open Go.RowKit Go.Deep Go.Own
set_option linter.unusedVariables false
set_option maxRecDepth 100000 in
set_option maxHeartbeats 8000000 in
theorem same9_calls (es : List ItP) (va vb : Value) (w : World) (ha : GotI w va es) (hb : GotI w vb es) (hs : smallI es) :
    Calls Tryd.prog 17 #[va, vb] w fun e w' => e = .returned (.bool true) ∧ ∃ n, w' = w.drewN n := by
  obtain ⟨A, ca, rfl, _, ra⟩ := ha.out
  obtain ⟨B, cb, rfl, _, rb⟩ := hb.out
  have RA := Lib.hid ra
  have RB := Lib.hid rb
  have HFL := Lib.hid hs.2
  have hl := hs.1
  clear ra rb ha hb hs
  go_enter Tryd.func17, Tryd.ntmps17
  go_wp2_with (fail)
  go_loopw [5] (fun iv wr => ∃ i nk : Nat, i ≤ es.length ∧ iv = .int .i64 (i : Nat) ∧ wr = w.drewN nk) (fun iv _ => es.length - (intOf iv).toNat)
  case atStart => exact ⟨0, 0, Nat.zero_le _, rfl, rfl⟩
  case round =>
    obtain ⟨i, nk, hi, rfl, rfl⟩ := hrel
    by_cases hlt : i < es.length
    · have g1 : decide (i < es.length) = true := by simpa using hlt
      obtain ⟨x, hx⟩ : ∃ x, es[i]? = some x := ⟨_, List.getElem?_eq_getElem hlt⟩
      obtain ⟨qa, oa, Fa, fa, rfl, _, a0, a1, a2, _, a4⟩ := RA.out i x hx
      obtain ⟨qb, ob, Fb, fb, rfl, _, b0, b1, b2, _, b4⟩ := RB.out i x hx
      have hz := HFL.out x (List.mem_of_getElem? hx)
      obtain ⟨xa, xn, fl⟩ := x
      simp only at a0 a1 a2 a4 b0 b1 b2 b4 hz
      have A4 := Lib.hid a4
      have B4 := Lib.hid b4
      clear hx a4 b4
      have gb : ∀ b : Bool, (b != b) = false := fun b => by cases b <;> rfl
      have ga := gb xa
      have gn := gb xn
      clear gb
      go_upto_region 6 with (fail)
      refine Own.region_all (fun w' => ∃ n, w' = World.drewN w n) (by kernel_rfl) (by kernel_rfl) ⟨nk + 1, by first | rfl | simp | trace_state⟩ ?_
      repeat (go_big_quiet_step (fail))
      refine wpQuiet_nil ?_
      rintro _ ⟨nq, rfl⟩
      go_wp2_with (fail)
      go_loopw [6] (fun kv wz => ∃ k nz : Nat, k ≤ fl.length ∧ kv = .int .i64 (k : Nat) ∧ wz = w.drewN nz) (fun kv _ => fl.length - (intOf kv).toNat)
      case atStart => exact ⟨0, nq, Nat.zero_le _, rfl, rfl⟩
      case round =>
        obtain ⟨k, nz, hk, rfl, rfl⟩ := hrel
        by_cases hkl : k < fl.length
        · have g2 : decide (k < fl.length) = true := by simpa using hkl
          obtain ⟨v, hv⟩ : ∃ v, fl[k]? = some v := ⟨_, List.getElem?_eq_getElem hkl⟩
          obtain ⟨ba, pa, rfl, ya⟩ := reads_at A4.out (Below.refl _ _) hv
          obtain ⟨bb, pb, rfl, yb⟩ := reads_at B4.out (Below.refl _ _) hv
          clear hv
          go_upto_region 11 with (fail)
          refine Own.region_all (fun w' => ∃ n, w' = World.drewN w n) (by kernel_rfl) (by kernel_rfl) ⟨nz + 1, by first | rfl | simp | trace_state⟩ ?_
          repeat (go_big_quiet_step (fail))
          refine wpQuiet_nil ?_
          rintro _ ⟨nq2, rfl⟩
          go_wp2_with (fail)
          go_roundw
          case rel => exact ⟨k + 1, nq2, hkl, by go_num, rfl⟩
          case measure => simp [intOf]; omega
        · have g2 : decide (k < fl.length) = false := by simpa using hkl
          go_wp2_with (fail)
          go_roundw
          case rel => exact ⟨i + 1, nz, hlt, by go_num, rfl⟩
          case measure => simp [intOf]; omega
    · have g1 : decide (i < es.length) = false := by simpa using hlt
      go_wp2_with (fail)
      go_ret
      exact ⟨rfl, nk, rfl⟩
end Go.Proofs.YtmcnnfpeicnnjaaDoor

/- strings.IndexRune in ".[]": a code above 127 is not there. -/
import Derived.Test.YtmcnnfpeicnnjaaDoorCndQ
namespace Go.Proofs.YtmcnnfpeicnnjaaDoor
open Go.RowKit Go.Deep Go.Own
set_option linter.unusedVariables false
def dots : ByteArray := ⟨#[46, 91, 93]⟩
theorem enc_last {c : Int} (hc : ValidC c) (h : 128 ≤ c) : 2 ≤ (enc c).size ∧ (enc c).size ≤ 4 ∧ 128 ≤ uB (enc c) ((enc c).size - 1) := by
  obtain ⟨h1, h2, h3, h4⟩ := enc_first hc
  have hh := codes_head (enc c) (by omega)
  rw [h4] at hh
  have e1 : c = uCode (enc c) 0 := (List.cons.inj hh).1
  have hb : 128 ≤ uB (enc c) 0 := Classical.byContradiction fun hn => by
    have := (code_low' (s := enc c) (i := 0) (by omega)).1
    omega
  have e2 : codes ((enc c).extract (uLen (enc c) 0) (enc c).size) = [] := (List.cons.inj hh).2.symm
  have hf : uLen (enc c) 0 ≤ (enc c).size := by have := u_fits (enc c) 0 (by omega); unfold uLen; omega
  have e3 : uLen (enc c) 0 = (enc c).size := Classical.byContradiction fun hn => by
    have hz : 0 < ((enc c).extract (uLen (enc c) 0) (enc c).size).size := by rw [ByteArray.size_extract]; omega
    rw [codes_head _ hz] at e2
    cases e2
  have h4' : uLen (enc c) 0 ≤ 4 := u_len4 (enc c) 0
  have hs : 2 ≤ (enc c).size := Classical.byContradiction fun hn => by
    have e5 : (enc c).size = 1 := by omega
    have hg : 0 ≤ uCode (enc c) 0 := by rw [← e1]; omega
    have hd := (uCode_sign (enc c) 0).1 hg
    rw [uCode_good hd] at e1
    have h6 : (Utf8.decode (enc c) 0).2 = 1 := by have := e3; unfold uLen at this; omega
    refine hd ⟨?_, h6⟩
    have h7 := u_eq (enc c) 0
    rw [if_neg (by omega)] at h7
    rw [if_neg (fun e => by omega), if_neg (fun e => by omega), if_neg (fun e => by omega)] at h7
    rw [h7]
  refine ⟨hs, by omega, ?_⟩
  have := dec_cont (enc c) 0 ((enc c).size - 1) (by omega) (by unfold uLen at e3; omega)
  rw [Nat.zero_add] at this
  omega
theorem byte_none {l : List UInt8} {b : UInt8} (h : b ∉ l) : Lib.indexByte l b = -1 := by
  rw [← Lib.index_one]
  exact index_none' h
set_option maxRecDepth 100000 in
set_option maxHeartbeats 16000000 in
theorem irune_no (c : Nat) (w : World) (hc : ValidC c) (h : 128 ≤ c) : Calls Tryd.prog 93 #[.string dots, .int .i32 (c : Nat)] w fun e w' => e = .returned (.int .i64 (-1)) ∧ Below w.heap.size w w' := by
  obtain ⟨e1, e2, e3⟩ := enc_last (c := (c : Nat)) hc (by omega)
  have g1 : decide ((c : Int) < 128) = false := by simp; omega
  have g1' : decide (c < 128) = false := by simp; omega
  by_cases h3 : c = 65533
  · subst h3
    obtain ⟨N, hN⟩ : ∃ N, N = w.heap.size := ⟨_, rfl⟩
    have HN := Lib.hid hN
    clear hN e1 e2 e3
    go_enter Tryd.func93, Tryd.ntmps93
    go_wp2_with (fail)
    rw [← HN.out]
    go_loopw [4] (fun rv wr => ∃ pos, pos ≤ 3 ∧ rv = .int .i64 0 ∧ wr.heap[N]? = some (.stringIter dots pos) ∧ Below w.heap.size w wr) (fun _ wr => 3 - wr.iterPos N)
    case atStart => exact ⟨0, Nat.zero_le _, rfl, by rw [HN.out]; exact World.iter_heap w dots 0, (Below.refl _ _).alloc (Nat.le_refl _) _⟩
    case round =>
      obtain ⟨pos, hp, rfl, hit, hbw⟩ := hrel
      have hN0 : w.heap.size ≤ N := by rw [HN.out]; exact Nat.le_refl _
      by_cases hp3 : pos < 3
      · have hd : ∃ b : Nat, b < 128 ∧ Utf8.decode dots pos = (b, 1) := by
          have : pos = 0 ∨ pos = 1 ∨ pos = 2 := by omega
          rcases this with rfl | rfl | rfl
          · exact ⟨46, by decide, by decide +kernel⟩
          · exact ⟨91, by decide, by decide +kernel⟩
          · exact ⟨93, by decide, by decide +kernel⟩
        obtain ⟨b, hb, hd⟩ := hd
        have hnx : ∀ ty, (Instr.next (.pointer (some ⟨N, 0, none⟩)) true ty).run Tryd.prog wr = .ok (.tuple #[.bool true, .int .i64 (pos : Nat), .int .i32 (b : Nat)]) (wr.iterAt N dots (pos + 1)) := fun ty => by
          have := Lib.run_next_any_at (P := Tryd.prog) (ty := ty) wr N dots pos hit (by show pos < 3; exact hp3)
          rw [hd] at this
          exact this
        have hit2 := Lib.iterAt_heap wr N dots pos (pos + 1) hit
        have hb2 := Lib.below_iterAt hbw (k := N) hN0 dots (pos + 1)
        obtain ⟨w2, hw2⟩ : ∃ w2, w2 = wr.iterAt N dots (pos + 1) := ⟨_, rfl⟩
        rw [← hw2] at hnx hit2 hb2
        have g3 : ((b : Int) == 65533) = false := by simp; omega
        have HIT := Lib.hid hit
        have I2 := Lib.hid hit2
        have B2 := Lib.hid hb2
        clear hit hit2 hb2 hbw hw2 hd
        go_wp2_with (fail)
        go_roundw
        case rel => exact ⟨pos + 1, by omega, by first | rfl | trivial, I2.out, B2.out⟩
        case measure => simp only [World.iterPos, I2.out, HIT.out]; omega
      · have hnx : ∀ ty, (Instr.next (.pointer (some ⟨N, 0, none⟩)) true ty).run Tryd.prog wr = .ok (.tuple #[.bool false]) wr := fun ty => Lib.run_next_end_at wr N dots pos ty hit (by show ¬ pos < 3; exact hp3)
        have B2 := Lib.hid hbw
        clear hit hbw
        go_wp2_with (fail)
        go_ret
        exact ⟨rfl, B2.out⟩
  · have g2 : ((c : Int) == 65533) = false := by simp; omega
    have g2' : (c == 65533) = false := by simpa using h3
    have hv : Utf8.valid (c : Int) = true := (valid_int _).2 (by rcases hc with h | h <;> omega)
    have CV := Lib.hid (Tryd.utf8_ValidRune (c : Nat) w)
    rw [valid_lib, hv] at CV
    rw [enc_valid hv] at e1 e2 e3
    obtain ⟨E, hE⟩ : ∃ E, E = Utf8.encode (c : Nat) := ⟨_, rfl⟩
    rw [← hE] at e1 e2 e3
    have HE := Lib.hid hE
    clear hE h3 hv
    go_enter Tryd.func93, Tryd.ntmps93
    go_wp2_with (fail)
    refine CV.out.mono ?_
    rintro e w' ⟨rfl, rfl⟩
    go_wp2_with (fail)
    go_step3
    go_upto_region 2 with (fail)
    rw [← HE.out]
    obtain ⟨L, hL⟩ : ∃ L : Nat, L = E.size - 1 := ⟨_, rfl⟩
    have hLI : (E.size : Int) - 1 = (L : Nat) := by omega
    have hL1 : 1 ≤ L ∧ L ≤ 3 := by omega
    have hL2 : 1 ≤ (E.size : Int) - 1 ∧ (E.size : Int) - 1 ≤ 3 := by omega
    have HLI := Lib.hid hLI
    have hix2 : ∀ w : World, (Instr.index 9 (.string E) (.int .i64 (L : Nat))).run Tryd.prog w = .ok (.int .u8 (uB E L : Nat)) w := fun w => s_index E L (by omega) w
    rw [← hL] at e3
    obtain ⟨b, hb⟩ : ∃ b, b = uB E L := ⟨_, rfl⟩
    have hb256 : b < 256 := by rw [hb]; exact uB_lt E L
    rw [← hb] at hix2 e3
    have dz : (dots.size : Int) = 3 := rfl
    have dz' : dots.size = 3 := rfl
    have DZ := Lib.hid dz
    clear hL hLI hb dz
    go_wp2_with (fail)
    rw [HLI.out]
    go_loopw [9, 10] (fun iv fv wr => iv = .int .i64 (L : Nat) ∧ fv = .int .i64 0 ∧ w' = wr) (fun _ _ _ => 0)
    case atStart => exact ⟨rfl, rfl, by first | rfl | trivial⟩
    case round =>
      obtain ⟨rfl, rfl, hwr⟩ := hrel
      subst hwr
      by_cases h4 : L = 3
      · have g3 : decide ((L : Int) < (dots.size : Int)) = false := by rw [DZ.out]; simp; omega
        have g3' : decide (L < dots.size) = false := by rw [dz']; simp; omega
        clear dz'
        go_wp2_with (fail)
        rw [Exit.noGoto_ret]
        go_ret
        exact ⟨rfl, Below.refl _ _⟩
      · have g3 : decide ((L : Int) < (dots.size : Int)) = true := by rw [DZ.out]; simp; omega
        have g3' : decide (L < dots.size) = true := by rw [dz']; simp; omega
        obtain ⟨a, ha, hix1⟩ : ∃ a : Nat, a < 128 ∧ ∀ w : World, (Instr.index 9 (.string dots) (.int .i64 (L : Nat))).run Tryd.prog w = .ok (.int .u8 (a : Nat)) w := by
          have : L = 1 ∨ L = 2 := by omega
          rcases this with rfl | rfl
          · exact ⟨91, by omega, fun w => s_index dots 1 (by decide) w⟩
          · exact ⟨93, by omega, fun w => s_index dots 2 (by decide) w⟩
        obtain ⟨X, hX⟩ : ∃ X, X = dots.extract (L + 1) dots.size := ⟨_, rfl⟩
        have FS : ∀ w : World, (Instr.slice 9 (.string dots) (some (.int .i64 ((L : Int) + 1))) none none).run Tryd.prog w = .ok (.string X) w := fun w => by
          rw [show ((L : Int) + 1) = ((L + 1 : Nat) : Int) by omega, run_slice_string_l (t := 9) (s := dots) (ht := Tryd.underlying9) (kl := .i64) (l := ((L + 1 : Nat) : Int))]
          · rw [hX]; rfl
          all_goals (rw [dz'] at *; omega)
        have CB := Lib.hid (show ∀ w : World, Calls Tryd.prog 102 #[.string X, .int .u8 (b : Nat)] w fun e w' => e = .returned (.int .i64 (-1)) ∧ w = w' from fun w => (Tryd.strings_IndexByte X (b : Nat) w).mono fun e w' h => ⟨by
          rw [h.1, byte_none]
          intro hm
          have h2 : (((b : Nat) : Int).toNat.toUInt8).toNat = b := by rw [toNat8]; omega
          have h3 : ∀ y ∈ X.data.toList, y.toNat < 128 := by
            rw [hX]
            have : L = 1 ∨ L = 2 := by omega
            rcases this with rfl | rfl <;> decide
          have := h3 _ hm
          omega, h.2.symm⟩)
        have g4 : ((a : Int) != (b : Int)) = true := by simp; omega
        have g4' : (a != b) = true := by simp; omega
        clear hX h4 hb256 dz'
        go_wp2_with (fail)
        go_step3
        go_upto_region 6 with (fail)
        refine Own.region_all (fun w1 => ∃ n, w1 = World.drewN w' n) (by kernel_rfl) (by kernel_rfl) ⟨1, rfl⟩ ?_
        repeat (go_big_quiet_step (fail))
        refine wpQuiet_nil ?_
        rintro _ ⟨nq, rfl⟩
        go_upto_region 7 with (fail)
        refine Own.region_mix (CR [] []) [] [0, 0, 2, 7, 0, 0, 48, 127, 255] (Own.Ord.run [(0, true), (1, true), (2, true), (3, true), (4, true), (5, true), (6, true), (7, false), (8, true)] .done) (by kernel_rfl) (by kernel_rfl) (fun dst v c a w h => by cases dst <;> exact h) (fun x hx w => CR.off x hx w) ?_
        simp only [Own.Ord.run]
        repeat (refine Own.st_blind _ rfl rfl (CR.off _ (by decide) _) ?_; go_big_quiet_step (fail); refine wpQuiet_nil ?_)
        refine Own.st_do _ rfl rfl (fun K hK => ?_)
        go_simp
        refine (CB.out _).mono ?_
        rintro e wq ⟨rfl, hwq⟩
        subst hwq
        refine hK _ _ (fun q hq hd => by cases hq) ?_
        clear hK K
        repeat (refine Own.st_blind _ rfl rfl (CR.off _ (by decide) _) ?_; go_big_quiet_step (fail); refine wpQuiet_nil ?_)
        refine Own.mix_done ?_
        go_wp2_with (fail)
        rw [Exit.noGoto_ret]
        trace_state
        go_wp2_with (fail)
        rw [Exit.noGoto_ret]
        go_ret
        first | exact ⟨rfl, belowN w' _⟩ | exact ⟨rfl, (belowN w' nq).drew⟩
end Go.Proofs.YtmcnnfpeicnnjaaDoor

/- strings.ContainsAny of one code, ".[]". -/
import Derived.Test.YtmcnnfpeicnnjaaDoorIdxR
namespace Go.Proofs.YtmcnnfpeicnnjaaDoor
open Go.RowKit Go.Deep Go.Own
set_option linter.unusedVariables false
def dotR (c : Nat) : Int := if c = 46 then 0 else if c = 91 then 1 else if c = 93 then 2 else -1
theorem irune_calls (c : Nat) (w : World) (hc : ValidC c) : Calls Tryd.prog 93 #[.string dots, .int .i32 (c : Nat)] w fun e w' => e = .returned (.int .i64 (dotR c)) ∧ Below w.heap.size w w' := by
  by_cases h : 128 ≤ c
  · have : dotR c = -1 := by unfold dotR; rw [if_neg (by omega), if_neg (by omega), if_neg (by omega)]
    rw [this]
    exact irune_no c w hc h
  · refine (Tryd.strings_IndexRune_ascii dots (c : Nat) w (by omega) (by omega)).mono fun e w' h2 => ⟨?_, by rw [h2.2]; exact Below.refl _ _⟩
    rw [h2.1]
    unfold dotR
    have e0 : ((c : Nat) : Int).toNat = c := by omega
    rw [e0]
    by_cases h46 : c = 46
    · subst h46; rfl
    · rw [if_neg h46]
      by_cases h91 : c = 91
      · subst h91; rfl
      · rw [if_neg h91]
        by_cases h93 : c = 93
        · subst h93; rfl
        · rw [if_neg h93, byte_none]
          intro hm
          have h3 : (c.toUInt8).toNat = c := by rw [toNat8]; omega
          have h4 : ∀ y ∈ dots.data.toList, y.toNat = 46 ∨ y.toNat = 91 ∨ y.toNat = 93 := by decide
          have := h4 _ hm
          omega
theorem one_unit {E : ByteArray} {c : Nat} (h2 : 1 ≤ E.size) (h4 : codes E = [(c : Int)]) : 0 < E.size ∧ E.size ≤ 4 ∧ Utf8.decode E 0 = (c, E.size) := by
  have hh := codes_head E (by omega)
  rw [h4] at hh
  have e1 : (c : Int) = uCode E 0 := (List.cons.inj hh).1
  have e2 : codes (E.extract (uLen E 0) E.size) = [] := (List.cons.inj hh).2.symm
  have hf : uLen E 0 ≤ E.size := by have := u_fits E 0 (by omega); unfold uLen; omega
  have e3 : uLen E 0 = E.size := Classical.byContradiction fun hn => by
    have hz : 0 < (E.extract (uLen E 0) E.size).size := by rw [ByteArray.size_extract]; omega
    rw [codes_head _ hz] at e2
    cases e2
  have h4' : uLen E 0 ≤ 4 := u_len4 E 0
  have hg : 0 ≤ uCode E 0 := by rw [← e1]; omega
  rw [uCode_good ((uCode_sign _ 0).1 hg)] at e1
  refine ⟨by omega, by omega, Prod.ext ?_ e3⟩
  show (Utf8.decode E 0).1 = c
  omega
theorem enc_dec0 {c : Nat} (hc : ValidC c) : 0 < (enc (c : Nat)).size ∧ (enc (c : Nat)).size ≤ 4 ∧ Utf8.decode (enc (c : Nat)) 0 = (c, (enc (c : Nat)).size) := by
  obtain ⟨h1, h2, h3, h4⟩ := enc_first hc
  exact one_unit h2 h4
def anyR (c : Nat) : Int := if 0 ≤ dotR c then 0 else -1
set_option maxRecDepth 100000 in
set_option maxHeartbeats 16000000 in
theorem iany_calls (c : Nat) (w : World) (hc : ValidC c) : Calls Tryd.prog 82 #[.string (enc (c : Nat)), .string dots] w fun e w' => e = .returned (.int .i64 (anyR c)) ∧ Below w.heap.size w w' := by
  obtain ⟨e1, e2, e3⟩ := enc_dec0 hc
  obtain ⟨E, hE⟩ : ∃ E, E = enc (c : Nat) := ⟨_, rfl⟩
  rw [← hE] at e1 e2 e3 ⊢
  have CR := Lib.hid (fun w => irune_calls c w hc)
  obtain ⟨rr, hrr⟩ : ∃ rr, rr = dotR c := ⟨_, rfl⟩
  rw [← hrr] at CR
  obtain ⟨q, hq⟩ : ∃ q, q = anyR c := ⟨_, rfl⟩
  rw [← hq]
  have hq2 : q = if 0 ≤ rr then 0 else -1 := by rw [hq, hrr]; rfl
  have HQ := Lib.hid hq2
  clear hq hq2
  have dz : dots.size = 3 := rfl
  have d1 : dots.toList.isEmpty = false := by decide +kernel
  have CU : Hid (Calls Tryd.prog 94 #[.int .i64 (E.size : Nat)] w fun e w' => e = .returned (.bool false) ∧ w = w') := Lib.hid ((Tryd.strings_shouldUseASCIISet (E.size : Nat) w).mono fun e w' h => ⟨by rw [h.1, decide_eq_false (by omega)], h.2.symm⟩)
  obtain ⟨N, hN⟩ : ∃ N, N = w.heap.size := ⟨_, rfl⟩
  have HN := Lib.hid hN
  have HD := Lib.hid e3
  clear hE hrr hN e3
  go_enter Tryd.func82, Tryd.ntmps82
  go_wp2_with (fail)
  refine CU.out.mono ?_
  rintro e w' ⟨rfl, hw'⟩
  subst hw'
  clear CU
  go_wp2_with (fail)
  rw [← HN.out]
  go_loopw [4] (fun rv wr => ∃ pos, (pos = 0 ∨ (pos = E.size ∧ rr < 0)) ∧ rv = .int .i64 0 ∧ wr.heap[N]? = some (.stringIter E pos) ∧ Below w.heap.size w wr) (fun _ wr => E.size - wr.iterPos N)
  case atStart => exact ⟨0, .inl rfl, rfl, by rw [HN.out]; exact World.iter_heap w E 0, (Below.refl _ _).alloc (Nat.le_refl _) _⟩
  case round =>
    obtain ⟨pos, hp, rfl, hit, hbw⟩ := hrel
    have hN0 : w.heap.size ≤ N := by rw [HN.out]; exact Nat.le_refl _
    rcases hp with rfl | ⟨rfl, hneg⟩
    · have hnx : ∀ ty, (Instr.next (.pointer (some ⟨N, 0, none⟩)) true ty).run Tryd.prog wr = .ok (.tuple #[.bool true, .int .i64 0, .int .i32 (c : Nat)]) (wr.iterAt N E E.size) := fun ty => by
        have := Lib.run_next_any_at (P := Tryd.prog) (ty := ty) wr N E 0 hit e1
        rw [HD.out] at this
        simp only [Nat.zero_add] at this
        exact this
      have hit2 := Lib.iterAt_heap wr N E 0 E.size hit
      have hb2 := Lib.below_iterAt hbw (k := N) hN0 E E.size
      obtain ⟨w2, hw2⟩ : ∃ w2, w2 = wr.iterAt N E E.size := ⟨_, rfl⟩
      rw [← hw2] at hnx hit2 hb2
      have HIT := Lib.hid hit
      have I2 := Lib.hid hit2
      have B2 := Lib.hid hb2
      clear hit hit2 hb2 hbw hw2
      go_wp2_with (fail)
      refine (CR.out _).mono ?_
      rintro e w3 ⟨rfl, b3⟩
      have B3 := Lib.hid (B2.out.trans (b3.mono B2.out.size))
      have I3 := Lib.hid ((b3.block _ (Array.getElem?_eq_some_iff.1 I2.out).1).trans I2.out)
      clear CR b3
      by_cases h0 : 0 ≤ rr
      · have g1 : decide (0 ≤ rr) = true := decide_eq_true h0
        have E0 := Lib.hid (show q = 0 by rw [HQ.out]; exact if_pos h0)
        clear h0
        go_wp2_with (fail)
        go_ret
        exact ⟨by rw [E0.out]; rfl, B3.out⟩
      · have g1 : decide (0 ≤ rr) = false := decide_eq_false h0
        have H0 := Lib.hid (show rr < 0 by omega)
        clear h0
        go_wp2_with (fail)
        go_roundw
        case rel => exact ⟨E.size, .inr ⟨rfl, H0.out⟩, by first | rfl | trivial, I3.out, B3.out⟩
        case measure => simp only [World.iterPos, I3.out, HIT.out]; omega
    · have hnx : ∀ ty, (Instr.next (.pointer (some ⟨N, 0, none⟩)) true ty).run Tryd.prog wr = .ok (.tuple #[.bool false]) wr := fun ty => Lib.run_next_end_at wr N E E.size ty hit (Nat.lt_irrefl _)
      have B2 := Lib.hid hbw
      have E0 := Lib.hid (show q = -1 by rw [HQ.out]; exact if_neg (by omega))
      clear hit hbw hneg
      go_wp2_with (fail)
      go_ret
      exact ⟨by rw [E0.out]; rfl, B2.out⟩
def dotB (c : Int) : Bool := c == 46 || c == 91 || c == 93
set_option maxRecDepth 100000 in
theorem cany_calls (c : Int) (w : World) (hc : ValidC c) : Calls Tryd.prog 59 #[.string (enc c), .string dots] w fun e w' => e = .returned (.bool (dotB c)) ∧ Below w.heap.size w w' := by
  obtain ⟨n, rfl⟩ : ∃ n : Nat, c = (n : Int) := ⟨c.toNat, by rcases hc with h | h <;> omega⟩
  have CI := Lib.hid (iany_calls n w hc)
  obtain ⟨E, hE⟩ : ∃ E, E = enc (n : Nat) := ⟨_, rfl⟩
  rw [← hE] at CI ⊢
  have hd : dotB (n : Nat) = decide ((0 : Int) ≤ anyR n) := by
    unfold dotB anyR dotR
    by_cases h46 : n = 46
    · subst h46; rfl
    · rw [if_neg h46]
      by_cases h91 : n = 91
      · subst h91; rfl
      · rw [if_neg h91]
        by_cases h93 : n = 93
        · subst h93; rfl
        · rw [if_neg h93, if_neg (by decide), decide_eq_false (by decide)]
          simp
          omega
  obtain ⟨q, hq⟩ : ∃ q : Int, q = anyR n := ⟨_, rfl⟩
  rw [← hq] at hd CI
  have HD := Lib.hid hd
  clear hE hq hd
  go_enter Tryd.func59, Tryd.ntmps59
  go_wp2_with (fail)
  refine CI.out.mono ?_
  rintro e w1 ⟨rfl, b1⟩
  have B1 := Lib.hid b1
  clear b1 CI
  go_wp2_with (fail)
  go_ret
  exact ⟨by rw [HD.out]; rfl, B1.out⟩
end Go.Proofs.YtmcnnfpeicnnjaaDoor

/- the buffer: Delete, Byte. -/
import Derived.Test.YtemcffihfeaniaaBins
namespace Go.Own
open Go Go.RowKit Go.Deep
set_option linter.unusedVariables false
theorem erase_mid (l : List (Nat × Pc)) (e j : Nat) (h0 : 0 < e) (he : e ≤ j) (hj : j ≤ l.length) : (l.take e ++ l.drop j).eraseIdx (e - 1) = l.take (e - 1) ++ l.drop j := by
  have hl : (l.take e).length = e := by rw [List.length_take]; omega
  rw [List.eraseIdx_append_of_lt_length (by omega)]
  congr 1
  obtain ⟨e, rfl⟩ : ∃ k, e = k + 1 := ⟨e - 1, by omega⟩
  rw [Nat.add_sub_cancel, List.take_succ_eq_append_getElem (by omega), List.eraseIdx_append_of_length_le (by rw [List.length_take]; omega), List.length_take, show e - min e l.length = 0 by omega]
  simp
end Go.Own
namespace Go.Proofs.Ytemcffihfeaniaa
open Go.RowKit Go.Deep Go.Own
set_option linter.unusedVariables false
def DelPost (w : World) (c : Nat → Nat) (b : Nat) (so sa : List UInt8) (bo ba bt : Nat) (ps : List Pc) (qs : List (Nat × Pc)) (most a n : Nat) (w' : World) : Prop :=
  ∃ c' vl' ps' qs', (∀ k, k < w.heap.size → c' k = c k) ∧ BufX w' c' b so sa bo ba bt vl' ps' qs' most ∧ Fr (InB c) w w' ∧ ps'.length ≤ ps.length + 4 ∧ qs'.length ≤ qs.length + 1 ∧
    pText so sa qs' = (pText so sa qs).take a ++ (pText so sa qs).drop (a + n)
def DelRel (w : World) (c : Nat → Nat) (b : Nat) (so sa : List UInt8) (bo ba bt : Nat) (vl : Value) (ps : List Pc) (qs : List (Nat × Pc)) (most e j : Nat) (w' : World) : Prop :=
  ∃ c', (∀ k, k < w.heap.size → c' k = c k) ∧ BufX w' c' b so sa bo ba bt vl ps (qs.take e ++ qs.drop j) most ∧ Fr (InB c) w w'
section
variable {w : World} {c : Nat → Nat} {b : Nat} {so sa : List UInt8} {bo ba bt : Nat} {vl : Value} {ps : List Pc} {qs : List (Nat × Pc)} {most : Nat}
set_option maxRecDepth 100000 in
theorem bdelete_no (H : BufX w c b so sa bo ba bt vl ps qs most) (a n : Int) (h : ¬ (0 ≤ a ∧ 0 ≤ n ∧ a ≤ (pLen qs : Int) ∧ n ≤ (pLen qs : Int) - a)) (hb : pLen qs ≤ 65536) :
    Calls Try.prog 36 #[.pointer (some ⟨b, 0, none⟩), .int .i64 a, .int .i64 n] w fun e w' => e = .returned (.int .i64 2) ∧ w = w' := by
  have CH := Lib.hid (bhas_no H a n h hb)
  clear H h
  go_enter Try.func36, Try.ntmps36
  go_wp2_with (fail)
  refine CH.out.mono ?_
  rintro e w1 ⟨rfl, rfl⟩
  go_wp2_with (fail)
  go_ret
  exact ⟨rfl, rfl⟩
set_option maxRecDepth 100000 in
theorem bdelete_zero (H : BufX w c b so sa bo ba bt vl ps qs most) (a : Nat) (h : a ≤ pLen qs) (hb : pLen qs ≤ 65536) :
    Calls Try.prog 36 #[.pointer (some ⟨b, 0, none⟩), .int .i64 (a : Nat), .int .i64 0] w fun e w' => e = .returned (.int .i64 0) ∧ w = w' := by
  have CH := Lib.hid (bhas_yes H a 0 (by omega) hb)
  clear H h
  go_enter Try.func36, Try.ntmps36
  go_wp2_with (fail)
  refine CH.out.mono ?_
  rintro e w1 ⟨rfl, rfl⟩
  go_wp2_with (fail)
  go_ret
  exact ⟨rfl, rfl⟩
set_option maxRecDepth 100000 in
set_option maxHeartbeats 8000000 in
theorem bdelete_ok (H : BufX w c b so sa bo ba bt vl ps qs most) (a n : Nat) (h : a + n ≤ pLen qs) (hn : 0 < n) (hb : pLen qs ≤ 65536) (hps : ps.length ≤ 99999980) (hso : so.length ≤ 1099511627776) (hsa : sa.length ≤ 1099511627776) :
    Calls Try.prog 36 #[.pointer (some ⟨b, 0, none⟩), .int .i64 (a : Nat), .int .i64 (n : Nat)] w fun e w' => e = .returned (.int .i64 0) ∧ DelPost w c b so sa bo ba bt ps qs most a n w' := by
  have CH := Lib.hid (bhas_yes H a n h hb)
  have CC := Lib.hid (bcut_calls H a (by omega) hb (by omega) hso hsa)
  have HX := Lib.hid H
  have g1 : (n == 0) = false := by simp; omega
  have g2 : ((n : Int) == 0) = false := by simp; omega
  clear H
  go_enter Try.func36, Try.ntmps36
  go_wp2_with (fail)
  refine CH.out.mono ?_
  rintro e w1 ⟨rfl, rfl⟩
  go_wp2_with (fail)
  refine CC.out.mono ?_
  rintro e w1 ⟨j1, rfl, c1', vl1, ps1, qs1, k1, X1, f1, p1, p2, p3, p4⟩
  have CC2 := Lib.hid (bcut_calls X1 (a + n) (by rw [p4.len]; exact h) (by rw [p4.len]; exact hb) (by omega) hso hsa)
  rw [show ((a + n : Nat) : Int) = (a : Int) + (n : Int) by omega] at CC2
  have HX1 := Lib.hid X1
  have HK1 := Lib.hid k1
  have HF1 := Lib.hid f1
  have HP1 := Lib.hid p1
  have HP2 := Lib.hid p2
  have HP3 := Lib.hid p3
  have HP4 := Lib.hid p4
  clear X1 k1 f1 p1 p2 p3 p4 CC
  go_wp2_with (fail)
  refine CC2.out.mono ?_
  rintro e w2 ⟨j2, rfl, c2', vl2, ps2, qs2, k2, X2, f2, q1, q2, q3, q4⟩
  have hj := q4.old j1 HP4.out.le (by rw [HP4.out.at']; omega)
  have hj2 : j2 ≤ 65536 := by
    have h1 := len_le_pLen qs2 (fun q hq => (X2.qok q hq).2.1)
    have h2 := q4.len
    have h3 := HP4.out.len
    have := q4.le
    omega
  have hjl : j1 < j2 := by
    rcases Nat.lt_or_ge j1 j2 with h | h
    · exact h
    · have e1 : j1 = j2 := by omega
      have h1 := HP4.out.at'
      have h2 := q4.at'
      rw [← e1, hj.2, h1] at h2; omega
  have R0 : DelRel w c b so sa bo ba bt vl2 ps2 qs2 most j2 j2 w2 := ⟨c2', fun k hk => by rw [k2 k (Nat.lt_of_lt_of_le hk HF1.out.size)]; exact HK1.out k hk, by rw [List.take_append_drop]; exact X2, HF1.out.next HK1.out f2⟩
  have HR0 := Lib.hid R0
  have HQ1 := Lib.hid q1
  have HQ2 := Lib.hid q2
  have HQ3 := Lib.hid q3
  have HQ4 := Lib.hid q4
  have HOK := Lib.hid X2.qok
  have HJ := Lib.hid hj
  clear X2 k2 f2 q1 q2 q3 q4 hj R0 CC2
  go_wp2_with (fail)
  go_loopw [8] (fun v wr => ∃ e : Nat, j1 ≤ e ∧ e ≤ j2 ∧ v = .int .i64 (e : Nat) ∧ DelRel w c b so sa bo ba bt vl2 ps2 qs2 most e j2 wr) (fun v _ => (intOf v).toNat)
  case atStart => exact ⟨j2, by omega, Nat.le_refl _, rfl, HR0.out⟩
  case round =>
    obtain ⟨e, he1, he2, rfl, c', k3, X3, f3⟩ := hrel
    clear HR0
    by_cases hlt : j1 < e
    · obtain ⟨_, _, _, c3, _, _⟩ := X3.cells
      have hlen : (qs2.take e ++ qs2.drop j2).length = e + (qs2.length - j2) := by rw [List.length_append, List.length_take, List.length_drop]; have := HQ4.out.le; omega
      have CR := Lib.hid (remove_at _ bt _ (e - 1) wr X3.tree (by rw [pItems_length, hlen]; omega))
      rw [show ((e - 1 : Nat) : Int) = (e : Int) - 1 by omega] at CR
      have HX3 := Lib.hid X3
      have HK3 := Lib.hid k3
      have HF3 := Lib.hid f3
      clear X3 k3 f3 hlen
      go_wp2_with (fail)
      refine CR.out.mono ?_
      rintro e' w4 ⟨rfl, t4, f4⟩
      have R4 : DelRel w c b so sa bo ba bt vl2 ps2 qs2 most (e - 1) j2 w4 := by
        rw [← pItems_erase, erase_mid _ _ _ (by omega) he2 HQ4.out.le] at t4
        have X4 := HX3.out.turned f4 (t4.mono fun k h => .inl h) (fun q hq => HX3.out.qok q (by
          rw [List.mem_append] at hq ⊢
          rcases hq with hq | hq
          · rw [show e - 1 = min (e - 1) e by omega, ← List.take_take] at hq
            exact .inl (List.mem_of_mem_take hq)
          · exact .inr hq))
        refine ⟨_, fun k hk => by rw [recol_old (Nat.lt_of_lt_of_le hk HF3.out.size)]; exact HK3.out k hk, X4, ?_⟩
        exact HF3.out.next HK3.out (f4.mono fun k hk => by have e' : c' k = 3 := hk; unfold InB; omega)
      have HR4 := Lib.hid R4
      clear t4 f4 R4 CR
      go_wp2_with (fail)
      go_roundw
      case rel => exact ⟨e - 1, by omega, by omega, by rw [show ((e - 1 : Nat) : Int) = (e : Int) - 1 by omega], HR4.out⟩
      case measure => simp [intOf]; omega
    · obtain rfl : e = j1 := by omega
      have HX3 := Lib.hid X3
      have HK3 := Lib.hid k3
      have HF3 := Lib.hid f3
      clear X3 k3 f3
      go_wp2_with (fail)
      go_ret
      refine ⟨rfl, c', vl2, ps2, _, HK3.out, HX3.out, HF3.out, ?_, ?_, ?_⟩
      · have := HP1.out; have := HQ1.out; omega
      · have := HP2.out; have := HQ2.out; have := HQ4.out.le; rw [List.length_append, List.length_take, List.length_drop]; omega
      · rw [pText_append, pText_drop HOK.out, HQ4.out.at', HQ3.out, HP3.out]
        congr 1
        rw [HJ.out.2, pText_take HX1.out.qok, HP4.out.at', HP3.out]
set_option maxRecDepth 100000 in
theorem bbyte_no (H : BufX w c b so sa bo ba bt vl ps qs most) (a : Int) (h : ¬ (0 ≤ a ∧ a < (pLen qs : Int))) :
    Calls Try.prog 66 #[.pointer (some ⟨b, 0, none⟩), .int .i64 a] w fun e w' => e = .returned (.tuple #[.int .u8 0, .int .i64 2]) ∧ w = w' := by
  have CL := Lib.hid (blen_calls H)
  obtain ⟨L, hL⟩ : ∃ L, L = pLen qs := ⟨_, rfl⟩
  rw [← hL] at CL h
  clear H hL
  by_cases h0 : a < 0
  · have g0 : decide (a < 0) = true := by simpa using h0
    clear h
    go_enter Try.func66, Try.ntmps66
    go_wp2_with (fail)
    go_ret2
    exact ⟨rfl, rfl⟩
  · have g0 : decide (a < 0) = false := by simpa using h0
    obtain ⟨a, rfl⟩ : ∃ k : Nat, a = (k : Int) := ⟨a.toNat, by omega⟩
    have g1 : decide (L ≤ a) = true := by simp; omega
    clear h
    go_enter Try.func66, Try.ntmps66
    go_wp2_with (fail)
    refine CL.out.mono ?_
    rintro e w1 ⟨rfl, rfl⟩
    go_wp2_with (fail)
    go_ret2
    exact ⟨rfl, rfl⟩
set_option maxRecDepth 100000 in
theorem bbyte_ok (H : BufX w c b so sa bo ba bt vl ps qs most) (a : Nat) (x : UInt8) (h : (pText so sa qs)[a]? = some x) (hb : pLen qs ≤ 65536) (hso : so.length ≤ 1099511627776) (hsa : sa.length ≤ 1099511627776) :
    Calls Try.prog 66 #[.pointer (some ⟨b, 0, none⟩), .int .i64 (a : Nat)] w fun e w' => e = .returned (.tuple #[.int .u8 (x.toNat : Int), .int .i64 0]) ∧ Below w.heap.size w w' := by
  have CL := Lib.hid (blen_calls H)
  have hal := (List.getElem?_eq_some_iff.1 h).1
  have hT := pText_length qs H.qok
  have CS := Lib.hid (bslice_ok H a 1 (by omega) hb hso hsa)
  have e1 : ((pText so sa qs).drop a).take 1 = [x] := by
    rw [List.drop_eq_getElem_cons hal, (List.getElem?_eq_some_iff.1 h).2]; rfl
  rw [e1] at CS
  obtain ⟨L, hL⟩ : ∃ L, L = pLen qs := ⟨_, rfl⟩
  rw [← hL] at CL
  have g0 : decide ((a : Int) < 0) = false := by simp
  have g1 : decide (L ≤ a) = false := by simp; omega
  clear H hL h hal hT e1
  go_enter Try.func66, Try.ntmps66
  go_wp2_with (fail)
  refine CL.out.mono ?_
  rintro e w1 ⟨rfl, rfl⟩
  go_wp2_with (fail)
  refine CS.out.mono ?_
  rintro e w1 ⟨rfl, b1⟩
  go_wp2_with (fail)
  go_ret2
  exact ⟨rfl, b1⟩
end
end Go.Proofs.Ytemcffihfeaniaa

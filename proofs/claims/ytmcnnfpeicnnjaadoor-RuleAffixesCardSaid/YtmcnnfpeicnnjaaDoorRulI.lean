/- RuleAffixes: stems, strips, adds by numbers. -/
import Derived.Test.YtmcnnfpeicnnjaaDoorRulG
import Derived.Test.YtmcnnfpeicnnjaaDoorPlace
namespace Go.Proofs.YtmcnnfpeicnnjaaDoor
open Go.RowKit Go.Deep Go.Own
set_option linter.unusedVariables false
def ltB : ByteArray := ⟨#[97, 98, 99, 100, 101, 102, 103, 104, 105, 106, 107, 108, 109, 110, 111, 112, 113, 114, 115, 116]⟩
def anyI : ItP := ⟨true, false, []⟩
def afS (w x : ByteArray) (n : Nat) : RuP := ⟨false, 83, true, w.extract (w.size - n) w.size, x, [anyI]⟩
def afP (w x : ByteArray) (m : Nat) : RuP := ⟨true, 80, true, w.extract 0 m, x, [anyI]⟩
def afQ (w x : ByteArray) (m : Nat) : RuP := ⟨true, 80, false, w.extract 0 m, x, [anyI]⟩
set_option maxRecDepth 100000 in
theorem af_fact : ∀ k : Fin 8, ∀ n : Fin 9, n.val ≤ k.val + 1 →
    (okU (ltB.extract 0 (k.val + 1)) && sufB (ltB.extract 0 (k.val + 1)) ((ltB.extract 0 (k.val + 1)).extract (k.val + 1 - n.val) (k.val + 1)) && endsV [anyI] (codesOf (ltB.extract 0 (k.val + 1)))) = true ∧
    cutS (ltB.extract 0 (k.val + 1)) ((ltB.extract 0 (k.val + 1)).extract (k.val + 1 - n.val) (k.val + 1)) = (ltB.extract 0 (k.val + 1)).extract 0 (k.val + 1 - n.val) ∧
    (okU (ltB.extract 0 (k.val + 1)) && preB (ltB.extract 0 (k.val + 1)) ((ltB.extract 0 (k.val + 1)).extract 0 n.val) && startsV [anyI] (codesOf (ltB.extract 0 (k.val + 1)))) = true ∧
    cutP (ltB.extract 0 (k.val + 1)) ((ltB.extract 0 (k.val + 1)).extract 0 n.val) = (ltB.extract 0 (k.val + 1)).extract n.val (k.val + 1) := by decide +kernel
theorem lt_size (k : Nat) (h : k < 8) : (ltB.extract 0 (k + 1)).size = k + 1 := by
  rw [ByteArray.size_extract]
  have : ltB.size = 20 := rfl
  omega
theorem af_s {k n : Nat} (hk : k < 8) (hn : n ≤ k + 1) (x : ByteArray) : applyV (afS (ltB.extract 0 (k + 1)) x n) (ltB.extract 0 (k + 1)) = ((ltB.extract 0 (k + 1)).extract 0 (k + 1 - n) ++ x, neB ((ltB.extract 0 (k + 1)).extract 0 (k + 1 - n) ++ x)) := by
  obtain ⟨h1, h2, _, _⟩ := af_fact ⟨k, hk⟩ ⟨n, by omega⟩ hn
  have e : appT (afS (ltB.extract 0 (k + 1)) x n) (ltB.extract 0 (k + 1)) = (ltB.extract 0 (k + 1)).extract 0 (k + 1 - n) ++ x := by
    unfold appT afS
    rw [lt_size k hk, if_neg (by simp)]
    simp only
    rw [h2]
  have e2 : appV (afS (ltB.extract 0 (k + 1)) x n) (ltB.extract 0 (k + 1)) = true := by
    unfold appV afS
    rw [lt_size k hk, if_neg (by simp)]
    exact h1
  unfold applyV
  rw [if_pos e2, e]
theorem af_p {k m : Nat} (hk : k < 8) (hm : m ≤ k + 1) (x : ByteArray) (b : Bool) : applyV ⟨true, 80, b, (ltB.extract 0 (k + 1)).extract 0 m, x, [anyI]⟩ (ltB.extract 0 (k + 1)) = (x ++ (ltB.extract 0 (k + 1)).extract m (k + 1), neB (x ++ (ltB.extract 0 (k + 1)).extract m (k + 1))) := by
  obtain ⟨_, _, h1, h2⟩ := af_fact ⟨k, hk⟩ ⟨m, by omega⟩ hm
  have e : appT ⟨true, 80, b, (ltB.extract 0 (k + 1)).extract 0 m, x, [anyI]⟩ (ltB.extract 0 (k + 1)) = x ++ (ltB.extract 0 (k + 1)).extract m (k + 1) := by
    unfold appT
    rw [if_pos rfl]
    simp only
    rw [h2]
  have e2 : appV ⟨true, 80, b, (ltB.extract 0 (k + 1)).extract 0 m, x, [anyI]⟩ (ltB.extract 0 (k + 1)) = true := by
    unfold appV
    rw [if_pos rfl]
    exact h1
  unfold applyV
  rw [if_pos e2, e]
/-- the walk's texts -/
structure AfT (k n m : Nat) (w x A1 A2 A3 A4 A5 WA WB WC C : ByteArray) (ci : Bool) : Prop where
  hx : x.size ≤ 2
  wz : w.size = k
  k8 : k ≤ 8
  nk : n ≤ k
  ml : m ≤ k
  f1 : ∀ W : World, (Instr.slice 9 (.string ltB) none (some (.int .i64 (k : Nat))) none).run Tryd.prog W = .ok (.string w) W
  f2 : ∀ W : World, (Instr.slice 9 (.string w) (some (.int .i64 ((k : Nat) - (n : Nat)))) none none).run Tryd.prog W = .ok (.string A1) W
  f3 : ∀ W : World, (Instr.slice 9 (.string w) none (some (.int .i64 (m : Nat))) none).run Tryd.prog W = .ok (.string A2) W
  f4 : ∀ W : World, (Instr.slice 9 (.string w) none (some (.int .i64 ((k : Nat) - (n : Nat)))) none).run Tryd.prog W = .ok (.string A3) W
  f5 : ∀ W : World, (Instr.slice 9 (.string w) (some (.int .i64 (m : Nat))) none none).run Tryd.prog W = .ok (.string A4) W
  f6 : n + m ≤ k → ∀ W : World, (Instr.slice 9 (.string w) (some (.int .i64 (m : Nat))) (some (.int .i64 ((k : Nat) - (n : Nat)))) none).run Tryd.prog W = .ok (.string A5) W
  z1 : A1.size ≤ 8
  z2 : A2.size ≤ 8
  z3 : A3.size ≤ 8
  z4 : A4.size ≤ 8
  z5 : A5.size ≤ 8
  ea : WA = A3 ++ x
  eb : WB = x ++ A4
  ec : WC = x ++ A5 ++ x
  apS : applyV ⟨false, 83, true, A1, x, [anyI]⟩ w = (WA, !WA.toList.isEmpty)
  apP : applyV ⟨true, 80, true, A2, x, [anyI]⟩ w = (WB, !WB.toList.isEmpty)
  bps : bothV ⟨true, 80, true, A2, x, [anyI]⟩ ⟨false, 83, true, A1, x, [anyI]⟩ w = (C, ci)
  yes : WA.toList.isEmpty = false → WB.toList.isEmpty = false → n + m ≤ k → C = WC ∧ ci = !WC.toList.isEmpty
  no : (WA.toList.isEmpty = true ∨ WB.toList.isEmpty = true ∨ ¬ n + m ≤ k) → C = ⟨#[]⟩ ∧ ci = false
  bqs : bothV ⟨true, 80, false, A2, x, [anyI]⟩ ⟨false, 83, true, A1, x, [anyI]⟩ w = (⟨#[]⟩, false)
  bsp : bothV ⟨false, 83, true, A1, x, [anyI]⟩ ⟨true, 80, true, A2, x, [anyI]⟩ w = (⟨#[]⟩, false)
theorem sl_hi (s : ByteArray) (j : Nat) (jv : Int) (hj : jv = (j : Nat)) (h : j ≤ s.size) (W : World) : (Instr.slice 9 (.string s) none (some (.int .i64 jv)) none).run Tryd.prog W = .ok (.string (s.extract 0 j)) W := by
  subst hj
  rw [run_slice_string_h W 9 s Tryd.underlying9 .i64 (j : Nat) (by omega) (by omega)]
  rfl
theorem sl_lo (s : ByteArray) (j : Nat) (jv : Int) (hj : jv = (j : Nat)) (h : j ≤ s.size) (W : World) : (Instr.slice 9 (.string s) (some (.int .i64 jv)) none none).run Tryd.prog W = .ok (.string (s.extract j s.size)) W := by
  subst hj
  rw [run_slice_string_l W 9 s Tryd.underlying9 .i64 (j : Nat) (by omega) (by omega)]
  rfl
theorem sl_two (s : ByteArray) (i j : Nat) (iv jv : Int) (hi : iv = (i : Nat)) (hj : jv = (j : Nat)) (h1 : i ≤ j) (h2 : j ≤ s.size) (W : World) : (Instr.slice 9 (.string s) (some (.int .i64 iv)) (some (.int .i64 jv)) none).run Tryd.prog W = .ok (.string (s.extract i j)) W := by
  subst hi hj
  rw [run_slice_string (t := 9) (s := s) (k := .i64) (k' := .i64) (i := (i : Nat)) (j := (j : Nat)) (h := Tryd.underlying9)]
  · rfl
  all_goals omega
theorem afT_all (k0 n m : Nat) (x : ByteArray) (hk : k0 < 8) (hn : n ≤ k0 + 1) (hm : m ≤ k0 + 1) (hx : x.size ≤ 2) : ∃ w A1 A2 A3 A4 A5 WA WB WC C ci, AfT (k0 + 1) n m w x A1 A2 A3 A4 A5 WA WB WC C ci := by
  have hz := lt_size k0 hk
  have s1 := af_s hk hn x
  have p1 := af_p hk hm x true
  have p2 := af_p hk hm x false
  unfold afS at s1
  rw [hz] at s1
  have hl : ltB.size = 20 := rfl
  have he : ltB.extract 0 (k0 + 1) = ltB.extract 0 (k0 + 1) := rfl
  obtain ⟨w, hw⟩ : ∃ w, w = ltB.extract 0 (k0 + 1) := ⟨_, rfl⟩
  rw [← hw] at hz s1 p1 p2
  have zx : ∀ i j : Nat, (w.extract i j).size ≤ 8 := fun i j => by rw [ByteArray.size_extract]; omega
  have hb : bothC ⟨true, 80, true, w.extract 0 m, x, [anyI]⟩ ⟨false, 83, true, w.extract (k0 + 1 - n) (k0 + 1), x, [anyI]⟩ w = (!neB (x ++ w.extract m (k0 + 1)) || !neB (w.extract 0 (k0 + 1 - n) ++ x) || decide (k0 + 1 < m + n)) := by
    unfold bothC
    rw [s1, p1]
    have h1 : (w.extract 0 m).size = m := by rw [ByteArray.size_extract]; omega
    have h2 : (w.extract (k0 + 1 - n) (k0 + 1)).size = n := by rw [ByteArray.size_extract]; omega
    simp only [h1, h2, hz, Bool.not_true, Bool.or_false]
  have ht : bothT ⟨true, 80, true, w.extract 0 m, x, [anyI]⟩ ⟨false, 83, true, w.extract (k0 + 1 - n) (k0 + 1), x, [anyI]⟩ w = x ++ w.extract m (k0 + 1 - n) ++ x := by
    unfold bothT
    have h1 : (w.extract 0 m).size = m := by rw [ByteArray.size_extract]; omega
    have h2 : (w.extract (k0 + 1 - n) (k0 + 1)).size = n := by rw [ByteArray.size_extract]; omega
    simp only [h1, h2, hz]
  refine ⟨w, w.extract (k0 + 1 - n) (k0 + 1), w.extract 0 m, w.extract 0 (k0 + 1 - n), w.extract m (k0 + 1), w.extract m (k0 + 1 - n), _, _, _, (bothV ⟨true, 80, true, w.extract 0 m, x, [anyI]⟩ ⟨false, 83, true, w.extract (k0 + 1 - n) (k0 + 1), x, [anyI]⟩ w).1, (bothV ⟨true, 80, true, w.extract 0 m, x, [anyI]⟩ ⟨false, 83, true, w.extract (k0 + 1 - n) (k0 + 1), x, [anyI]⟩ w).2, hx, hz, by omega, hn, hm, ?_, ?_, ?_, ?_, ?_, ?_, zx _ _, zx _ _, zx _ _, zx _ _, zx _ _, rfl, rfl, rfl, s1, p1, rfl, ?_, ?_, ?_, ?_⟩
  · intro W
    rw [hw]
    exact sl_hi ltB (k0 + 1) _ rfl (by omega) W
  · intro W
    have := sl_lo w (k0 + 1 - n) (((k0 + 1 : Nat) : Int) - (n : Nat)) (by omega) (by omega) W
    rw [hz] at this
    exact this
  · exact fun W => sl_hi w m _ rfl (by omega) W
  · exact fun W => sl_hi w (k0 + 1 - n) (((k0 + 1 : Nat) : Int) - (n : Nat)) (by omega) (by omega) W
  · intro W
    have := sl_lo w m _ rfl (by omega) W
    rw [hz] at this
    exact this
  · intro hf W
    exact sl_two w m (k0 + 1 - n) _ (((k0 + 1 : Nat) : Int) - (n : Nat)) rfl (by omega) (by omega) (by omega) W
  · intro ha hbb hf
    have e : bothV ⟨true, 80, true, w.extract 0 m, x, [anyI]⟩ ⟨false, 83, true, w.extract (k0 + 1 - n) (k0 + 1), x, [anyI]⟩ w = (x ++ w.extract m (k0 + 1 - n) ++ x, neB (x ++ w.extract m (k0 + 1 - n) ++ x)) := by
      unfold bothV
      rw [hb, ht, if_neg]
      unfold neB
      rw [ha, hbb, decide_eq_false (by omega)]
      decide
    rw [e]
    exact ⟨rfl, rfl⟩
  · intro h
    have : (!neB (x ++ w.extract m (k0 + 1)) || !neB (w.extract 0 (k0 + 1 - n) ++ x) || decide (k0 + 1 < m + n)) = true := by
      unfold neB
      rcases h with h | h | h
      · rw [h]; simp
      · rw [h]; simp
      · rw [decide_eq_true (by omega)]; simp
    have e : bothV ⟨true, 80, true, w.extract 0 m, x, [anyI]⟩ ⟨false, 83, true, w.extract (k0 + 1 - n) (k0 + 1), x, [anyI]⟩ w = (⟨#[]⟩, false) := by
      unfold bothV
      rw [hb, if_pos this]
    rw [e]
    exact ⟨rfl, rfl⟩
  · unfold bothV bothC
    simp
  · unfold bothV bothC
    simp
end Go.Proofs.YtmcnnfpeicnnjaaDoor

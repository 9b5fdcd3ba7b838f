/- rule.letter, rule.affix, rule.Parse. -/
import Derived.Test.YtmcnnfpeicnnjaaDoorCndL
namespace Go.Proofs.YtmcnnfpeicnnjaaDoor
open Go.RowKit Go.Deep Go.Own
set_option linter.unusedVariables false
theorem cell6_of {w : World} {b : Nat} {x0 x1 x2 x3 x4 x5 : Value} {t : TypeId} {fr : Nat × Nat} (h : w.heap[b]? = some (.cells #[x0, x1, x2, x3, x4, x5] t fr)) : w.cell? ⟨b, 0, none⟩ = some x0 ∧ w.cell? ⟨b, 1, none⟩ = some x1 ∧ w.cell? ⟨b, 2, none⟩ = some x2 ∧ w.cell? ⟨b, 3, none⟩ = some x3 ∧ w.cell? ⟨b, 4, none⟩ = some x4 ∧ w.cell? ⟨b, 5, none⟩ = some x5 := by
  simp [World.cell?, h]
theorem bytes_ne {a b : ByteArray} (h : ¬ a = b) : ¬ a.toList = b.toList := fun e => h (by
  rw [ByteArray.toList_eq, ByteArray.toList_eq] at e
  exact ByteArray.ext (Array.toList_inj.1 e))
theorem bytes_nb {a b : ByteArray} (h : ¬ a = b) : (a.toList == b.toList) = false := by
  rw [beq_eq_false_iff_ne]
  exact bytes_ne h
theorem bytes_lit {a : ByteArray} (l : List UInt8) (h : ¬ a = ⟨l.toArray⟩) : (a.toList == l) = false ∧ ¬ a.toList = l := by
  have h2 : ¬ a.toList = l := fun e => h (by
    rw [ByteArray.toList_eq] at e
    apply ByteArray.ext
    rw [← Array.toList_inj, e])
  exact ⟨beq_eq_false_iff_ne.2 h2, h2⟩
set_option maxRecDepth 100000 in
set_option maxHeartbeats 4000000 in
theorem letter_calls (f : Int) (w : World) : Calls Tryd.prog 41 #[.int .i64 f] w fun e w' => e = .returned (.bool (decide (97 ≤ f ∧ f ≤ 122) || decide (65 ≤ f ∧ f ≤ 90))) ∧ w = w' := by
  obtain ⟨q, hq⟩ : ∃ q, q = (decide (97 ≤ f ∧ f ≤ 122) || decide (65 ≤ f ∧ f ≤ 90)) := ⟨_, rfl⟩
  rw [← hq]
  have HQ := Lib.hid hq
  clear hq
  by_cases h1 : 97 ≤ f
  · have g1 : decide (97 ≤ f) = true := decide_eq_true h1
    have g3 : decide (65 ≤ f) = true := decide_eq_true (by omega)
    have g4 : decide (f ≤ 90) = false := decide_eq_false (by omega)
    by_cases h2 : f ≤ 122
    · have g2 : decide (f ≤ 122) = true := decide_eq_true h2
      have E := Lib.hid (show q = true by rw [HQ.out, decide_eq_true ⟨h1, h2⟩]; rfl)
      clear h1 h2
      go_enter Tryd.func41, Tryd.ntmps41
      go_wp2_with (fail)
      go_ret
      exact ⟨by rw [E.out]; rfl, by first | rfl | trivial⟩
    · have g2 : decide (f ≤ 122) = false := decide_eq_false h2
      have E := Lib.hid (show q = false by rw [HQ.out, decide_eq_false (fun e => h2 e.2), decide_eq_false (fun e => by omega)]; rfl)
      clear h1 h2
      go_enter Tryd.func41, Tryd.ntmps41
      go_wp2_with (fail)
      go_ret
      exact ⟨by rw [E.out]; rfl, by first | rfl | trivial⟩
  · have g1 : decide (97 ≤ f) = false := decide_eq_false h1
    by_cases h3 : 65 ≤ f
    · have g3 : decide (65 ≤ f) = true := decide_eq_true h3
      by_cases h4 : f ≤ 90
      · have g4 : decide (f ≤ 90) = true := decide_eq_true h4
        have E := Lib.hid (show q = true by rw [HQ.out, decide_eq_true (⟨h3, h4⟩ : 65 ≤ f ∧ f ≤ 90), Bool.or_true])
        clear h1 h3 h4
        go_enter Tryd.func41, Tryd.ntmps41
        go_wp2_with (fail)
        go_ret
        exact ⟨by rw [E.out]; rfl, by first | rfl | trivial⟩
      · have g4 : decide (f ≤ 90) = false := decide_eq_false h4
        have E := Lib.hid (show q = false by rw [HQ.out, decide_eq_false (fun e => h1 e.1), decide_eq_false (fun e => h4 e.2)]; rfl)
        clear h1 h3 h4
        go_enter Tryd.func41, Tryd.ntmps41
        go_wp2_with (fail)
        go_ret
        exact ⟨by rw [E.out]; rfl, by first | rfl | trivial⟩
    · have g3 : decide (65 ≤ f) = false := decide_eq_false h3
      have E := Lib.hid (show q = false by rw [HQ.out, decide_eq_false (fun e => h1 e.1), decide_eq_false (fun e => h3 e.1)]; rfl)
      clear h1 h3
      go_enter Tryd.func41, Tryd.ntmps41
      go_wp2_with (fail)
      go_ret
      exact ⟨by rw [E.out]; rfl, by first | rfl | trivial⟩
theorem letter_nat (f : Nat) (w : World) : Calls Tryd.prog 41 #[.int .i64 (f : Nat)] w fun e w' => e = .returned (.bool (letU f)) ∧ w = w' :=
  (letter_calls (f : Nat) w).mono fun e w' h => ⟨by
    rw [h.1]
    have : (decide ((97 : Int) ≤ (f : Nat) ∧ ((f : Nat) : Int) ≤ 122) || decide ((65 : Int) ≤ (f : Nat) ∧ ((f : Nat) : Int) ≤ 90)) = letU f := by
      unfold letU
      rw [Bool.eq_iff_iff]
      simp
      omega
    rw [this], h.2⟩
def AfPost (w : World) (s : ByteArray) (e : Ending) (w' : World) : Prop :=
  (∃ (t : ByteArray) (b : Bool), e = .returned (.tuple #[.string t, .bool b]) ∧ (b = true → affV s = some t) ∧ (b = false → affV s = none)) ∧ Below w.heap.size w w'
set_option maxRecDepth 100000 in
set_option maxHeartbeats 4000000 in
theorem affix_calls (s : ByteArray) (w : World) (hs : s.size ≤ 1000000000) (hT : TabsL w) : Calls Tryd.prog 42 #[.string s] w (AfPost w s) := by
  by_cases h0 : s = ⟨#[48]⟩
  · subst h0
    go_enter Tryd.func42, Tryd.ntmps42
    go_wp2_with (fail)
    refine bodyPost_ret (v := .tuple #[.string ⟨#[]⟩, .bool true]) (by simp [results, Tryd.results42, go_sem]) rfl ?_
    exact ⟨⟨⟨#[]⟩, true, rfl, fun _ => rfl, fun h => by cases h⟩, Below.refl _ _⟩
  obtain ⟨n1, n0⟩ := bytes_lit [48] h0
  have hv : affV s = if s ≠ ⟨#[]⟩ ∧ s.size ≤ 20 ∧ okU s = true then some s else none := by unfold affV; rw [if_neg h0]
  have HV := Lib.hid hv
  have CV := Lib.hid (Tryd.utf8_ValidString s w (by omega) hT.1)
  rw [valid_ok] at CV
  obtain ⟨ok, hok⟩ : ∃ ok, ok = okU s := ⟨_, rfl⟩
  rw [← hok] at CV HV
  clear hT hv hok h0
  by_cases he : s.size = 0
  · have k1 := isE he
    have E := Lib.hid (show affV s = none by
      rw [HV.out, if_neg]
      rintro ⟨h, _⟩
      exact h (ByteArray.ext (Array.eq_empty_of_size_eq_zero he)))
    clear he CV
    go_enter Tryd.func42, Tryd.ntmps42
    go_wp2_with (fail)
    refine bodyPost_ret (v := .tuple #[.string s, .bool false]) (by simp [results, Tryd.results42, go_sem]) rfl ?_
    exact ⟨⟨s, false, rfl, fun h => (by cases h), fun _ => E.out⟩, Below.refl _ _⟩
  have k1 := notE (r := s) (by omega)
  have hne : s ≠ ⟨#[]⟩ := fun e => he (by rw [e]; rfl)
  have HNE := Lib.hid hne
  clear he hne
  by_cases h20 : s.size ≤ 20
  · have g1 : decide (s.size ≤ 20) = true := decide_eq_true h20
    have g2 : decide ((s.size : Int) ≤ 20) = true := decide_eq_true (by omega)
    have H20 := Lib.hid h20
    clear h20
    go_enter Tryd.func42, Tryd.ntmps42
    go_wp2_with (fail)
    refine CV.out.mono ?_
    rintro e w1 ⟨rfl, b1⟩
    have B1 := Lib.hid b1
    clear CV b1
    cases ok with
    | true =>
      have E := Lib.hid (show affV s = some s by rw [HV.out, if_pos ⟨HNE.out, H20.out, rfl⟩])
      go_wp2_with (fail)
      refine bodyPost_ret (v := .tuple #[.string s, .bool true]) (by simp [results, Tryd.results42, go_sem]) rfl ?_
      exact ⟨⟨s, true, rfl, fun _ => E.out, fun h => (by cases h)⟩, B1.out⟩
    | false =>
      have E := Lib.hid (show affV s = none by rw [HV.out, if_neg (fun e => by cases e.2.2)])
      go_wp2_with (fail)
      refine bodyPost_ret (v := .tuple #[.string s, .bool false]) (by simp [results, Tryd.results42, go_sem]) rfl ?_
      exact ⟨⟨s, false, rfl, fun h => (by cases h), fun _ => E.out⟩, B1.out⟩
  · have g1 : decide (s.size ≤ 20) = false := decide_eq_false h20
    have g2 : decide ((s.size : Int) ≤ 20) = false := decide_eq_false (by omega)
    have E := Lib.hid (show affV s = none by rw [HV.out, if_neg (fun e => h20 e.2.1)])
    clear h20 CV
    go_enter Tryd.func42, Tryd.ntmps42
    go_wp2_with (fail)
    refine bodyPost_ret (v := .tuple #[.string s, .bool false]) (by simp [results, Tryd.results42, go_sem]) rfl ?_
    exact ⟨⟨s, false, rfl, fun h => (by cases h), fun _ => E.out⟩, Below.refl _ _⟩
end Go.Proofs.YtmcnnfpeicnnjaaDoor

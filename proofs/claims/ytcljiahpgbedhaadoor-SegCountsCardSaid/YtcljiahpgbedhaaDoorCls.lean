/- Tables of classes: how they are read; class.Check. -/
import Derived.Test.YtcljiahpgbedhaaDoorRow
import Derived.Test.YtcljiahpgbedhaaDoorRat
namespace Go.Proofs.YtcljiahpgbedhaaDoor
open Go.RowKit Go.Deep Go.Own
set_option linter.unusedVariables false
structure Rng where
  a : Int
  b : Int
  c : Int
/-- a slice of ranges that is read -/
def ReadsR (w : World) (A : Option Addr) (rs : List Rng) : Prop :=
  0 < rs.length → ∃ q o, A = some ⟨q, o, none⟩ ∧ q < w.heap.size ∧ ∀ j r, rs[j]? = some r → w.cell? ⟨q, o + j * 3, none⟩ = some (.int .i64 r.a) ∧ w.cell? ⟨q, o + j * 3 + 1, none⟩ = some (.int .i64 r.b) ∧ w.cell? ⟨q, o + j * 3 + 2, none⟩ = some (.int .i64 r.c)
theorem ReadsR.below {w w' : World} {A : Option Addr} {rs : List Rng} (h : ReadsR w A rs) (hb : Below w.heap.size w w') : ReadsR w' A rs := fun h0 => by
  obtain ⟨q, o, e, hq, hc⟩ := h h0
  refine ⟨q, o, e, Nat.lt_of_lt_of_le hq hb.size, fun j r hr => ?_⟩
  obtain ⟨h1, h2, h3⟩ := hc j r hr
  exact ⟨(hb.cell (p := ⟨q, o + j * 3, none⟩) hq).trans h1, (hb.cell (p := ⟨q, o + j * 3 + 1, none⟩) hq).trans h2, (hb.cell (p := ⟨q, o + j * 3 + 2, none⟩) hq).trans h3⟩
theorem ReadsR.at {w : World} {A : Option Addr} {rs : List Rng} (h : ReadsR w A rs) {j : Nat} {r : Rng} (hr : rs[j]? = some r) : ∃ q o, A = some ⟨q, o, none⟩ ∧ q < w.heap.size ∧ w.cell? ⟨q, o + j * 3, none⟩ = some (.int .i64 r.a) ∧ w.cell? ⟨q, o + j * 3 + 1, none⟩ = some (.int .i64 r.b) ∧ w.cell? ⟨q, o + j * 3 + 2, none⟩ = some (.int .i64 r.c) := by
  have hl := (List.getElem?_eq_some_iff.1 hr).1
  obtain ⟨q, o, e, hq, hc⟩ := h (by omega)
  exact ⟨q, o, e, hq, hc j r hr⟩
def okFrom : Int → List Rng → Bool
  | _, [] => true
  | last, r :: t => decide (last < r.a) && (decide (r.a ≤ r.b) && (decide (r.b ≤ 1114111) && (decide (1 ≤ r.c) && (decide (r.c ≤ 3) && okFrom r.b t))))
def okT (rs : List Rng) : Bool := okFrom (-1) rs && decide (rs.length ≤ 100)
theorem okFrom_cons (last : Int) (r : Rng) (t : List Rng) : okFrom last (r :: t) = true ↔ last < r.a ∧ r.a ≤ r.b ∧ r.b ≤ 1114111 ∧ 1 ≤ r.c ∧ r.c ≤ 3 ∧ okFrom r.b t = true := by
  simp only [okFrom, Bool.and_eq_true, decide_eq_true_eq]
set_option maxRecDepth 100000 in
set_option maxHeartbeats 8000000 in
theorem check_calls (rs : List Rng) (A : Option Addr) (cp : Nat) (w : World) (hA : ReadsR w A rs) (hl : rs.length ≤ 9223372036854775807) :
    Calls Tryd.prog 46 #[.slice A rs.length cp] w fun e w' => e = .returned (.bool (okT rs)) ∧ Below w.heap.size w w' := by
  unfold okT
  obtain ⟨OK, hOK⟩ : ∃ b, okFrom (-1) rs = b := ⟨_, rfl⟩
  rw [hOK]
  have HA := Lib.hid hA
  have HOK := Lib.hid hOK
  clear hA hOK
  go_enter Tryd.func46, Tryd.ntmps46
  go_wp2_with (fail)
  go_loopw [3, 8] (fun lv iv wr => ∃ (j : Nat) (last : Int), iv = .int .i64 (j : Nat) ∧ lv = .int .i64 last ∧ j ≤ rs.length ∧ okFrom last (rs.drop j) = okFrom (-1) rs ∧ Below w.heap.size w wr) (fun _ iv _ => rs.length - (intOf iv).toNat)
  case atStart => exact ⟨0, -1, rfl, rfl, Nat.zero_le _, rfl, Below.refl _ _⟩
  case round =>
    obtain ⟨j, last, rfl, rfl, hj, hok, hbw⟩ := hrel
    by_cases hlt : j < rs.length
    · have g1 : decide (j < rs.length) = true := by simpa using hlt
      obtain ⟨⟨a, b, c⟩, hr⟩ : ∃ r, rs[j]? = some r := ⟨_, List.getElem?_eq_getElem hlt⟩
      have hd : rs.drop j = ⟨a, b, c⟩ :: rs.drop (j + 1) := by
        obtain ⟨_, hx⟩ := List.getElem?_eq_some_iff.1 hr
        rw [List.drop_eq_getElem_cons hlt, hx]
      rw [hd] at hok
      obtain ⟨q, o, rfl, hq, d0, d1, d2⟩ := (HA.out.below hbw).at hr
      simp only at d0 d1 d2
      have HOK2 := Lib.hid (hok.trans HOK.out)
      have HBW := Lib.hid hbw
      clear hok hd hr hbw
      have fin : ∀ x : Prop, (okFrom last (⟨a, b, c⟩ :: rs.drop (j + 1)) = true → x) → ¬ x → OK = false := fun x h1 h2 => by
        rw [← HOK2.out, ← Bool.not_eq_true]; exact fun h => h2 (h1 h)
      have FIN := Lib.hid fin
      clear fin
      obtain ⟨w2, hw2⟩ : ∃ w2, w2 = wr.alloc (.cells #[Value.int .i64 a, .int .i64 b, .int .i64 c] 70) := ⟨_, rfl⟩
      have HB2 := Lib.hid (show Below w.heap.size w w2 by rw [hw2]; exact HBW.out.alloc HBW.out.size _)
      have HW2 := Lib.hid hw2
      clear hw2
      by_cases h0 : a ≤ last
      · have k0 : decide (a ≤ last) = true := by simpa using h0
        have ok : OK = false := FIN.out (last < a) (fun h => ((okFrom_cons _ _ _).1 h).1) (by omega)
        subst ok
        clear h0
        go_wp2_with (fail)
        go_ret
        exact ⟨rfl, by rw [← HW2.out]; exact HB2.out⟩
      · have k0 : decide (a ≤ last) = false := by simpa using h0
        by_cases h1 : b < a
        · have k1 : decide (b < a) = true := by simpa using h1
          have ok : OK = false := FIN.out (a ≤ b) (fun h => ((okFrom_cons _ _ _).1 h).2.1) (by omega)
          subst ok
          clear h0 h1
          go_wp2_with (fail)
          go_ret
          exact ⟨rfl, by rw [← HW2.out]; exact HB2.out⟩
        · have k1 : decide (b < a) = false := by simpa using h1
          by_cases h2 : 1114111 < b
          · have k2 : decide (1114111 < b) = true := by simpa using h2
            have ok : OK = false := FIN.out (b ≤ 1114111) (fun h => ((okFrom_cons _ _ _).1 h).2.2.1) (by omega)
            subst ok
            clear h0 h1 h2
            go_wp2_with (fail)
            go_ret
            exact ⟨rfl, by rw [← HW2.out]; exact HB2.out⟩
          · have k2 : decide (1114111 < b) = false := by simpa using h2
            by_cases h3 : c < 1
            · have k3 : decide (c < 1) = true := by simpa using h3
              have ok : OK = false := FIN.out (1 ≤ c) (fun h => ((okFrom_cons _ _ _).1 h).2.2.2.1) (by omega)
              subst ok
              clear h0 h1 h2 h3
              go_wp2_with (fail)
              go_ret
              exact ⟨rfl, by rw [← HW2.out]; exact HB2.out⟩
            · have k3 : decide (c < 1) = false := by simpa using h3
              by_cases h4 : 3 < c
              · have k4 : decide (3 < c) = true := by simpa using h4
                have ok : OK = false := FIN.out (c ≤ 3) (fun h => ((okFrom_cons _ _ _).1 h).2.2.2.2.1) (by omega)
                subst ok
                clear h0 h1 h2 h3 h4
                go_wp2_with (fail)
                go_ret
                exact ⟨rfl, by rw [← HW2.out]; exact HB2.out⟩
              · have k4 : decide (3 < c) = false := by simpa using h4
                have ok2 : okFrom b (rs.drop (j + 1)) = OK := by
                  rw [← HOK2.out]
                  have e : okFrom last (⟨a, b, c⟩ :: rs.drop (j + 1)) = okFrom b (rs.drop (j + 1)) := by
                    simp only [okFrom]
                    rw [decide_eq_true (show last < a by omega), decide_eq_true (show a ≤ b by omega), decide_eq_true (show b ≤ 1114111 by omega), decide_eq_true (show 1 ≤ c by omega), decide_eq_true (show c ≤ 3 by omega)]
                    simp only [Bool.true_and]
                  rw [e]
                have OK2 := Lib.hid ok2
                clear ok2 h0 h1 h2 h3 h4
                go_wp2_with (fail)
                go_roundw
                case rel => exact ⟨j + 1, b, by go_num, rfl, hlt, OK2.out.trans HOK.out.symm, by rw [← HW2.out]; exact HB2.out⟩
                case measure => simp [intOf]; omega
    · have g1 : decide (j < rs.length) = false := by simpa using hlt
      rw [List.drop_eq_nil_of_le (by omega)] at hok
      have ok : OK = true := by rw [← HOK.out, ← hok]; rfl
      subst ok
      have HBW := Lib.hid hbw
      clear hok hbw HA
      go_wp2_with (fail)
      go_ret
      exact ⟨ret_bool (by rw [Bool.true_and]; exact decide_eq_decide.2 (by omega)), HBW.out⟩
end Go.Proofs.YtcljiahpgbedhaaDoor

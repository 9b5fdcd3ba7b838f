/- Tables of classes: a code's class, the program's and the reference's. -/
import Derived.Test.YtcljiahpgbedhaaDoorRCls
namespace Go.Proofs.YtcljiahpgbedhaaDoor
open Go.RowKit Go.Deep Go.Own
set_option linter.unusedVariables false
def lenV : Value → Nat | .slice _ n _ => n | _ => 0
def hasR (x : Int) (r : Rng) : Bool := decide (r.a ≤ x) && decide (x ≤ r.b)
def findR (rs : List Rng) (x : Int) : Int := match rs.find? (hasR x) with | some r => r.c | none => 0
def clsOf (rs : List Rng) (x : Int) : Int := if okT rs = true then findR rs x else 0
theorem okFrom_mem : ∀ (l : List Rng) (last : Int), okFrom last l = true → ∀ y ∈ l, last < y.a ∧ y.a ≤ y.b
  | [], _, _, y, hy => by cases hy
  | r :: t, last, h, y, hy => by
    rw [okFrom_cons] at h
    rcases List.mem_cons.1 hy with rfl | hy
    · exact ⟨h.1, h.2.1⟩
    · have := okFrom_mem t r.b h.2.2.2.2.2 y hy
      exact ⟨by omega, this.2⟩
theorem okFrom_app : ∀ (l : List Rng) (last : Int) (r : Rng) (t : List Rng), okFrom last (l ++ r :: t) = true → okFrom last l = true ∧ (∀ y ∈ l, y.b < r.a) ∧ okFrom r.b t = true ∧ r.a ≤ r.b
  | [], last, r, t, h => by
    rw [List.nil_append, okFrom_cons] at h
    exact ⟨rfl, fun y hy => absurd hy (List.not_mem_nil), h.2.2.2.2.2, h.2.1⟩
  | y :: l, last, r, t, h => by
    rw [List.cons_append, okFrom_cons] at h
    obtain ⟨i1, i2, i3, i4⟩ := okFrom_app l y.b r t h.2.2.2.2.2
    refine ⟨(okFrom_cons _ _ _).2 ⟨h.1, h.2.1, h.2.2.1, h.2.2.2.1, h.2.2.2.2.1, i1⟩, fun z hz => ?_, i3, i4⟩
    rcases List.mem_cons.1 hz with rfl | hz
    · exact (okFrom_mem _ _ h.2.2.2.2.2 r (by simp)).1
    · exact i2 z hz
theorem find_none {x : Int} {l : List Rng} (h : ∀ y ∈ l, ¬ (y.a ≤ x ∧ x ≤ y.b)) : l.find? (hasR x) = none := by
  rw [List.find?_eq_none]
  intro y hy hh
  unfold hasR at hh
  simp only [Bool.and_eq_true, decide_eq_true_eq] at hh
  exact h y hy hh
theorem find_left {last x : Int} {l : List Rng} {r : Rng} {t : List Rng} (h : okFrom last (l ++ r :: t) = true) (hx : x < r.a) : findR (l ++ r :: t) x = findR l x := by
  obtain ⟨i1, i2, i3, i4⟩ := okFrom_app l last r t h
  unfold findR
  have : (r :: t).find? (hasR x) = none := find_none fun y hy => by
    rcases List.mem_cons.1 hy with rfl | hy
    · omega
    · have := okFrom_mem t r.b i3 y hy; omega
  rw [List.find?_append, this, Option.or_none]
theorem find_right {last x : Int} {l : List Rng} {r : Rng} {t : List Rng} (h : okFrom last (l ++ r :: t) = true) (hx : r.b < x) : findR (l ++ r :: t) x = findR t x := by
  obtain ⟨i1, i2, i3, i4⟩ := okFrom_app l last r t h
  unfold findR
  have : l.find? (hasR x) = none := find_none fun y hy => by have := i2 y hy; omega
  have hr : hasR x r = false := by unfold hasR; simp; omega
  rw [List.find?_append, this, Option.none_or, List.find?_cons_of_neg (by rw [hr]; decide)]
theorem find_mid {last x : Int} {l : List Rng} {r : Rng} {t : List Rng} (h : okFrom last (l ++ r :: t) = true) (h1 : r.a ≤ x) (h2 : x ≤ r.b) : findR (l ++ r :: t) x = r.c := by
  obtain ⟨i1, i2, i3, i4⟩ := okFrom_app l last r t h
  unfold findR
  have : l.find? (hasR x) = none := find_none fun y hy => by have := i2 y hy; omega
  have hr : hasR x r = true := by unfold hasR; simp; omega
  rw [List.find?_append, this, Option.none_or, List.find?_cons_of_pos hr]
theorem ReadsR.take {w : World} {A : Option Addr} {rs : List Rng} (h : ReadsR w A rs) (k : Nat) : ReadsR w A (rs.take k) := fun h0 => by
  rw [List.length_take] at h0
  obtain ⟨q, o, e, hq, hc⟩ := h (by omega)
  refine ⟨q, o, e, hq, fun j r hr => hc j r ?_⟩
  rw [List.getElem?_take] at hr
  split at hr
  · exact hr
  · cases hr
theorem ReadsR.drop {w : World} {A : Option Addr} {rs : List Rng} (h : ReadsR w A rs) (k c : Nat) (hc : rs.length ≤ c) : ReadsR w (if c = k then A else A.map (·.add (k * 3))) (rs.drop k) := fun h0 => by
  rw [List.length_drop] at h0
  obtain ⟨q, o, rfl, hq, hcell⟩ := h (by omega)
  rw [if_neg (by omega)]
  refine ⟨q, o + k * 3, by simp only [Option.map_some]; unfold Addr.add; split <;> simp_all, hq, fun j r hr => ?_⟩
  rw [List.getElem?_drop] at hr
  have := hcell (k + j) r hr
  rw [show o + k * 3 + j * 3 = o + (k + j) * 3 by omega]
  exact this
set_option maxRecDepth 100000 in
set_option maxHeartbeats 8000000 in
theorem rof_calls (rs : List Rng) (x : Int) (A : Option Addr) (cp : Nat) (w : World) (hA : ReadsR w A rs) (hl : rs.length ≤ 9223372036854775807) :
    Calls Tryd.prog 30 #[.slice A rs.length cp, .int .i64 x] w fun e w' => e = .returned (.int .i64 (clsOf rs x)) ∧ Below w.heap.size w w' := by
  have CC := Lib.hid (rcheck_calls rs A cp w hA hl)
  unfold clsOf
  have HA := Lib.hid hA
  clear hA
  by_cases hok : okT rs = true
  · rw [if_pos hok]
    rw [hok] at CC
    obtain ⟨X, hX⟩ : ∃ X, findR rs x = X := ⟨_, rfl⟩
    rw [hX]
    have HX := Lib.hid hX
    clear hok hX
    go_enter Tryd.func30, Tryd.ntmps30
    go_wp2_with (fail)
    refine CC.out.mono ?_
    rintro e w1 ⟨rfl, b1⟩
    have B1 := Lib.hid b1
    clear b1 CC
    go_wp2_with (fail)
    go_loopw [5] (fun iv wr => ∃ i : Nat, iv = .int .i64 (i : Nat) ∧ i ≤ rs.length ∧ findR (rs.drop i) x = X ∧ Below w.heap.size w wr) (fun iv _ => rs.length - (intOf iv).toNat)
    case atStart => exact ⟨0, rfl, Nat.zero_le _, HX.out, B1.out⟩
    case round =>
      obtain ⟨i, rfl, hi, hf, hbw⟩ := hrel
      clear B1
      by_cases hlt : i < rs.length
      · have g1 : decide (i < rs.length) = true := by simpa using hlt
        obtain ⟨⟨a, b, c⟩, hr⟩ : ∃ r, rs[i]? = some r := ⟨_, List.getElem?_eq_getElem hlt⟩
        have hd : rs.drop i = ⟨a, b, c⟩ :: rs.drop (i + 1) := by
          obtain ⟨_, hx⟩ := List.getElem?_eq_some_iff.1 hr
          rw [List.drop_eq_getElem_cons hlt, hx]
        rw [hd] at hf
        obtain ⟨q, o, rfl, hq, d0, d1, d2⟩ := (HA.out.below hbw).at hr
        simp only at d0 d1 d2
        have HF := Lib.hid hf
        have HBW := Lib.hid hbw
        clear hf hbw hd hr
        by_cases h1 : a ≤ x
        · have k1 : decide (a ≤ x) = true := by simpa using h1
          by_cases h2 : x ≤ b
          · have k2 : decide (x ≤ b) = true := by simpa using h2
            have e : c = X := by
              rw [← HF.out]
              unfold findR
              rw [List.find?_cons_of_pos (by unfold hasR; simp; omega)]
            subst e
            clear h1 h2
            go_wp2_with (fail)
            go_ret
            exact ⟨rfl, HBW.out⟩
          · have k2 : decide (x ≤ b) = false := by simpa using h2
            have e : findR (rs.drop (i + 1)) x = X := by
              rw [← HF.out]
              unfold findR
              rw [List.find?_cons_of_neg (by unfold hasR; simp; omega)]
            have HE := Lib.hid e
            clear h1 h2 e
            go_wp2_with (fail)
            go_roundw
            case rel => exact ⟨i + 1, by go_num, hlt, HE.out, HBW.out⟩
            case measure => simp [intOf]; omega
        · have k1 : decide (a ≤ x) = false := by simpa using h1
          have e : findR (rs.drop (i + 1)) x = X := by
            rw [← HF.out]
            unfold findR
            rw [List.find?_cons_of_neg (by unfold hasR; simp; omega)]
          have HE := Lib.hid e
          clear h1 e
          go_wp2_with (fail)
          go_roundw
          case rel => exact ⟨i + 1, by go_num, hlt, HE.out, HBW.out⟩
          case measure => simp [intOf]; omega
      · have g1 : decide (i < rs.length) = false := by simpa using hlt
        rw [List.drop_eq_nil_of_le (by omega)] at hf
        have e : X = 0 := by rw [← hf]; rfl
        subst e
        have HBW := Lib.hid hbw
        clear hf hbw
        go_wp2_with (fail)
        go_ret
        exact ⟨rfl, HBW.out⟩
  · rw [if_neg hok]
    rw [Bool.not_eq_true] at hok
    rw [hok] at CC
    clear hok
    go_enter Tryd.func30, Tryd.ntmps30
    go_wp2_with (fail)
    refine CC.out.mono ?_
    rintro e w1 ⟨rfl, b1⟩
    go_wp2_with (fail)
    go_ret
    exact ⟨rfl, b1⟩
set_option maxRecDepth 100000 in
set_option maxHeartbeats 8000000 in
theorem of_calls (rs : List Rng) (x : Int) (A : Option Addr) (cp : Nat) (w : World) (hA : ReadsR w A rs) (hl : rs.length ≤ 9223372036854775807) (hcp : rs.length ≤ cp) :
    Calls Tryd.prog 44 #[.slice A rs.length cp, .int .i64 x] w fun e w' => e = .returned (.int .i64 (clsOf rs x)) ∧ Below w.heap.size w w' := by
  have CC := Lib.hid (check_calls rs A cp w hA hl)
  unfold clsOf
  have HA := Lib.hid hA
  clear hA
  by_cases hok : okT rs = true
  · rw [if_pos hok]
    rw [hok] at CC
    have hofr : okFrom (-1) rs = true := by unfold okT at hok; rw [Bool.and_eq_true] at hok; exact hok.1
    obtain ⟨X, hX⟩ : ∃ X, findR rs x = X := ⟨_, rfl⟩
    rw [hX]
    have HX := Lib.hid hX
    have HOF := Lib.hid hofr
    clear hok hX hofr
    go_enter Tryd.func44, Tryd.ntmps44
    go_wp2_with (fail)
    go_step3
    go_wp2_with (fail)
    refine CC.out.mono ?_
    rintro e w1 ⟨rfl, b1⟩
    have B1 := Lib.hid b1
    clear b1 CC
    go_wp2_with (fail)
    go_step3
    go_wp2_with (fail)
    go_loopw [0] (fun sv wr => ∃ (A' : Option Addr) (sub : List Rng) (c : Nat) (last : Int), sv = .slice A' sub.length c ∧ sub.length ≤ c ∧ sub.length ≤ rs.length ∧ ReadsR wr A' sub ∧ okFrom last sub = true ∧ findR sub x = X ∧ Below w.heap.size w wr) (fun sv _ => lenV sv)
    case atStart => exact ⟨A, rs, cp, -1, rfl, hcp, Nat.le_refl _, HA.out.below B1.out, HOF.out, HX.out, B1.out⟩
    case round =>
      obtain ⟨A', sub, c, last, rfl, hsc, hsr, hR, hof, hf, hbw⟩ := hrel
      clear B1
      by_cases hlt : 0 < sub.length
      · have g1 : decide (0 < sub.length) = true := by simpa using hlt
        obtain ⟨m, hm⟩ : ∃ m, m = sub.length / 2 := ⟨_, rfl⟩
        have hml : m < sub.length := by omega
        obtain ⟨⟨a, b, d⟩, hr⟩ : ∃ r, sub[m]? = some r := ⟨_, List.getElem?_eq_getElem hml⟩
        have hsp : sub = sub.take m ++ ⟨a, b, d⟩ :: sub.drop (m + 1) := by
          obtain ⟨_, hx⟩ := List.getElem?_eq_some_iff.1 hr
          rw [← hx, ← List.drop_eq_getElem_cons hml, List.take_append_drop]
        have hml2 : (sub.take m).length = m := by rw [List.length_take]; omega
        have hdl2 : (sub.drop (m + 1)).length = sub.length - (m + 1) := by rw [List.length_drop]
        obtain ⟨q, o, hq0, hq, d0, d1, d2⟩ := hR.at hr
        simp only at d0 d1 d2
        have q1 : (sub.length : Int) / 2 = (m : Nat) := by omega
        have q2 : (sub.length : Int).tdiv 2 = (m : Nat) := by rw [Int.tdiv_eq_ediv_of_nonneg (by omega)]; exact q1
        have cut1 := run_sliced_toN (P := Tryd.prog) Tryd.underlying44 (z := 3) Tryd.sizeOf70 A' sub.length c m (by omega) .i64
        have cut2 := run_sliced_fromN (P := Tryd.prog) Tryd.underlying44 (z := 3) Tryd.sizeOf70 A' sub.length c (m + 1) (by omega) hsc .i64
        rw [Int.natCast_add, Int.natCast_one] at cut2
        have hof2 := hof
        rw [hsp] at hof2
        have hf2 := hf
        rw [hsp] at hf2
        obtain ⟨o1, _, o3, _⟩ := okFrom_app _ _ _ _ hof2
        have FL := Lib.hid (fun h : x < a => (find_left (x := x) hof2 h).symm.trans hf2)
        have FR := Lib.hid (fun h : b < x => (find_right (x := x) hof2 h).symm.trans hf2)
        have FM := Lib.hid (fun (h1 : a ≤ x) (h2 : x ≤ b) => (find_mid (x := x) hof2 h1 h2).symm.trans hf2)
        have RT := Lib.hid (hR.take m)
        have RD := Lib.hid (hR.drop (m + 1) c hsc)
        have O1 := Lib.hid o1
        have O3 := Lib.hid o3
        have HBW := Lib.hid hbw
        have HM := Lib.hid hm
        have HML2 := Lib.hid hml2
        have HDL2 := Lib.hid hdl2
        have HSP := Lib.hid hsp
        subst hq0
        clear hR hof hf hbw hm hof2 hf2 o1 o3 hsp hml2 hdl2 hr
        by_cases h1 : x < a
        · have k1 : decide (x < a) = true := by simpa using h1
          go_wp2_with (fail)
          have e1 := HML2.out
          refine ⟨⟨_, sub.take m, c, last, by rw [e1], by omega, by omega, RT.out.below ((Below.refl _ _).alloc (Nat.le_refl _) _), O1.out, FL.out h1, HBW.out.alloc HBW.out.size _⟩, ?_⟩
          simp only [lenV]; omega
        · have k1 : decide (x < a) = false := by simpa using h1
          by_cases h2 : b < x
          · have k2 : decide (b < x) = true := by simpa using h2
            go_wp2_with (fail)
            have e1 := HDL2.out
            have e2 : (if c = m + 1 then (some ⟨q, o, none⟩ : Option Addr) else some ⟨q, o + (m + 1) * 3, none⟩) = (if c = m + 1 then (some ⟨q, o, none⟩ : Option Addr) else Option.map (fun z : Addr => z.add ((m + 1) * 3)) (some ⟨q, o, none⟩)) := by
              split
              · rfl
              · simp [Addr.add]
            have RD2 := RD.out
            rw [← e2] at RD2
            refine ⟨⟨_, sub.drop (m + 1), _, b, by rw [e1], by omega, by omega, RD2.below ((Below.refl _ _).alloc (Nat.le_refl _) _), O3.out, FR.out h2, HBW.out.alloc HBW.out.size _⟩, ?_⟩
            simp only [lenV]; omega
          · have k2 : decide (b < x) = false := by simpa using h2
            have e := FM.out (by omega) (by omega)
            simp only at e
            subst e
            go_wp2_with (fail)
            go_ret
            exact ⟨rfl, HBW.out.alloc HBW.out.size _⟩
      · have g1 : decide (0 < sub.length) = false := by simpa using hlt
        obtain rfl : sub = [] := List.eq_nil_of_length_eq_zero (by omega)
        have e : X = 0 := by rw [← hf]; rfl
        subst e
        have HBW := Lib.hid hbw
        clear hR hof hf hbw
        go_wp2_with (fail)
        simp only [Exit.noGoto]
        go_wp2_with (fail)
        go_ret
        exact ⟨rfl, HBW.out⟩
  · rw [if_neg hok]
    rw [Bool.not_eq_true] at hok
    rw [hok] at CC
    clear hok
    go_enter Tryd.func44, Tryd.ntmps44
    go_wp2_with (fail)
    go_step3
    go_wp2_with (fail)
    refine CC.out.mono ?_
    rintro e w1 ⟨rfl, b1⟩
    go_wp2_with (fail)
    simp only [Exit.noGoto]
    go_wp2_with (fail)
    go_ret
    exact ⟨rfl, b1⟩
end Go.Proofs.YtcljiahpgbedhaaDoor

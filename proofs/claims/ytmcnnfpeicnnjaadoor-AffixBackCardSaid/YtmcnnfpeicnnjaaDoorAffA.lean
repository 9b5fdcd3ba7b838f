/- affix: the pair of a line. -/
import Derived.Test.YtmcnnfpeicnnjaaDoorRulE
import Derived.Deep.DeepCutAuto
namespace Go.Proofs.YtmcnnfpeicnnjaaDoor
open Go.RowKit Go.Deep Go.Own
set_option linter.unusedVariables false
theorem pcell2 {w : World} {b : Nat} {x y : Value} {t : TypeId} {fr : Nat × Nat} (h : w.heap[b]? = some (.cells #[x, y] t fr)) : w.cell? ⟨b, 0, none⟩ = some x ∧ w.cell? ⟨b, 1, none⟩ = some y := by
  simp [World.cell?, h]
theorem pcell1 {w : World} {b : Nat} {x : Value} {t : TypeId} {fr : Nat × Nat} (h : w.heap[b]? = some (.cells #[x] t fr)) : w.cell? ⟨b, 0, none⟩ = some x := by
  simp [World.cell?, h]
/-- from A to Z, from a to z -/
def ascV (f : Int) : Bool := decide (97 ≤ f ∧ f ≤ 122) || decide (65 ≤ f ∧ f ≤ 90)
set_option maxRecDepth 100000 in
set_option maxHeartbeats 4000000 in
theorem ascii_calls (f : Int) (w : World) : Calls Tryd.prog 70 #[.int .i64 f] w fun e w' => e = .returned (.bool (ascV f)) ∧ w = w' := by
  obtain ⟨q, hq⟩ : ∃ q, q = ascV f := ⟨_, rfl⟩
  rw [← hq]
  unfold ascV at hq
  have HQ := Lib.hid hq
  clear hq
  by_cases h1 : 97 ≤ f
  · have g1 : decide (97 ≤ f) = true := decide_eq_true h1
    have g3 : decide (65 ≤ f) = true := decide_eq_true (by omega)
    have g4 : decide (f ≤ 90) = false := decide_eq_false (by omega)
    by_cases h2 : f ≤ 122
    · have g2 : decide (f ≤ 122) = true := decide_eq_true h2
      have E := Lib.hid (show q = true by rw [HQ.out, decide_eq_true ⟨h1, h2⟩]; rfl)
      clear h1 h2
      go_enter Tryd.func70, Tryd.ntmps70
      go_wp2_with (fail)
      go_ret
      exact ⟨by rw [E.out]; rfl, by first | rfl | trivial⟩
    · have g2 : decide (f ≤ 122) = false := decide_eq_false h2
      have E := Lib.hid (show q = false by rw [HQ.out, decide_eq_false (fun e => h2 e.2), decide_eq_false (fun e => by omega)]; rfl)
      clear h1 h2
      go_enter Tryd.func70, Tryd.ntmps70
      go_wp2_with (fail)
      go_ret
      exact ⟨by rw [E.out]; rfl, by first | rfl | trivial⟩
  · have g1 : decide (97 ≤ f) = false := decide_eq_false h1
    by_cases h3 : 65 ≤ f
    · have g3 : decide (65 ≤ f) = true := decide_eq_true h3
      by_cases h4 : f ≤ 90
      · have g4 : decide (f ≤ 90) = true := decide_eq_true h4
        have E := Lib.hid (show q = true by rw [HQ.out, decide_eq_true (⟨h3, h4⟩ : 65 ≤ f ∧ f ≤ 90), Bool.or_true])
        clear h1 h3 h4
        go_enter Tryd.func70, Tryd.ntmps70
        go_wp2_with (fail)
        go_ret
        exact ⟨by rw [E.out]; rfl, by first | rfl | trivial⟩
      · have g4 : decide (f ≤ 90) = false := decide_eq_false h4
        have E := Lib.hid (show q = false by rw [HQ.out, decide_eq_false (fun e => h1 e.1), decide_eq_false (fun e => h4 e.2)]; rfl)
        clear h1 h3 h4
        go_enter Tryd.func70, Tryd.ntmps70
        go_wp2_with (fail)
        go_ret
        exact ⟨by rw [E.out]; rfl, by first | rfl | trivial⟩
    · have g3 : decide (65 ≤ f) = false := decide_eq_false h3
      have E := Lib.hid (show q = false by rw [HQ.out, decide_eq_false (fun e => h1 e.1), decide_eq_false (fun e => h3 e.1)]; rfl)
      clear h1 h3
      go_enter Tryd.func70, Tryd.ntmps70
      go_wp2_with (fail)
      go_ret
      exact ⟨by rw [E.out]; rfl, by first | rfl | trivial⟩
/-- pairs as they are read -/
def ReadsP (w : World) (A : Option Addr) (ps : List (Int × Int)) : Prop :=
  0 < ps.length → ∃ q o, A = some ⟨q, o, none⟩ ∧ q < w.heap.size ∧ ∀ j p, ps[j]? = some p → w.cell? ⟨q, o + j * 2, none⟩ = some (.int .i64 p.1) ∧ w.cell? ⟨q, o + j * 2 + 1, none⟩ = some (.int .i64 p.2)
theorem ReadsP.below {w w' : World} {A : Option Addr} {ps : List (Int × Int)} (h : ReadsP w A ps) (hb : Below w.heap.size w w') : ReadsP w' A ps := fun h0 => by
  obtain ⟨q, o, e, hq, hc⟩ := h h0
  exact ⟨q, o, e, Nat.lt_of_lt_of_le hq hb.size, fun j p hp => ⟨(hb.cell (p := ⟨q, o + j * 2, none⟩) hq).trans (hc j p hp).1, (hb.cell (p := ⟨q, o + j * 2 + 1, none⟩) hq).trans (hc j p hp).2⟩⟩
def hitV (l : List Int) (p : Int × Int) : Bool := l.contains p.1 || l.contains p.2
set_option maxRecDepth 100000 in
set_option maxHeartbeats 4000000 in
theorem pairC_calls (l : List Int) (A : Option Addr) (c L : Nat) (p : Int × Int) (w : World) (hL : w.heap[L]? = some (.cells #[.slice A l.length c] 41 (0, 0))) (hr : Reads w A l) (hl : l.length ≤ 1000000) :
    Calls Tryd.prog 72 #[.agg #[.int .i64 p.1, .int .i64 p.2], .pointer (some ⟨L, 0, none⟩)] w fun e w' => e = .returned (.bool (hitV l p)) ∧ Below w.heap.size w w' := by
  obtain ⟨w1, hw1⟩ : ∃ w1, w1 = w.alloc (.cells #[.int .i64 p.1, .int .i64 p.2] 92) := ⟨_, rfl⟩
  obtain ⟨M, hM⟩ : ∃ M, M = w.heap.size := ⟨_, rfl⟩
  have b1 : Below w.heap.size w w1 := by rw [hw1]; exact (Below.refl _ _).alloc (Nat.le_refl _) _
  have m1 : w1.heap[M]? = some (.cells #[.int .i64 p.1, .int .i64 p.2] 92 (0, 0)) := by rw [hw1, hM]; exact blk_alloc_new _ _
  have l1 := (b1.block _ (Array.getElem?_eq_some_iff.1 hL).1).trans hL
  have C1 := Lib.hid (hasI_calls l A c p.1 w1 (hr.later b1) hl)
  have C2 := Lib.hid (hasI_calls l A c p.2 w1 (hr.later b1) hl)
  obtain ⟨q, hq⟩ : ∃ q, q = hitV l p := ⟨_, rfl⟩
  rw [← hq]
  unfold hitV at hq
  obtain ⟨x, y⟩ := p
  simp only at hq m1 hw1 C1 C2 ⊢
  obtain ⟨cx, hcx⟩ : ∃ b, b = l.contains x := ⟨_, rfl⟩
  obtain ⟨cy, hcy⟩ : ∃ b, b = l.contains y := ⟨_, rfl⟩
  rw [← hcx] at hq C1
  rw [← hcy] at hq C2
  obtain ⟨n, hn⟩ : ∃ n, n = l.length := ⟨_, rfl⟩
  rw [← hn] at C1 C2 l1
  have HQ := Lib.hid hq
  have HW := Lib.hid (And.intro hw1 hM)
  have B1 := Lib.hid b1
  obtain ⟨m0, mm1⟩ := pcell2 m1
  have l0 := pcell1 l1
  clear hL hr hl hw1 hM b1 m1 l1 hq hcx hcy hn
  cases cx with
  | true =>
    have E := Lib.hid (show q = true from HQ.out)
    go_enter Tryd.func72, Tryd.ntmps72
    go_upto_region 1 with (fail)
    rw [← HW.out.1, ← HW.out.2]
    go_wp2_with (fail)
    refine C1.out.mono ?_
    rintro e w2 ⟨rfl, rfl⟩
    go_wp2_with (fail)
    go_ret
    exact ⟨by rw [E.out]; rfl, B1.out⟩
  | false =>
    have E := Lib.hid (show q = cy by rw [HQ.out]; rfl)
    go_enter Tryd.func72, Tryd.ntmps72
    go_upto_region 1 with (fail)
    rw [← HW.out.1, ← HW.out.2]
    go_wp2_with (fail)
    refine C1.out.mono ?_
    rintro e w2 ⟨rfl, rfl⟩
    go_wp2_with (fail)
    refine C2.out.mono ?_
    rintro e w2 ⟨rfl, rfl⟩
    go_wp2_with (fail)
    go_ret
    exact ⟨by rw [E.out]; rfl, B1.out⟩
def pairF (L : Nat) : Value := .func (.func 72) #[] #[.pointer (some ⟨L, 0, none⟩)]
set_option maxRecDepth 100000 in
set_option maxHeartbeats 4000000 in
theorem pairI_calls (l : List Int) (A : Option Addr) (c L : Nat) (ps : List (Int × Int)) (B : Option Addr) (cp : Nat) (w : World) (hL : w.heap[L]? = some (.cells #[.slice A l.length c] 41 (0, 0))) (hr : Reads w A l) (hl : l.length ≤ 1000000) (hps : ReadsP w B ps) (hpl : ps.length ≤ 1000000) :
    Calls Tryd.prog 87 #[.slice B ps.length cp, pairF L] w fun e w' => (∃ i : Int, e = .returned (.int .i64 i) ∧ decide (0 ≤ i) = ps.any (hitV l)) ∧ Below w.heap.size w w' := by
  have CH := Lib.hid (fun (p : Int × Int) wx (hb : Below w.heap.size w wx) => pairC_calls l A c L p wx ((hb.block _ (Array.getElem?_eq_some_iff.1 hL).1).trans hL) (hr.later hb) hl)
  have HP := Lib.hid hps
  obtain ⟨n, hn⟩ : ∃ n, n = ps.length := ⟨_, rfl⟩
  have HN := Lib.hid hn
  rw [← hn] at hpl ⊢
  unfold pairF
  clear hL hr hl hps hn
  go_enter Tryd.func87, Tryd.ntmps87
  go_wp2_with (fail)
  go_loopw [8] (fun iv wr => ∃ i : Nat, i ≤ n ∧ iv = .int .i64 (i : Nat) ∧ (ps.take i).any (hitV l) = false ∧ Below w.heap.size w wr) (fun iv _ => n - (intOf iv).toNat)
  case atStart => exact ⟨0, Nat.zero_le _, rfl, rfl, Below.refl _ _⟩
  case round =>
    obtain ⟨i, hi, rfl, hany, hbw⟩ := hrel
    by_cases hlt : i < n
    · have g1 : decide (i < n) = true := by simpa using hlt
      obtain ⟨p, hp⟩ : ∃ p, ps[i]? = some p := ⟨_, List.getElem?_eq_getElem (by have := HN.out; omega)⟩
      obtain ⟨q, o, rfl, hq, hc⟩ := HP.out.below hbw (by have := HN.out; omega)
      obtain ⟨c0, c1⟩ := hc i p hp
      have CC := Lib.hid (CH.out p wr hbw)
      obtain ⟨r, hr⟩ : ∃ r, r = hitV l p := ⟨_, rfl⟩
      rw [← hr] at CC
      have HR := Lib.hid (show (ps.take (i + 1)).any (hitV l) = r by
        obtain ⟨l1, e1⟩ := List.getElem?_eq_some_iff.1 hp
        rw [List.take_succ_eq_append_getElem l1, e1, List.any_append, hany, hr]
        simp)
      have HX := Lib.hid (And.intro hp hr)
      have BW := Lib.hid hbw
      obtain ⟨x, y⟩ := p
      simp only at c0 c1
      clear hp hc hany hr hq hbw
      go_wp2_with (fail)
      refine CC.out.mono ?_
      rintro e w2 ⟨rfl, b2⟩
      have B2 := Lib.hid (BW.out.trans (b2.mono BW.out.size))
      clear CC b2 c0 c1
      cases r with
      | true =>
        have E := Lib.hid (show ps.any (hitV l) = true by
          obtain ⟨h1, h2⟩ := HX.out
          rw [List.any_eq_true]
          exact ⟨_, List.mem_of_getElem? h1, h2.symm⟩)
        go_wp2_with (fail)
        go_ret
        exact ⟨⟨_, rfl, by rw [E.out]; simp⟩, B2.out⟩
      | false =>
        go_wp2_with (fail)
        go_roundw
        case rel => exact ⟨i + 1, hlt, by go_num, HR.out, B2.out⟩
        case measure => simp [intOf]; omega
    · obtain rfl : i = n := by omega
      have g1 : decide (i < i) = false := by simp
      have E := Lib.hid (show ps.any (hitV l) = false by rw [List.take_of_length_le (by have := HN.out; omega)] at hany; exact hany)
      have BW := Lib.hid hbw
      clear hany hbw
      go_wp2_with (fail)
      go_ret
      exact ⟨⟨_, rfl, by rw [E.out]; decide⟩, BW.out⟩
set_option maxRecDepth 100000 in
set_option maxHeartbeats 4000000 in
theorem pairK_calls (l : List Int) (A : Option Addr) (c L : Nat) (ps : List (Int × Int)) (B : Option Addr) (cp : Nat) (w : World) (hL : w.heap[L]? = some (.cells #[.slice A l.length c] 41 (0, 0))) (hr : Reads w A l) (hl : l.length ≤ 1000000) (hps : ReadsP w B ps) (hpl : ps.length ≤ 1000000) :
    Calls Tryd.prog 71 #[.slice B ps.length cp, pairF L] w fun e w' => e = .returned (.bool (ps.any (hitV l))) ∧ Below w.heap.size w w' := by
  have C1 := Lib.hid (pairI_calls l A c L ps B cp w hL hr hl hps hpl)
  obtain ⟨V, hV⟩ : ∃ V, V = pairF L := ⟨_, rfl⟩
  rw [← hV] at C1 ⊢
  obtain ⟨r, hr⟩ : ∃ r, r = ps.any (hitV l) := ⟨_, rfl⟩
  rw [← hr] at C1 ⊢
  obtain ⟨n, hn⟩ : ∃ n, n = ps.length := ⟨_, rfl⟩
  rw [← hn] at C1 ⊢
  clear hL hr hl hps hpl hV hn
  go_enter Tryd.func71, Tryd.ntmps71
  go_wp2_with (fail)
  refine C1.out.mono ?_
  rintro e w1 ⟨⟨i, rfl, hi⟩, b1⟩
  have B1 := Lib.hid b1
  clear C1 b1
  go_wp2_with (fail)
  go_ret
  exact ⟨by first | rfl | (rw [hi]; rfl), B1.out⟩
end Go.Proofs.YtmcnnfpeicnnjaaDoor

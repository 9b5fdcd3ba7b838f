/- list: the example; ListWrong. -/
import Derived.Test.YtmpckoincdkeeaaDoorListE
import Derived.Test.YtmpckoincdkeeaaDoorPlace
namespace Go.Proofs.YtmpckoincdkeeaaDoor
open Go.RowKit Go.Deep Go.Own
set_option linter.unusedVariables false
/-- what a caller reads of a list -/
structure Got (w : World) (v : Value) (es : List Ent) : Prop where
  out : ∃ A c, v = .slice A es.length c ∧ es.length ≤ c ∧ ∀ j e, es[j]? = some e → ∃ q o B cf, A = some ⟨q, o, none⟩ ∧ q < w.heap.size ∧ w.cell? ⟨q, o + j * 2, none⟩ = some (.string e.1) ∧ w.cell? ⟨q, o + j * 2 + 1, none⟩ = some (.slice B e.2.length cf) ∧ e.2.length ≤ cf ∧ Reads w B e.2
theorem cells2 (l : List EnS) (j : Nat) (x : EnS) (h : l[j]? = some x) : (l.flatMap entCells)[j * 2]? = some (.string x.w) ∧ (l.flatMap entCells)[j * 2 + 1]? = some x.v := by
  induction l generalizing j with
  | nil => simp at h
  | cons y l ih =>
    cases j with
    | zero =>
      obtain rfl : y = x := by simpa using h
      simp [entCells]
    | succ j =>
      have := ih j (by simpa using h)
      have e1 : ∀ k, ((y :: l).flatMap entCells)[k + 2]? = (l.flatMap entCells)[k]? := fun k => by simp [entCells]
      rw [show (j + 1) * 2 = j * 2 + 2 by omega, show j * 2 + 2 + 1 = (j * 2 + 1) + 2 by omega, e1, e1]
      exact this
theorem got_of {w : World} {base : Nat} {v : Value} {xs : List EnS} (hR : RowE w base v xs) (hF : FlE w base xs) : Got w v (xs.map EnS.ent) := by
  obtain ⟨A, c, rfl, h1, h2⟩ := row_is hR
  refine ⟨A, c, by rw [List.length_map], by rw [List.length_map]; exact h1, fun j e he => ?_⟩
  rw [List.getElem?_map] at he
  obtain ⟨x, hx, rfl⟩ := Option.map_eq_some_iff.1 he
  have hl : 0 < xs.length := by have := (List.getElem?_eq_some_iff.1 hx).1; omega
  obtain ⟨q, cap, e, _, hq, _, _, hc, _⟩ := row_at hR hl
  injection e with e1 e2 e3
  obtain ⟨k1, k2⟩ := cells2 xs j x hx
  obtain ⟨B, cf, e4, hcf, hr⟩ := (hF x (List.mem_of_getElem? hx)).reads
  refine ⟨q, 0, B, cf, e1, hq, ?_, ?_, hcf, hr⟩
  · rw [Nat.zero_add]; exact hc _ _ k1
  · rw [Nat.zero_add]
    show w.cell? _ = some (.slice B x.f.length cf)
    rw [← e4]; exact hc _ _ k2
theorem Got.below {w w' : World} {v : Value} {es : List Ent} (h : Got w v es) (hb : Below w.heap.size w w') : Got w' v es := by
  obtain ⟨A, c, e, h1, h2⟩ := h.out
  refine ⟨A, c, e, h1, fun j x hx => ?_⟩
  obtain ⟨q, o, B, cf, e1, hq, c1, c2, h3, h4⟩ := h2 j x hx
  exact ⟨q, o, B, cf, e1, Nat.lt_of_lt_of_le hq hb.size, (hb.cell (p := ⟨q, o + j * 2, none⟩) hq).trans c1, (hb.cell (p := ⟨q, o + j * 2 + 1, none⟩) hq).trans c2, h3, h4.later hb⟩
def PPost (w : World) (s : ByteArray) (e : Ending) (w' : World) : Prop :=
  (∃ v, e = .returned (.tuple #[v, .int .i64 ((parseV s).2.1 : Nat), .int .i64 ((parseV s).2.2 : Nat)]) ∧ Got w' v (parseV s).1) ∧ Below w.heap.size w w'
theorem parse_got (s : ByteArray) (w : World) (hs : s.size ≤ 140737488351232) (hT : TabsL w) : Calls Tryd.prog 18 #[.string s] w (PPost w s) :=
  (parse_calls s w hs hT).mono fun e w' ⟨⟨v, xs, e1, h1, h2, h3⟩, hb⟩ => ⟨⟨v, e1, h3 ▸ got_of h1 h2⟩, hb⟩
theorem law_ex1 : parseV ⟨#[99, 105, 116, 121, 47, 83]⟩ = ([(⟨#[99, 105, 116, 121]⟩, [83])], 0, 0) := by decide +kernel
theorem law_ex2 : parseV ⟨#[97, 10, 98, 32, 99, 10]⟩ = ([], 2, 5) := by decide +kernel
set_option maxRecDepth 100000 in
set_option maxHeartbeats 8000000 in
theorem lawake_calls (w : World) (hT : TabsL w) :
    Calls Tryd.prog 19 #[] w fun e w' => e = .returned (.bool true) ∧ Below w.heap.size w w' := by
  have C1 := Lib.hid (parse_got ⟨#[99, 105, 116, 121, 47, 83]⟩ w (by decide) hT)
  have HT := Lib.hid hT
  unfold PPost at C1
  rw [law_ex1] at C1
  clear hT
  go_enter Tryd.func19, Tryd.ntmps19
  go_wp2_with (fail)
  refine C1.out.mono ?_
  rintro e w1 ⟨⟨v1, rfl, g1⟩, b1⟩
  have B1 := Lib.hid b1
  have C2 := Lib.hid (parse_got ⟨#[97, 10, 98, 32, 99, 10]⟩ w1 (by decide) (HT.out.below b1))
  unfold PPost at C2
  rw [law_ex2] at C2
  have G1 := Lib.hid g1
  clear g1 b1 C1
  go_wp2_with (fail)
  refine C2.out.mono ?_
  rintro e w2 ⟨⟨v2, rfl, g2⟩, b2⟩
  have B2 := Lib.hid (B1.out.trans (b2.mono B1.out.size))
  obtain ⟨A, c, rfl, h1, h2⟩ := (G1.out.below b2).out
  obtain ⟨q, o, B, cf, rfl, hq, c1, c2, h3, h4⟩ := h2 0 _ rfl
  obtain ⟨b, o2, rfl, hcc⟩ := h4 (by decide)
  have c3 := hcc w2 (since_of_below (Below.refl _ _)) 0 (by decide)
  simp only [Nat.zero_mul, Nat.add_zero] at c1 c2 c3
  clear g2 b2 C2 h2 h4 hcc G1 h1 h3 hq
  go_wp2_with (fail)
  go_ret
  exact ⟨rfl, B2.out⟩
def pcA : Array Value := #[.string ⟨#[99, 97, 116, 47, 83, 10]⟩, .string ⟨#[10]⟩, .string ⟨#[35, 32, 119, 111, 114, 100, 115, 10]⟩]
set_option maxRecDepth 100000 in
theorem pc_index (j : Nat) : ∀ w : World, (Instr.index 40 (.agg pcA) (.int .i64 ((j : Int) % 3))).run Tryd.prog w = .ok (.string (mkB (pieceL j ++ [10]))) w := by
  have h : j % 3 = 0 ∨ j % 3 = 1 ∨ j % 3 = 2 := by omega
  unfold pieceL
  rcases h with h | h | h
  · rw [show (j : Int) % 3 = 0 by omega, if_pos h]; exact fun w => by kernel_rfl
  · rw [show (j : Int) % 3 = 1 by omega, if_neg (by omega), if_pos h]; exact fun w => by kernel_rfl
  · rw [show (j : Int) % 3 = 2 by omega, if_neg (by omega), if_neg (by omega)]; exact fun w => by kernel_rfl
def wrA : Array Value := #[.string ⟨#[97, 32, 98]⟩, .string ⟨#[47, 83]⟩, .string ⟨#[97, 47]⟩, .string ⟨#[97, 47, 49]⟩, .string ⟨#[97, 47, 83, 83]⟩, .string ⟨#[97, 47, 83, 47, 84]⟩, .string ⟨#[97, 35]⟩, .string ⟨#[255]⟩, .string ⟨#[97, 9, 98]⟩, .string ⟨#[97, 47, 195, 169]⟩]
set_option maxRecDepth 100000 in
theorem wr_index (i : Nat) (h : i < 10) : ∃ w0 ∈ wrongL, ∀ w : World, (Instr.index 41 (.agg wrA) (.int .i64 (i : Nat))).run Tryd.prog w = .ok (.string (mkB w0)) w := by
  have h : i = 0 ∨ i = 1 ∨ i = 2 ∨ i = 3 ∨ i = 4 ∨ i = 5 ∨ i = 6 ∨ i = 7 ∨ i = 8 ∨ i = 9 := by omega
  rcases h with rfl | rfl | rfl | rfl | rfl | rfl | rfl | rfl | rfl | rfl
  · exact ⟨[97, 32, 98], by decide, fun w => by kernel_rfl⟩
  · exact ⟨[47, 83], by decide, fun w => by kernel_rfl⟩
  · exact ⟨[97, 47], by decide, fun w => by kernel_rfl⟩
  · exact ⟨[97, 47, 49], by decide, fun w => by kernel_rfl⟩
  · exact ⟨[97, 47, 83, 83], by decide, fun w => by kernel_rfl⟩
  · exact ⟨[97, 47, 83, 47, 84], by decide, fun w => by kernel_rfl⟩
  · exact ⟨[97, 35], by decide, fun w => by kernel_rfl⟩
  · exact ⟨[255], by decide, fun w => by kernel_rfl⟩
  · exact ⟨[97, 9, 98], by decide, fun w => by kernel_rfl⟩
  · exact ⟨[97, 47, 195, 169], by decide, fun w => by kernel_rfl⟩
set_option maxRecDepth 100000 in
set_option maxHeartbeats 8000000 in
theorem listWrong_walk (how ahead : Int) (w : World) (_ : (Lit.int .i64 how).wf = true) (_ : (Lit.int .i64 ahead).wf = true) (hT : TabsL w) :
    Calls Tryd.prog 7 #[.int .i64 how, .int .i64 ahead] w fun e w' => e = .returned (.bool true) ∧ Below w.heap.size w w' := by
  obtain ⟨n, hn, _, cp1⟩ := place_nat ahead 20 (by omega) (by omega)
  obtain ⟨k, hk, _, cp2⟩ := place_nat how 10 (by omega) (by omega)
  obtain ⟨w0, hw0, HI2⟩ := wr_index k hk
  have CP1 := Lib.hid cp1
  have CP2 := Lib.hid cp2
  have HT := Lib.hid hT
  have HX2 := Lib.hid HI2
  clear cp1 cp2 hT HI2
  go_enter Tryd.func7, Tryd.ntmps7
  go_wp2_with (fail)
  refine (CP1.out _).mono ?_
  rintro e wq ⟨rfl, rfl⟩
  clear CP1
  go_wp2_with (fail)
  go_loopw [5, 7] (fun sv iv wr => ∃ j : Nat, j ≤ n ∧ sv = .string (preT j) ∧ iv = .int .i64 (j : Nat) ∧ w = wr) (fun _ iv _ => n - (intOf iv).toNat)
  case atStart => exact ⟨0, Nat.zero_le _, rfl, rfl, by first | rfl | trivial⟩
  case round =>
    obtain ⟨j, hj, rfl, rfl, rfl⟩ := hrel
    have hz := preT_size j
    by_cases hgo : j < n
    · have g1 : decide (j < n) = true := by simpa using hgo
      have HI := pc_index j
      unfold pcA at HI
      generalize hag : Value.agg _ = ag at HI
      obtain ⟨P, hP⟩ : ∃ P, P = preT j := ⟨_, rfl⟩
      obtain ⟨R, hR⟩ : ∃ R, R = mkB (pieceL j ++ [10]) := ⟨_, rfl⟩
      have hRz : R.size ≤ 8 := by rw [hR, mk_size, List.length_append, List.length_singleton]; have := piece_size j; omega
      rw [← hP] at hz
      rw [← hP]
      rw [← hR] at HI
      have HS := Lib.hid (show preT (j + 1) = P ++ R by rw [hP, hR]; rfl)
      clear hP hR
      go_wp2_with (fail)
      go_roundw
      case rel => exact ⟨j + 1, hgo, by rw [HS.out], by go_num, by first | rfl | trivial⟩
      case measure => simp [intOf]; omega
    · obtain rfl : j = n := by omega
      have g1 : decide (j < j) = false := by simp
      have e1 := wrong_parse j hn w0 hw0
      have e2 := good_parse j hn
      have hw5 := (wrong_row w0 hw0).2.2.2.2
      obtain ⟨P, hP⟩ : ∃ P, P = preT j := ⟨_, rfl⟩
      obtain ⟨R, hR⟩ : ∃ R, R = mkB w0 := ⟨_, rfl⟩
      have hRz : R.size ≤ 8 := by rw [hR, mk_size]; omega
      rw [← hP] at hz e1 e2
      rw [← hR] at e1
      have HI := HX2.out
      rw [← hR] at HI
      unfold wrA at HI
      generalize hag : Value.agg _ = ag at HI
      rw [← hP]
      have C1 := Lib.hid (parse_got (P ++ R) w (by rw [ByteArray.size_append]; omega) HT.out)
      have C2 : Hid (∀ w3, Below w.heap.size w w3 → Calls Tryd.prog 18 #[.string (P ++ ⟨#[103, 111, 111, 100, 47, 83, 97]⟩)] w3 fun e w' => (∃ v, e = .returned (.tuple #[v, .int .i64 (0 : Nat), .int .i64 (0 : Nat)]) ∧ Got w' v (List.replicate ((j + 2) / 3) catE ++ [(⟨#[103, 111, 111, 100]⟩, [83, 97])])) ∧ Below w3.heap.size w3 w') := Lib.hid (fun w3 hb => by
        have := parse_got (P ++ mkB [103, 111, 111, 100, 47, 83, 97]) w3 (by rw [ByteArray.size_append]; show P.size + 7 ≤ _; omega) (HT.out.below hb)
        unfold PPost at this
        rw [e2] at this
        exact this)
      unfold PPost at C1
      rw [e1] at C1
      clear hP hR e1 e2 HX2 hw0 hw5
      go_wp2_with (fail)
      refine (CP2.out _).mono ?_
      rintro e wq ⟨rfl, rfl⟩
      clear CP2
      go_upto_region 8 with (fail)
      clear HI hag
      go_wp2_with (fail)
      refine C1.out.mono ?_
      rintro e w1 ⟨⟨v1, rfl, g1⟩, b1⟩
      obtain ⟨A1, c1, rfl, _, _⟩ := g1.out
      have B1 := Lib.hid b1
      clear C1 b1 g1
      go_wp2_with (fail)
      refine (C2.out _ B1.out).mono ?_
      rintro e w2 ⟨⟨v2, rfl, g2⟩, b2⟩
      obtain ⟨A2, c2, rfl, _, _⟩ := g2.out
      have B2 := Lib.hid (B1.out.trans (b2.mono B1.out.size))
      have CA := Lib.hid (lawake_calls w2 (HT.out.below B2.out))
      have hlen : (List.replicate ((j + 2) / 3) catE ++ [((⟨#[103, 111, 111, 100]⟩ : ByteArray), [(83 : Int), 97])]).length = (j + 2) / 3 + 1 := by rw [List.length_append, List.length_replicate]; rfl
      rw [hlen]
      clear C2 b2 g2 hlen
      go_wp2_with (fail)
      refine CA.out.mono ?_
      rintro e w3 ⟨rfl, b3⟩
      have B3 := Lib.hid (B2.out.trans (b3.mono B2.out.size))
      clear CA b3
      go_wp2_with (fail)
      go_ret
      exact ⟨rfl, B3.out⟩
end Go.Proofs.YtmpckoincdkeeaaDoor

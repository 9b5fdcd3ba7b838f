/- cond.set. -/
import Derived.Test.YtmcnnfpeicnnjaaDoorRulP
import Derived.Test.YtmcnnfpeicnnjaaDoorBld
namespace Go.Proofs.YtmcnnfpeicnnjaaDoor
open Go.RowKit Go.Deep Go.Own
set_option linter.unusedVariables false
/-- the tables of unicode/utf8, and bytealg.MaxLen holds some number -/
def TabsL (w : World) : Prop := Lib.Utf8Tabs 0 1 w ∧ ∃ m : Int, w.cell? ⟨2, 0, none⟩ = some (.int .i64 m)
theorem TabsL.below {w w' : World} (h : TabsL w) (hb : Below w.heap.size w w') : TabsL w' := by
  obtain ⟨h1, m, hm⟩ := h
  exact ⟨Utf8Tabs_below h1 hb, m, (hb.cell (p := ⟨2, 0, none⟩) (World.block_lt_of_cell? _ _ hm)).trans hm⟩
theorem ext_list (S : ByteArray) (a b : Nat) : S.extract a b = mkB ((S.data.toList.drop a).take (b - a)) := by
  apply ByteArray.ext
  rw [ByteArray.data_extract, ← Array.toList_inj, Array.toList_extract]
  simp [mkB, List.extract_eq_take_drop]
theorem index_none' : ∀ {l : List UInt8} {c : UInt8}, c ∉ l → Lib.index l [c] = -1
  | [], c, h => rfl
  | x :: t, c, h => by
    have hx : c ≠ x := fun e => h (by rw [e]; exact List.mem_cons_self)
    have ih := index_none' (l := t) (c := c) (fun hm => h (List.mem_cons_of_mem _ hm))
    have : (List.isPrefixOf [c] (x :: t)) = false := by simp [List.isPrefixOf]; exact hx
    rw [Lib.index, this, ih]
    rfl
theorem index_at : ∀ {a : List UInt8} {c : UInt8} (r : List UInt8), c ∉ a → Lib.index (a ++ c :: r) [c] = (a.length : Int)
  | [], c, r, h => by
    rw [List.nil_append, Lib.index, if_pos (by rw [List.isPrefixOf, List.isPrefixOf]; simp)]
    rfl
  | x :: t, c, r, h => by
    have hx : c ≠ x := fun e => h (by rw [e]; exact List.mem_cons_self)
    have ih := index_at (a := t) (c := c) r (fun hm => h (List.mem_cons_of_mem _ hm))
    have : (List.isPrefixOf [c] (x :: (t ++ c :: r))) = false := by simp [List.isPrefixOf]; exact hx
    rw [List.cons_append, Lib.index, this, ih]
    have h1 : ((t.length : Int) == -1) = false := by first | (simp; done) | (simp; omega)
    rw [h1, List.length_cons]
    rfl
/-- a text cut at its first c, or not at all -/
theorem cut_first (l : List UInt8) (c : UInt8) : (c ∉ l ∧ Lib.cut l [c] = (l, [], false)) ∨ ∃ a r, l = a ++ c :: r ∧ c ∉ a ∧ Lib.cut l [c] = (a, r, true) := by
  by_cases h : c ∈ l
  · right
    obtain ⟨a, r, h1, h2⟩ := List.eq_append_cons_of_mem h
    refine ⟨a, r, h1, h2, ?_⟩
    unfold Lib.cut
    rw [h1, index_at r h2, if_pos (by omega)]
    simp
  · left
    refine ⟨h, ?_⟩
    unfold Lib.cut
    rw [index_none' h, if_neg (by omega)]
theorem all_codes (s : ByteArray) : okU s = (codes s).all fun c => decide (0 ≤ c) := by
  unfold okU codes
  rw [List.all_map]
  rfl
/-- what set hands back -/
theorem set_pure (s a r : ByteArray) (f : Bool) (h : Lib.cut s.data.toList [93] = (a.data.toList, r.data.toList, f)) :
    (∀ neg, setC neg (codes s) = if (f && okU a && decide (0 < (codesOf a).length)) = true then some (⟨false, neg, codesOf a⟩, codes r) else none) ∧ r.size ≤ s.size ∧ a.size ≤ s.size ∧ (codesOf a).length ≤ a.size := by
  have hlen : (codesOf a).length ≤ a.size := by
    unfold codesOf
    split
    · exact codes_count a
    · exact Nat.zero_le _
  have hz : s.data.toList.length = s.size := by simp
  rcases cut_first s.data.toList 93 with ⟨h1, h2⟩ | ⟨x, y, h1, h2, h3⟩
  · rw [h2] at h
    obtain ⟨e1, e2, e3⟩ : s.data.toList = a.data.toList ∧ [] = r.data.toList ∧ false = f := by
      injection h with h1 h2
      injection h2 with h2 h3
      exact ⟨h1, h2, h3⟩
    refine ⟨fun neg => ?_, ?_, ?_, hlen⟩
    · subst e3
      unfold setC
      rw [cutC_none]
      · rfl
      · intro hm
        exact h1 ((byte_code (s := s) (x := 93) (by decide)).2 hm)
    · have : r.data.toList.length = r.size := by simp
      rw [← e2] at this
      simp at this
      omega
    · have : a.data.toList.length = a.size := by simp
      rw [← e1, hz] at this
      omega
  · rw [h3] at h
    obtain ⟨e1, e2, e3⟩ : x = a.data.toList ∧ y = r.data.toList ∧ true = f := by
      injection h with h1 h2
      injection h2 with h2 h3
      exact ⟨h1, h2, h3⟩
    have hxa : x.length = a.size := by rw [e1]; simp
    have hyr : y.length = r.size := by rw [e2]; simp
    have hs := hz
    rw [h1, List.length_append, List.length_cons] at hs
    have hk : a.size < s.size := by omega
    have hex : s.extract 0 a.size = a := by
      rw [ext_list, h1, List.drop_zero, Nat.sub_zero, ← hxa, List.take_left' rfl, e1, mk_data]
    have her : s.extract (a.size + 1) s.size = r := by
      rw [ext_list, h1, ← hxa]
      have : (x ++ 93 :: y).drop (x.length + 1) = y := by
        rw [← List.drop_drop, List.drop_left' rfl]
        rfl
      rw [this, List.take_of_length_le (by omega), e2, mk_data]
    have hb : uB s a.size = 93 := by
      rw [uB_list, h1, List.getD_eq_getElem?_getD, ← hxa]
      simp
    refine ⟨fun neg => ?_, by omega, by omega, hlen⟩
    subst e3
    unfold setC
    have hcut := cutC_is s a.size 93 hk hb (by omega) (fun j hj e => by
      have hj2 : j < x.length := by omega
      rw [uB_list, h1, List.getD_eq_getElem?_getD, List.getElem?_append_left hj2, List.getElem?_eq_getElem hj2] at e
      have e4 : x[j] = 93 := UInt8.toNat_inj.1 e
      exact h2 (e4 ▸ List.getElem_mem hj2))
    rw [hex, her] at hcut
    rw [show (93 : Int) = ((93 : Nat) : Int) from rfl, hcut]
    simp only
    rw [← all_codes, Bool.true_and]
    by_cases hok : okU a = true
    · rw [codesOf_ok hok, hok]
      by_cases h0 : codes a = []
      · rw [h0]; rfl
      · have : 0 < (codes a).length := by
          cases hc : codes a with
          | nil => exact absurd hc h0
          | cons z t => simp
        rw [decide_eq_true this]
        have h5 : (codes a).isEmpty = false := by
          cases hc : codes a with
          | nil => exact absurd hc h0
          | cons z t => rfl
        rw [h5]
        rfl
    · have hok : okU a = false := by simpa using hok
      rw [hok]
      rfl
def SetPost (w : World) (s : ByteArray) (e : Ending) (w' : World) : Prop :=
  (∃ (v : Value) (ys : List Int) (rest : ByteArray) (ok : Bool), e = .returned (.tuple #[v, .string rest, .bool ok]) ∧ OwnI w' w.heap.size 3 v ys ∧ rest.size ≤ s.size ∧ ys.length ≤ s.size ∧ (∀ neg, setC neg (codes s) = if ok = true then some (⟨false, neg, ys⟩, codes rest) else none)) ∧ Below w.heap.size w w'
set_option maxRecDepth 100000 in
set_option maxHeartbeats 4000000 in
theorem set_calls (s : ByteArray) (w : World) (hs : s.size ≤ 1000000000) (hT : TabsL w) : Calls Tryd.prog 56 #[.string s] w (SetPost w s) := by
  obtain ⟨hT1, m, hm⟩ := hT
  have CT := Tryd.strings_Cut s ⟨#[93]⟩ m w (by omega) hm
  obtain ⟨a, ha⟩ : ∃ a : ByteArray, a = ⟨(Lib.cut s.data.toList [93]).1.toArray⟩ := ⟨_, rfl⟩
  obtain ⟨r, hr⟩ : ∃ r : ByteArray, r = ⟨(Lib.cut s.data.toList [93]).2.1.toArray⟩ := ⟨_, rfl⟩
  obtain ⟨f, hf⟩ : ∃ f, f = (Lib.cut s.data.toList [93]).2.2 := ⟨_, rfl⟩
  have hp := set_pure s a r f (by rw [ha, hr, hf])
  have CT : Calls Tryd.prog 79 #[.string s, .string ⟨#[93]⟩] w fun e w' => e = .returned (.tuple #[.string a, .string r, .bool f]) ∧ ∃ n, w' = w.drewN n := by
    rw [ha, hr, hf]; exact CT
  have CT := Lib.hid CT
  have HP := Lib.hid hp
  have CC := Lib.hid (fun w1 (hb : Below w.heap.size w w1) => ucodes_calls a w1 (by have := hp.2.2.1; omega) (Utf8Tabs_below hT1 hb))
  unfold CodesPost at CC
  obtain ⟨ys, hys⟩ : ∃ ys, ys = codesOf a := ⟨_, rfl⟩
  obtain ⟨ok, hok⟩ : ∃ ok, ok = okU a := ⟨_, rfl⟩
  rw [← hys, ← hok] at CC
  rw [← hys, ← hok] at HP
  have hl : ys.length ≤ 1000000000 := by have h1 := HP.out.2.2.1; have h2 := HP.out.2.2.2; omega
  have HL := Lib.hid hl
  clear ha hr hf hp hys hok hT1 hm
  unfold SetPost
  go_enter Tryd.func56, Tryd.ntmps56
  go_wp2_with (fail)
  refine CT.out.mono ?_
  rintro e w1 ⟨rfl, n1, rfl⟩
  have b1 : Below w.heap.size w (w.drewN n1) := ⟨rfl, rfl, rfl, Nat.le_refl _, fun _ _ => rfl⟩
  have B1 := Lib.hid b1
  clear b1 CT
  go_wp2_with (fail)
  refine (CC.out _ B1.out).mono ?_
  rintro e w2 ⟨⟨v, rfl, ho⟩, b2⟩
  obtain ⟨A, c, rfl⟩ := own_is ho
  have B2 := Lib.hid (B1.out.trans (b2.mono B1.out.size))
  have HO := Lib.hid (own_base ho B1.out.size)
  clear CC ho b2
  have h1 := HP.out.2.1
  have h2 : ys.length ≤ s.size := by have h1 := HP.out.2.2.1; have h2 := HP.out.2.2.2; omega
  have H1 := Lib.hid h1
  have H2 := Lib.hid h2
  clear h1 h2 hs
  cases f with
  | false =>
    have E := Lib.hid (show ∀ neg, setC neg (codes s) = none from fun neg => by rw [HP.out.1 neg]; rfl)
    go_wp2_with (fail)
    refine bodyPost_ret (v := .tuple #[.slice A ys.length c, .string r, .bool false]) (by simp [results, Tryd.results56, go_sem]) rfl ?_
    exact ⟨⟨_, ys, r, false, rfl, HO.out, H1.out, H2.out, fun neg => by rw [E.out]; rfl⟩, B2.out⟩
  | true =>
    cases ok with
    | false =>
      have E := Lib.hid (show ∀ neg, setC neg (codes s) = none from fun neg => by rw [HP.out.1 neg]; rfl)
      go_wp2_with (fail)
      refine bodyPost_ret (v := .tuple #[.slice A ys.length c, .string r, .bool false]) (by simp [results, Tryd.results56, go_sem]) rfl ?_
      exact ⟨⟨_, ys, r, false, rfl, HO.out, H1.out, H2.out, fun neg => by rw [E.out]; rfl⟩, B2.out⟩
    | true =>
      by_cases h0 : 0 < ys.length
      · have g1 : decide (0 < ys.length) = true := decide_eq_true h0
        have g2 : decide (0 < (ys.length : Int)) = true := decide_eq_true (by omega)
        have E := Lib.hid (show ∀ neg, setC neg (codes s) = some (⟨false, neg, ys⟩, codes r) from fun neg => by rw [HP.out.1 neg, g1]; rfl)
        clear h0
        go_wp2_with (fail)
        refine bodyPost_ret (v := .tuple #[.slice A ys.length c, .string r, .bool true]) (by simp [results, Tryd.results56, go_sem]) rfl ?_
        exact ⟨⟨_, ys, r, true, rfl, HO.out, H1.out, H2.out, fun neg => by rw [E.out]; rfl⟩, B2.out⟩
      · have g1 : decide (0 < ys.length) = false := decide_eq_false h0
        have g2 : decide (0 < (ys.length : Int)) = false := decide_eq_false (by omega)
        have E := Lib.hid (show ∀ neg, setC neg (codes s) = none from fun neg => by rw [HP.out.1 neg, g1]; rfl)
        clear h0
        go_wp2_with (fail)
        refine bodyPost_ret (v := .tuple #[.slice A ys.length c, .string r, .bool false]) (by simp [results, Tryd.results56, go_sem]) rfl ?_
        exact ⟨⟨_, ys, r, false, rfl, HO.out, H1.out, H2.out, fun neg => by rw [E.out]; rfl⟩, B2.out⟩
end Go.Proofs.YtmcnnfpeicnnjaaDoor

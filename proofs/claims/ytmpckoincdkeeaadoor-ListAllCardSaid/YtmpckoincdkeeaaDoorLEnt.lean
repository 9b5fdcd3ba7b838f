/- The document's entry of a list. -/
import Derived.Test.YtmpckoincdkeeaaDoorLWrd
import Derived.Test.YtmpckoincdkeeaaDoorListD
namespace Go.Proofs.YtmpckoincdkeeaaDoor
open Go.RowKit Go.Deep Go.Own
set_option linter.unusedVariables false
def slK (l : List UInt8) : Nat := l.findIdx (· == 47)
def flB : List Int → List UInt8 → Option (List Int)
  | acc, [] => some acc
  | acc, x :: t => if (letB x.toNat && !acc.contains (x.toNat : Int)) = true then flB (acc ++ [(x.toNat : Int)]) t else none
def entW (s : ByteArray) : Option Ent :=
  if wordR (s.extract 0 (slK s.data.toList)) = true then
    match flB [] (s.data.toList.drop (slK s.data.toList + 1)) with
    | none => none
    | some f => if slK s.data.toList = s.size ∨ 0 < f.length then some (s.extract 0 (slK s.data.toList), f) else none
  else none
def EntryPost (w : World) (s : ByteArray) (e : Ending) (w' : World) : Prop :=
  (∃ (W : ByteArray) (v : Value) (f : List Int) (ok : Bool), e = .returned (.tuple #[.agg #[.string W, v], .bool ok]) ∧ OwnI w' w.heap.size 3 v f ∧ (ok = true → entW s = some (W, f)) ∧ (ok = false → entW s = none)) ∧ Below w.heap.size w w'
/-- the flag as far as it was compared -/
def fAt (acc : List Int) (f0 : Int) (j : Nat) : Int := if (acc.take j).contains f0 = true then 0 else f0
theorem fAt_zero (acc : List Int) (f0 : Int) : fAt acc f0 0 = f0 := rfl
theorem fAt_succ {acc : List Int} {f0 : Int} {j : Nat} {x : Int} (hx : acc[j]? = some x) (h0 : x ≠ 0) : fAt acc f0 (j + 1) = if x = fAt acc f0 j then 0 else fAt acc f0 j := by
  obtain ⟨hl, hx⟩ := List.getElem?_eq_some_iff.1 hx
  unfold fAt
  rw [List.take_succ_eq_append_getElem hl, hx]
  by_cases hc : (acc.take j).contains f0 = true
  · have : (acc.take j ++ [x]).contains f0 = true := by simp at hc ⊢; exact .inl hc
    rw [if_pos hc, if_pos this, if_neg h0]
  · rw [if_neg hc]
    by_cases he : x = f0
    · have : (acc.take j ++ [x]).contains f0 = true := by simp [he]
      rw [if_pos this, if_pos he]
    · have : ¬ (acc.take j ++ [x]).contains f0 = true := by
        simp at hc ⊢
        exact ⟨hc, fun e => he e.symm⟩
      rw [if_neg this, if_neg he]
structure EntS (w wr : World) (M K : Nat) (a : ByteArray) (av : Value) (acc : List Int) : Prop where
  cM : wr.heap[M]? = some (.cells #[.string ⟨#[]⟩, .slice none 0 0] 78 (0, 0))
  cK : wr.heap[K]? = some (.cells #[.string a, av] 78 (0, 0))
  ow : OwnI wr w.heap.size 3 av acc
  bel : Below w.heap.size w wr
  ne : M ≠ K
  hM : w.heap.size ≤ M
  hK : w.heap.size ≤ K
theorem EntS.below {w wr wx : World} {M K : Nat} {a : ByteArray} {av : Value} {acc : List Int} (h : EntS w wr M K a av acc) (hb : Below wr.heap.size wr wx) : EntS w wx M K a av acc :=
  ⟨(hb.block _ (Array.getElem?_eq_some_iff.1 h.cM).1).trans h.cM, (hb.block _ (Array.getElem?_eq_some_iff.1 h.cK).1).trans h.cK, h.ow.later hb, h.bel.trans (hb.mono h.bel.size), h.ne, h.hM, h.hK⟩
theorem blk_other {w w' : World} {k : Nat} {c : Array Value} {t : TypeId} {fr : Nat × Nat} {base e size n : Nat} {v : Value} {xs : List Value} (hk : w.heap[k]? = some (.cells c t fr)) (hr : w.ownsRow base e size v n xs) (hne : t ≠ e) (hg : w.grownBy w' v.ownBlock) : w'.heap[k]? = w.heap[k]? :=
  hg.block k (Array.getElem?_eq_some_iff.1 hk).1 (fun h => by
    obtain ⟨c2, h2⟩ := own_row_type hr h.symm
    rw [hk] at h2
    injection h2 with h2
    injection h2 with _ h3 _
    exact hne h3)
theorem own_set {w : World} {base e size n : Nat} {v : Value} {xs : List Value} {k j : Nat} {c : Array Value} {t : TypeId} {fr : Nat × Nat} {x : Value} (hr : w.ownsRow base e size v n xs) (hk : w.heap[k]? = some (.cells c t fr)) (hne : t ≠ e) : (w.setCell ⟨k, j, none⟩ x).ownsRow base e size v n xs :=
  own_keep hr fun i hi => setCell_other _ (fun h => by
    obtain ⟨c2, h2⟩ := own_row_type hr hi
    have h' : i = k := h
    subst h'
    rw [hk] at h2
    injection h2 with h2
    injection h2 with _ h3 _
    exact hne h3)
theorem EntS.push {w wr w5 : World} {M K : Nat} {a : ByteArray} {av v5 : Value} {acc : List Int} {x : Int} (h : EntS w wr M K a av acc) (hg : wr.grownBy w5 av.ownBlock) (O5 : OwnI w5 w.heap.size 3 v5 (acc ++ [x])) :
    w5.heap[K]? = some (.cells #[.string a, av] 78 (0, 0)) ∧ EntS w (w5.setCell ⟨K, 1, none⟩ v5) M K a v5 (acc ++ [x]) := by
  have hK5 := (blk_other h.cK h.ow (by decide) hg).trans h.cK
  refine ⟨hK5, (setCell_other _ h.ne).trans ((blk_other h.cM h.ow (by decide) hg).trans h.cM), ?_, own_set O5 hK5 (by decide), (h.bel.grown hg h.bel.size (fun q hq => (own_block_lt h.ow hq).1)).setCell (p := ⟨K, 1, none⟩) h.hK _, h.ne, h.hM, h.hK⟩
  rw [setCell_same hK5]; rfl
structure EntD (w wf : World) (M : Nat) (W : ByteArray) (A : Option Addr) (n c : Nat) (f : List Int) : Prop where
  cell : wf.heap[M]? = some (.cells #[.string W, .slice A n c] 78 (0, 0))
  ow : OwnI wf w.heap.size 3 (.slice A n c) f
  bel : Below w.heap.size w wf
theorem EntD.drew {w wf : World} {M : Nat} {W : ByteArray} {A : Option Addr} {n c : Nat} {f : List Int} (h : EntD w wf M W A n c f) : EntD w wf.drew M W A n c f := ⟨h.cell, h.ow.later (belowN wf 1), h.bel.drew⟩
theorem ent_zero {w wx wf : World} {M : Nat} (hc : wx.heap[M]? = some (.cells #[.string ⟨#[]⟩, .slice none 0 0] 78 (0, 0))) (hw : wf = (wx.setCell ⟨M, 0, none⟩ (.string ⟨#[]⟩)).setCell ⟨M, 1, none⟩ (.slice none 0 0)) (hb : Below w.heap.size w wx) (hM : w.heap.size ≤ M) : EntD w wf M ⟨#[]⟩ none 0 0 [] := by
  subst hw
  refine ⟨?_, OwnI.nil _ _ _, (hb.setCell (p := ⟨M, 0, none⟩) hM _).setCell (p := ⟨M, 1, none⟩) hM _⟩
  rw [setCell_same (setCell_same hc _)]; rfl
theorem ent_set {w wx wf : World} {M K : Nat} {a : ByteArray} {A : Option Addr} {c : Nat} {acc : List Int} (h : EntS w wx M K a (.slice A acc.length c) acc) (hw : wf = (wx.setCell ⟨M, 0, none⟩ (.string a)).setCell ⟨M, 1, none⟩ (.slice A acc.length c)) : EntD w wf M a A acc.length c acc := by
  subst hw
  have h1 : (wx.setCell ⟨M, 0, none⟩ (.string a)).heap[M]? = some (.cells #[.string a, .slice none 0 0] 78 (0, 0)) := setCell_same (j := 0) h.cM (.string a)
  refine ⟨?_, own_set (own_set h.ow h.cM (by decide)) h1 (by decide), (h.bel.setCell (p := ⟨M, 0, none⟩) h.hM _).setCell (p := ⟨M, 1, none⟩) h.hM _⟩
  rw [setCell_same h1]; rfl
theorem ent_ret {w wf : World} {M : Nat} {s W : ByteArray} {A : Option Addr} {n c : Nat} {f : List Int} {ok : Bool} {act : Act} (x : EntD w wf M W A n c f) (hd : act.defers = []) (ht : act.tmps[2]? = some (.pointer (some ⟨M, 0, none⟩)) ∧ act.tmps[3]? = some (.bool ok)) (h1 : ok = true → entW s = some (W, f)) (h2 : ok = false → entW s = none) : bodyPost Tryd.prog Tryd.f36 (EntryPost w s) .ret act wf := by
  obtain ⟨r0, r1⟩ := cell2_of x.cell
  obtain ⟨t2, t3⟩ := ht
  refine bodyPost_ret (v := .tuple #[.agg #[.string W, .slice A n c], .bool ok]) (by simp [results, Tryd.results36, go_sem, t2, t3, r0, r1]; done) hd ?_
  exact ⟨⟨_, _, _, _, rfl, x.ow, h1, h2⟩, x.bel⟩
theorem slK_is {s : ByteArray} {k : Nat} (hk : k ≤ s.size) (hb : ∀ j, j < k → uB s j ≠ 47) (he : k = s.size ∨ uB s k = 47) : slK s.data.toList = k := by
  have hl : s.data.toList.length = s.size := by simp
  have hu : ∀ j (h : j < s.data.toList.length), (s.data.toList[j] == 47) = decide (uB s j = 47) := fun j h => by
    obtain ⟨x, hx, hxu⟩ := byte_at s (i := j) (by omega)
    have e : s.data.toList[j] = x := by
      have := List.getElem?_eq_getElem h
      rw [hx] at this; exact (Option.some.inj this).symm
    rw [e, ← hxu]
    by_cases hh : x = 47
    · subst hh; rfl
    · have hn : ¬ x.toNat = 47 := fun e2 => hh (UInt8.toNat_inj.1 e2)
      rw [decide_eq_false hn]
      simpa using hh
  unfold slK
  by_cases hlt : k < s.size
  · refine (List.findIdx_eq (by omega)).2 ⟨?_, fun j hj => ?_⟩
    · rw [hu k (by omega)]
      rcases he with he | he
      · omega
      · simp [he]
    · rw [hu j (by omega)]
      simp [hb j hj]
  · have e : k = s.data.toList.length := by omega
    rw [e]
    refine List.findIdx_eq_length.2 fun x hx => ?_
    obtain ⟨j, hj, rfl⟩ := List.mem_iff_getElem.1 hx
    rw [hu j hj]
    simp [hb j (by omega)]
theorem flag_one {s : ByteArray} {i : Nat} (h : i < s.size) : flagR (s.extract i (i + 1)) = if letB (uB s i) = true then uB s i else 0 := by
  have hz : (s.extract i (i + 1)).size = 1 := by rw [ByteArray.size_extract]; omega
  have hu : uB (s.extract i (i + 1)) 0 = uB s i := by rw [uB_part _ _ _ 0 (by omega)]; rfl
  unfold flagR
  rw [hz, hu]
  by_cases hb : letB (uB s i) = true
  · rw [if_pos ⟨rfl, hb⟩, if_pos hb]
  · rw [if_neg (fun x => hb x.2), if_neg hb]
set_option maxRecDepth 100000 in
set_option maxHeartbeats 16000000 in
theorem entry_calls (s : ByteArray) (w : World) (hs : s.size ≤ 1000000) : Calls Tryd.prog 36 #[.string s] w (EntryPost w s) := by
  obtain ⟨iI, hiI, hzI, hsI, hbI⟩ := info_parts infoI
  obtain ⟨w1, hw1⟩ : ∃ w1, w1 = w.alloc (.cells #[Value.string ⟨#[]⟩, .slice none 0 0] 78) := ⟨_, rfl⟩
  obtain ⟨M, hM⟩ : ∃ M, M = w.heap.size := ⟨_, rfl⟩
  have b1 : Below w.heap.size w w1 := by rw [hw1]; exact (Below.refl _ _).alloc (Nat.le_refl _) _
  have m1 : w1.heap[M]? = some (.cells #[.string ⟨#[]⟩, .slice none 0 0] 78 (0, 0)) := by rw [hw1, hM]; exact blk_alloc_new _ _
  have HW1 := Lib.hid (And.intro hw1 hM)
  have B1 := Lib.hid b1
  have M1 := Lib.hid m1
  have HM0 := Lib.hid (show w.heap.size ≤ M by rw [hM]; exact Nat.le_refl _)
  clear hw1 hM b1 m1
  go_enter Tryd.func36, Tryd.ntmps36
  go_upto_region 1 with (fail)
  rw [← HW1.out.1, ← HW1.out.2]
  clear HW1
  go_wp2_with (fail)
  go_loopw [4] (fun iv wr => ∃ k : Nat, k ≤ s.size ∧ iv = .int .i64 (k : Nat) ∧ w1 = wr ∧ ∀ j, j < k → uB s j ≠ 47) (fun iv _ => s.size - (intOf iv).toNat)
  case atStart => exact ⟨0, Nat.zero_le _, rfl, rfl, fun j hj => absurd hj (Nat.not_lt_zero _)⟩
  case round =>
    obtain ⟨k, hk, rfl, rfl, hal⟩ := hrel
    have HA := Lib.hid hal
    clear hal
    by_cases hgo : k < s.size ∧ uB s k ≠ 47
    · obtain ⟨hlt, hu⟩ := hgo
      have g1 : decide (k < s.size) = true := by simpa using hlt
      have hix : ∀ w : World, (Instr.index 9 (.string s) (.int .i64 (k : Nat))).run Tryd.prog w = .ok (.int .u8 (uB s k : Nat)) w := fun w => s_index s k hlt w
      obtain ⟨u, hu2⟩ : ∃ u, u = uB s k := ⟨_, rfl⟩
      rw [← hu2] at hix hu
      have k2 : ((u : Int) == 47) = false := by simp; omega
      have k2' : (u == 47) = false := by simpa using hu
      have k3 : ((u : Int) != 47) = true := by simp; omega
      have k3' : (u != 47) = true := by simpa using hu
      have HU := Lib.hid (And.intro hu2 hu)
      clear hu hu2
      go_wp2_with (fail)
      go_roundw
      case rel => exact ⟨k + 1, hlt, by go_num, by first | rfl | trivial, fun j hj => by
        by_cases h : j < k
        · exact HA.out j h
        · obtain rfl : j = k := by omega
          rw [← HU.out.1]; exact HU.out.2⟩
      case measure => simp [intOf]; omega
    · have hend : k = s.size ∨ uB s k = 47 := by
        by_cases h : k < s.size
        · exact .inr (Classical.byContradiction fun hh => hgo ⟨h, hh⟩)
        · exact .inl (by omega)
      have hkk := slK_is hk HA.out hend
      obtain ⟨a, ha⟩ : ∃ a, a = s.extract 0 k := ⟨_, rfl⟩
      have FS : ∀ w : World, (Instr.slice 9 (.string s) none (some (.int .i64 (k : Nat))) none).run Tryd.prog w = .ok (.string a) w := fun w => by
        rw [run_slice_string_h (t := 9) (s := s) (ht := Tryd.underlying9) (kh := .i64) (h := (k : Nat))]
        · rw [ha]; rfl
        all_goals omega
      have haz : a.size ≤ 1000000 := by rw [ha, ByteArray.size_extract]; omega
      have EW := Lib.hid (show entW s = if wordR a = true then (match flB [] (s.data.toList.drop (k + 1)) with | none => none | some f => if k = s.size ∨ 0 < f.length then some (a, f) else none) else none by unfold entW; rw [hkk, ← ha])
      obtain ⟨w3, hw3⟩ : ∃ w3, w3 = w1.alloc (.cells #[Value.string a, .slice none 0 0] 78) := ⟨_, rfl⟩
      obtain ⟨KK, hK⟩ : ∃ KK, KK = w1.heap.size := ⟨_, rfl⟩
      have b3 : Below w1.heap.size w1 w3 := by rw [hw3]; exact (Below.refl _ _).alloc (Nat.le_refl _) _
      have E3 := Lib.hid (show EntS w w3 M KK a (.slice none 0 0) [] from
        ⟨(b3.block _ (Array.getElem?_eq_some_iff.1 M1.out).1).trans M1.out, by rw [hw3, hK]; exact blk_alloc_new _ _, OwnI.nil _ _ _, B1.out.trans (b3.mono B1.out.size), by have := (Array.getElem?_eq_some_iff.1 M1.out).1; omega, HM0.out, by rw [hK]; exact B1.out.size⟩)
      have HW3 := Lib.hid (And.intro hw3 hK)
      have CW := Lib.hid (word_calls' a w3 haz)
      obtain ⟨wo, hwo⟩ : ∃ wo, wo = wordR a := ⟨_, rfl⟩
      rw [← hwo] at CW EW
      clear hgo hkk ha haz hw3 hK b3 M1 B1 HA hwo
      rcases hend with hend | hend
      · have g1 : decide (k < s.size) = false := by simp; omega
        clear hend
        go_upto_region 5 with (fail)
        rw [← HW3.out.1, ← HW3.out.2]
        obtain ⟨x0, _⟩ := cell2_of E3.out.cK
        clear HW3
        go_wp2_with (fail)
        refine CW.out.mono ?_
        rintro e w4 ⟨rfl, b4⟩
        have E4 := Lib.hid (E3.out.below b4)
        clear CW b4 x0 E3 FS
        cases wo with
        | false =>
          have e0 : entW s = none := by rw [EW.out]; exact if_neg (by decide)
          have E0 := Lib.hid e0
          obtain ⟨m0, m1⟩ := cell2_of E4.out.cM
          have fz : ∀ j, w4.frozen? ⟨M, j, none⟩ = false := fun j => by have := E4.out.cM; simp [World.frozen?, this]
          clear e0
          go_wp2_with (fail)
          generalize hwf : (w4.setCell ⟨M, 0, none⟩ _).setCell ⟨M, 1, none⟩ _ = wf
          exact ent_ret (ent_zero E4.out.cM hwf.symm E4.out.bel HM0.out) rfl ⟨rfl, rfl⟩ (fun h => by cases h) (fun _ => E0.out)
        | true =>
          have e0 : entW s = (match flB [] (s.data.toList.drop (k + 1)) with | none => none | some f => if k = s.size ∨ 0 < f.length then some (a, f) else none) := by rw [EW.out]; exact if_pos rfl
          have E0 := Lib.hid e0
          obtain ⟨l, hl⟩ : ∃ l, l = s.data.toList := ⟨_, rfl⟩
          have HL := Lib.hid hl
          rw [← hl] at E0
          clear e0 hl EW
          go_wp2_with (fail)
          go_loopw [6] (fun iv wr => ∃ (i : Nat) (acc : List Int) (av : Value), iv = .int .i64 (i : Nat) ∧ k + 1 ≤ i ∧ i ≤ s.size + 1 ∧ EntS w wr M KK a av acc ∧ flB acc (l.drop i) = flB [] (l.drop (k + 1)) ∧ (∀ x ∈ acc, x ≠ 0) ∧ acc.length ≤ i) (fun iv _ => s.size + 1 - (intOf iv).toNat)
          case atStart => exact ⟨k + 1, [], _, by go_num, Nat.le_refl _, by omega, E4.out, rfl, fun x hx => absurd hx List.not_mem_nil, Nat.zero_le _⟩
          case round =>
            clear E4
            obtain ⟨i, acc, av, rfl, hki, his, hE, hfl, hnz, hal⟩ := hrel
            obtain ⟨Aa, ca, rfl⟩ := own_is hE.ow
            have HE := Lib.hid hE
            have HFL := Lib.hid hfl
            have HNZ := Lib.hid hnz
            obtain ⟨x0, x1⟩ := cell2_of HE.out.cK
            clear hE hfl hnz
            by_cases hlt : i < s.size
            · have g2 : decide (i < s.size) = true := by simpa using hlt
              obtain ⟨x, hx, hxu⟩ := byte_at s hlt
              have hdr : l.drop i = x :: l.drop (i + 1) := by
                rw [HL.out]
                obtain ⟨h1, h2⟩ := List.getElem?_eq_some_iff.1 hx
                rw [List.drop_eq_getElem_cons h1, h2]
              obtain ⟨X, hX⟩ : ∃ X, X = s.extract i (i + 1) := ⟨_, rfl⟩
              have FS2 : ∀ w : World, (Instr.slice 9 (.string s) (some (.int .i64 (i : Nat))) (some (.int .i64 ((i : Int) + 1))) none).run Tryd.prog w = .ok (.string X) w := fun w => by
                rw [run_slice_string (t := 9) (s := s) (k := .i64) (k' := .i64) (i := (i : Nat)) (j := (i : Int) + 1) (h := Tryd.underlying9)]
                · rw [hX]
                  show Result.ok (Value.string (s.extract (i : Int).toNat ((i : Int) + 1).toNat)) w = _
                  rw [show ((i : Int) + 1).toNat = i + 1 by omega]
                  rfl
                all_goals omega
              have CF := Lib.hid (fun w : World => flag_calls X w)
              have hfx : flagR X = if letB x.toNat = true then x.toNat else 0 := by rw [hX, flag_one hlt, hxu]
              obtain ⟨f0, hf0⟩ : ∃ f0, f0 = flagR X := ⟨_, rfl⟩
              rw [← hf0] at CF hfx
              have HFX := Lib.hid hfx
              have HDR := Lib.hid hdr
              clear hx hxu hdr hX hf0 hfx
              go_wp2_with (fail)
              refine (CF.out _).mono ?_
              rintro e w5 ⟨rfl, hw5⟩
              subst hw5
              clear CF FS2
              go_wp2_with (fail)
              go_loopw [7, 8] (fun fv jv wx => ∃ j : Nat, j ≤ acc.length ∧ jv = .int .i64 (j : Nat) ∧ fv = .int .i64 (fAt acc (f0 : Nat) j) ∧ wr = wx) (fun _ jv _ => acc.length - (intOf jv).toNat)
              case atStart => exact ⟨0, Nat.zero_le _, rfl, rfl, rfl⟩
              case round =>
                obtain ⟨j, hj, rfl, rfl, hwx⟩ := hrel
                subst hwx
                obtain ⟨F, hF⟩ : ∃ F, F = fAt acc (f0 : Nat) j := ⟨_, rfl⟩
                rw [← hF]
                have HF := Lib.hid hF
                clear hF
                by_cases hj2 : j < acc.length
                · have g3 : decide (j < acc.length) = true := by simpa using hj2
                  obtain ⟨y, hy⟩ : ∃ y, acc[j]? = some y := ⟨_, List.getElem?_eq_getElem hj2⟩
                  obtain ⟨A', c', ea, _, hra⟩ := HE.out.ow.reads
                  injection ea with ea _ ea2
                  subst ea
                  subst ea2
                  obtain ⟨qa, oa, rfl, k0⟩ := reads_at hra (Below.refl _ _) hy
                  have hs := fAt_succ (f0 := (f0 : Nat)) hy (HNZ.out y (List.mem_of_getElem? hy))
                  rw [← HF.out] at hs
                  clear hra hy
                  by_cases hyF : y = F
                  · rw [if_pos hyF] at hs
                    have HS := Lib.hid hs
                    have g4 : (y == F) = true := by simpa using hyF
                    clear hs hyF
                    go_wp2_with (fail)
                    go_roundw
                    case rel => exact ⟨j + 1, hj2, by go_num, by rw [HS.out], by first | rfl | trivial⟩
                    case measure => simp [intOf]; omega
                  · rw [if_neg hyF] at hs
                    have HS := Lib.hid hs
                    have g4 : (y == F) = false := by simpa using hyF
                    clear hs hyF
                    go_wp2_with (fail)
                    go_roundw
                    case rel => exact ⟨j + 1, hj2, by go_num, by rw [HS.out], by first | rfl | trivial⟩
                    case measure => simp [intOf]; omega
                · obtain rfl : j = acc.length := by omega
                  have g3 : decide (acc.length < acc.length) = false := by simp
                  have hF : F = if acc.contains (f0 : Int) = true then 0 else (f0 : Int) := by
                    rw [HF.out]
                    unfold fAt
                    rw [List.take_length]
                  have hfl := HFL.out
                  rw [HDR.out] at hfl
                  by_cases hok : (letB x.toNat && !acc.contains (x.toNat : Int)) = true
                  · have hbb := hok
                    simp only [Bool.and_eq_true, Bool.not_eq_true'] at hbb
                    have hfx := HFX.out
                    rw [if_pos hbb.1] at hfx
                    rw [hfx, hbb.2] at hF
                    have hF2 : F = (x.toNat : Int) := hF
                    have hx0 : x.toNat ≠ 0 := fun e => by
                      have := hbb.1
                      rw [e] at this
                      revert this
                      decide
                    have hfl2 : flB (acc ++ [F]) (l.drop (i + 1)) = flB [] (l.drop (k + 1)) := by
                      rw [← hfl, hF2]
                      show _ = (if _ then _ else _)
                      rw [if_pos hok]
                    have HFL2 := Lib.hid hfl2
                    have hF0 : F ≠ 0 := by rw [hF2]; omega
                    have g4 : (F == 0) = false := by simpa using hF0
                    have HF0 := Lib.hid hF0
                    clear hok hbb hfx hF hF2 hx0 hfl2 hfl hF0 HF HFX HDR HFL
                    obtain ⟨o, ho⟩ : ∃ o, o = Obj.cells #[Value.int .i64 F] 3 := ⟨_, rfl⟩
                    have b4 : Below wr.heap.size wr (wr.alloc o) := (Below.refl _ _).alloc (Nat.le_refl _) _
                    have I4 := Lib.hid (HE.out.below b4)
                    have N4 := Lib.hid (show (wr.alloc o).heap[wr.heap.size]? = some (.cells #[Value.int .i64 F] 3 (0, 0)) by rw [ho]; exact blk_alloc_new _ _)
                    subst ho
                    clear b4
                    go_wp2_with (at_builtin; refine own_append (o := ⟨some 65, _, _, _, _, _⟩) rfl (.tmp 62) (.tmp 64) 48 48 rfl w.heap.size 3 iI _ 1 8 Tryd.underlying48 hiI hzI hsI hbI rfl (by decide) (.slice Aa acc.length ca) acc.length _ rfl I4.out.ow (.slice (some ⟨wr.heap.size, 0, none⟩) 1 1) rfl 1 _ (src_one Tryd.underlying48 rfl (by rw [World.cell?]; simp only [N4.out]; rfl)) (by unfold maxLen; omega) (by omega) I4.out.bel.size ?_; intro v5 w5 O5 G5 V5; obtain ⟨hK5, S5⟩ := EntS.push I4.out G5 (ownI_push O5); obtain ⟨A5, c5, hv5⟩ := own_is O5; subst hv5; obtain ⟨m0, m1⟩ := cell2_of hK5; have fz : ∀ j, w5.frozen? ⟨KK, j, none⟩ = false := fun j => by simp [World.frozen?, hK5])
                    go_roundw
                    case rel => exact ⟨i + 1, acc ++ [F], _, by go_num, by omega, by omega, S5, HFL2.out, fun y hy => by
                      rcases List.mem_append.1 hy with hy | hy
                      · exact HNZ.out y hy
                      · obtain rfl := List.mem_singleton.1 hy; exact HF0.out, by simp; omega⟩
                    case measure => simp [intOf]; omega
                  · have hn : flB [] (l.drop (k + 1)) = none := by
                      rw [← hfl]
                      show (if _ then _ else _) = _
                      rw [if_neg hok]
                    have e1 : entW s = none := by rw [E0.out, hn]
                    have hF0 : F = 0 := by
                      rw [hF]
                      by_cases hlb : letB x.toNat = true
                      · have hc : acc.contains (x.toNat : Int) = true := by
                          rw [hlb, Bool.true_and] at hok
                          simpa using hok
                        rw [HFX.out, if_pos hlb, if_pos hc]
                      · rw [HFX.out, if_neg hlb]
                        split <;> rfl
                    have E1 := Lib.hid e1
                    subst hF0
                    obtain ⟨m0, m1⟩ := cell2_of HE.out.cM
                    have fz : ∀ j, wr.frozen? ⟨M, j, none⟩ = false := fun j => by have := HE.out.cM; simp [World.frozen?, this]
                    clear hF hfl hok hn e1 HF HFX HDR HFL
                    go_wp2_with (fail)
                    generalize hwf : (wr.setCell ⟨M, 0, none⟩ _).setCell ⟨M, 1, none⟩ _ = wf
                    exact ent_ret (ent_zero HE.out.cM hwf.symm HE.out.bel HM0.out) rfl ⟨rfl, rfl⟩ (fun h => by cases h) (fun _ => E1.out)
            · have g2 : decide (i < s.size) = false := by simp; omega
              have hdr : l.drop i = [] := by
                rw [HL.out]
                exact List.drop_eq_nil_of_le (by have : s.data.toList.length = s.size := by simp
                                                 omega)
              have e1 : entW s = if k = s.size ∨ 0 < acc.length then some (a, acc) else none := by
                rw [E0.out, ← HFL.out, hdr]
                rfl
              have E1 := Lib.hid e1
              obtain ⟨m0, m1⟩ := cell2_of HE.out.cM
              have fz : ∀ j, wr.frozen? ⟨M, j, none⟩ = false := fun j => by have := HE.out.cM; simp [World.frozen?, this]
              clear hdr e1 HFL E0
              go_upto_region 19 with (fail)
              by_cases hks : k = s.size
              · have g3 : ((k : Int) == (s.size : Int)) = true := by simp; omega
                have g3' : (k == s.size) = true := by simpa using hks
                have e2 := E1.out
                rw [if_pos (.inl hks)] at e2
                have E2 := Lib.hid e2
                clear hks e2 E1
                refine Own.region_mix (CR [0] [(0, ⟨KK, 0, none⟩, .string a), (0, ⟨KK, 1, none⟩, .slice Aa acc.length ca)]) [0] [0, 0, 0, 4, 14, 30, 62, 126, 254, 510, 1022, 63, 4095] (Own.Ord.run [(0, true), (1, true), (2, true), (3, true), (4, true), (5, true), (6, true), (7, true), (8, true), (9, true), (10, true), (11, false), (12, true)] .done) (by kernel_rfl) (by kernel_rfl) (fun dst v c a w h => by cases dst <;> exact h) (fun x hx w => CR.off x hx w) ?_
                simp only [Own.Ord.run]
                refine Own.st_load _ rfl rfl (.agg #[.string a, .slice Aa acc.length ca]) (fun w' hw' => ?_) ?_ ?_
                · have hg0 := hw'.get (a := ⟨KK, 0, none⟩) (v := .string a) (by decide) (by simp)
                  have hg1 := hw'.get (a := ⟨KK, 1, none⟩) (v := .slice Aa acc.length ca) (by decide) (by simp)
                  go_simp
                · intro _ q hq e; simp only [List.mem_cons, List.mem_nil_iff, or_false] at hq; rcases hq with rfl | rfl <;> first | assumption | (simp at e; done) | (go_simp; done) | (simp; done)
                simp only [Act.put, List.setIfInBounds_toArray, List.set_cons_succ, List.set_cons_zero]
                repeat (refine Own.st_blind _ rfl rfl (CR.off _ (by decide) _) ?_; go_big_quiet_step (fail); refine wpQuiet_nil ?_)
                refine Own.st_skip _ rfl rfl ?_
                simp only [Act.put, List.setIfInBounds_toArray, List.set_cons_succ, List.set_cons_zero]
                repeat (refine Own.st_blind _ rfl rfl (CR.off _ (by decide) _) ?_; go_big_quiet_step (fail); refine wpQuiet_nil ?_)
                refine Own.st_do _ rfl rfl (fun K hK => ?_)
                go_simp
                generalize hwf : (wr.setCell ⟨M, 0, none⟩ _).setCell ⟨M, 1, none⟩ _ = wf
                have HWF := Lib.hid (ent_set HE.out hwf.symm)
                have hKc : wf.heap[KK]? = wr.heap[KK]? := by rw [← hwf]; exact (setCell_other _ HE.out.ne.symm).trans (setCell_other _ HE.out.ne.symm)
                obtain ⟨y0, y1⟩ := cell2_of (hKc.trans HE.out.cK)
                clear hwf hKc
                refine hK _ _ (fun q hq hd => by rw [(by decide : ∀ x ∈ [0], Own.dep [0, 0, 0, 4, 14, 30, 62, 126, 254, 510, 1022, 63, 4095] 11 x = true) q hq] at hd; cases hd) ?_
                clear hK K
                repeat (refine Own.st_blind _ rfl rfl (CR.off _ (by decide) _) ?_; go_big_quiet_step (fail); refine wpQuiet_nil ?_)
                refine Own.mix_done ?_
                go_wp2_with (fail)
                first | exact ent_ret HWF.out rfl ⟨rfl, rfl⟩ (fun _ => E2.out) (fun h => by cases h) | exact ent_ret HWF.out.drew rfl ⟨rfl, rfl⟩ (fun _ => E2.out) (fun h => by cases h)
              · have g3 : ((k : Int) == (s.size : Int)) = false := by simp; omega
                have g3' : (k == s.size) = false := by simpa using hks
                by_cases ha0 : 0 < acc.length
                · have g4 : decide (0 < acc.length) = true := by simpa using ha0
                  have g4' : decide (0 < (acc.length : Int)) = true := by simp; omega
                  have e2 := E1.out
                  rw [if_pos (.inr ha0)] at e2
                  have E2 := Lib.hid e2
                  clear hks ha0 e2 E1
                  refine Own.region_mix (CR [0, 7] [(0, ⟨KK, 0, none⟩, .string a), (0, ⟨KK, 1, none⟩, .slice Aa acc.length ca), (7, ⟨KK, 1, none⟩, .slice Aa acc.length ca)]) [0, 7] [0, 0, 0, 4, 14, 30, 62, 126, 254, 510, 1022, 63, 4095] (Own.Ord.run [(0, true), (1, true), (2, true), (3, true), (4, true), (5, true), (6, true), (7, true), (8, true), (9, true), (10, true), (11, false), (12, true)] .done) (by kernel_rfl) (by kernel_rfl) (fun dst v c a w h => by cases dst <;> exact h) (fun x hx w => CR.off x hx w) ?_
                  simp only [Own.Ord.run]
                  refine Own.st_load _ rfl rfl (.agg #[.string a, .slice Aa acc.length ca]) (fun w' hw' => ?_) ?_ ?_
                  · have hg0 := hw'.get (a := ⟨KK, 0, none⟩) (v := .string a) (by decide) (by simp)
                    have hg1 := hw'.get (a := ⟨KK, 1, none⟩) (v := .slice Aa acc.length ca) (by decide) (by simp)
                    go_simp
                  · intro _ q hq e; simp only [List.mem_cons, List.mem_nil_iff, or_false] at hq; rcases hq with rfl | rfl | rfl <;> first | assumption | (simp at e; done) | (go_simp; done) | (simp; done)
                  simp only [Act.put, List.setIfInBounds_toArray, List.set_cons_succ, List.set_cons_zero]
                  repeat (refine Own.st_blind _ rfl rfl (CR.off _ (by decide) _) ?_; go_big_quiet_step (fail); refine wpQuiet_nil ?_)
                  refine Own.st_load _ rfl rfl (.slice Aa acc.length ca) (fun w' hw' => ?_) ?_ ?_
                  · have hg0 := hw'.get (a := ⟨KK, 1, none⟩) (v := .slice Aa acc.length ca) (by decide) (by simp)
                    go_simp
                  · intro _ q hq e; simp only [List.mem_cons, List.mem_nil_iff, or_false] at hq; rcases hq with rfl | rfl | rfl <;> first | assumption | (simp at e; done) | (go_simp; done) | (simp; done)
                  simp only [Act.put, List.setIfInBounds_toArray, List.set_cons_succ, List.set_cons_zero]
                  repeat (refine Own.st_blind _ rfl rfl (CR.off _ (by decide) _) ?_; go_big_quiet_step (fail); refine wpQuiet_nil ?_)
                  refine Own.st_do _ rfl rfl (fun K hK => ?_)
                  go_simp
                  generalize hwf : (wr.setCell ⟨M, 0, none⟩ _).setCell ⟨M, 1, none⟩ _ = wf
                  have HWF := Lib.hid (ent_set HE.out hwf.symm)
                  have hKc : wf.heap[KK]? = wr.heap[KK]? := by rw [← hwf]; exact (setCell_other _ HE.out.ne.symm).trans (setCell_other _ HE.out.ne.symm)
                  obtain ⟨y0, y1⟩ := cell2_of (hKc.trans HE.out.cK)
                  clear hwf hKc
                  refine hK _ _ (fun q hq hd _ => ?_) ?_
                  · intro _ q hq e; simp only [List.mem_cons, List.mem_nil_iff, or_false] at hq; rcases hq with rfl | rfl | rfl <;> first | assumption | (simp at e; done) | (go_simp; done) | (simp; done)
                  clear hK K
                  repeat (refine Own.st_blind _ rfl rfl (CR.off _ (by decide) _) ?_; go_big_quiet_step (fail); refine wpQuiet_nil ?_)
                  refine Own.mix_done ?_
                  go_wp2_with (fail)
                  first | exact ent_ret HWF.out rfl ⟨rfl, rfl⟩ (fun _ => E2.out) (fun h => by cases h) | exact ent_ret HWF.out.drew rfl ⟨rfl, rfl⟩ (fun _ => E2.out) (fun h => by cases h)
                · have g4 : decide (0 < acc.length) = false := decide_eq_false ha0
                  have g4' : decide (0 < (acc.length : Int)) = false := decide_eq_false (by omega)
                  have e2 := E1.out
                  rw [if_neg (fun h => h.elim hks ha0)] at e2
                  have E2 := Lib.hid e2
                  clear hks e2 E1
                  obtain ⟨al, hal2⟩ : ∃ al, al = acc.length := ⟨_, rfl⟩
                  refine Own.region_mix (CR [0, 7] [(0, ⟨KK, 0, none⟩, .string a), (0, ⟨KK, 1, none⟩, .slice Aa acc.length ca), (7, ⟨KK, 1, none⟩, .slice Aa acc.length ca)]) [0, 7] [0, 0, 0, 4, 14, 30, 62, 126, 254, 510, 1022, 63, 4095] (Own.Ord.run [(0, true), (1, true), (2, true), (3, true), (4, true), (5, true), (6, true), (7, true), (8, true), (9, true), (10, true), (11, false), (12, true)] .done) (by kernel_rfl) (by kernel_rfl) (fun dst v c a w h => by cases dst <;> exact h) (fun x hx w => CR.off x hx w) ?_
                  simp only [Own.Ord.run]
                  refine Own.st_load _ rfl rfl (.agg #[.string a, .slice Aa acc.length ca]) (fun w' hw' => ?_) ?_ ?_
                  · have hg0 := hw'.get (a := ⟨KK, 0, none⟩) (v := .string a) (by decide) (by simp)
                    have hg1 := hw'.get (a := ⟨KK, 1, none⟩) (v := .slice Aa acc.length ca) (by decide) (by simp)
                    go_simp
                  · intro _ q hq e; simp only [List.mem_cons, List.mem_nil_iff, or_false] at hq; rcases hq with rfl | rfl | rfl <;> first | assumption | (simp at e; done) | (go_simp; done) | (simp; done)
                  simp only [Act.put, List.setIfInBounds_toArray, List.set_cons_succ, List.set_cons_zero]
                  repeat (refine Own.st_blind _ rfl rfl (CR.off _ (by decide) _) ?_; go_big_quiet_step (fail); refine wpQuiet_nil ?_)
                  refine Own.st_load _ rfl rfl (.slice Aa acc.length ca) (fun w' hw' => ?_) ?_ ?_
                  · have hg0 := hw'.get (a := ⟨KK, 1, none⟩) (v := .slice Aa acc.length ca) (by decide) (by simp)
                    go_simp
                  · intro _ q hq e; simp only [List.mem_cons, List.mem_nil_iff, or_false] at hq; rcases hq with rfl | rfl | rfl <;> first | assumption | (simp at e; done) | (go_simp; done) | (simp; done)
                  simp only [Act.put, List.setIfInBounds_toArray, List.set_cons_succ, List.set_cons_zero]
                  repeat (refine Own.st_blind _ rfl rfl (CR.off _ (by decide) _) ?_; go_big_quiet_step (fail); refine wpQuiet_nil ?_)
                  refine Own.st_do _ rfl rfl (fun K hK => ?_)
                  go_simp
                  generalize hwf : (wr.setCell ⟨M, 0, none⟩ _).setCell ⟨M, 1, none⟩ _ = wf
                  have HWF := Lib.hid (ent_set HE.out hwf.symm)
                  have hKc : wf.heap[KK]? = wr.heap[KK]? := by rw [← hwf]; exact (setCell_other _ HE.out.ne.symm).trans (setCell_other _ HE.out.ne.symm)
                  obtain ⟨y0, y1⟩ := cell2_of (hKc.trans HE.out.cK)
                  clear hwf hKc
                  refine hK _ _ (fun q hq hd _ => ?_) ?_
                  · intro _ q hq e; simp only [List.mem_cons, List.mem_nil_iff, or_false] at hq; rcases hq with rfl | rfl | rfl <;> first | assumption | (simp at e; done) | (go_simp; done) | (simp; done)
                  clear hK K
                  repeat (refine Own.st_blind _ rfl rfl (CR.off _ (by decide) _) ?_; go_big_quiet_step (fail); refine wpQuiet_nil ?_)
                  refine Own.mix_done ?_
                  go_wp2_with (fail)
                  first | exact ent_ret HWF.out rfl ⟨rfl, rfl⟩ (fun h => by cases h) (fun _ => E2.out) | exact ent_ret HWF.out.drew rfl ⟨rfl, rfl⟩ (fun h => by cases h) (fun _ => E2.out)
      · by_cases hlt0 : k < s.size
        · have g1 : decide (k < s.size) = true := by simpa using hlt0
          have hix : ∀ w : World, (Instr.index 9 (.string s) (.int .i64 (k : Nat))).run Tryd.prog w = .ok (.int .u8 47) w := fun w => by rw [s_index s k hlt0 w, hend]; rfl
          clear hend hlt0
          go_upto_region 5 with (fail)
          rw [← HW3.out.1, ← HW3.out.2]
          obtain ⟨x0, _⟩ := cell2_of E3.out.cK
          clear HW3
          go_wp2_with (fail)
          refine CW.out.mono ?_
          rintro e w4 ⟨rfl, b4⟩
          have E4 := Lib.hid (E3.out.below b4)
          clear CW b4 x0 E3 FS
          cases wo with
          | false =>
            have e0 : entW s = none := by rw [EW.out]; exact if_neg (by decide)
            have E0 := Lib.hid e0
            obtain ⟨m0, m1⟩ := cell2_of E4.out.cM
            have fz : ∀ j, w4.frozen? ⟨M, j, none⟩ = false := fun j => by have := E4.out.cM; simp [World.frozen?, this]
            clear e0
            go_wp2_with (fail)
            generalize hwf : (w4.setCell ⟨M, 0, none⟩ _).setCell ⟨M, 1, none⟩ _ = wf
            exact ent_ret (ent_zero E4.out.cM hwf.symm E4.out.bel HM0.out) rfl ⟨rfl, rfl⟩ (fun h => by cases h) (fun _ => E0.out)
          | true =>
            have e0 : entW s = (match flB [] (s.data.toList.drop (k + 1)) with | none => none | some f => if k = s.size ∨ 0 < f.length then some (a, f) else none) := by rw [EW.out]; exact if_pos rfl
            have E0 := Lib.hid e0
            obtain ⟨l, hl⟩ : ∃ l, l = s.data.toList := ⟨_, rfl⟩
            have HL := Lib.hid hl
            rw [← hl] at E0
            clear e0 hl EW
            go_wp2_with (fail)
            go_loopw [6] (fun iv wr => ∃ (i : Nat) (acc : List Int) (av : Value), iv = .int .i64 (i : Nat) ∧ k + 1 ≤ i ∧ i ≤ s.size + 1 ∧ EntS w wr M KK a av acc ∧ flB acc (l.drop i) = flB [] (l.drop (k + 1)) ∧ (∀ x ∈ acc, x ≠ 0) ∧ acc.length ≤ i) (fun iv _ => s.size + 1 - (intOf iv).toNat)
            case atStart => exact ⟨k + 1, [], _, by go_num, Nat.le_refl _, by omega, E4.out, rfl, fun x hx => absurd hx List.not_mem_nil, Nat.zero_le _⟩
            case round =>
              clear E4
              obtain ⟨i, acc, av, rfl, hki, his, hE, hfl, hnz, hal⟩ := hrel
              obtain ⟨Aa, ca, rfl⟩ := own_is hE.ow
              have HE := Lib.hid hE
              have HFL := Lib.hid hfl
              have HNZ := Lib.hid hnz
              obtain ⟨x0, x1⟩ := cell2_of HE.out.cK
              clear hE hfl hnz
              by_cases hlt : i < s.size
              · have g2 : decide (i < s.size) = true := by simpa using hlt
                obtain ⟨x, hx, hxu⟩ := byte_at s hlt
                have hdr : l.drop i = x :: l.drop (i + 1) := by
                  rw [HL.out]
                  obtain ⟨h1, h2⟩ := List.getElem?_eq_some_iff.1 hx
                  rw [List.drop_eq_getElem_cons h1, h2]
                obtain ⟨X, hX⟩ : ∃ X, X = s.extract i (i + 1) := ⟨_, rfl⟩
                have FS2 : ∀ w : World, (Instr.slice 9 (.string s) (some (.int .i64 (i : Nat))) (some (.int .i64 ((i : Int) + 1))) none).run Tryd.prog w = .ok (.string X) w := fun w => by
                  rw [run_slice_string (t := 9) (s := s) (k := .i64) (k' := .i64) (i := (i : Nat)) (j := (i : Int) + 1) (h := Tryd.underlying9)]
                  · rw [hX]
                    show Result.ok (Value.string (s.extract (i : Int).toNat ((i : Int) + 1).toNat)) w = _
                    rw [show ((i : Int) + 1).toNat = i + 1 by omega]
                    rfl
                  all_goals omega
                have CF := Lib.hid (fun w : World => flag_calls X w)
                have hfx : flagR X = if letB x.toNat = true then x.toNat else 0 := by rw [hX, flag_one hlt, hxu]
                obtain ⟨f0, hf0⟩ : ∃ f0, f0 = flagR X := ⟨_, rfl⟩
                rw [← hf0] at CF hfx
                have HFX := Lib.hid hfx
                have HDR := Lib.hid hdr
                clear hx hxu hdr hX hf0 hfx
                go_wp2_with (fail)
                refine (CF.out _).mono ?_
                rintro e w5 ⟨rfl, hw5⟩
                subst hw5
                clear CF FS2
                go_wp2_with (fail)
                go_loopw [7, 8] (fun fv jv wx => ∃ j : Nat, j ≤ acc.length ∧ jv = .int .i64 (j : Nat) ∧ fv = .int .i64 (fAt acc (f0 : Nat) j) ∧ wr = wx) (fun _ jv _ => acc.length - (intOf jv).toNat)
                case atStart => exact ⟨0, Nat.zero_le _, rfl, rfl, rfl⟩
                case round =>
                  obtain ⟨j, hj, rfl, rfl, hwx⟩ := hrel
                  subst hwx
                  obtain ⟨F, hF⟩ : ∃ F, F = fAt acc (f0 : Nat) j := ⟨_, rfl⟩
                  rw [← hF]
                  have HF := Lib.hid hF
                  clear hF
                  by_cases hj2 : j < acc.length
                  · have g3 : decide (j < acc.length) = true := by simpa using hj2
                    obtain ⟨y, hy⟩ : ∃ y, acc[j]? = some y := ⟨_, List.getElem?_eq_getElem hj2⟩
                    obtain ⟨A', c', ea, _, hra⟩ := HE.out.ow.reads
                    injection ea with ea _ ea2
                    subst ea
                    subst ea2
                    obtain ⟨qa, oa, rfl, k0⟩ := reads_at hra (Below.refl _ _) hy
                    have hs := fAt_succ (f0 := (f0 : Nat)) hy (HNZ.out y (List.mem_of_getElem? hy))
                    rw [← HF.out] at hs
                    clear hra hy
                    by_cases hyF : y = F
                    · rw [if_pos hyF] at hs
                      have HS := Lib.hid hs
                      have g4 : (y == F) = true := by simpa using hyF
                      clear hs hyF
                      go_wp2_with (fail)
                      go_roundw
                      case rel => exact ⟨j + 1, hj2, by go_num, by rw [HS.out], by first | rfl | trivial⟩
                      case measure => simp [intOf]; omega
                    · rw [if_neg hyF] at hs
                      have HS := Lib.hid hs
                      have g4 : (y == F) = false := by simpa using hyF
                      clear hs hyF
                      go_wp2_with (fail)
                      go_roundw
                      case rel => exact ⟨j + 1, hj2, by go_num, by rw [HS.out], by first | rfl | trivial⟩
                      case measure => simp [intOf]; omega
                  · obtain rfl : j = acc.length := by omega
                    have g3 : decide (acc.length < acc.length) = false := by simp
                    have hF : F = if acc.contains (f0 : Int) = true then 0 else (f0 : Int) := by
                      rw [HF.out]
                      unfold fAt
                      rw [List.take_length]
                    have hfl := HFL.out
                    rw [HDR.out] at hfl
                    by_cases hok : (letB x.toNat && !acc.contains (x.toNat : Int)) = true
                    · have hbb := hok
                      simp only [Bool.and_eq_true, Bool.not_eq_true'] at hbb
                      have hfx := HFX.out
                      rw [if_pos hbb.1] at hfx
                      rw [hfx, hbb.2] at hF
                      have hF2 : F = (x.toNat : Int) := hF
                      have hx0 : x.toNat ≠ 0 := fun e => by
                        have := hbb.1
                        rw [e] at this
                        revert this
                        decide
                      have hfl2 : flB (acc ++ [F]) (l.drop (i + 1)) = flB [] (l.drop (k + 1)) := by
                        rw [← hfl, hF2]
                        show _ = (if _ then _ else _)
                        rw [if_pos hok]
                      have HFL2 := Lib.hid hfl2
                      have hF0 : F ≠ 0 := by rw [hF2]; omega
                      have g4 : (F == 0) = false := by simpa using hF0
                      have HF0 := Lib.hid hF0
                      clear hok hbb hfx hF hF2 hx0 hfl2 hfl hF0 HF HFX HDR HFL
                      obtain ⟨o, ho⟩ : ∃ o, o = Obj.cells #[Value.int .i64 F] 3 := ⟨_, rfl⟩
                      have b4 : Below wr.heap.size wr (wr.alloc o) := (Below.refl _ _).alloc (Nat.le_refl _) _
                      have I4 := Lib.hid (HE.out.below b4)
                      have N4 := Lib.hid (show (wr.alloc o).heap[wr.heap.size]? = some (.cells #[Value.int .i64 F] 3 (0, 0)) by rw [ho]; exact blk_alloc_new _ _)
                      subst ho
                      clear b4
                      go_wp2_with (at_builtin; refine own_append (o := ⟨some 65, _, _, _, _, _⟩) rfl (.tmp 62) (.tmp 64) 48 48 rfl w.heap.size 3 iI _ 1 8 Tryd.underlying48 hiI hzI hsI hbI rfl (by decide) (.slice Aa acc.length ca) acc.length _ rfl I4.out.ow (.slice (some ⟨wr.heap.size, 0, none⟩) 1 1) rfl 1 _ (src_one Tryd.underlying48 rfl (by rw [World.cell?]; simp only [N4.out]; rfl)) (by unfold maxLen; omega) (by omega) I4.out.bel.size ?_; intro v5 w5 O5 G5 V5; obtain ⟨hK5, S5⟩ := EntS.push I4.out G5 (ownI_push O5); obtain ⟨A5, c5, hv5⟩ := own_is O5; subst hv5; obtain ⟨m0, m1⟩ := cell2_of hK5; have fz : ∀ j, w5.frozen? ⟨KK, j, none⟩ = false := fun j => by simp [World.frozen?, hK5])
                      go_roundw
                      case rel => exact ⟨i + 1, acc ++ [F], _, by go_num, by omega, by omega, S5, HFL2.out, fun y hy => by
                        rcases List.mem_append.1 hy with hy | hy
                        · exact HNZ.out y hy
                        · obtain rfl := List.mem_singleton.1 hy; exact HF0.out, by simp; omega⟩
                      case measure => simp [intOf]; omega
                    · have hn : flB [] (l.drop (k + 1)) = none := by
                        rw [← hfl]
                        show (if _ then _ else _) = _
                        rw [if_neg hok]
                      have e1 : entW s = none := by rw [E0.out, hn]
                      have hF0 : F = 0 := by
                        rw [hF]
                        by_cases hlb : letB x.toNat = true
                        · have hc : acc.contains (x.toNat : Int) = true := by
                            rw [hlb, Bool.true_and] at hok
                            simpa using hok
                          rw [HFX.out, if_pos hlb, if_pos hc]
                        · rw [HFX.out, if_neg hlb]
                          split <;> rfl
                      have E1 := Lib.hid e1
                      subst hF0
                      obtain ⟨m0, m1⟩ := cell2_of HE.out.cM
                      have fz : ∀ j, wr.frozen? ⟨M, j, none⟩ = false := fun j => by have := HE.out.cM; simp [World.frozen?, this]
                      clear hF hfl hok hn e1 HF HFX HDR HFL
                      go_wp2_with (fail)
                      generalize hwf : (wr.setCell ⟨M, 0, none⟩ _).setCell ⟨M, 1, none⟩ _ = wf
                      exact ent_ret (ent_zero HE.out.cM hwf.symm HE.out.bel HM0.out) rfl ⟨rfl, rfl⟩ (fun h => by cases h) (fun _ => E1.out)
              · have g2 : decide (i < s.size) = false := by simp; omega
                have hdr : l.drop i = [] := by
                  rw [HL.out]
                  exact List.drop_eq_nil_of_le (by have : s.data.toList.length = s.size := by simp
                                                   omega)
                have e1 : entW s = if k = s.size ∨ 0 < acc.length then some (a, acc) else none := by
                  rw [E0.out, ← HFL.out, hdr]
                  rfl
                have E1 := Lib.hid e1
                obtain ⟨m0, m1⟩ := cell2_of HE.out.cM
                have fz : ∀ j, wr.frozen? ⟨M, j, none⟩ = false := fun j => by have := HE.out.cM; simp [World.frozen?, this]
                clear hdr e1 HFL E0
                go_upto_region 19 with (fail)
                by_cases hks : k = s.size
                · have g3 : ((k : Int) == (s.size : Int)) = true := by simp; omega
                  have g3' : (k == s.size) = true := by simpa using hks
                  have e2 := E1.out
                  rw [if_pos (.inl hks)] at e2
                  have E2 := Lib.hid e2
                  clear hks e2 E1
                  refine Own.region_mix (CR [0] [(0, ⟨KK, 0, none⟩, .string a), (0, ⟨KK, 1, none⟩, .slice Aa acc.length ca)]) [0] [0, 0, 0, 4, 14, 30, 62, 126, 254, 510, 1022, 63, 4095] (Own.Ord.run [(0, true), (1, true), (2, true), (3, true), (4, true), (5, true), (6, true), (7, true), (8, true), (9, true), (10, true), (11, false), (12, true)] .done) (by kernel_rfl) (by kernel_rfl) (fun dst v c a w h => by cases dst <;> exact h) (fun x hx w => CR.off x hx w) ?_
                  simp only [Own.Ord.run]
                  refine Own.st_load _ rfl rfl (.agg #[.string a, .slice Aa acc.length ca]) (fun w' hw' => ?_) ?_ ?_
                  · have hg0 := hw'.get (a := ⟨KK, 0, none⟩) (v := .string a) (by decide) (by simp)
                    have hg1 := hw'.get (a := ⟨KK, 1, none⟩) (v := .slice Aa acc.length ca) (by decide) (by simp)
                    go_simp
                  · intro _ q hq e; simp only [List.mem_cons, List.mem_nil_iff, or_false] at hq; rcases hq with rfl | rfl <;> first | assumption | (simp at e; done) | (go_simp; done) | (simp; done)
                  simp only [Act.put, List.setIfInBounds_toArray, List.set_cons_succ, List.set_cons_zero]
                  repeat (refine Own.st_blind _ rfl rfl (CR.off _ (by decide) _) ?_; go_big_quiet_step (fail); refine wpQuiet_nil ?_)
                  refine Own.st_skip _ rfl rfl ?_
                  simp only [Act.put, List.setIfInBounds_toArray, List.set_cons_succ, List.set_cons_zero]
                  repeat (refine Own.st_blind _ rfl rfl (CR.off _ (by decide) _) ?_; go_big_quiet_step (fail); refine wpQuiet_nil ?_)
                  refine Own.st_do _ rfl rfl (fun K hK => ?_)
                  go_simp
                  generalize hwf : (wr.setCell ⟨M, 0, none⟩ _).setCell ⟨M, 1, none⟩ _ = wf
                  have HWF := Lib.hid (ent_set HE.out hwf.symm)
                  have hKc : wf.heap[KK]? = wr.heap[KK]? := by rw [← hwf]; exact (setCell_other _ HE.out.ne.symm).trans (setCell_other _ HE.out.ne.symm)
                  obtain ⟨y0, y1⟩ := cell2_of (hKc.trans HE.out.cK)
                  clear hwf hKc
                  refine hK _ _ (fun q hq hd => by rw [(by decide : ∀ x ∈ [0], Own.dep [0, 0, 0, 4, 14, 30, 62, 126, 254, 510, 1022, 63, 4095] 11 x = true) q hq] at hd; cases hd) ?_
                  clear hK K
                  repeat (refine Own.st_blind _ rfl rfl (CR.off _ (by decide) _) ?_; go_big_quiet_step (fail); refine wpQuiet_nil ?_)
                  refine Own.mix_done ?_
                  go_wp2_with (fail)
                  first | exact ent_ret HWF.out rfl ⟨rfl, rfl⟩ (fun _ => E2.out) (fun h => by cases h) | exact ent_ret HWF.out.drew rfl ⟨rfl, rfl⟩ (fun _ => E2.out) (fun h => by cases h)
                · have g3 : ((k : Int) == (s.size : Int)) = false := by simp; omega
                  have g3' : (k == s.size) = false := by simpa using hks
                  by_cases ha0 : 0 < acc.length
                  · have g4 : decide (0 < acc.length) = true := by simpa using ha0
                    have g4' : decide (0 < (acc.length : Int)) = true := by simp; omega
                    have e2 := E1.out
                    rw [if_pos (.inr ha0)] at e2
                    have E2 := Lib.hid e2
                    clear hks ha0 e2 E1
                    refine Own.region_mix (CR [0, 7] [(0, ⟨KK, 0, none⟩, .string a), (0, ⟨KK, 1, none⟩, .slice Aa acc.length ca), (7, ⟨KK, 1, none⟩, .slice Aa acc.length ca)]) [0, 7] [0, 0, 0, 4, 14, 30, 62, 126, 254, 510, 1022, 63, 4095] (Own.Ord.run [(0, true), (1, true), (2, true), (3, true), (4, true), (5, true), (6, true), (7, true), (8, true), (9, true), (10, true), (11, false), (12, true)] .done) (by kernel_rfl) (by kernel_rfl) (fun dst v c a w h => by cases dst <;> exact h) (fun x hx w => CR.off x hx w) ?_
                    simp only [Own.Ord.run]
                    refine Own.st_load _ rfl rfl (.agg #[.string a, .slice Aa acc.length ca]) (fun w' hw' => ?_) ?_ ?_
                    · have hg0 := hw'.get (a := ⟨KK, 0, none⟩) (v := .string a) (by decide) (by simp)
                      have hg1 := hw'.get (a := ⟨KK, 1, none⟩) (v := .slice Aa acc.length ca) (by decide) (by simp)
                      go_simp
                    · intro _ q hq e; simp only [List.mem_cons, List.mem_nil_iff, or_false] at hq; rcases hq with rfl | rfl | rfl <;> first | assumption | (simp at e; done) | (go_simp; done) | (simp; done)
                    simp only [Act.put, List.setIfInBounds_toArray, List.set_cons_succ, List.set_cons_zero]
                    repeat (refine Own.st_blind _ rfl rfl (CR.off _ (by decide) _) ?_; go_big_quiet_step (fail); refine wpQuiet_nil ?_)
                    refine Own.st_load _ rfl rfl (.slice Aa acc.length ca) (fun w' hw' => ?_) ?_ ?_
                    · have hg0 := hw'.get (a := ⟨KK, 1, none⟩) (v := .slice Aa acc.length ca) (by decide) (by simp)
                      go_simp
                    · intro _ q hq e; simp only [List.mem_cons, List.mem_nil_iff, or_false] at hq; rcases hq with rfl | rfl | rfl <;> first | assumption | (simp at e; done) | (go_simp; done) | (simp; done)
                    simp only [Act.put, List.setIfInBounds_toArray, List.set_cons_succ, List.set_cons_zero]
                    repeat (refine Own.st_blind _ rfl rfl (CR.off _ (by decide) _) ?_; go_big_quiet_step (fail); refine wpQuiet_nil ?_)
                    refine Own.st_do _ rfl rfl (fun K hK => ?_)
                    go_simp
                    generalize hwf : (wr.setCell ⟨M, 0, none⟩ _).setCell ⟨M, 1, none⟩ _ = wf
                    have HWF := Lib.hid (ent_set HE.out hwf.symm)
                    have hKc : wf.heap[KK]? = wr.heap[KK]? := by rw [← hwf]; exact (setCell_other _ HE.out.ne.symm).trans (setCell_other _ HE.out.ne.symm)
                    obtain ⟨y0, y1⟩ := cell2_of (hKc.trans HE.out.cK)
                    clear hwf hKc
                    refine hK _ _ (fun q hq hd _ => ?_) ?_
                    · intro _ q hq e; simp only [List.mem_cons, List.mem_nil_iff, or_false] at hq; rcases hq with rfl | rfl | rfl <;> first | assumption | (simp at e; done) | (go_simp; done) | (simp; done)
                    clear hK K
                    repeat (refine Own.st_blind _ rfl rfl (CR.off _ (by decide) _) ?_; go_big_quiet_step (fail); refine wpQuiet_nil ?_)
                    refine Own.mix_done ?_
                    go_wp2_with (fail)
                    first | exact ent_ret HWF.out rfl ⟨rfl, rfl⟩ (fun _ => E2.out) (fun h => by cases h) | exact ent_ret HWF.out.drew rfl ⟨rfl, rfl⟩ (fun _ => E2.out) (fun h => by cases h)
                  · have g4 : decide (0 < acc.length) = false := decide_eq_false ha0
                    have g4' : decide (0 < (acc.length : Int)) = false := decide_eq_false (by omega)
                    have e2 := E1.out
                    rw [if_neg (fun h => h.elim hks ha0)] at e2
                    have E2 := Lib.hid e2
                    clear hks e2 E1
                    obtain ⟨al, hal2⟩ : ∃ al, al = acc.length := ⟨_, rfl⟩
                    refine Own.region_mix (CR [0, 7] [(0, ⟨KK, 0, none⟩, .string a), (0, ⟨KK, 1, none⟩, .slice Aa acc.length ca), (7, ⟨KK, 1, none⟩, .slice Aa acc.length ca)]) [0, 7] [0, 0, 0, 4, 14, 30, 62, 126, 254, 510, 1022, 63, 4095] (Own.Ord.run [(0, true), (1, true), (2, true), (3, true), (4, true), (5, true), (6, true), (7, true), (8, true), (9, true), (10, true), (11, false), (12, true)] .done) (by kernel_rfl) (by kernel_rfl) (fun dst v c a w h => by cases dst <;> exact h) (fun x hx w => CR.off x hx w) ?_
                    simp only [Own.Ord.run]
                    refine Own.st_load _ rfl rfl (.agg #[.string a, .slice Aa acc.length ca]) (fun w' hw' => ?_) ?_ ?_
                    · have hg0 := hw'.get (a := ⟨KK, 0, none⟩) (v := .string a) (by decide) (by simp)
                      have hg1 := hw'.get (a := ⟨KK, 1, none⟩) (v := .slice Aa acc.length ca) (by decide) (by simp)
                      go_simp
                    · intro _ q hq e; simp only [List.mem_cons, List.mem_nil_iff, or_false] at hq; rcases hq with rfl | rfl | rfl <;> first | assumption | (simp at e; done) | (go_simp; done) | (simp; done)
                    simp only [Act.put, List.setIfInBounds_toArray, List.set_cons_succ, List.set_cons_zero]
                    repeat (refine Own.st_blind _ rfl rfl (CR.off _ (by decide) _) ?_; go_big_quiet_step (fail); refine wpQuiet_nil ?_)
                    refine Own.st_load _ rfl rfl (.slice Aa acc.length ca) (fun w' hw' => ?_) ?_ ?_
                    · have hg0 := hw'.get (a := ⟨KK, 1, none⟩) (v := .slice Aa acc.length ca) (by decide) (by simp)
                      go_simp
                    · intro _ q hq e; simp only [List.mem_cons, List.mem_nil_iff, or_false] at hq; rcases hq with rfl | rfl | rfl <;> first | assumption | (simp at e; done) | (go_simp; done) | (simp; done)
                    simp only [Act.put, List.setIfInBounds_toArray, List.set_cons_succ, List.set_cons_zero]
                    repeat (refine Own.st_blind _ rfl rfl (CR.off _ (by decide) _) ?_; go_big_quiet_step (fail); refine wpQuiet_nil ?_)
                    refine Own.st_do _ rfl rfl (fun K hK => ?_)
                    go_simp
                    generalize hwf : (wr.setCell ⟨M, 0, none⟩ _).setCell ⟨M, 1, none⟩ _ = wf
                    have HWF := Lib.hid (ent_set HE.out hwf.symm)
                    have hKc : wf.heap[KK]? = wr.heap[KK]? := by rw [← hwf]; exact (setCell_other _ HE.out.ne.symm).trans (setCell_other _ HE.out.ne.symm)
                    obtain ⟨y0, y1⟩ := cell2_of (hKc.trans HE.out.cK)
                    clear hwf hKc
                    refine hK _ _ (fun q hq hd _ => ?_) ?_
                    · intro _ q hq e; simp only [List.mem_cons, List.mem_nil_iff, or_false] at hq; rcases hq with rfl | rfl | rfl <;> first | assumption | (simp at e; done) | (go_simp; done) | (simp; done)
                    clear hK K
                    repeat (refine Own.st_blind _ rfl rfl (CR.off _ (by decide) _) ?_; go_big_quiet_step (fail); refine wpQuiet_nil ?_)
                    refine Own.mix_done ?_
                    go_wp2_with (fail)
                    first | exact ent_ret HWF.out rfl ⟨rfl, rfl⟩ (fun h => by cases h) (fun _ => E2.out) | exact ent_ret HWF.out.drew rfl ⟨rfl, rfl⟩ (fun h => by cases h) (fun _ => E2.out)
        · have g1 : decide (k < s.size) = false := by simp; omega
          clear hend hlt0
          go_upto_region 5 with (fail)
          rw [← HW3.out.1, ← HW3.out.2]
          obtain ⟨x0, _⟩ := cell2_of E3.out.cK
          clear HW3
          go_wp2_with (fail)
          refine CW.out.mono ?_
          rintro e w4 ⟨rfl, b4⟩
          have E4 := Lib.hid (E3.out.below b4)
          clear CW b4 x0 E3 FS
          cases wo with
          | false =>
            have e0 : entW s = none := by rw [EW.out]; exact if_neg (by decide)
            have E0 := Lib.hid e0
            obtain ⟨m0, m1⟩ := cell2_of E4.out.cM
            have fz : ∀ j, w4.frozen? ⟨M, j, none⟩ = false := fun j => by have := E4.out.cM; simp [World.frozen?, this]
            clear e0
            go_wp2_with (fail)
            generalize hwf : (w4.setCell ⟨M, 0, none⟩ _).setCell ⟨M, 1, none⟩ _ = wf
            exact ent_ret (ent_zero E4.out.cM hwf.symm E4.out.bel HM0.out) rfl ⟨rfl, rfl⟩ (fun h => by cases h) (fun _ => E0.out)
          | true =>
            have e0 : entW s = (match flB [] (s.data.toList.drop (k + 1)) with | none => none | some f => if k = s.size ∨ 0 < f.length then some (a, f) else none) := by rw [EW.out]; exact if_pos rfl
            have E0 := Lib.hid e0
            obtain ⟨l, hl⟩ : ∃ l, l = s.data.toList := ⟨_, rfl⟩
            have HL := Lib.hid hl
            rw [← hl] at E0
            clear e0 hl EW
            go_wp2_with (fail)
            go_loopw [6] (fun iv wr => ∃ (i : Nat) (acc : List Int) (av : Value), iv = .int .i64 (i : Nat) ∧ k + 1 ≤ i ∧ i ≤ s.size + 1 ∧ EntS w wr M KK a av acc ∧ flB acc (l.drop i) = flB [] (l.drop (k + 1)) ∧ (∀ x ∈ acc, x ≠ 0) ∧ acc.length ≤ i) (fun iv _ => s.size + 1 - (intOf iv).toNat)
            case atStart => exact ⟨k + 1, [], _, by go_num, Nat.le_refl _, by omega, E4.out, rfl, fun x hx => absurd hx List.not_mem_nil, Nat.zero_le _⟩
            case round =>
              clear E4
              obtain ⟨i, acc, av, rfl, hki, his, hE, hfl, hnz, hal⟩ := hrel
              obtain ⟨Aa, ca, rfl⟩ := own_is hE.ow
              have HE := Lib.hid hE
              have HFL := Lib.hid hfl
              have HNZ := Lib.hid hnz
              obtain ⟨x0, x1⟩ := cell2_of HE.out.cK
              clear hE hfl hnz
              by_cases hlt : i < s.size
              · have g2 : decide (i < s.size) = true := by simpa using hlt
                obtain ⟨x, hx, hxu⟩ := byte_at s hlt
                have hdr : l.drop i = x :: l.drop (i + 1) := by
                  rw [HL.out]
                  obtain ⟨h1, h2⟩ := List.getElem?_eq_some_iff.1 hx
                  rw [List.drop_eq_getElem_cons h1, h2]
                obtain ⟨X, hX⟩ : ∃ X, X = s.extract i (i + 1) := ⟨_, rfl⟩
                have FS2 : ∀ w : World, (Instr.slice 9 (.string s) (some (.int .i64 (i : Nat))) (some (.int .i64 ((i : Int) + 1))) none).run Tryd.prog w = .ok (.string X) w := fun w => by
                  rw [run_slice_string (t := 9) (s := s) (k := .i64) (k' := .i64) (i := (i : Nat)) (j := (i : Int) + 1) (h := Tryd.underlying9)]
                  · rw [hX]
                    show Result.ok (Value.string (s.extract (i : Int).toNat ((i : Int) + 1).toNat)) w = _
                    rw [show ((i : Int) + 1).toNat = i + 1 by omega]
                    rfl
                  all_goals omega
                have CF := Lib.hid (fun w : World => flag_calls X w)
                have hfx : flagR X = if letB x.toNat = true then x.toNat else 0 := by rw [hX, flag_one hlt, hxu]
                obtain ⟨f0, hf0⟩ : ∃ f0, f0 = flagR X := ⟨_, rfl⟩
                rw [← hf0] at CF hfx
                have HFX := Lib.hid hfx
                have HDR := Lib.hid hdr
                clear hx hxu hdr hX hf0 hfx
                go_wp2_with (fail)
                refine (CF.out _).mono ?_
                rintro e w5 ⟨rfl, hw5⟩
                subst hw5
                clear CF FS2
                go_wp2_with (fail)
                go_loopw [7, 8] (fun fv jv wx => ∃ j : Nat, j ≤ acc.length ∧ jv = .int .i64 (j : Nat) ∧ fv = .int .i64 (fAt acc (f0 : Nat) j) ∧ wr = wx) (fun _ jv _ => acc.length - (intOf jv).toNat)
                case atStart => exact ⟨0, Nat.zero_le _, rfl, rfl, rfl⟩
                case round =>
                  obtain ⟨j, hj, rfl, rfl, hwx⟩ := hrel
                  subst hwx
                  obtain ⟨F, hF⟩ : ∃ F, F = fAt acc (f0 : Nat) j := ⟨_, rfl⟩
                  rw [← hF]
                  have HF := Lib.hid hF
                  clear hF
                  by_cases hj2 : j < acc.length
                  · have g3 : decide (j < acc.length) = true := by simpa using hj2
                    obtain ⟨y, hy⟩ : ∃ y, acc[j]? = some y := ⟨_, List.getElem?_eq_getElem hj2⟩
                    obtain ⟨A', c', ea, _, hra⟩ := HE.out.ow.reads
                    injection ea with ea _ ea2
                    subst ea
                    subst ea2
                    obtain ⟨qa, oa, rfl, k0⟩ := reads_at hra (Below.refl _ _) hy
                    have hs := fAt_succ (f0 := (f0 : Nat)) hy (HNZ.out y (List.mem_of_getElem? hy))
                    rw [← HF.out] at hs
                    clear hra hy
                    by_cases hyF : y = F
                    · rw [if_pos hyF] at hs
                      have HS := Lib.hid hs
                      have g4 : (y == F) = true := by simpa using hyF
                      clear hs hyF
                      go_wp2_with (fail)
                      go_roundw
                      case rel => exact ⟨j + 1, hj2, by go_num, by rw [HS.out], by first | rfl | trivial⟩
                      case measure => simp [intOf]; omega
                    · rw [if_neg hyF] at hs
                      have HS := Lib.hid hs
                      have g4 : (y == F) = false := by simpa using hyF
                      clear hs hyF
                      go_wp2_with (fail)
                      go_roundw
                      case rel => exact ⟨j + 1, hj2, by go_num, by rw [HS.out], by first | rfl | trivial⟩
                      case measure => simp [intOf]; omega
                  · obtain rfl : j = acc.length := by omega
                    have g3 : decide (acc.length < acc.length) = false := by simp
                    have hF : F = if acc.contains (f0 : Int) = true then 0 else (f0 : Int) := by
                      rw [HF.out]
                      unfold fAt
                      rw [List.take_length]
                    have hfl := HFL.out
                    rw [HDR.out] at hfl
                    by_cases hok : (letB x.toNat && !acc.contains (x.toNat : Int)) = true
                    · have hbb := hok
                      simp only [Bool.and_eq_true, Bool.not_eq_true'] at hbb
                      have hfx := HFX.out
                      rw [if_pos hbb.1] at hfx
                      rw [hfx, hbb.2] at hF
                      have hF2 : F = (x.toNat : Int) := hF
                      have hx0 : x.toNat ≠ 0 := fun e => by
                        have := hbb.1
                        rw [e] at this
                        revert this
                        decide
                      have hfl2 : flB (acc ++ [F]) (l.drop (i + 1)) = flB [] (l.drop (k + 1)) := by
                        rw [← hfl, hF2]
                        show _ = (if _ then _ else _)
                        rw [if_pos hok]
                      have HFL2 := Lib.hid hfl2
                      have hF0 : F ≠ 0 := by rw [hF2]; omega
                      have g4 : (F == 0) = false := by simpa using hF0
                      have HF0 := Lib.hid hF0
                      clear hok hbb hfx hF hF2 hx0 hfl2 hfl hF0 HF HFX HDR HFL
                      obtain ⟨o, ho⟩ : ∃ o, o = Obj.cells #[Value.int .i64 F] 3 := ⟨_, rfl⟩
                      have b4 : Below wr.heap.size wr (wr.alloc o) := (Below.refl _ _).alloc (Nat.le_refl _) _
                      have I4 := Lib.hid (HE.out.below b4)
                      have N4 := Lib.hid (show (wr.alloc o).heap[wr.heap.size]? = some (.cells #[Value.int .i64 F] 3 (0, 0)) by rw [ho]; exact blk_alloc_new _ _)
                      subst ho
                      clear b4
                      go_wp2_with (at_builtin; refine own_append (o := ⟨some 65, _, _, _, _, _⟩) rfl (.tmp 62) (.tmp 64) 48 48 rfl w.heap.size 3 iI _ 1 8 Tryd.underlying48 hiI hzI hsI hbI rfl (by decide) (.slice Aa acc.length ca) acc.length _ rfl I4.out.ow (.slice (some ⟨wr.heap.size, 0, none⟩) 1 1) rfl 1 _ (src_one Tryd.underlying48 rfl (by rw [World.cell?]; simp only [N4.out]; rfl)) (by unfold maxLen; omega) (by omega) I4.out.bel.size ?_; intro v5 w5 O5 G5 V5; obtain ⟨hK5, S5⟩ := EntS.push I4.out G5 (ownI_push O5); obtain ⟨A5, c5, hv5⟩ := own_is O5; subst hv5; obtain ⟨m0, m1⟩ := cell2_of hK5; have fz : ∀ j, w5.frozen? ⟨KK, j, none⟩ = false := fun j => by simp [World.frozen?, hK5])
                      go_roundw
                      case rel => exact ⟨i + 1, acc ++ [F], _, by go_num, by omega, by omega, S5, HFL2.out, fun y hy => by
                        rcases List.mem_append.1 hy with hy | hy
                        · exact HNZ.out y hy
                        · obtain rfl := List.mem_singleton.1 hy; exact HF0.out, by simp; omega⟩
                      case measure => simp [intOf]; omega
                    · have hn : flB [] (l.drop (k + 1)) = none := by
                        rw [← hfl]
                        show (if _ then _ else _) = _
                        rw [if_neg hok]
                      have e1 : entW s = none := by rw [E0.out, hn]
                      have hF0 : F = 0 := by
                        rw [hF]
                        by_cases hlb : letB x.toNat = true
                        · have hc : acc.contains (x.toNat : Int) = true := by
                            rw [hlb, Bool.true_and] at hok
                            simpa using hok
                          rw [HFX.out, if_pos hlb, if_pos hc]
                        · rw [HFX.out, if_neg hlb]
                          split <;> rfl
                      have E1 := Lib.hid e1
                      subst hF0
                      obtain ⟨m0, m1⟩ := cell2_of HE.out.cM
                      have fz : ∀ j, wr.frozen? ⟨M, j, none⟩ = false := fun j => by have := HE.out.cM; simp [World.frozen?, this]
                      clear hF hfl hok hn e1 HF HFX HDR HFL
                      go_wp2_with (fail)
                      generalize hwf : (wr.setCell ⟨M, 0, none⟩ _).setCell ⟨M, 1, none⟩ _ = wf
                      exact ent_ret (ent_zero HE.out.cM hwf.symm HE.out.bel HM0.out) rfl ⟨rfl, rfl⟩ (fun h => by cases h) (fun _ => E1.out)
              · have g2 : decide (i < s.size) = false := by simp; omega
                have hdr : l.drop i = [] := by
                  rw [HL.out]
                  exact List.drop_eq_nil_of_le (by have : s.data.toList.length = s.size := by simp
                                                   omega)
                have e1 : entW s = if k = s.size ∨ 0 < acc.length then some (a, acc) else none := by
                  rw [E0.out, ← HFL.out, hdr]
                  rfl
                have E1 := Lib.hid e1
                obtain ⟨m0, m1⟩ := cell2_of HE.out.cM
                have fz : ∀ j, wr.frozen? ⟨M, j, none⟩ = false := fun j => by have := HE.out.cM; simp [World.frozen?, this]
                clear hdr e1 HFL E0
                go_upto_region 19 with (fail)
                by_cases hks : k = s.size
                · have g3 : ((k : Int) == (s.size : Int)) = true := by simp; omega
                  have g3' : (k == s.size) = true := by simpa using hks
                  have e2 := E1.out
                  rw [if_pos (.inl hks)] at e2
                  have E2 := Lib.hid e2
                  clear hks e2 E1
                  refine Own.region_mix (CR [0] [(0, ⟨KK, 0, none⟩, .string a), (0, ⟨KK, 1, none⟩, .slice Aa acc.length ca)]) [0] [0, 0, 0, 4, 14, 30, 62, 126, 254, 510, 1022, 63, 4095] (Own.Ord.run [(0, true), (1, true), (2, true), (3, true), (4, true), (5, true), (6, true), (7, true), (8, true), (9, true), (10, true), (11, false), (12, true)] .done) (by kernel_rfl) (by kernel_rfl) (fun dst v c a w h => by cases dst <;> exact h) (fun x hx w => CR.off x hx w) ?_
                  simp only [Own.Ord.run]
                  refine Own.st_load _ rfl rfl (.agg #[.string a, .slice Aa acc.length ca]) (fun w' hw' => ?_) ?_ ?_
                  · have hg0 := hw'.get (a := ⟨KK, 0, none⟩) (v := .string a) (by decide) (by simp)
                    have hg1 := hw'.get (a := ⟨KK, 1, none⟩) (v := .slice Aa acc.length ca) (by decide) (by simp)
                    go_simp
                  · intro _ q hq e; simp only [List.mem_cons, List.mem_nil_iff, or_false] at hq; rcases hq with rfl | rfl <;> first | assumption | (simp at e; done) | (go_simp; done) | (simp; done)
                  simp only [Act.put, List.setIfInBounds_toArray, List.set_cons_succ, List.set_cons_zero]
                  repeat (refine Own.st_blind _ rfl rfl (CR.off _ (by decide) _) ?_; go_big_quiet_step (fail); refine wpQuiet_nil ?_)
                  refine Own.st_skip _ rfl rfl ?_
                  simp only [Act.put, List.setIfInBounds_toArray, List.set_cons_succ, List.set_cons_zero]
                  repeat (refine Own.st_blind _ rfl rfl (CR.off _ (by decide) _) ?_; go_big_quiet_step (fail); refine wpQuiet_nil ?_)
                  refine Own.st_do _ rfl rfl (fun K hK => ?_)
                  go_simp
                  generalize hwf : (wr.setCell ⟨M, 0, none⟩ _).setCell ⟨M, 1, none⟩ _ = wf
                  have HWF := Lib.hid (ent_set HE.out hwf.symm)
                  have hKc : wf.heap[KK]? = wr.heap[KK]? := by rw [← hwf]; exact (setCell_other _ HE.out.ne.symm).trans (setCell_other _ HE.out.ne.symm)
                  obtain ⟨y0, y1⟩ := cell2_of (hKc.trans HE.out.cK)
                  clear hwf hKc
                  refine hK _ _ (fun q hq hd => by rw [(by decide : ∀ x ∈ [0], Own.dep [0, 0, 0, 4, 14, 30, 62, 126, 254, 510, 1022, 63, 4095] 11 x = true) q hq] at hd; cases hd) ?_
                  clear hK K
                  repeat (refine Own.st_blind _ rfl rfl (CR.off _ (by decide) _) ?_; go_big_quiet_step (fail); refine wpQuiet_nil ?_)
                  refine Own.mix_done ?_
                  go_wp2_with (fail)
                  first | exact ent_ret HWF.out rfl ⟨rfl, rfl⟩ (fun _ => E2.out) (fun h => by cases h) | exact ent_ret HWF.out.drew rfl ⟨rfl, rfl⟩ (fun _ => E2.out) (fun h => by cases h)
                · have g3 : ((k : Int) == (s.size : Int)) = false := by simp; omega
                  have g3' : (k == s.size) = false := by simpa using hks
                  by_cases ha0 : 0 < acc.length
                  · have g4 : decide (0 < acc.length) = true := by simpa using ha0
                    have g4' : decide (0 < (acc.length : Int)) = true := by simp; omega
                    have e2 := E1.out
                    rw [if_pos (.inr ha0)] at e2
                    have E2 := Lib.hid e2
                    clear hks ha0 e2 E1
                    refine Own.region_mix (CR [0, 7] [(0, ⟨KK, 0, none⟩, .string a), (0, ⟨KK, 1, none⟩, .slice Aa acc.length ca), (7, ⟨KK, 1, none⟩, .slice Aa acc.length ca)]) [0, 7] [0, 0, 0, 4, 14, 30, 62, 126, 254, 510, 1022, 63, 4095] (Own.Ord.run [(0, true), (1, true), (2, true), (3, true), (4, true), (5, true), (6, true), (7, true), (8, true), (9, true), (10, true), (11, false), (12, true)] .done) (by kernel_rfl) (by kernel_rfl) (fun dst v c a w h => by cases dst <;> exact h) (fun x hx w => CR.off x hx w) ?_
                    simp only [Own.Ord.run]
                    refine Own.st_load _ rfl rfl (.agg #[.string a, .slice Aa acc.length ca]) (fun w' hw' => ?_) ?_ ?_
                    · have hg0 := hw'.get (a := ⟨KK, 0, none⟩) (v := .string a) (by decide) (by simp)
                      have hg1 := hw'.get (a := ⟨KK, 1, none⟩) (v := .slice Aa acc.length ca) (by decide) (by simp)
                      go_simp
                    · intro _ q hq e; simp only [List.mem_cons, List.mem_nil_iff, or_false] at hq; rcases hq with rfl | rfl | rfl <;> first | assumption | (simp at e; done) | (go_simp; done) | (simp; done)
                    simp only [Act.put, List.setIfInBounds_toArray, List.set_cons_succ, List.set_cons_zero]
                    repeat (refine Own.st_blind _ rfl rfl (CR.off _ (by decide) _) ?_; go_big_quiet_step (fail); refine wpQuiet_nil ?_)
                    refine Own.st_load _ rfl rfl (.slice Aa acc.length ca) (fun w' hw' => ?_) ?_ ?_
                    · have hg0 := hw'.get (a := ⟨KK, 1, none⟩) (v := .slice Aa acc.length ca) (by decide) (by simp)
                      go_simp
                    · intro _ q hq e; simp only [List.mem_cons, List.mem_nil_iff, or_false] at hq; rcases hq with rfl | rfl | rfl <;> first | assumption | (simp at e; done) | (go_simp; done) | (simp; done)
                    simp only [Act.put, List.setIfInBounds_toArray, List.set_cons_succ, List.set_cons_zero]
                    repeat (refine Own.st_blind _ rfl rfl (CR.off _ (by decide) _) ?_; go_big_quiet_step (fail); refine wpQuiet_nil ?_)
                    refine Own.st_do _ rfl rfl (fun K hK => ?_)
                    go_simp
                    generalize hwf : (wr.setCell ⟨M, 0, none⟩ _).setCell ⟨M, 1, none⟩ _ = wf
                    have HWF := Lib.hid (ent_set HE.out hwf.symm)
                    have hKc : wf.heap[KK]? = wr.heap[KK]? := by rw [← hwf]; exact (setCell_other _ HE.out.ne.symm).trans (setCell_other _ HE.out.ne.symm)
                    obtain ⟨y0, y1⟩ := cell2_of (hKc.trans HE.out.cK)
                    clear hwf hKc
                    refine hK _ _ (fun q hq hd _ => ?_) ?_
                    · intro _ q hq e; simp only [List.mem_cons, List.mem_nil_iff, or_false] at hq; rcases hq with rfl | rfl | rfl <;> first | assumption | (simp at e; done) | (go_simp; done) | (simp; done)
                    clear hK K
                    repeat (refine Own.st_blind _ rfl rfl (CR.off _ (by decide) _) ?_; go_big_quiet_step (fail); refine wpQuiet_nil ?_)
                    refine Own.mix_done ?_
                    go_wp2_with (fail)
                    first | exact ent_ret HWF.out rfl ⟨rfl, rfl⟩ (fun _ => E2.out) (fun h => by cases h) | exact ent_ret HWF.out.drew rfl ⟨rfl, rfl⟩ (fun _ => E2.out) (fun h => by cases h)
                  · have g4 : decide (0 < acc.length) = false := decide_eq_false ha0
                    have g4' : decide (0 < (acc.length : Int)) = false := decide_eq_false (by omega)
                    have e2 := E1.out
                    rw [if_neg (fun h => h.elim hks ha0)] at e2
                    have E2 := Lib.hid e2
                    clear hks e2 E1
                    obtain ⟨al, hal2⟩ : ∃ al, al = acc.length := ⟨_, rfl⟩
                    refine Own.region_mix (CR [0, 7] [(0, ⟨KK, 0, none⟩, .string a), (0, ⟨KK, 1, none⟩, .slice Aa acc.length ca), (7, ⟨KK, 1, none⟩, .slice Aa acc.length ca)]) [0, 7] [0, 0, 0, 4, 14, 30, 62, 126, 254, 510, 1022, 63, 4095] (Own.Ord.run [(0, true), (1, true), (2, true), (3, true), (4, true), (5, true), (6, true), (7, true), (8, true), (9, true), (10, true), (11, false), (12, true)] .done) (by kernel_rfl) (by kernel_rfl) (fun dst v c a w h => by cases dst <;> exact h) (fun x hx w => CR.off x hx w) ?_
                    simp only [Own.Ord.run]
                    refine Own.st_load _ rfl rfl (.agg #[.string a, .slice Aa acc.length ca]) (fun w' hw' => ?_) ?_ ?_
                    · have hg0 := hw'.get (a := ⟨KK, 0, none⟩) (v := .string a) (by decide) (by simp)
                      have hg1 := hw'.get (a := ⟨KK, 1, none⟩) (v := .slice Aa acc.length ca) (by decide) (by simp)
                      go_simp
                    · intro _ q hq e; simp only [List.mem_cons, List.mem_nil_iff, or_false] at hq; rcases hq with rfl | rfl | rfl <;> first | assumption | (simp at e; done) | (go_simp; done) | (simp; done)
                    simp only [Act.put, List.setIfInBounds_toArray, List.set_cons_succ, List.set_cons_zero]
                    repeat (refine Own.st_blind _ rfl rfl (CR.off _ (by decide) _) ?_; go_big_quiet_step (fail); refine wpQuiet_nil ?_)
                    refine Own.st_load _ rfl rfl (.slice Aa acc.length ca) (fun w' hw' => ?_) ?_ ?_
                    · have hg0 := hw'.get (a := ⟨KK, 1, none⟩) (v := .slice Aa acc.length ca) (by decide) (by simp)
                      go_simp
                    · intro _ q hq e; simp only [List.mem_cons, List.mem_nil_iff, or_false] at hq; rcases hq with rfl | rfl | rfl <;> first | assumption | (simp at e; done) | (go_simp; done) | (simp; done)
                    simp only [Act.put, List.setIfInBounds_toArray, List.set_cons_succ, List.set_cons_zero]
                    repeat (refine Own.st_blind _ rfl rfl (CR.off _ (by decide) _) ?_; go_big_quiet_step (fail); refine wpQuiet_nil ?_)
                    refine Own.st_do _ rfl rfl (fun K hK => ?_)
                    go_simp
                    generalize hwf : (wr.setCell ⟨M, 0, none⟩ _).setCell ⟨M, 1, none⟩ _ = wf
                    have HWF := Lib.hid (ent_set HE.out hwf.symm)
                    have hKc : wf.heap[KK]? = wr.heap[KK]? := by rw [← hwf]; exact (setCell_other _ HE.out.ne.symm).trans (setCell_other _ HE.out.ne.symm)
                    obtain ⟨y0, y1⟩ := cell2_of (hKc.trans HE.out.cK)
                    clear hwf hKc
                    refine hK _ _ (fun q hq hd _ => ?_) ?_
                    · intro _ q hq e; simp only [List.mem_cons, List.mem_nil_iff, or_false] at hq; rcases hq with rfl | rfl | rfl <;> first | assumption | (simp at e; done) | (go_simp; done) | (simp; done)
                    clear hK K
                    repeat (refine Own.st_blind _ rfl rfl (CR.off _ (by decide) _) ?_; go_big_quiet_step (fail); refine wpQuiet_nil ?_)
                    refine Own.mix_done ?_
                    go_wp2_with (fail)
                    first | exact ent_ret HWF.out rfl ⟨rfl, rfl⟩ (fun h => by cases h) (fun _ => E2.out) | exact ent_ret HWF.out.drew rfl ⟨rfl, rfl⟩ (fun h => by cases h) (fun _ => E2.out)
end Go.Proofs.YtmpckoincdkeeaaDoor

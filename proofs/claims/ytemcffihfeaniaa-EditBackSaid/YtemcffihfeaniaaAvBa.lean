/- Avl's laws: AvlBalance. -/
import Derived.Test.YtemcffihfeaniaaAvPl
namespace Go.Proofs.Ytemcffihfeaniaa
open Go.RowKit Go.Deep Go.Own
set_option linter.unusedVariables false
theorem least_small (i : Nat) (h : i ≤ 41) : Tr.least i ≤ 433494436 := by
  have := Tr.least_mono h
  have e : Tr.least 41 = 433494436 := by decide
  omega
set_option maxRecDepth 100000 in
set_option maxHeartbeats 4000000 in
theorem least_calls (hh : Nat) (w : World) (h : hh ≤ 40) : Calls Try.prog 29 #[.int .i64 (hh : Nat)] w fun e w' => e = .returned (.int .i64 (Tr.least hh : Nat)) ∧ w = w' := by
  go_enter Try.func29, Try.ntmps29
  go_wp2_with (fail)
  go_loop [3, 4, 5] (fun a b i => ∃ j : Nat, j ≤ hh ∧ a = .int .i64 (Tr.least j : Nat) ∧ b = .int .i64 (Tr.least (j + 1) : Nat) ∧ i = .int .i64 (j : Nat)) (fun _ _ i => hh - (intOf i).toNat)
  case atStart => exact ⟨0, by omega, rfl, rfl, rfl⟩
  case round =>
    obtain ⟨j, hj, rfl, rfl, rfl⟩ := hrel
    have s1 := least_small j (by omega)
    have s2 := least_small (j + 1) (by omega)
    have E := Lib.hid (show Tr.least (j + 1 + 1) = Tr.least (j + 1) + Tr.least j + 1 from rfl)
    generalize hp : Tr.least j = p at *
    generalize hq : Tr.least (j + 1) = q at *
    have HP := Lib.hid hp
    have HQ := Lib.hid hq
    clear hp hq
    have g1 : decide ((p : Int) < 1099511627776) = true := by simp; omega
    have g2 : decide (p < 1099511627776) = true := by simp; omega
    by_cases hlt : j < hh
    · go_wp2_with (fail)
      go_round
      case rel => exact ⟨j + 1, by omega, by rw [HQ.out], by rw [E.out]; go_num, by go_num⟩
      case measure => simp [intOf]; omega
    · obtain rfl : j = hh := by omega
      go_wp2_with (fail)
      go_ret
      exact ⟨by rw [HP.out]; rfl, rfl⟩
structure Tz (W w : World) (b : Nat) (l : List (Int × Int)) (n : Nat) : Prop where
  tt : Tt W w b l
  len : l.length = n
  pos : ∀ x ∈ l, 1 ≤ x.2 ∧ x.2 ≤ 5
theorem Tz.ins {W w w' : World} {b : Nat} {l : List (Int × Int)} {n : Nat} (h : Tz W w b l n) (i : Nat) (k z : Int) (hi : i ≤ n) (hz : 1 ≤ z ∧ z ≤ 5) (h' : Tt W w' b (Tr.ins l i (k, z))) : Tz W w' b (Tr.ins l i (k, z)) (n + 1) :=
  ⟨h', by have := h.len; simp [Tr.ins]; omega, fun x hx => by
    simp only [Tr.ins, List.mem_append, List.mem_cons] at hx
    rcases hx with hx | rfl | hx
    · exact h.pos x (List.mem_of_mem_take hx)
    · exact hz
    · exact h.pos x (List.mem_of_mem_drop hx)⟩
theorem Tz.cut {W w w' : World} {b : Nat} {l : List (Int × Int)} {n : Nat} (h : Tz W w b l n) (i : Nat) (hi : i < n) (h' : Tt W w' b (l.eraseIdx i)) : Tz W w' b (l.eraseIdx i) (n - 1) :=
  ⟨h', by have := h.len; rw [List.length_eraseIdx_of_lt (by omega)]; omega, fun x hx => h.pos x (List.mem_of_mem_eraseIdx hx)⟩
theorem sum_pos5 : ∀ (l : List (Int × Int)), (∀ x ∈ l, 1 ≤ x.2 ∧ x.2 ≤ 5) → 0 ≤ sumL l ∧ sumL l ≤ 5 * (l.length : Int)
  | [], _ => by simp [sumL]
  | x :: l, h => by
    have h1 := sum_pos5 l (fun y hy => h y (by simp [hy]))
    have h2 := h x (by simp)
    rw [sumL_cons, List.length_cons]; omega
theorem Tz.sum {W w : World} {b : Nat} {l : List (Int × Int)} {n : Nat} (h : Tz W w b l n) : 0 ≤ sumL l ∧ sumL l ≤ 5 * n := by
  have := sum_pos5 l h.pos
  rwa [h.len] at this
theorem t_height {W w : World} {b : Nat} {l : List (Int × Int)} (h : Tt W w b l) : ∃ hh : Nat, (Tr.least hh ≤ l.length ∧ hh ≤ 40) ∧ Calls Try.prog 30 #[.pointer (some ⟨b, 0, none⟩)] w fun e w' => e = .returned (.int .i64 (hh : Nat)) ∧ w = w' := by
  obtain ⟨hh, ⟨h1, h2, h3⟩, hc⟩ := height_at _ b l w h.tree
  exact ⟨hh, ⟨h1, h2⟩, hc⟩
set_option maxRecDepth 100000 in
set_option maxHeartbeats 8000000 in
theorem avlBalance_walk (n : Int) (A : Option Addr) (cap : Nat) (l : List Int) (A' : Option Addr) (cap' : Nat) (l' : List Int) (W : World) (hn : (Lit.int .i64 n).wf = true) (hA : Reads W A l) (hl : l.length ≤ 9223372036854775807) (hA' : Reads W A' l') (hl' : l'.length ≤ 9223372036854775807) :
    Calls Try.prog 8 #[.int .i64 n, .slice A l.length cap, .slice A' l'.length cap'] W fun e w' => e = .returned (.bool true) ∧ Below W.heap.size W w' := by
  clear hn
  obtain ⟨K, hK, _, cm0⟩ := place_n n 300 (by decide) (by decide)
  have CM : Hid (∀ w : World, Calls Try.prog 17 #[.int .i64 n, .int .i64 300] w fun e w' => e = .returned (.int .i64 (K : Nat)) ∧ w = w') := Lib.hid cm0
  have HA := Lib.hid hA
  have HA' := Lib.hid hA'
  clear cm0 hA hA'
  by_cases hbig : 300 < l.length ∨ 300 < l'.length
  · by_cases h1 : 300 < l.length
    · clear hbig
      go_enter Try.func8, Try.ntmps8
      go_wp2_with (fail)
      refine (t_new W).mono ?_
      rintro e w0 ⟨rfl, h0⟩
      go_wp2_with (fail)
      refine (CM.out _).mono ?_
      rintro e w2 ⟨rfl, rfl⟩
      go_wp2_with (fail)
      refine (av_awake _).mono ?_
      rintro e w1 ⟨rfl, h1⟩
      go_wp2_with (fail)
      go_ret
      exact ⟨rfl, h0.below.trans (h1.mono h0.below.size)⟩
    · have h2 : 300 < l'.length := by omega
      clear hbig
      go_enter Try.func8, Try.ntmps8
      go_wp2_with (fail)
      refine (t_new W).mono ?_
      rintro e w0 ⟨rfl, h0⟩
      go_wp2_with (fail)
      refine (CM.out _).mono ?_
      rintro e w2 ⟨rfl, rfl⟩
      go_wp2_with (fail)
      refine (av_awake _).mono ?_
      rintro e w1 ⟨rfl, h1⟩
      go_wp2_with (fail)
      go_ret
      exact ⟨rfl, h0.below.trans (h1.mono h0.below.size)⟩
  · have hb1 : l.length ≤ 300 := by omega
    have hb2 : l'.length ≤ 300 := by omega
    clear hbig
    go_enter Try.func8, Try.ntmps8
    go_wp2_with (fail)
    refine (t_new W).mono ?_
    rintro e w0 ⟨rfl, h0⟩
    go_wp2_with (fail)
    refine (CM.out _).mono ?_
    rintro e w2 ⟨rfl, rfl⟩
    go_wp2_with (fail)
    have hz0 : ∃ L, Tz W w0 W.heap.size L 0 := ⟨[], h0, rfl, fun x hx => by cases hx⟩
    have HZ0 := Lib.hid hz0
    clear h0 hz0
    go_loopw [9] (fun i wr => ∃ k : Nat, k ≤ K ∧ i = .int .i64 (k : Nat) ∧ ∃ L, Tz W wr W.heap.size L k) (fun i _ => K - (intOf i).toNat)
    case atStart => exact ⟨0, by omega, rfl, HZ0.out⟩
    case round =>
      obtain ⟨k, hk, rfl, L, ht⟩ := hrel
      clear HZ0
      by_cases hlt : k < K
      · have key : ∃ at' : Nat, at' ≤ k ∧ (∃ v, (l[k]? = some v ∨ (l.length ≤ k ∧ at' = k)) ∧ (k < l.length → ∀ w : World, Calls Try.prog 17 #[.int .i64 v, .int .i64 ((k : Int) + 1)] w fun e w' => e = .returned (.int .i64 (at' : Nat)) ∧ w = w')) := by
          by_cases h1 : k < l.length
          · obtain ⟨q, hq, _, cq⟩ := place_n l[k] (k + 1) (by omega) (by omega)
            exact ⟨q, by omega, l[k], .inl (List.getElem?_eq_getElem h1), fun _ => cq⟩
          · exact ⟨k, by omega, 0, .inr ⟨by omega, rfl⟩, fun h => absurd h h1⟩
        obtain ⟨at', hat, v, hv, cv⟩ := key
        have hlen := ht.len
        have r5 : 0 ≤ (k : Int) % 5 ∧ (k : Int) % 5 < 5 := ⟨Int.emod_nonneg _ (by decide), Int.emod_lt_of_pos _ (by decide)⟩
        have CI := Lib.hid (fun w1 (h : Tt W w1 W.heap.size L) => t_insert at' (k : Int) (1 + (k : Int) % 5) h (by omega) (by omega) (by omega) (by omega))
        have HZ := Lib.hid ht
        have hbl := ht.tt.below
        clear ht
        by_cases h1 : k < l.length
        · obtain ⟨b, o, rfl, _, hc⟩ := reads_cell HA.out hbl h1
          have hv' : l.getD k 0 = v := by
            rcases hv with hv | hv
            · rw [List.getD_eq_getElem?_getD, hv]; rfl
            · omega
          rw [hv'] at hc
          have CV := Lib.hid (cv h1)
          clear hv hv' cv hbl
          obtain ⟨r6, r7⟩ := r5
          go_wp2_with (fail)
          refine (CV.out _).mono ?_
          rintro e w3 ⟨rfl, rfl⟩
          go_wp2_with (fail)
          refine (CI.out _ HZ.out.tt).mono ?_
          rintro e w4 ⟨rfl, h4⟩
          have z4 := HZ.out.ins at' (k : Int) (1 + (k : Int) % 5) hat ⟨by omega, by omega⟩ h4
          have CL := Lib.hid (t_len h4)
          obtain ⟨hh, ⟨p1, p2⟩, ch⟩ := t_height h4
          have CH := Lib.hid ch
          rw [z4.len] at CL p1
          have CE := Lib.hid (fun w => least_calls hh w p2)
          generalize Tr.least hh = q at *
          have g1 : decide ((k : Int) + 1 < (q : Int)) = false := by simp; omega
          have g2 : decide (k + 1 < q) = false := by simp; omega
          have Z4 := Lib.hid z4
          have e1 : (((k + 1 : Nat) : Int) != (k : Int) + 1) = false := by simp
          clear h4 z4 ch CI CV
          go_wp2_with (fail)
          refine CL.out.mono ?_
          rintro e w5 ⟨rfl, rfl⟩
          go_wp2_with (fail)
          refine CH.out.mono ?_
          rintro e w5 ⟨rfl, rfl⟩
          go_wp2_with (fail)
          refine (CE.out _).mono ?_
          rintro e w5 ⟨rfl, rfl⟩
          go_wp2_with (fail)
          go_roundw
          case rel => exact ⟨k + 1, by omega, by go_num, _, Z4.out⟩
          case measure => simp [intOf]; omega
        · obtain rfl : at' = k := by
            rcases hv with hv | hv
            · exact absurd (List.getElem?_eq_some_iff.1 hv).1 h1
            · exact hv.2
          clear hv cv hbl
          obtain ⟨r6, r7⟩ := r5
          go_wp2_with (fail)
          refine (CI.out _ HZ.out.tt).mono ?_
          rintro e w4 ⟨rfl, h4⟩
          have z4 := HZ.out.ins at' (at' : Int) (1 + (at' : Int) % 5) hat ⟨by omega, by omega⟩ h4
          have CL := Lib.hid (t_len h4)
          obtain ⟨hh, ⟨p1, p2⟩, ch⟩ := t_height h4
          have CH := Lib.hid ch
          rw [z4.len] at CL p1
          have CE := Lib.hid (fun w => least_calls hh w p2)
          generalize Tr.least hh = q at *
          have g1 : decide ((at' : Int) + 1 < (q : Int)) = false := by simp; omega
          have g2 : decide (at' + 1 < q) = false := by simp; omega
          have Z4 := Lib.hid z4
          clear h4 z4 ch CI
          go_wp2_with (fail)
          refine CL.out.mono ?_
          rintro e w5 ⟨rfl, rfl⟩
          go_wp2_with (fail)
          refine CH.out.mono ?_
          rintro e w5 ⟨rfl, rfl⟩
          go_wp2_with (fail)
          refine (CE.out _).mono ?_
          rintro e w5 ⟨rfl, rfl⟩
          go_wp2_with (fail)
          go_roundw
          case rel => exact ⟨at' + 1, by omega, by go_num, _, Z4.out⟩
          case measure => simp [intOf]; omega
      · obtain rfl : k = K := by omega
        have HT : Hid (∃ L, Tz W wr W.heap.size L k) := Lib.hid ⟨L, ht⟩
        clear ht hlt L
        go_wp2_with (fail)
        obtain ⟨w9, rfl⟩ : ∃ w9, wr = w9 := ⟨_, rfl⟩
        go_loopw [11, 12] (fun lf i wr => ∃ (left j : Nat), left ≤ 300 ∧ j ≤ l'.length ∧ lf = .int .i64 (left : Nat) ∧ i = .int .i64 (j : Nat) ∧ ∃ L, Tz W wr W.heap.size L left) (fun _ i _ => l'.length - (intOf i).toNat)
        case atStart => exact ⟨k, 0, by omega, by omega, rfl, rfl, HT.out⟩
        case round =>
          obtain ⟨left, j, hl3, hj, rfl, rfl, L, ht⟩ := hrel
          clear HT
          by_cases hgo : j < l'.length ∧ 0 < left
          · obtain ⟨h1, h2⟩ := hgo
            obtain ⟨b, o, rfl, _, hc⟩ := reads_cell HA'.out ht.tt.below h1
            obtain ⟨v, hv⟩ : ∃ v, v = l'.getD j 0 := ⟨_, rfl⟩
            rw [← hv] at hc
            clear hv
            obtain ⟨q, hq, _, cq⟩ := place_n v left h2 (by omega)
            have CQ := Lib.hid cq
            have hlen := ht.len
            have CR := Lib.hid (t_remove q ht.tt (by omega))
            have HZ := Lib.hid ht
            clear ht cq
            go_wp2_with (fail)
            refine (CQ.out _).mono ?_
            rintro e w3 ⟨rfl, rfl⟩
            go_wp2_with (fail)
            refine CR.out.mono ?_
            rintro e w4 ⟨rfl, h4⟩
            have z4 := HZ.out.cut q hq h4
            have CL := Lib.hid (t_len h4)
            obtain ⟨hh, ⟨p1, p2⟩, ch⟩ := t_height h4
            have CH := Lib.hid ch
            rw [z4.len] at CL p1
            have CE := Lib.hid (fun w => least_calls hh w p2)
            generalize Tr.least hh = qq at *
            have hc1 : ((left - 1 : Nat) : Int) = (left : Int) - 1 := by omega
            rw [hc1] at CL
            have g1 : decide ((left : Int) - 1 < (qq : Int)) = false := by simp; omega
            have Z4 := Lib.hid z4
            clear h4 z4 ch CR hc1
            go_wp2_with (fail)
            refine CL.out.mono ?_
            rintro e w5 ⟨rfl, rfl⟩
            go_wp2_with (fail)
            refine CH.out.mono ?_
            rintro e w5 ⟨rfl, rfl⟩
            go_wp2_with (fail)
            refine (CE.out _).mono ?_
            rintro e w5 ⟨rfl, rfl⟩
            go_wp2_with (fail)
            go_roundw
            case rel => exact ⟨left - 1, j + 1, by omega, by omega, by rw [show ((left - 1 : Nat) : Int) = (left : Int) - 1 by omega], by go_num, _, Z4.out⟩
            case measure => simp [intOf]; omega
          · have HZ := Lib.hid ht
            clear ht
            by_cases h1 : j < l'.length
            · have h2 : left = 0 := by omega
              subst h2
              clear hgo
              go_wp2_with (fail)
              go_loopw [13] (fun i wr => i = .int .i64 0 ∧ Tz W wr W.heap.size L 0) (fun _ _ => 0)
              case atStart => exact ⟨rfl, HZ.out⟩
              case round =>
                obtain ⟨rfl, ht⟩ := hrel
                go_wp2_with (fail)
                refine (av_awake _).mono ?_
                rintro e w5 ⟨rfl, h5⟩
                go_wp2_with (fail)
                go_ret
                exact ⟨rfl, ht.tt.below.trans (h5.mono ht.tt.below.size)⟩
            · clear hgo
              go_wp2_with (fail)
              go_loopw [13] (fun i wr => ∃ j : Nat, j ≤ left ∧ i = .int .i64 (j : Nat) ∧ Tz W wr W.heap.size L left) (fun i _ => left - (intOf i).toNat)
              case atStart => exact ⟨0, by omega, rfl, HZ.out⟩
              case round =>
                obtain ⟨i, hi, rfl, ht⟩ := hrel
                clear HZ
                by_cases hlt : i < left
                · have hlen := ht.len
                  have hs := ht.sum
                  have hsp : ∀ x ∈ L, 0 ≤ x.2 := fun x hx => by have := ht.pos x hx; omega
                  have hp := preL_le L i hsp
                  have hx : L[i]? = some (L[i]'(by omega)) := List.getElem?_eq_getElem (by omega)
                  have E := Lib.hid (findL_pre L i _ hsp hx (by have := ht.pos _ (List.getElem_mem (show i < L.length by omega)); omega))
                  have CB := Lib.hid (t_before i ht.tt (by omega))
                  have CF := Lib.hid (fun w1 (h : Tt W w1 W.heap.size L) => t_find (preL L i) h hp.1 (by omega))
                  rw [E.out] at CF
                  have HL := Lib.hid ht.len
                  have HP := Lib.hid ht.pos
                  clear ht hx hsp hs hlen
                  generalize preL L i = pi at *
                  obtain ⟨hp1, hp2⟩ := hp
                  go_wp2_with (fail)
                  refine CB.out.mono ?_
                  rintro e w3 ⟨rfl, h3⟩
                  go_wp2_with (fail)
                  refine (CF.out _ h3).mono ?_
                  rintro e w4 ⟨rfl, h4⟩
                  clear h3 CB CF
                  go_wp2_with (fail)
                  go_roundw
                  case rel => exact ⟨i + 1, by omega, by go_num, h4, HL.out, HP.out⟩
                  case measure => simp [intOf]; omega
                · go_wp2_with (fail)
                  refine (av_awake _).mono ?_
                  rintro e w5 ⟨rfl, h5⟩
                  go_wp2_with (fail)
                  go_ret
                  exact ⟨rfl, ht.tt.below.trans (h5.mono ht.tt.below.size)⟩
end Go.Proofs.Ytemcffihfeaniaa

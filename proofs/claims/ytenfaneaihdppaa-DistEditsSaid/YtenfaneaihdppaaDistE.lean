/- DistEdits' walk. -/
import Derived.Test.YtenfaneaihdppaaDistC
import Derived.Test.YtenfaneaihdppaaAp2
import Derived.Deep.CutBlock
namespace Go.Proofs.Ytenfaneaihdppaa
set_option linter.unusedVariables false
open Go.RowKit Go.Deep Go.Own
/-- what a round makes of the list: one edit by a number -/
def edit (m : Nat) (b : List Int) (k : Int) : List Int :=
  let at_ := (k / 4 % ((b.length : Int) + 1)).toNat
  if k % 4 = 0 ∨ b.length ≤ at_ then b.take at_ ++ [k] ++ b.drop at_
  else if k % 4 = 1 then b.take at_ ++ b.drop (at_ + 1)
  else if k % 4 = 2 ∨ b.length ≤ at_ + 1 ∨ 1 < m then b.set at_ k
  else (b.set at_ (b.getD (at_ + 1) 0)).set (at_ + 1) (b.getD at_ 0)
def edits (m : Nat) (l how : List Int) : List Int := how.foldl (fun b v => edit m b (v % 1048576)) l
theorem edit_len (m : Nat) (b : List Int) (k : Int) : (edit m b k).length ≤ b.length + 1 := by
  unfold edit; simp only; split
  · simp only [List.length_append, List.length_take, List.length_drop, List.length_singleton]; omega
  · split
    · simp only [List.length_append, List.length_take, List.length_drop]; omega
    · split <;> simp
theorem take_one_drop (b : List Int) (p : Nat) (h : p < b.length) : b = b.take p ++ [b.getD p 0] ++ b.drop (p + 1) := by
  have e : b.getD p 0 = b[p] := by simp [List.getD_eq_getElem?_getD, h]
  rw [e, List.append_assoc, List.singleton_append, List.getElem_cons_drop, List.take_append_drop]
theorem set_split (b : List Int) (p : Nat) (x : Int) (h : p < b.length) : b.set p x = b.take p ++ [x] ++ b.drop (p + 1) := by
  rw [List.set_eq_take_append_cons_drop, if_pos h]; simp
theorem edit_few (m : Nat) (hm : 1 < m) (a b : List Int) (k : Int) (n : Nat) (h : Dst.Few a b n) : Dst.Few a (edit m b k) (n + 1) := by
  unfold edit
  simp only
  generalize (k / 4 % ((b.length : Int) + 1)).toNat = p
  split
  · exact Dst.Few.put k (by rw [List.take_append_drop]; exact h)
  · rename_i h1
    have hp : p < b.length := by omega
    have hs := take_one_drop b p hp
    split
    · exact Dst.Few.gone (e := b.getD p 0) (by rw [← hs]; exact h)
    · rw [if_pos (.inr (.inr hm)), set_split b p k hp]
      exact Dst.Few.turn (e := b.getD p 0) k (by rw [← hs]; exact h)
theorem edits_few (m : Nat) (hm : 1 < m) (a : List Int) : ∀ (how b : List Int) (n : Nat), Dst.Few a b n → Dst.Few a (edits m b how) (n + how.length)
  | [], b, n, h => by simpa [edits] using h
  | v :: how, b, n, h => by
    have := edits_few m hm a how _ _ (edit_few m hm a b (v % 1048576) n h)
    rw [List.length_cons, show n + (how.length + 1) = n + 1 + how.length by omega]
    exact this
theorem edit_one (a : List Int) (k : Int) : Dst.far a (edit 1 a k) ≤ 1 := by
  unfold edit
  simp only
  generalize (k / 4 % ((a.length : Int) + 1)).toNat = p
  have h := Dst.Few.refl a
  split
  · exact (Dst.Few.put k (n := 0) (by rw [List.take_append_drop]; exact h)).far
  · rename_i h1
    have hp : p < a.length := by omega
    have hs := take_one_drop a p hp
    split
    · exact (Dst.Few.gone (n := 0) (e := a.getD p 0) (by rw [← hs]; exact h)).far
    · split
      · rw [set_split a p k hp]
        exact (Dst.Few.turn (n := 0) (e := a.getD p 0) k (by rw [← hs]; exact h)).far
      · rename_i h3
        have hp1 : p + 1 < a.length := by omega
        have e1 : a = a.take p ++ (a.getD p 0 :: a.getD (p + 1) 0 :: a.drop (p + 2)) := by
          have e2 : a.drop p = a.getD p 0 :: a.getD (p + 1) 0 :: a.drop (p + 2) := by
            rw [List.drop_eq_getElem_cons hp, List.drop_eq_getElem_cons hp1]
            simp [List.getD_eq_getElem?_getD, hp, hp1]
          rw [← e2, List.take_append_drop]
        have e3 : (a.set p (a.getD (p + 1) 0)).set (p + 1) (a.getD p 0) = a.take p ++ (a.getD (p + 1) 0 :: a.getD p 0 :: a.drop (p + 2)) := by
          have hl : (a.take p).length = p := by rw [List.length_take]; omega
          generalize hx : a.getD p 0 = x at *
          generalize hy : a.getD (p + 1) 0 = y at *
          generalize hz : a.drop (p + 2) = z at *
          generalize hq : a.take p = q at *
          rw [e1, List.set_append_right _ _ (by omega), List.set_append_right _ _ (by omega), hl]
          simp
        rw [e3]
        conv => lhs; arg 1; rw [e1]
        exact Dst.far_swap _ _ _ _
theorem edits_far (a how : List Int) : Dst.far a (edits how.length a how) ≤ how.length ∧ Dst.far (edits how.length a how) a ≤ how.length := by
  rw [Dst.far_comm (edits how.length a how) a]
  suffices h : Dst.far a (edits how.length a how) ≤ how.length from ⟨h, h⟩
  match how with
  | [] => simp [edits, Dst.far_self]
  | [v] => exact edit_one a _
  | v :: v' :: r =>
    have := edits_few (v :: v' :: r).length (by simp) a (v :: v' :: r) a 0 (Dst.Few.refl a)
    rw [Nat.zero_add] at this
    exact this.far
set_option maxRecDepth 100000 in
set_option maxHeartbeats 8000000 in
theorem distEdits_walk (A : Option Addr) (ca : Nat) (a : List Int) (B : Option Addr) (cb : Nat) (b : List Int) (W : World) (hA : Reads W A a) (hla : a.length * 8 ≤ 140737488351232) (hB : Reads W B b) (hlb : b.length * 8 ≤ 140737488351232) :
    Calls Try.prog 5 #[.slice A a.length ca, .slice B b.length cb] W fun e w' => e = .returned (.bool true) ∧ Below W.heap.size W w' := by
  have HA := Lib.hid hA
  have HB := Lib.hid hB
  clear hA hB
  by_cases h1 : a.length ≤ 40
  · by_cases h2 : b.length ≤ 5
    · have g1 : decide ((40 : Int) < (a.length : Int)) = false := by simp; omega
      have g2 : decide ((5 : Int) < (b.length : Int)) = false := by simp; omega
      obtain ⟨i0, hi, hz0, hz1, hz2⟩ := info_parts info3
      have m1 : 0 + a.length ≤ maxLen := by simp only [maxLen]; omega
      have m2 : (0 + a.length) * 8 ≤ 140737488355328 := by omega
      go_enter Try.func5, Try.ntmps5
      go_wp2_with (first
        | (at_builtin; refine own_append rfl (.const (.slice none 0 0)) (.tmp 18) 22 22 rfl W.heap.size 3 i0 (.int .i64 0) 1 8 Try.underlying22 hi hz0 hz1 hz2 rfl (by decide) (.slice none 0 0) 0 [] rfl (World.ownsRow_nil _ _ _ _) (.slice A a.length ca) rfl a.length _ (src_reads Try.underlying22 ca HA.out) m1 m2 (Nat.le_refl _) ?_; intro v2 w2 o2 q2))
      have b2 := below_grown q2 (Nat.le_refl _) (fun k h => by cases h)
      have P2 : OwnI w2 W.heap.size 3 v2 a := by unfold OwnI; simpa using o2
      clear o2 q2
      go_loopw [5, 6] (fun s t wr => ∃ i : Nat, ∃ l : List Int, i ≤ b.length ∧ t = .int .i64 (i : Nat) ∧ l = edits b.length a (b.take i) ∧ l.length ≤ a.length + i ∧ OwnI wr W.heap.size 3 s l ∧ Below W.heap.size W wr) (fun _ t _ => b.length - (intOf t).toNat)
      case atStart => exact ⟨0, a, by omega, rfl, by simp [edits], by omega, P2, b2⟩
      case round =>
        clear P2 b2
        obtain ⟨i, l, hi5, rfl, hl, hll, P, hbl⟩ := hrel
        obtain ⟨LA, lc, rfl, hlc, hR⟩ := P.reads
        by_cases hib : i < b.length
        · obtain ⟨bb, ob, rfl, hB'⟩ := HB.out (by omega)
          have x1 := hB' _ (since_of_below hbl) i hib
          obtain ⟨v, hv⟩ : ∃ v, v = b.getD i 0 := ⟨_, rfl⟩
          rw [← hv] at x1
          have k0 := Int.emod_nonneg v (show (1048576 : Int) ≠ 0 by decide)
          have k1 := Int.emod_lt_of_pos v (show (0 : Int) < 1048576 by decide)
          obtain ⟨kk, hkk⟩ : ∃ kk : Nat, v % 1048576 = (kk : Int) := ⟨(v % 1048576).toNat, by omega⟩
          have hkb : kk < 1048576 := by omega
          obtain ⟨p, hp⟩ : ∃ p, p = kk / 4 % (l.length + 1) := ⟨_, rfl⟩
          have hpl : p ≤ l.length := by have := Nat.mod_lt (kk / 4) (show 0 < l.length + 1 by omega); omega
          have e1 : (kk : Int) / 4 % ((l.length : Int) + 1) = (p : Nat) := by rw [hp]; simp
          obtain ⟨r, hr⟩ : ∃ r, r = kk % 4 := ⟨_, rfl⟩
          have e2 : (kk : Int) % 4 = (r : Nat) := by rw [hr]; simp
          have hr4 : r < 4 := by omega
          have hed : edit b.length l (v % 1048576) = if r = 0 ∨ l.length ≤ p then l.take p ++ [(kk : Int)] ++ l.drop p
              else if r = 1 then l.take p ++ l.drop (p + 1)
              else if r = 2 ∨ l.length ≤ p + 1 ∨ 1 < b.length then l.set p kk
              else (l.set p (l.getD (p + 1) 0)).set (p + 1) (l.getD p 0) := by
            unfold edit
            simp only [hkk, e1, e2, Int.toNat_natCast]
            have c0 : ((r : Int) = 0) = (r = 0) := by apply propext; omega
            have c1 : ((r : Int) = 1) = (r = 1) := by apply propext; omega
            have c2 : ((r : Int) = 2) = (r = 2) := by apply propext; omega
            simp only [c0, c1, c2]
          have hnx : edits b.length a (b.take (i + 1)) = edit b.length l (v % 1048576) := by
            rw [hl, hv]
            unfold edits
            rw [List.take_succ_eq_append_getElem hib, List.foldl_append]
            simp [List.getD_eq_getElem?_getD, hib]
          have NX : Hid (edits b.length a (b.take (i + 1)) = _) := Lib.hid (hnx.trans hed)
          have HNX := Lib.hid hnx
          have HKK := Lib.hid hkk
          clear hv hl hB' hp hr hed hnx hkk k0 k1
          have cpl : ∀ w : World, Calls Try.prog 12 #[.int .i64 v, .int .i64 1048576] w fun e w' => e = .returned (.int .i64 (kk : Nat)) ∧ w = w' := fun w => by rw [← HKK.out]; exact place_calls v 1048576 _ (by decide) (by decide)
          have HP := Lib.hid P
          have HR := Lib.hid hR
          clear P hR
          have i1 : (p : Int) ≤ (lc : Int) := by omega
          have i2 : (p : Int) ≤ (l.length : Int) := by omega
          have q1 : 0 + p ≤ maxLen := by simp only [maxLen]; omega
          have q2 : (0 + p) * 8 ≤ 140737488355328 := by omega
          have q3 : 0 + p + 1 ≤ maxLen := by simp only [maxLen]; omega
          have q4 : (0 + p + 1) * 8 ≤ 140737488355328 := by omega
          have q5 : 0 + p + 1 + (l.length - p) ≤ maxLen := by simp only [maxLen]; omega
          have q6 : (0 + p + 1 + (l.length - p)) * 8 ≤ 140737488355328 := by omega
          have hsz1 : ∀ w, (sizeOf 3).run Try.prog w = .ok 1 w := fun w => by kernel_rfl
          have f1 : ∀ w, (Instr.slice 22 (.slice LA l.length lc) none (some (.int .i64 (p : Nat))) none).run Try.prog w = .ok (.slice LA p lc) w := fun w => run_sliced_to Try.underlying22 hsz1 LA l.length lc p (by omega) .i64 w
          obtain ⟨SL, hSL⟩ : ∃ s : Value, s = .slice (if lc = p then LA else LA.map (·.add (p * 1))) (l.length - p) (lc - p) := ⟨_, rfl⟩
          have f2 : ∀ w, (Instr.slice 22 (.slice LA l.length lc) (some (.int .i64 (p : Nat))) none none).run Try.prog w = .ok SL w := fun w => by rw [hSL]; exact run_sliced_from Try.underlying22 hsz1 LA l.length lc p hpl hlc .i64 w
          have SRC := Lib.hid (show ∀ w', Below wr.heap.size wr w' → Src Try.prog 1 22 SL (l.length - p) ((l.drop p).map (Value.int .i64)) w' from fun w' hb => by rw [hSL]; exact src_sliced Try.underlying22 hpl hlc (HR.out.later hb))
          clear hsz1 hSL
          go_upto_block 1 with (fail)
          go_cut [5] (fun s wx => OwnI wx W.heap.size 3 s (edits b.length a (b.take (i + 1))) ∧ Below W.heap.size W wx)
          case first =>
            by_cases hr0 : r = 0
            · have t1 : (((r : Nat) : Int) == 0) = true := by simp; omega
              have INS : Hid (l.take p ++ [(kk : Int)] ++ l.drop p = edits b.length a (b.take (i + 1))) := Lib.hid (by rw [NX.out, if_pos (.inl hr0)])
              clear hr0
              go_wp2_with (go_at_call 12; refine (cpl _).mono ?_; rintro e w' ⟨rfl, rfl⟩)
              clear x1
              refine Own.region_mix (fun _ => True) [0, 0, 3, 7, 0, 16, 63, 0, 0, 384, 1023, 2047] (Own.Ord.run [(0, true), (1, true), (2, true), (4, true), (7, true), (8, true), (9, true)] (.fork (.go 3 false (Own.Ord.run [(5, false), (6, false), (10, false), (11, true)] .done)) (.go 5 false (Own.Ord.run [(3, false), (6, false), (10, false), (11, true)] .done)))) (by kernel_rfl) (by kernel_rfl) (fun dst v c a w h => by cases dst <;> exact h) trivial ?_
              simp only [Own.Ord.run]
              repeat (refine Own.st_blind _ rfl rfl ?_; go_big_quiet_step (fail); refine wpQuiet_nil ?_)
              refine Own.mix_fork ?_ ?_
              · refine Own.st_do _ rfl rfl (fun K hK => ?_)
                refine own_append_wp (.const (.slice none 0 0)) (.tmp 67) 22 22 rfl wr.heap.size 3 i0 (.int .i64 0) 1 8 Try.underlying22 hi hz0 hz1 hz2 rfl (by decide) (.slice none 0 0) 0 [] rfl (World.ownsRow_nil _ _ _ _) (.slice LA p lc) rfl p _ (src_take Try.underlying22 hpl lc (HR.out.later ((Below.refl _ _).drew))) q1 q2 (Nat.le_refl _) ?_
                intro v1 w1 o1 g1x
                refine hK _ _ trivial ?_
                clear hK K
                simp only [Act.put, List.setIfInBounds_toArray, List.set_cons_succ, List.set_cons_zero]
                have b1 : Below wr.heap.size wr w1 := ((Below.refl _ _).drew).trans (below_grown g1x (Nat.le_refl _) (fun k h => by cases h))
                refine Own.st_do _ rfl rfl (fun K hK => ?_)
                go_simp
                refine hK _ _ trivial ?_
                clear hK K
                refine Own.st_do _ rfl rfl (fun K hK => ?_)
                refine own_append_wp (.tmp 68) (.tmp 70) 22 22 rfl wr.heap.size 3 i0 (.int .i64 0) 1 8 Try.underlying22 hi hz0 hz1 hz2 rfl (by decide) v1 _ _ rfl (o1.alloc _) _ rfl 1 _ (src_one (x := .int .i64 (kk : Nat)) Try.underlying22 rfl (by simp [World.cell?_alloc_new])) q3 q4 (by simp; have := b1.size; omega) ?_
                intro v3 w3 o3 g3x
                refine hK _ _ trivial ?_
                clear hK K
                simp only [Act.put, List.setIfInBounds_toArray, List.set_cons_succ, List.set_cons_zero]
                have b3 : Below wr.heap.size wr w3 := (b1.alloc b1.size _).trans (below_grown g3x (by simp; have := b1.size; omega) (fun k h => (own_block_lt o1 h).1))
                refine Own.st_do _ rfl rfl (fun K hK => ?_)
                refine own_append_wp (.tmp 71) (.tmp 74) 22 22 rfl wr.heap.size 3 i0 (.int .i64 0) 1 8 Try.underlying22 hi hz0 hz1 hz2 rfl (by decide) v3 _ _ rfl o3 SL rfl (l.length - p) _ (SRC.out _ b3) q5 q6 b3.size ?_
                intro v5 w5 o5 g5x
                refine hK _ _ trivial ?_
                clear hK K
                simp only [Act.put, List.setIfInBounds_toArray, List.set_cons_succ, List.set_cons_zero]
                have b5 : Below wr.heap.size wr w5 := b3.trans (below_grown g5x b3.size (fun k h => (own_block_lt o3 h).1))
                repeat (refine Own.st_blind _ rfl rfl ?_; go_big_quiet_step (fail); refine wpQuiet_nil ?_)
                refine Own.mix_done ?_
                go_wp2
                go_meet
                refine ⟨?_, hbl.trans (b5.mono hbl.size)⟩
                have o6 := own_base o5 (show W.heap.size ≤ wr.heap.size from hbl.size)
                have hlen : (l.take p ++ [(kk : Int)] ++ l.drop p).length = 0 + p + 1 + (l.length - p) := by simp; omega
                rw [← INS.out]
                unfold OwnI
                rw [hlen]
                simpa using o6
              · refine Own.st_do _ rfl rfl (fun K hK => ?_)
                go_simp
                refine hK _ _ trivial ?_
                clear hK K
                have c0 : (wr.drew.alloc (.cells #[.int .i64 (kk : Nat)] 3)).cell? ⟨wr.heap.size, 0, none⟩ = some (.int .i64 (kk : Nat)) := cell_new1 wr.drew _ _
                refine Own.st_do _ rfl rfl (fun K hK => ?_)
                refine own_append_wp (.const (.slice none 0 0)) (.tmp 67) 22 22 rfl wr.heap.size 3 i0 (.int .i64 0) 1 8 Try.underlying22 hi hz0 hz1 hz2 rfl (by decide) (.slice none 0 0) 0 [] rfl (World.ownsRow_nil _ _ _ _) (.slice LA p lc) rfl p _ (src_take Try.underlying22 hpl lc (HR.out.later (((Below.refl _ _).drew).alloc (Nat.le_refl _) _))) q1 q2 (by simp) ?_
                intro v1 w1 o1 g1x
                refine hK _ _ trivial ?_
                clear hK K
                simp only [Act.put, List.setIfInBounds_toArray, List.set_cons_succ, List.set_cons_zero]
                have b1 : Below wr.heap.size wr w1 := (((Below.refl _ _).drew).alloc (Nat.le_refl _) _).trans (below_grown g1x (by simp) (fun k h => by cases h))
                have c1 := cell_grown g1x c0 (by simp [Value.ownBlock])
                refine Own.st_do _ rfl rfl (fun K hK => ?_)
                refine own_append_wp (.tmp 68) (.tmp 70) 22 22 rfl wr.heap.size 3 i0 (.int .i64 0) 1 8 Try.underlying22 hi hz0 hz1 hz2 rfl (by decide) v1 _ _ rfl o1 _ rfl 1 _ (src_one (x := .int .i64 (kk : Nat)) Try.underlying22 rfl c1) q3 q4 b1.size ?_
                intro v3 w3 o3 g3x
                refine hK _ _ trivial ?_
                clear hK K
                simp only [Act.put, List.setIfInBounds_toArray, List.set_cons_succ, List.set_cons_zero]
                have b3 : Below wr.heap.size wr w3 := b1.trans (below_grown g3x b1.size (fun k h => (own_block_lt o1 h).1))
                refine Own.st_do _ rfl rfl (fun K hK => ?_)
                refine own_append_wp (.tmp 71) (.tmp 74) 22 22 rfl wr.heap.size 3 i0 (.int .i64 0) 1 8 Try.underlying22 hi hz0 hz1 hz2 rfl (by decide) v3 _ _ rfl o3 SL rfl (l.length - p) _ (SRC.out _ b3) q5 q6 b3.size ?_
                intro v5 w5 o5 g5x
                refine hK _ _ trivial ?_
                clear hK K
                simp only [Act.put, List.setIfInBounds_toArray, List.set_cons_succ, List.set_cons_zero]
                have b5 : Below wr.heap.size wr w5 := b3.trans (below_grown g5x b3.size (fun k h => (own_block_lt o3 h).1))
                repeat (refine Own.st_blind _ rfl rfl ?_; go_big_quiet_step (fail); refine wpQuiet_nil ?_)
                refine Own.mix_done ?_
                go_wp2
                go_meet
                refine ⟨?_, hbl.trans (b5.mono hbl.size)⟩
                have o6 := own_base o5 (show W.heap.size ≤ wr.heap.size from hbl.size)
                have hlen : (l.take p ++ [(kk : Int)] ++ l.drop p).length = 0 + p + 1 + (l.length - p) := by simp; omega
                rw [← INS.out]
                unfold OwnI
                rw [hlen]
                simpa using o6
            have t1 : (((r : Nat) : Int) == 0) = false := by simp; omega
            by_cases hlp : l.length ≤ p
            · have t2 : decide (l.length ≤ p) = true := by simp; omega
              have INS : Hid (l.take p ++ [(kk : Int)] ++ l.drop p = edits b.length a (b.take (i + 1))) := Lib.hid (by rw [NX.out, if_pos (.inr hlp)])
              clear hr0 hlp
              go_wp2_with (go_at_call 12; refine (cpl _).mono ?_; rintro e w' ⟨rfl, rfl⟩)
              clear x1
              refine Own.region_mix (fun _ => True) [0, 0, 3, 7, 0, 16, 63, 0, 0, 384, 1023, 2047] (Own.Ord.run [(0, true), (1, true), (2, true), (4, true), (7, true), (8, true), (9, true)] (.fork (.go 3 false (Own.Ord.run [(5, false), (6, false), (10, false), (11, true)] .done)) (.go 5 false (Own.Ord.run [(3, false), (6, false), (10, false), (11, true)] .done)))) (by kernel_rfl) (by kernel_rfl) (fun dst v c a w h => by cases dst <;> exact h) trivial ?_
              simp only [Own.Ord.run]
              repeat (refine Own.st_blind _ rfl rfl ?_; go_big_quiet_step (fail); refine wpQuiet_nil ?_)
              refine Own.mix_fork ?_ ?_
              · refine Own.st_do _ rfl rfl (fun K hK => ?_)
                refine own_append_wp (.const (.slice none 0 0)) (.tmp 67) 22 22 rfl wr.heap.size 3 i0 (.int .i64 0) 1 8 Try.underlying22 hi hz0 hz1 hz2 rfl (by decide) (.slice none 0 0) 0 [] rfl (World.ownsRow_nil _ _ _ _) (.slice LA p lc) rfl p _ (src_take Try.underlying22 hpl lc (HR.out.later ((Below.refl _ _).drew))) q1 q2 (Nat.le_refl _) ?_
                intro v1 w1 o1 g1x
                refine hK _ _ trivial ?_
                clear hK K
                simp only [Act.put, List.setIfInBounds_toArray, List.set_cons_succ, List.set_cons_zero]
                have b1 : Below wr.heap.size wr w1 := ((Below.refl _ _).drew).trans (below_grown g1x (Nat.le_refl _) (fun k h => by cases h))
                refine Own.st_do _ rfl rfl (fun K hK => ?_)
                go_simp
                refine hK _ _ trivial ?_
                clear hK K
                refine Own.st_do _ rfl rfl (fun K hK => ?_)
                refine own_append_wp (.tmp 68) (.tmp 70) 22 22 rfl wr.heap.size 3 i0 (.int .i64 0) 1 8 Try.underlying22 hi hz0 hz1 hz2 rfl (by decide) v1 _ _ rfl (o1.alloc _) _ rfl 1 _ (src_one (x := .int .i64 (kk : Nat)) Try.underlying22 rfl (by simp [World.cell?_alloc_new])) q3 q4 (by simp; have := b1.size; omega) ?_
                intro v3 w3 o3 g3x
                refine hK _ _ trivial ?_
                clear hK K
                simp only [Act.put, List.setIfInBounds_toArray, List.set_cons_succ, List.set_cons_zero]
                have b3 : Below wr.heap.size wr w3 := (b1.alloc b1.size _).trans (below_grown g3x (by simp; have := b1.size; omega) (fun k h => (own_block_lt o1 h).1))
                refine Own.st_do _ rfl rfl (fun K hK => ?_)
                refine own_append_wp (.tmp 71) (.tmp 74) 22 22 rfl wr.heap.size 3 i0 (.int .i64 0) 1 8 Try.underlying22 hi hz0 hz1 hz2 rfl (by decide) v3 _ _ rfl o3 SL rfl (l.length - p) _ (SRC.out _ b3) q5 q6 b3.size ?_
                intro v5 w5 o5 g5x
                refine hK _ _ trivial ?_
                clear hK K
                simp only [Act.put, List.setIfInBounds_toArray, List.set_cons_succ, List.set_cons_zero]
                have b5 : Below wr.heap.size wr w5 := b3.trans (below_grown g5x b3.size (fun k h => (own_block_lt o3 h).1))
                repeat (refine Own.st_blind _ rfl rfl ?_; go_big_quiet_step (fail); refine wpQuiet_nil ?_)
                refine Own.mix_done ?_
                go_wp2
                go_meet
                refine ⟨?_, hbl.trans (b5.mono hbl.size)⟩
                have o6 := own_base o5 (show W.heap.size ≤ wr.heap.size from hbl.size)
                have hlen : (l.take p ++ [(kk : Int)] ++ l.drop p).length = 0 + p + 1 + (l.length - p) := by simp; omega
                rw [← INS.out]
                unfold OwnI
                rw [hlen]
                simpa using o6
              · refine Own.st_do _ rfl rfl (fun K hK => ?_)
                go_simp
                refine hK _ _ trivial ?_
                clear hK K
                have c0 : (wr.drew.alloc (.cells #[.int .i64 (kk : Nat)] 3)).cell? ⟨wr.heap.size, 0, none⟩ = some (.int .i64 (kk : Nat)) := cell_new1 wr.drew _ _
                refine Own.st_do _ rfl rfl (fun K hK => ?_)
                refine own_append_wp (.const (.slice none 0 0)) (.tmp 67) 22 22 rfl wr.heap.size 3 i0 (.int .i64 0) 1 8 Try.underlying22 hi hz0 hz1 hz2 rfl (by decide) (.slice none 0 0) 0 [] rfl (World.ownsRow_nil _ _ _ _) (.slice LA p lc) rfl p _ (src_take Try.underlying22 hpl lc (HR.out.later (((Below.refl _ _).drew).alloc (Nat.le_refl _) _))) q1 q2 (by simp) ?_
                intro v1 w1 o1 g1x
                refine hK _ _ trivial ?_
                clear hK K
                simp only [Act.put, List.setIfInBounds_toArray, List.set_cons_succ, List.set_cons_zero]
                have b1 : Below wr.heap.size wr w1 := (((Below.refl _ _).drew).alloc (Nat.le_refl _) _).trans (below_grown g1x (by simp) (fun k h => by cases h))
                have c1 := cell_grown g1x c0 (by simp [Value.ownBlock])
                refine Own.st_do _ rfl rfl (fun K hK => ?_)
                refine own_append_wp (.tmp 68) (.tmp 70) 22 22 rfl wr.heap.size 3 i0 (.int .i64 0) 1 8 Try.underlying22 hi hz0 hz1 hz2 rfl (by decide) v1 _ _ rfl o1 _ rfl 1 _ (src_one (x := .int .i64 (kk : Nat)) Try.underlying22 rfl c1) q3 q4 b1.size ?_
                intro v3 w3 o3 g3x
                refine hK _ _ trivial ?_
                clear hK K
                simp only [Act.put, List.setIfInBounds_toArray, List.set_cons_succ, List.set_cons_zero]
                have b3 : Below wr.heap.size wr w3 := b1.trans (below_grown g3x b1.size (fun k h => (own_block_lt o1 h).1))
                refine Own.st_do _ rfl rfl (fun K hK => ?_)
                refine own_append_wp (.tmp 71) (.tmp 74) 22 22 rfl wr.heap.size 3 i0 (.int .i64 0) 1 8 Try.underlying22 hi hz0 hz1 hz2 rfl (by decide) v3 _ _ rfl o3 SL rfl (l.length - p) _ (SRC.out _ b3) q5 q6 b3.size ?_
                intro v5 w5 o5 g5x
                refine hK _ _ trivial ?_
                clear hK K
                simp only [Act.put, List.setIfInBounds_toArray, List.set_cons_succ, List.set_cons_zero]
                have b5 : Below wr.heap.size wr w5 := b3.trans (below_grown g5x b3.size (fun k h => (own_block_lt o3 h).1))
                repeat (refine Own.st_blind _ rfl rfl ?_; go_big_quiet_step (fail); refine wpQuiet_nil ?_)
                refine Own.mix_done ?_
                go_wp2
                go_meet
                refine ⟨?_, hbl.trans (b5.mono hbl.size)⟩
                have o6 := own_base o5 (show W.heap.size ≤ wr.heap.size from hbl.size)
                have hlen : (l.take p ++ [(kk : Int)] ++ l.drop p).length = 0 + p + 1 + (l.length - p) := by simp; omega
                rw [← INS.out]
                unfold OwnI
                rw [hlen]
                simpa using o6
            have t2 : decide (l.length ≤ p) = false := by simp; omega
            have NX2 := Lib.hid (show edits b.length a (b.take (i + 1)) = _ from NX.out.trans (if_neg (by omega)))
            clear NX
            have hpl1 : p + 1 ≤ l.length := by omega
            by_cases hr1 : r = 1
            · have t3 : (((r : Nat) : Int) == 1) = true := by simp; omega
              have INS : Hid (l.take p ++ l.drop (p + 1) = edits b.length a (b.take (i + 1))) := Lib.hid (by rw [NX2.out, if_pos hr1])
              have hsz2 : ∀ w, (sizeOf 3).run Try.prog w = .ok 1 w := fun w => by kernel_rfl
              obtain ⟨SL2, hSL2⟩ : ∃ s : Value, s = .slice (if lc = p + 1 then LA else LA.map (·.add ((p + 1) * 1))) (l.length - (p + 1)) (lc - (p + 1)) := ⟨_, rfl⟩
              have f3 : ∀ w, (Instr.slice 22 (.slice LA l.length lc) (some (.int .i64 ((p : Int) + 1))) none none).run Try.prog w = .ok SL2 w := fun w => by
                rw [hSL2]; have := run_sliced_from Try.underlying22 hsz2 LA l.length lc (p + 1) hpl1 hlc .i64 w
                rw [show (((p + 1 : Nat)) : Int) = (p : Int) + 1 from by omega] at this; exact this
              have SRC2 := Lib.hid (show ∀ w', Below wr.heap.size wr w' → Src Try.prog 1 22 SL2 (l.length - (p + 1)) ((l.drop (p + 1)).map (Value.int .i64)) w' from fun w' hb => by rw [hSL2]; exact src_sliced Try.underlying22 hpl1 hlc (HR.out.later hb))
              have q7 : 0 + p + (l.length - (p + 1)) ≤ maxLen := by simp only [maxLen]; omega
              have q8 : (0 + p + (l.length - (p + 1))) * 8 ≤ 140737488355328 := by omega
              clear hr0 hlp hr1 hsz2 hSL2 f2
              go_wp2_with (go_at_call 12; refine (cpl _).mono ?_; rintro e w' ⟨rfl, rfl⟩)
              clear x1
              refine Own.region_mix (fun _ => True) [0, 0, 3, 7, 0, 0, 32, 112, 255, 511] (Own.Ord.run [(0, true), (1, true), (2, true), (4, true), (5, true), (6, true), (7, true), (3, false), (8, false), (9, true)] .done) (by kernel_rfl) (by kernel_rfl) (fun dst v c a w h => by cases dst <;> exact h) trivial ?_
              simp only [Own.Ord.run]
              repeat (refine Own.st_blind _ rfl rfl ?_; go_big_quiet_step (fail); refine wpQuiet_nil ?_)
              refine Own.st_do _ rfl rfl (fun K hK => ?_)
              refine own_append_wp (.const (.slice none 0 0)) (.tmp 82) 22 22 rfl wr.heap.size 3 i0 (.int .i64 0) 1 8 Try.underlying22 hi hz0 hz1 hz2 rfl (by decide) (.slice none 0 0) 0 [] rfl (World.ownsRow_nil _ _ _ _) (.slice LA p lc) rfl p _ (src_take Try.underlying22 hpl lc (HR.out.later ((Below.refl _ _).drew))) q1 q2 (Nat.le_refl _) ?_
              intro v1 w1 o1 g1x
              refine hK _ _ trivial ?_
              clear hK K
              simp only [Act.put, List.setIfInBounds_toArray, List.set_cons_succ, List.set_cons_zero]
              have b1 : Below wr.heap.size wr w1 := ((Below.refl _ _).drew).trans (below_grown g1x (Nat.le_refl _) (fun k h => by cases h))
              refine Own.st_do _ rfl rfl (fun K hK => ?_)
              refine own_append_wp (.tmp 83) (.tmp 87) 22 22 rfl wr.heap.size 3 i0 (.int .i64 0) 1 8 Try.underlying22 hi hz0 hz1 hz2 rfl (by decide) v1 _ _ rfl o1 SL2 rfl (l.length - (p + 1)) _ (SRC2.out _ b1) q7 q8 b1.size ?_
              intro v3 w3 o3 g3x
              refine hK _ _ trivial ?_
              clear hK K
              simp only [Act.put, List.setIfInBounds_toArray, List.set_cons_succ, List.set_cons_zero]
              have b3 : Below wr.heap.size wr w3 := b1.trans (below_grown g3x b1.size (fun k h => (own_block_lt o1 h).1))
              repeat (refine Own.st_blind _ rfl rfl ?_; go_big_quiet_step (fail); refine wpQuiet_nil ?_)
              refine Own.mix_done ?_
              go_wp2
              go_meet
              refine ⟨?_, hbl.trans (b3.mono hbl.size)⟩
              have o6 := own_base o3 (show W.heap.size ≤ wr.heap.size from hbl.size)
              have hlen : (l.take p ++ l.drop (p + 1)).length = 0 + p + (l.length - (p + 1)) := by simp; omega
              rw [← INS.out]
              unfold OwnI
              rw [hlen]
              simpa using o6
            have t3 : (((r : Nat) : Int) == 1) = false := by simp; omega
            have NX3 := Lib.hid (show edits b.length a (b.take (i + 1)) = _ from NX2.out.trans (if_neg hr1))
            clear NX2
            have hl0 : 0 < l.length := by omega
            have hpl2 : p < l.length := by omega
            have q9 : 0 + l.length ≤ maxLen := by simp only [maxLen]; omega
            have q10 : (0 + l.length) * 8 ≤ 140737488355328 := by omega
            have i3 : (p : Int) < (l.length : Int) := by omega
            by_cases hr2 : r = 2
            · have t4 : (((r : Nat) : Int) == 2) = true := by simp; omega
              have INS : Hid (l.set p kk = edits b.length a (b.take (i + 1))) := Lib.hid (by rw [NX3.out, if_pos (.inl hr2)])
              clear hr0 hlp hr1 hr2 NX3
              go_wp2_with (first | (go_at_call 12; refine (cpl _).mono ?_; rintro e w' ⟨rfl, rfl⟩) | (at_builtin; refine own_append rfl (.const (.slice none 0 0)) (.tmp 105) 22 22 rfl wr.heap.size 3 i0 (.int .i64 0) 1 8 Try.underlying22 hi hz0 hz1 hz2 rfl (by decide) (.slice none 0 0) 0 [] rfl (World.ownsRow_nil _ _ _ _) (.slice LA l.length lc) rfl l.length _ (src_reads Try.underlying22 lc HR.out) q9 q10 (Nat.le_refl _) ?_; intro v1 w1 o1 g1x; have b1 : Below wr.heap.size wr w1 := below_grown g1x (Nat.le_refl _) (fun k h => by cases h); have o2 : OwnI w1 wr.heap.size 3 v1 l := (by unfold OwnI; simpa using o1); clear o1 g1x; obtain ⟨g, cap, hv1, hcap, hgb, hgl, hcell, hfr, hset⟩ := o2.block hl0; rw [hv1]; have HSET := Lib.hid hset; have c1 := hcell p hpl2; have c2 := hfr p;  have HV1 := Lib.hid hv1; clear hset hcell hfr hv1 o2))
              go_meet
              have HS := HSET.out p kk hpl2
              refine ⟨?_, (hbl.trans (b1.mono hbl.size)).trans (HS.2.mono hbl.size)⟩
              have o6 : OwnI _ W.heap.size 3 v1 (l.set p kk) := own_base HS.1 (show W.heap.size ≤ wr.heap.size from hbl.size)
              rw [← INS.out, ← HV1.out]
              exact o6
            have t4 : (((r : Nat) : Int) == 2) = false := by simp; omega
            by_cases hp1 : l.length ≤ p + 1
            · have t5 : decide ((l.length : Int) ≤ (p : Int) + 1) = true := by simp; omega
              have INS : Hid (l.set p kk = edits b.length a (b.take (i + 1))) := Lib.hid (by rw [NX3.out, if_pos (.inr (.inl hp1))])
              clear hr0 hlp hr1 hr2 NX3 hp1
              go_wp2_with (first | (go_at_call 12; refine (cpl _).mono ?_; rintro e w' ⟨rfl, rfl⟩) | (at_builtin; refine own_append rfl (.const (.slice none 0 0)) (.tmp 105) 22 22 rfl wr.heap.size 3 i0 (.int .i64 0) 1 8 Try.underlying22 hi hz0 hz1 hz2 rfl (by decide) (.slice none 0 0) 0 [] rfl (World.ownsRow_nil _ _ _ _) (.slice LA l.length lc) rfl l.length _ (src_reads Try.underlying22 lc HR.out) q9 q10 (Nat.le_refl _) ?_; intro v1 w1 o1 g1x; have b1 : Below wr.heap.size wr w1 := below_grown g1x (Nat.le_refl _) (fun k h => by cases h); have o2 : OwnI w1 wr.heap.size 3 v1 l := (by unfold OwnI; simpa using o1); clear o1 g1x; obtain ⟨g, cap, hv1, hcap, hgb, hgl, hcell, hfr, hset⟩ := o2.block hl0; rw [hv1]; have HSET := Lib.hid hset; have c1 := hcell p hpl2; have c2 := hfr p;  have HV1 := Lib.hid hv1; clear hset hcell hfr hv1 o2))
              go_meet
              have HS := HSET.out p kk hpl2
              refine ⟨?_, (hbl.trans (b1.mono hbl.size)).trans (HS.2.mono hbl.size)⟩
              have o6 : OwnI _ W.heap.size 3 v1 (l.set p kk) := own_base HS.1 (show W.heap.size ≤ wr.heap.size from hbl.size)
              rw [← INS.out, ← HV1.out]
              exact o6
            have t5 : decide ((l.length : Int) ≤ (p : Int) + 1) = false := by simp; omega
            by_cases hb1 : 1 < b.length
            · have t6 : decide ((1 : Int) < (b.length : Int)) = true := by simp; omega
              have INS : Hid (l.set p kk = edits b.length a (b.take (i + 1))) := Lib.hid (by rw [NX3.out, if_pos (.inr (.inr hb1))])
              clear hr0 hlp hr1 hr2 NX3 hp1 hb1
              go_wp2_with (first | (go_at_call 12; refine (cpl _).mono ?_; rintro e w' ⟨rfl, rfl⟩) | (at_builtin; refine own_append rfl (.const (.slice none 0 0)) (.tmp 105) 22 22 rfl wr.heap.size 3 i0 (.int .i64 0) 1 8 Try.underlying22 hi hz0 hz1 hz2 rfl (by decide) (.slice none 0 0) 0 [] rfl (World.ownsRow_nil _ _ _ _) (.slice LA l.length lc) rfl l.length _ (src_reads Try.underlying22 lc HR.out) q9 q10 (Nat.le_refl _) ?_; intro v1 w1 o1 g1x; have b1 : Below wr.heap.size wr w1 := below_grown g1x (Nat.le_refl _) (fun k h => by cases h); have o2 : OwnI w1 wr.heap.size 3 v1 l := (by unfold OwnI; simpa using o1); clear o1 g1x; obtain ⟨g, cap, hv1, hcap, hgb, hgl, hcell, hfr, hset⟩ := o2.block hl0; rw [hv1]; have HSET := Lib.hid hset; have c1 := hcell p hpl2; have c2 := hfr p;  have HV1 := Lib.hid hv1; clear hset hcell hfr hv1 o2))
              go_meet
              have HS := HSET.out p kk hpl2
              refine ⟨?_, (hbl.trans (b1.mono hbl.size)).trans (HS.2.mono hbl.size)⟩
              have o6 : OwnI _ W.heap.size 3 v1 (l.set p kk) := own_base HS.1 (show W.heap.size ≤ wr.heap.size from hbl.size)
              rw [← INS.out, ← HV1.out]
              exact o6
            have t6 : decide ((1 : Int) < (b.length : Int)) = false := by simp; omega
            have INS : Hid ((l.set p (l.getD (p + 1) 0)).set (p + 1) (l.getD p 0) = edits b.length a (b.take (i + 1))) := Lib.hid (by rw [NX3.out, if_neg (by omega)])
            have hpl3 : p + 1 < l.length := by omega
            have i4 : (p : Int) + 1 < (l.length : Int) := by omega
            clear hr0 hlp hr1 hr2 NX3 hp1 hb1
            go_wp2_with (first | (go_at_call 12; refine (cpl _).mono ?_; rintro e w' ⟨rfl, rfl⟩) | (at_builtin; refine own_append rfl (.const (.slice none 0 0)) (.tmp 37) 22 22 rfl wr.heap.size 3 i0 (.int .i64 0) 1 8 Try.underlying22 hi hz0 hz1 hz2 rfl (by decide) (.slice none 0 0) 0 [] rfl (World.ownsRow_nil _ _ _ _) (.slice LA l.length lc) rfl l.length _ (src_reads Try.underlying22 lc HR.out) q9 q10 (Nat.le_refl _) ?_; intro v1 w1 o1 g1x; have b1 : Below wr.heap.size wr w1 := below_grown g1x (Nat.le_refl _) (fun k h => by cases h); have o2 : OwnI w1 wr.heap.size 3 v1 l := (by unfold OwnI; simpa using o1); clear o1 g1x; obtain ⟨g, cap, hv1, hcap, hgb, hgl, hcell, hfr, hset⟩ := o2.block hl0; rw [hv1]; have HSET := Lib.hid hset; have c1 := hcell p hpl2; have c2 := hfr p; have c3 := hcell (p + 1) hpl3; have c4 := hfr (p + 1); have HV1 := Lib.hid hv1; clear hset hcell hfr hv1 o2))
            refine Own.region_mix (fun _ => True) [0, 0, 0, 0, 8, 0, 0, 64, 224, 480, 0, 0, 3072, 7168, 16355, 32739, 65535, 131071] (Own.Ord.run [(0, true), (1, true), (2, true), (3, true), (4, true), (5, true), (6, true), (7, true), (8, true), (10, true), (11, true), (12, true)] (.fork (.go 9 false (Own.Ord.run [(13, false), (14, true), (15, false), (16, true), (17, false)] .done)) (.go 13 false (Own.Ord.run [(9, false), (14, true), (15, false), (16, true), (17, false)] .done)))) (by kernel_rfl) (by kernel_rfl) (fun dst v c a w h => by cases dst <;> exact h) trivial ?_
            simp only [Own.Ord.run]
            repeat (refine Own.st_blind _ rfl rfl ?_; go_big_quiet_step (fail); refine wpQuiet_nil ?_)
            refine Own.mix_fork ?_ ?_
            all_goals (refine Own.st_do _ rfl rfl (fun K hK => ?_); go_simp; refine hK _ _ trivial ?_; clear hK K)
            all_goals (refine Own.st_do _ rfl rfl (fun K hK => ?_); go_simp; refine hK _ _ trivial ?_; clear hK K)
            all_goals (repeat (refine Own.st_blind _ rfl rfl ?_; go_big_quiet_step (fail); refine wpQuiet_nil ?_))
            all_goals (refine Own.st_do _ rfl rfl (fun K hK => ?_); go_simp; refine hK _ _ trivial ?_; clear hK K)
            all_goals (repeat (refine Own.st_blind _ rfl rfl ?_; go_big_quiet_step (fail); refine wpQuiet_nil ?_))
            all_goals (refine Own.st_do _ rfl rfl (fun K hK => ?_); go_simp; refine hK _ _ trivial ?_; clear hK K)
            all_goals (refine Own.mix_done ?_)
            all_goals go_wp2
            all_goals go_meet
            all_goals (
              have H1 := HSET.out p (l.getD (p + 1) 0) hpl2
              obtain ⟨g', cap', hv', _, _, _, _, _, hset'⟩ := H1.1.block (by rw [List.length_set]; omega)
              have eg : g = g' := by
                have := HV1.out.symm.trans hv'
                simp only [Value.slice.injEq, Option.some.injEq, Addr.mk.injEq] at this
                exact this.1.1
              subst eg
              have H2 := hset' (p + 1) (l.getD p 0) (by rw [List.length_set]; omega)
              have d1 : l.getD (p + 1) 0 = l[p + 1] := by simp [List.getD_eq_getElem?_getD, hpl3]
              have d2 : l.getD p 0 = l[p] := by simp [List.getD_eq_getElem?_getD, hpl2]
              have I1 := INS.out
              rw [← I1, ← HV1.out]
              rw [d1, d2] at H2 ⊢
              rw [d1] at H1
              refine ⟨own_keep (own_base H2.1 (show W.heap.size ≤ wr.heap.size from hbl.size)) (fun _ _ => rfl), ?_⟩
              exact (((hbl.trans (b1.mono hbl.size)).trans (H1.2.mono hbl.size)).trans (H2.2.mono hbl.size)).drew)
          case rest =>
            obtain ⟨ho, hbl2⟩ := hcut
            go_wp2
            go_roundw
            case rel => exact ⟨i + 1, _, by omega, by go_num, rfl, by have := edit_len b.length l (v % 1048576); rw [show edits b.length a (b.take (i + 1)) = edit b.length l (v % 1048576) from HNX.out]; omega, ho, hbl2⟩
            case measure => simp [intOf]; omega
        · have hib' : i = b.length := by omega
          have HI := Lib.hid hib'
          have hle : l = edits b.length a b := by rw [hl, HI.out, List.take_length]
          have HLE := Lib.hid hle
          clear hib' hl P hle
          have HR := Lib.hid hR
          have HA1 := Lib.hid (HA.out.later hbl)
          have lb : l.length ≤ 1000 := by omega
          have f1 := (edits_far a b).1
          have f2 := (edits_far a b).2
          rw [← HLE.out] at f1 f2
          have g3 : decide (((Dst.far a l : Nat) : Int) ≤ (b.length : Int)) = true := by simp; omega
          have g4 : decide (((Dst.far l a : Nat) : Int) ≤ (b.length : Int)) = true := by simp; omega
          have g3' : decide (Dst.far a l ≤ b.length) = true := by simp; omega
          have g4' : decide (Dst.far l a ≤ b.length) = true := by simp; omega
          clear hR
          go_wp2_with fail
          refine (far_calls A LA ca lc a l wr (by omega) lb HA1.out HR.out).mono ?_
          rintro e w7 ⟨rfl, b7⟩
          go_wp2_with fail
          refine (far_calls LA A lc ca l a w7 lb (by omega) (HR.out.later b7) (HA1.out.later b7)).mono ?_
          rintro e w8 ⟨rfl, b8⟩
          go_wp2_with fail
          refine (awake_calls w8).mono ?_
          rintro e w9 ⟨rfl, b9⟩
          go_wp2_with fail
          go_ret
          exact ⟨rfl, ((hbl.trans (b7.mono hbl.size)).trans (b8.mono (Nat.le_trans hbl.size b7.size))).trans (b9.mono (Nat.le_trans (Nat.le_trans hbl.size b7.size) b8.size))⟩
    · have g1 : decide ((40 : Int) < (a.length : Int)) = false := by simp; omega
      have g2 : decide ((5 : Int) < (b.length : Int)) = true := by simp; omega
      go_enter Try.func5, Try.ntmps5
      go_wp2_with (go_at_call 7; refine (awake_calls _).mono ?_; rintro e w' ⟨rfl, hb⟩)
      go_ret
      exact ⟨rfl, hb⟩
  · have g1 : decide ((40 : Int) < (a.length : Int)) = true := by simp; omega
    go_enter Try.func5, Try.ntmps5
    go_wp2_with (go_at_call 7; refine (awake_calls _).mono ?_; rintro e w' ⟨rfl, hb⟩)
    go_ret
    exact ⟨rfl, hb⟩
end Go.Proofs.Ytenfaneaihdppaa

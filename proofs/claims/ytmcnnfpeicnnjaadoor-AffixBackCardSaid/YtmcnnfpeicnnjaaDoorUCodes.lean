/- A text's code points: the program's. -/
import Derived.Test.YtmcnnfpeicnnjaaDoorUPure
import Derived.Test.YtmcnnfpeicnnjaaDoorRow
import Derived.Test.YtmcnnfpeicnnjaaDoorRat
import Derived.Lib.OthersKept
import Derived.OwnWalk
import Derived.Test.YtmcnnfpeicnnjaaDoorVs
namespace Go.Proofs.YtmcnnfpeicnnjaaDoor
open Go.RowKit Go.Deep Go.Own
set_option linter.unusedVariables false
theorem infoI : (Tryd.prog.info? 3).map (fun i => (i.zero, i.size, i.bytes)) = some (some (.int .i64 0), 1, 8) := by kernel_rfl
theorem ownI_iterAt {w : World} {base : Nat} {v : Value} {l : List Int} {k pos : Nat} {s : ByteArray} (h : OwnI w base 3 v l) (hk : w.heap[k]? = some (.stringIter s pos)) (p : Nat) : OwnI (w.iterAt k s p) base 3 v l :=
  own_keep h fun j hj => Lib.iterAt_other w k j s p (by
    rintro rfl
    obtain ⟨cur, hc⟩ := own_row_type h hj
    rw [hk] at hc; cases hc)
theorem ownI_ne_iter {w : World} {base : Nat} {v : Value} {l : List Int} {k pos : Nat} {s : ByteArray} (h : OwnI w base 3 v l) (hk : w.heap[k]? = some (.stringIter s pos)) : v.ownBlock ≠ some k := fun hj => by
  obtain ⟨cur, hc⟩ := own_row_type h hj
  rw [hk] at hc; cases hc
theorem ownI_push {w' : World} {base : Nat} {v' : Value} {l : List Int} {x : Int} (O : w'.ownsRow base 3 1 v' (l.length + 1) (l.map (Value.int .i64) ++ [.int .i64 x])) : OwnI w' base 3 v' (l ++ [x]) := by
  unfold OwnI
  rw [List.length_append, List.map_append]
  exact O
def codesOf (s : ByteArray) : List Int := if okU s = true then codes s else []
theorem codesOf_ok {s : ByteArray} (h : okU s = true) : codesOf s = codes s := if_pos h
theorem codesOf_not {s : ByteArray} (h : okU s = false) : codesOf s = [] := if_neg (by rw [h]; decide)
/-- what Codes hands back -/
def CodesPost (w : World) (s : ByteArray) (e : Ending) (w' : World) : Prop :=
  (∃ v, e = .returned (.tuple #[v, .bool (okU s)]) ∧ OwnI w' w.heap.size 3 v (codesOf s)) ∧ Below w.heap.size w w'
set_option maxRecDepth 100000 in
set_option maxHeartbeats 4000000 in
theorem ucodes_calls (s : ByteArray) (w : World) (hs : s.size ≤ 1099511627776) (hT : Lib.Utf8Tabs 0 1 w) :
    Calls Tryd.prog 65 #[.string s] w (CodesPost w s) := by
  unfold CodesPost codesOf
  have CV := Lib.hid (Tryd.utf8_ValidString s w (by omega) hT)
  rw [valid_ok] at CV
  clear hT
  by_cases hok : okU s = true
  · rw [hok] at CV ⊢
    rw [if_pos rfl]
    obtain ⟨iI, hiI, hzI, hsI, hbI⟩ := info_parts infoI
    go_enter Tryd.func65, Tryd.ntmps65
    go_wp2_with (fail)
    refine CV.out.mono ?_
    rintro e w1 ⟨rfl, b1⟩
    obtain ⟨N, hN⟩ : ∃ N, N = w1.heap.size := ⟨_, rfl⟩
    have B1 := Lib.hid b1
    have HN := Lib.hid hN
    have HOK := Lib.hid hok
    clear b1 CV hok hN
    go_wp2_with (fail)
    rw [← HN.out]
    go_loopw [4] (fun lv wr => ∃ (pos fuel : Nat) (acc : List Int), OwnI wr w.heap.size 3 lv acc ∧ wr.heap[N]? = some (.stringIter s pos) ∧ Below w.heap.size w wr ∧ acc ++ (unitsFrom s fuel pos).map (fun u => u.2.2) = codes s ∧ ((unitsFrom s fuel pos).all fun u => decide (0 ≤ u.2.2)) = true ∧ s.size ≤ pos + fuel ∧ acc.length ≤ pos) (fun _ wr => s.size - wr.iterPos N)
    case atStart =>
      exact ⟨0, s.size, [], OwnI.nil _ _ _, by rw [HN.out]; exact World.iter_heap w1 s 0, B1.out.alloc B1.out.size _, rfl, HOK.out, by omega, Nat.le_refl _⟩
    case round =>
      obtain ⟨pos, fuel, acc, hR, hit, hbw, hacc, hall, hfu, hal⟩ := hrel
      obtain ⟨A, cp, rfl⟩ := own_is hR
      have hN0 : w.heap.size ≤ N := by rw [HN.out]; exact B1.out.size
      by_cases hp : pos < s.size
      · obtain ⟨f, rfl⟩ : ∃ f, fuel = f + 1 := ⟨fuel - 1, by omega⟩
        have hl1 : 1 ≤ uLen s pos := u_len1 s pos
        have hl4 : uLen s pos ≤ 4 := u_len4 s pos
        have hmax : (Utf8.decode s pos).1 ≤ 1114111 := u_max s pos
        have huf : unitsFrom s (f + 1) pos = (pos, uLen s pos, uCode s pos) :: unitsFrom s f (pos + uLen s pos) := by rw [unitsFrom, if_pos hp]
        rw [huf] at hacc hall
        rw [List.all_cons, Bool.and_eq_true, decide_eq_true_eq] at hall
        have hcode := uCode_good ((uCode_sign s pos).1 hall.1)
        rw [List.map_cons, hcode] at hacc
        have hnx : ∀ ty, (Instr.next (.pointer (some ⟨N, 0, none⟩)) true ty).run Tryd.prog wr = .ok (.tuple #[.bool true, .int .i64 (pos : Nat), .int .i32 ((Utf8.decode s pos).1 : Nat)]) (wr.iterAt N s (pos + uLen s pos)) := fun ty => Lib.run_next_any_at wr N s pos ty hit hp
        have hit2 := Lib.iterAt_heap wr N s pos (pos + uLen s pos) hit
        have hb2 := Lib.below_iterAt hbw (k := N) hN0 s (pos + uLen s pos)
        have hR2 := ownI_iterAt hR hit (pos + uLen s pos)
        obtain ⟨w2, hw2⟩ : ∃ w2, w2 = wr.iterAt N s (pos + uLen s pos) := ⟨_, rfl⟩
        rw [← hw2] at hnx hit2 hb2 hR2
        have HIT := Lib.hid hit
        have HACC := Lib.hid hacc
        have HALL := Lib.hid hall.2
        obtain ⟨n, hn⟩ : ∃ n, uLen s pos = n := ⟨_, rfl⟩
        obtain ⟨c, hc⟩ : ∃ c, (Utf8.decode s pos).1 = c := ⟨_, rfl⟩
        rw [hn] at hl1 hl4 hit2
        rw [hc] at hnx hmax
        have HN2 := Lib.hid hn
        have HC := Lib.hid hc
        obtain ⟨o, ho⟩ : ∃ o, o = Obj.cells #[Value.int .i64 (c : Nat)] 3 := ⟨_, rfl⟩
        have b4 : Below w2.heap.size w2 (w2.alloc o) := (Below.refl _ _).alloc (Nat.le_refl _) _
        have R4 := Lib.hid (hR2.later b4)
        have hS4 : Hid (Src Tryd.prog 1 41 (.slice (some ⟨w2.heap.size, 0, none⟩) 1 1) 1 [.int .i64 (c : Nat)] (w2.alloc o)) := Lib.hid (src_one Tryd.underlying41 rfl (by rw [ho]; exact cell_new1 _ _ _))
        have I4 : Hid ((w2.alloc o).heap[N]? = some (.stringIter s (pos + n))) := Lib.hid (by
          rw [b4.block _ (Array.getElem?_eq_some_iff.1 hit2).1, hit2])
        have HB4 := Lib.hid (hb2.alloc hb2.size o)
        clear hR hit hit2 hb2 hR2 hbw hw2 hacc hall hn hc huf hcode b4
        subst ho
        go_wp2_with (at_builtin; refine own_append (o := ⟨some 19, _, _, _, _, _⟩) rfl (.tmp 15) (.tmp 18) 41 41 rfl w.heap.size 3 iI _ 1 8 Tryd.underlying41 hiI hzI hsI hbI rfl (by decide) (.slice A acc.length cp) acc.length _ rfl R4.out (.slice (some ⟨w2.heap.size, 0, none⟩) 1 1) rfl 1 _ hS4.out (by unfold maxLen; omega) (by omega) HB4.out.size ?_; intro v5 w5 O5 G5 V5)
        go_roundw
        case rel =>
          have hne := ownI_ne_iter R4.out I4.out
          have i5 := (G5.block N (Array.getElem?_eq_some_iff.1 I4.out).1 (fun e => hne e.symm)).trans I4.out
          refine ⟨pos + n, f, acc ++ [(c : Int)], ownI_push O5, i5, HB4.out.grown G5 HB4.out.size (fun q hq => (own_block_lt R4.out hq).1), ?_, by rw [← HN2.out]; exact HALL.out, by omega, by simp; omega⟩
          rw [← HACC.out, HN2.out, HC.out, List.append_assoc]; rfl
        case measure =>
          have hne := ownI_ne_iter R4.out I4.out
          have i5 := (G5.block N (Array.getElem?_eq_some_iff.1 I4.out).1 (fun e => hne e.symm)).trans I4.out
          simp only [World.iterPos, i5, HIT.out]
          omega
      · have hnx : ∀ ty, (Instr.next (.pointer (some ⟨N, 0, none⟩)) true ty).run Tryd.prog wr = .ok (.tuple #[.bool false]) wr := fun ty => Lib.run_next_end_at wr N s pos ty hit hp
        have HR := Lib.hid hR
        have HB := Lib.hid hbw
        have HACC := Lib.hid hacc
        clear hR hit hbw hacc hall
        go_wp2_with (fail)
        have := HACC.out
        rw [unitsFrom_end s fuel pos hp, List.map_nil, List.append_nil] at this
        refine bodyPost_ret (v := .tuple #[.slice A acc.length cp, .bool true]) (by simp [results, Tryd.results65, go_sem]) rfl ?_
        exact ⟨⟨_, rfl, by rw [← this]; exact HR.out⟩, HB.out⟩
  · rw [Bool.not_eq_true] at hok
    rw [hok] at CV ⊢
    rw [if_neg (by decide)]
    clear hok
    go_enter Tryd.func65, Tryd.ntmps65
    go_wp2_with (fail)
    refine CV.out.mono ?_
    rintro e w1 ⟨rfl, b1⟩
    have B1 := Lib.hid b1
    clear b1 CV
    go_wp2_with (fail)
    refine bodyPost_ret (v := .tuple #[.slice none 0 0, .bool false]) (by simp [results, Tryd.results65, go_sem]) rfl ?_
    exact ⟨⟨_, rfl, OwnI.nil _ _ _⟩, B1.out⟩
end Go.Proofs.YtmcnnfpeicnnjaaDoor

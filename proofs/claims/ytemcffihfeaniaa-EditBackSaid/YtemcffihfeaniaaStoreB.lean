/- Store.Slice. -/
import Derived.Test.YtemcffihfeaniaaStoreA
namespace Go.Own
open Go Go.RowKit Go.Deep
set_option linter.unusedVariables false
def cutB (t : List UInt8) (f n : Nat) : ByteArray := ⟨((t.drop f).take n).toArray⟩
/-- a slice of bytes of the call's own -/
theorem own_string {P : Program} {w : World} {base cap : Nat} {A : Option Addr} {xs : List UInt8} (h : w.ownsRow base 5 1 (.slice A xs.length cap) xs.length (bc xs)) (hA : A ≠ none) (src dst : TypeId) (hs : P.underlying src = some (.slice 5)) (he : P.underlying 5 = some (.int .u8)) (hd : P.underlying dst = some .string) :
    (convert src dst (.slice A xs.length cap)).run P w = .ok (.string ⟨xs.toArray⟩) w := by
  rcases h.2 with ⟨h1, _⟩ | ⟨g, c, cur, hv, _, hg, h1, h2, h3, h4⟩
  · simp only [Value.slice.injEq] at h1; exact absurd h1.1 hA
  · simp only [Value.slice.injEq, true_and] at hv
    obtain ⟨rfl, rfl⟩ := hv
    refine run_convert_bytes_back w src dst 5 ⟨g, 0, none⟩ cap xs hs he hd fun j hj => ?_
    have h5 : (cur.toList.take (xs.length * 1))[j]? = some (.int .u8 (xs[j].toNat : Int)) := by rw [h4]; simp [bc, hj]
    rw [List.getElem?_take, if_pos (by omega)] at h5
    have : (⟨g, 0, none⟩ : Addr).add j = ⟨g, j, none⟩ := by unfold Addr.add; split <;> simp_all
    rw [this]
    simp only [World.cell?, hg]
    simpa using h5
theorem src_chunk {P : Program} {w : World} {c : Chunk} (h : c.At w) (tx e : TypeId) (hk : P.underlying tx = some (.slice e)) (lo hi cc : Nat) (h1 : lo ≤ hi) (h2 : hi ≤ c.bs.length) :
    Src P 1 tx (.slice (some ⟨c.g, lo, none⟩) (hi - lo) cc) (hi - lo) (bc ((c.bs.drop lo).take (hi - lo))) w := by
  refine Src.ofSlice w hk _ _ cc _ (by rw [bc_length, List.length_take, List.length_drop]; omega) (fun j u hj => ?_) (bc_one _)
  obtain ⟨cur, hg, hs, ht⟩ := h.row
  have hlt := (List.getElem?_eq_some_iff.1 hj).1
  rw [bc_length, List.length_take, List.length_drop] at hlt
  have e1 : (⟨c.g, lo, none⟩ : Addr).add j = ⟨c.g, lo + j, none⟩ := by unfold Addr.add; split <;> simp_all
  rw [e1]
  have h5 : (cur.toList.take c.bs.length)[lo + j]? = some u := by
    rw [ht]
    rw [← bc_take, ← bc_drop, List.getElem?_take, if_pos (by omega), List.getElem?_drop] at hj
    exact hj
  rw [List.getElem?_take, if_pos (by omega)] at h5
  simp only [World.cell?, hg]
  simpa using h5
theorem Rep.at' {w : World} {F : Nat → Prop} {b : Nat} {vl vf : Value} {l : List Chunk} (h : Rep w F b vl vf l) {i : Nat} (hi : i < l.length) : ∃ gl capl gf capf, vl = .slice (some ⟨gl, 0, none⟩) l.length capl ∧ vf = .slice (some ⟨gf, 0, none⟩) l.length capf ∧
    w.cell? ⟨gl, i, none⟩ = some (l[i].val) ∧ w.cell? ⟨gf, i, none⟩ = some (.int .i64 ((flat (l.take i)).length : Nat)) := by
  rcases h.own.2 with ⟨_, h1⟩ | ⟨g, cap, cur, hv, _, hg, h1, h2, h3, h4⟩
  · omega
  · rcases h.frm.2 with ⟨_, h1'⟩ | ⟨g', cap', cur', hv', _, hg', h1', h2', h3', h4'⟩
    · omega
    · refine ⟨g, cap, g', cap', hv, hv', ?_, ?_⟩
      · have h5 : (cur.toList.take (l.length * 1))[i]? = some (l[i].val) := by rw [h4]; simp [hi]
        rw [List.getElem?_take, if_pos (by omega)] at h5
        simp only [World.cell?, hg]; simpa using h5
      · have h5 : (cur'.toList.take (l.length * 1))[i]? = some (.int .i64 ((flat (l.take i)).length : Nat)) := by rw [h4', starts_get l 0 i hi]; simp
        rw [List.getElem?_take, if_pos (by omega)] at h5
        simp only [World.cell?, hg']; simpa using h5
theorem flat_take_succ (l : List Chunk) (i : Nat) (hi : i < l.length) : flat (l.take (i + 1)) = flat (l.take i) ++ l[i].bs := by
  rw [List.take_succ_eq_append_getElem hi, flat_append]; simp [flat]
/-- a step of the slice's loop, in plain lists -/
theorem cut_step (a c : List UInt8) (f n : Nat) : ((a ++ c).drop f).take n = ((a.drop f).take n) ++ (c.drop (f - a.length)).take (min (f + n - a.length) c.length - (f - a.length)) := by
  rw [List.drop_append, List.take_append, List.length_drop]
  congr 1
  apply List.ext_getElem?
  intro j
  simp only [List.getElem?_take, List.getElem?_drop]
  by_cases h1 : j < n - (a.length - f)
  · rw [if_pos h1]
    by_cases h2 : j < min (f + n - a.length) c.length - (f - a.length)
    · rw [if_pos h2]
    · rw [if_neg h2]
      apply List.getElem?_eq_none
      omega
  · rw [if_neg h1, if_neg (by omega)]
end Go.Own
namespace Go.Proofs.Ytemcffihfeaniaa
open Go.RowKit Go.Deep Go.Own
attribute [local go_sem] Own.own_max2 Own.own_max_two Own.own_min2 Own.own_min_two
set_option linter.unusedVariables false
set_option maxRecDepth 100000 in
set_option maxHeartbeats 4000000 in
theorem slice_ok (F : Nat → Prop) (b : Nat) (t : List UInt8) (f n : Nat) (W : World) (hH : Holds W F b t) (hF : ∀ k, F k → k < W.heap.size) (hfn : f + n ≤ t.length) (hsz : t.length ≤ 1099511627776) :
    Calls Try.prog 19 #[.pointer (some ⟨b, 0, none⟩), .int .i64 (f : Nat), .int .i64 (n : Nat)] W fun e w' => e = .returned (.tuple #[.string (cutB t f n), .bool true]) ∧ Below W.heap.size W w' := by
  obtain ⟨vl, vf, l, R, hft, hn0⟩ := hH
  obtain ⟨r1, r2, r3, r4⟩ := R.cells
  obtain ⟨A, cA, rfl⟩ := own_is R.own
  obtain ⟨A', cA', rfl⟩ := own_is R.frm
  rw [hft] at r3
  have hll : l.length ≤ 1099511627776 := by have := flat_le l hn0; rw [hft] at this; omega
  obtain ⟨i5, hi5, hz5, hs5, hy5⟩ := info_parts info5
  have hmk : ∀ w : World, (Instr.makeSlice 81 (.int .i64 0) (.int .i64 (n : Nat))).run Try.prog w = .ok (.slice (some ⟨w.heap.size, 0, none⟩) 0 n) (w.alloc (.cells (madeCells (Value.int .u8 0).cells (n * 1)) 5)) := fun w => by
    have := run_make (P := Try.prog) w 81 5 i5 (.int .u8 0) Try.underlying81 hi5 hz5 .i64 .i64 0 (n : Nat) (by omega) (by omega) (by rw [hy5]; omega) (by omega)
    simpa [hs5] using this
  have HR := Lib.hid R
  have HT := Lib.hid hft
  have HFF := Lib.hid hF
  have c1 : decide ((f : Int) < 0) = false := by simp
  have c2 : decide ((n : Int) < 0) = false := by simp
  have c3 : decide (t.length < f) = false := by simp; omega
  have c4 : decide ((t.length : Int) - (f : Int) < (n : Int)) = false := by simp; omega
  have ra : ∀ o, (W.alloc o).cell? ⟨b, 0, none⟩ = some (.slice A l.length cA) := fun o => by rw [World.cell?_of_block (w := W) (blk_alloc_lt _ _ _ R.lt)]; exact r1
  clear R hft hn0 hF
  go_enter Try.func19, Try.ntmps19
  go_wp2
  go_loopw [8, 44] (fun v u wr => ∃ i : Nat, i ≤ l.length ∧ u = .int .i64 (i : Nat) ∧ wr.ownsRow W.heap.size 5 1 v ((((flat (l.take i)).drop f).take n).length) (bc (((flat (l.take i)).drop f).take n)) ∧ (∃ A cap, v = .slice A ((((flat (l.take i)).drop f).take n).length) cap ∧ A ≠ none) ∧ Below W.heap.size W wr) (fun _ u _ => l.length - (intOf u).toNat)
  case atStart =>
    have h0 : ((flat (l.take 0)).drop f).take n = [] := by simp [flat]
    refine ⟨0, by omega, rfl, ?_, ⟨_, n, by rw [h0]; rfl, by simp⟩, (Below.refl _ _).alloc (Nat.le_refl _) _⟩
    rw [h0]
    have := World.ownsRow_made (base := W.heap.size) (e := 5) (size := 1) W (madeCells #[Value.int .u8 0] n) n (Nat.le_refl _) (by simp only [maxLen]; omega) (by simp [madeCells])
    simpa [bc] using this
  case round =>
    obtain ⟨i, hi, rfl, hO, ⟨B, cB, rfl, hB⟩, hbl⟩ := hrel
    have R : Rep wr F b (.slice A l.length cA) (.slice A' l.length cA') l := HR.out.keep (fun k hk hF => hbl.block k (HFF.out k hF))
    obtain ⟨y1, y2, y3, y4⟩ := R.cells
    obtain ⟨acc, hacc⟩ : ∃ acc, acc = ((flat (l.take i)).drop f).take n := ⟨_, rfl⟩
    rw [← hacc] at hO ⊢
    have hal : acc.length ≤ n := by rw [hacc, List.length_take]; omega
    by_cases hlt : i < l.length
    · obtain ⟨gl, capl, gf, capf, hv, hv', x1, x2⟩ := R.at' hlt
      simp only [Value.slice.injEq, true_and] at hv hv'
      obtain ⟨rfl, rfl⟩ := hv
      obtain ⟨rfl, rfl⟩ := hv'
      obtain ⟨c, hc⟩ : ∃ c, c = l[i] := ⟨_, rfl⟩
      obtain ⟨fs, hfs⟩ : ∃ fs, fs = (flat (l.take i)).length := ⟨_, rfl⟩
      rw [← hc] at x1
      rw [← hfs] at x2
      have hcAt : c.At wr := R.chunk c (by rw [hc]; exact List.getElem_mem hlt)
      have hstep := cut_step (flat (l.take i)) c.bs f n
      rw [hc, ← flat_take_succ l i hlt, ← hc, ← hacc, ← hfs] at hstep
      have hfl : fs + c.bs.length ≤ t.length := by
        have h1 : (flat (l.take (i + 1))).length ≤ t.length := by
          rw [← HT.out]
          have h2 : flat l = flat (l.take (i + 1)) ++ flat (l.drop (i + 1)) := by rw [← flat_append, List.take_append_drop]
          rw [h2, List.length_append]; omega
        rw [flat_take_succ l i hlt, List.length_append, ← hfs, ← hc] at h1
        exact h1
      simp only [Chunk.val] at x1
      have hle := hcAt.le
      have hmax := hcAt.max
      simp only [maxLen] at hmax
      obtain ⟨lo, hlo⟩ : ∃ lo, lo = f - fs := ⟨_, rfl⟩
      have elo : imax ((f : Int) - (fs : Int)) 0 = (lo : Nat) := by rw [imax_eq]; omega
      have HC := Lib.hid (show _ ∧ _ ∧ _ ∧ _ ∧ _ from ⟨hc, hfs, hcAt, hacc, hstep⟩)
      clear hc hfs hcAt hacc hstep R
      by_cases hh : (lo : Int) < imin ((f : Int) + (n : Int) - (fs : Int)) (c.bs.length : Int)
      · obtain ⟨hi', ehi⟩ : ∃ hi' : Nat, imin ((f : Int) + (n : Int) - (fs : Int)) (c.bs.length : Int) = (hi' : Nat) := ⟨(imin ((f : Int) + (n : Int) - (fs : Int)) (c.bs.length : Int)).toNat, by omega⟩
        rw [ehi] at hh
        have hh' : lo < hi' := by omega
        have hhc : hi' ≤ c.bs.length := by rw [imin_eq] at ehi; omega
        have hhm : hi' = min (f + n - fs) c.bs.length := by rw [imin_eq] at ehi; omega
        have HHM := Lib.hid hhm
        have HLO := Lib.hid hlo
        clear hhm hh
        have d1 : decide (lo < hi') = true := by simpa using hh'
        have sl := run_sliced_mid (P := Try.prog) Try.underlying81 (fun w => by kernel_rfl) c.g c.bs.length c.cap lo hi' (by omega) (by omega) (by omega)
        clear hlo
        have q1 : acc.length + (hi' - lo) ≤ maxLen := by simp only [maxLen]; omega
        have q2 : (acc.length + (hi' - lo)) * 1 ≤ 140737488355328 := by omega
        have bz := hbl.size
        go_wp2
        go_quiet (fail)
        have O1 : (wr.drewN nq).ownsRow W.heap.size 5 1 (.slice B acc.length cB) acc.length (bc acc) := hO
        have A1 : c.At (wr.drewN nq) := HC.out.2.2.1.keep rfl
        have bd : Below W.heap.size W (wr.drewN nq) := hbl.trans ⟨rfl, rfl, rfl, Nat.le_refl _, fun _ _ => rfl⟩
        go_wp2_with (first
          | (at_builtin; refine own_append (o := ⟨some 81, _, _, _, _, _⟩) rfl (.tmp 76) (.tmp 80) 81 81 rfl W.heap.size 5 i5 (.int .u8 0) 1 1 Try.underlying81 hi5 hz5 hs5 hy5 rfl (by decide) _ acc.length _ rfl O1 _ rfl (hi' - lo) _ (src_chunk A1 81 5 Try.underlying81 lo hi' (c.cap - lo) (by omega) hhc) q1 q2 (by exact bz) ?_; intro v1 w1 o1 g1x v1x; have B1 := bd.trans (below_grown g1x bz (fun k h => (own_block_lt O1 h).1)); obtain ⟨A1s, k1s, rfl⟩ := own_is o1; clear g1x v1x))
        go_roundw
        case rel =>
          obtain ⟨hc, hfs, hcAt, hacc, hstep⟩ := HC.out
          rw [← HHM.out, ← HLO.out] at hstep
          have hl2 : ((c.bs.drop lo).take (hi' - lo)).length = hi' - lo := by rw [List.length_take, List.length_drop]; omega
          refine ⟨i + 1, by omega, by go_num, ?_, ⟨A1s, k1s, ?_, ?_⟩, B1⟩
          · rw [hstep, bc_append, List.length_append, hl2]; exact o1
          · rw [hstep, List.length_append, hl2]
          · rintro rfl
            rcases o1.2 with ⟨_, h1⟩ | ⟨g, cap, cur, hv, _⟩
            · omega
            · simp at hv
        case measure => simp [intOf]; omega
      · have hlen0 : min (f + n - fs) c.bs.length - lo = 0 := by rw [imin_eq] at hh; omega
        obtain ⟨z, ez⟩ : ∃ z : Int, imin ((f : Int) + (n : Int) - (fs : Int)) (c.bs.length : Int) = z := ⟨_, rfl⟩
        have d1 : decide ((lo : Int) < z) = false := by rw [← ez]; simpa using hh
        have H0 := Lib.hid hlen0
        have HLO := Lib.hid hlo
        clear hh hlen0 hlo
        go_wp2
        go_quiet (fail)
        go_wp2
        go_roundw
        case rel =>
          obtain ⟨hc, hfs, hcAt, hacc, hstep⟩ := HC.out
          rw [← HLO.out, H0.out, List.take_zero, List.append_nil] at hstep
          refine ⟨i + 1, by omega, by go_num, ?_, ⟨B, cB, ?_, hB⟩, hbl.trans ⟨rfl, rfl, rfl, Nat.le_refl _, fun _ _ => rfl⟩⟩
          · rw [hstep]; exact hO
          · rw [hstep]
        case measure => simp [intOf]; omega
    · have hil : l.take i = l := List.take_of_length_le (by omega)
      have hcut : acc = (t.drop f).take n := by rw [hacc, hil, HT.out]
      have hsn := fun w h => own_string (P := Try.prog) (w := w) (base := W.heap.size) (cap := cB) (A := B) (xs := acc) h hB 81 9 Try.underlying81 Try.underlying5 Try.underlying9
      have hcv := hsn wr hO
      have hie : i = l.length := by omega
      have HCUT := Lib.hid hcut
      subst hie
      clear hsn hcut hacc hil hO hlt
      go_wp2
      go_ret2
      exact ⟨by unfold cutB; rw [← HCUT.out]; rfl, hbl⟩
set_option maxRecDepth 100000 in
set_option maxHeartbeats 4000000 in
theorem slice_no (F : Nat → Prop) (b : Nat) (t : List UInt8) (f n : Int) (W : World) (hH : Holds W F b t) (hf : (Lit.int .i64 f).wf = true) (hn : (Lit.int .i64 n).wf = true) (hno : ¬ (0 ≤ f ∧ 0 ≤ n ∧ f ≤ t.length ∧ n ≤ t.length - f)) (hsz : t.length ≤ 1099511627776) :
    Calls Try.prog 19 #[.pointer (some ⟨b, 0, none⟩), .int .i64 f, .int .i64 n] W fun e w' => e = .returned (.tuple #[.string ⟨#[]⟩, .bool false]) ∧ Below W.heap.size W w' := by
  obtain ⟨vl, vf, l, R, hft, hn0⟩ := hH
  obtain ⟨r1, r2, r3, r4⟩ := R.cells
  rw [hft] at r3
  clear R hft hn0 r1 r2
  by_cases h1 : f < 0
  · have c1 : decide (f < 0) = true := by simpa using h1
    clear hno
    go_enter Try.func19, Try.ntmps19
    go_wp2
    go_ret2
    exact ⟨rfl, Below.refl _ _⟩
  · have c1 : decide (f < 0) = false := by simpa using h1
    by_cases h2 : n < 0
    · have c2 : decide (n < 0) = true := by simpa using h2
      clear hno
      go_enter Try.func19, Try.ntmps19
      go_wp2
      go_ret2
      exact ⟨rfl, Below.refl _ _⟩
    · have c2 : decide (n < 0) = false := by simpa using h2
      obtain ⟨f, rfl⟩ : ∃ k : Nat, f = (k : Int) := ⟨f.toNat, by omega⟩
      obtain ⟨n, rfl⟩ : ∃ k : Nat, n = (k : Int) := ⟨n.toNat, by omega⟩
      clear h1 h2
      by_cases h3 : t.length < f
      · have c3 : decide (t.length < f) = true := by simpa using h3
        clear hno
        go_enter Try.func19, Try.ntmps19
        go_wp2
        go_ret2
        exact ⟨rfl, Below.refl _ _⟩
      · have c3 : decide (t.length < f) = false := by simpa using h3
        have h4 : (t.length : Int) - (f : Int) < (n : Int) := by omega
        have c4 : decide ((t.length : Int) - (f : Int) < (n : Int)) = true := by simpa using h4
        clear hno h4
        go_enter Try.func19, Try.ntmps19
        go_wp2
        go_ret2
        exact ⟨rfl, Below.refl _ _⟩
set_option maxRecDepth 100000 in
set_option maxHeartbeats 4000000 in
theorem len_calls (F : Nat → Prop) (b : Nat) (t : List UInt8) (W : World) (hH : Holds W F b t) : Calls Try.prog 20 #[.pointer (some ⟨b, 0, none⟩)] W fun e w' => e = .returned (.int .i64 (t.length : Nat)) ∧ W = w' := by
  obtain ⟨vl, vf, l, R, hft, hn0⟩ := hH
  obtain ⟨r1, r2, r3, r4⟩ := R.cells
  rw [hft] at r3
  clear R hft hn0 r1 r2
  go_enter Try.func20, Try.ntmps20
  go_wp2
  go_ret
  exact ⟨rfl, rfl⟩
theorem holds_new (w : World) : Holds (w.alloc (.cells #[.slice none 0 0, .slice none 0 0, .int .i64 0] 80)) (fun k => k = w.heap.size) w.heap.size [] := by
  refine ⟨_, _, [], ⟨blk_alloc_new _ _, World.ownsRow_nil _ _ _ _, World.ownsRow_nil _ _ _ _, rfl, fun k h => (by cases h), fun k h => (by cases h), fun c h => (by cases h), fun c h => (by cases h), List.nodup_nil⟩, rfl, fun c h => (by cases h)⟩
/-- all that was made since -/
def Mk (w w' : World) : Nat → Prop := fun k => w.heap.size ≤ k ∧ k < w'.heap.size
set_option maxRecDepth 100000 in
set_option maxHeartbeats 4000000 in
theorem new_calls (x : ByteArray) (W : World) (hx : x.size ≤ 1099511627776) : Calls Try.prog 16 #[.string x] W fun e w' => e = .returned (.pointer (some ⟨W.heap.size, 0, none⟩)) ∧ Holds w' (Mk W w') W.heap.size x.data.toList ∧ Below W.heap.size W w' := by
  have ca := add_calls (fun k => k = W.heap.size) W.heap.size [] x _ (holds_new W) (by simpa using hx)
  go_enter Try.func16, Try.ntmps16
  go_wp2_with (first | (go_at_call 18; refine ca.mono ?_; rintro e w1 ⟨rfl, h1, h2⟩))
  go_ret
  refine ⟨rfl, ?_, ?_⟩
  · rw [List.nil_append] at h1
    refine h1.mono fun k hk => ?_
    have hs := h2.size
    rw [World.size_alloc] at hs
    rcases hk with rfl | hk
    · exact ⟨Nat.le_refl _, by omega⟩
    · exact ⟨by have := hk.1; rw [World.size_alloc] at this; omega, hk.2⟩
  · exact ((Below.refl _ _).alloc (Nat.le_refl _) _).trans (h2.below (fun k hk => Nat.le_of_eq hk.symm) (by simp))
end Go.Proofs.Ytemcffihfeaniaa

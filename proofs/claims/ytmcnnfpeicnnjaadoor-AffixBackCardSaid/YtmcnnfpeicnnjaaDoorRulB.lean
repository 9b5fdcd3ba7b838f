/- rule.Parse. -/
import Derived.Test.YtmcnnfpeicnnjaaDoorRulA
namespace Go.Proofs.YtmcnnfpeicnnjaaDoor
open Go.RowKit Go.Deep Go.Own
set_option linter.unusedVariables false
def BlkS (w : World) (q : Nat) (ps : List ByteArray) : Prop := w.heap[q]? = some (.cells (ps.map Value.string).toArray 9 (0, 0))
theorem BlkS.below {w w' : World} {q : Nat} {ps : List ByteArray} (h : BlkS w q ps) (hb : Below w.heap.size w w') : BlkS w' q ps := (hb.block _ (Array.getElem?_eq_some_iff.1 h).1).trans h
theorem BlkS.cell {w : World} {q : Nat} {ps : List ByteArray} (h : BlkS w q ps) {j : Nat} {p : ByteArray} (hp : ps[j]? = some p) : w.cell? ⟨q, j, none⟩ = some (.string p) := by
  unfold World.cell?
  rw [show w.heap[q]? = _ from h]
  simp [hp]
theorem split_calls (c : UInt8) (s : ByteArray) (w : World) (hs : s.size ≤ 1000000000) (hT : TabsL w) :
    Calls Tryd.prog 31 #[.string s, .string ⟨#[c]⟩] w fun e w' => e = .returned (.slice (some ⟨w.heap.size, 0, none⟩) (cutB c s).length (cutB c s).length) ∧ w' = w.alloc (.cells ((cutB c s).map Value.string).toArray 9) := by
  obtain ⟨_, m, hm⟩ := hT
  have := Tryd.strings_Split s ⟨#[c]⟩ m w (by omega) hm (Nat.le_refl 1)
  rw [split_is, split_len] at this
  exact this
/-- a rule as it lies -/
structure RuS where
  pfx : Bool
  flag : Nat
  cross : Bool
  strip : ByteArray
  add : ByteArray
  A : Option Addr
  c : Nat
  xs : List ItV
def RuS.p (r : RuS) : RuP := ⟨r.pfx, r.flag, r.cross, r.strip, r.add, r.xs.map ItV.p⟩
def RuS.v (r : RuS) : Value := .slice r.A r.xs.length r.c
def ruCells (r : RuS) : Array Value := #[.bool r.pfx, .int .i64 (r.flag : Nat), .bool r.cross, .string r.strip, .string r.add, .slice r.A r.xs.length r.c]
def zeroS : RuS := ⟨false, 0, false, ⟨#[]⟩, ⟨#[]⟩, none, 0, []⟩
def zeroR : RuP := ⟨false, 0, false, ⟨#[]⟩, ⟨#[]⟩, []⟩
def RuPost (w : World) (s : ByteArray) (e : Ending) (w' : World) : Prop :=
  (∃ (r : RuS) (ok : Bool), e = .returned (.tuple #[.agg (ruCells r), .bool ok]) ∧ RowIt w' w.heap.size r.v r.xs ∧ FlIt w' w.heap.size r.xs ∧ (ok = true → ruleV s = some r.p) ∧ (ok = false → ruleV s = none ∧ r.p = zeroR)) ∧ Below w.heap.size w w'
structure RuD (w wf : World) (M : Nat) (r : RuS) : Prop where
  cell : wf.heap[M]? = some (.cells (ruCells r) 47 (0, 0))
  row : RowIt wf w.heap.size r.v r.xs
  fl : FlIt wf w.heap.size r.xs
  bel : Below w.heap.size w wf
theorem ru_put {w wx wf : World} {M : Nat} {x0 x1 x2 x3 x4 x5 : Value} (r : RuS) (h : wx.heap[M]? = some (.cells #[x0, x1, x2, x3, x4, x5] 47 (0, 0))) (hR : RowIt wx w.heap.size r.v r.xs) (hF : FlIt wx w.heap.size r.xs)
    (hw : wf = (((((wx.setCell ⟨M, 0, none⟩ (.bool r.pfx)).setCell ⟨M, 1, none⟩ (.int .i64 (r.flag : Nat))).setCell ⟨M, 2, none⟩ (.bool r.cross)).setCell ⟨M, 3, none⟩ (.string r.strip)).setCell ⟨M, 4, none⟩ (.string r.add)).setCell ⟨M, 5, none⟩ (.slice r.A r.xs.length r.c)) (hb : Below w.heap.size w wx) (hM : w.heap.size ≤ M) : RuD w wf M r := by
  subst hw
  have k1 := setCell_same (j := 0) h (.bool r.pfx)
  have k2 := setCell_same (j := 1) k1 (.int .i64 (r.flag : Nat))
  have k3 := setCell_same (j := 2) k2 (.bool r.cross)
  have k4 := setCell_same (j := 3) k3 (.string r.strip)
  have k5 := setCell_same (j := 4) k4 (.string r.add)
  have k6 := setCell_same (j := 5) k5 (.slice r.A r.xs.length r.c)
  refine ⟨?_, own_other (own_other (own_other (own_other (own_other (own_other hR h (by decide)) k1 (by decide)) k2 (by decide)) k3 (by decide)) k4 (by decide)) k5 (by decide), fun x hx => own_other (own_other (own_other (own_other (own_other (own_other (hF x hx) h (by decide)) k1 (by decide)) k2 (by decide)) k3 (by decide)) k4 (by decide)) k5 (by decide), (((((hb.setCell (p := ⟨M, 0, none⟩) hM _).setCell (p := ⟨M, 1, none⟩) hM _).setCell (p := ⟨M, 2, none⟩) hM _).setCell (p := ⟨M, 3, none⟩) hM _).setCell (p := ⟨M, 4, none⟩) hM _).setCell (p := ⟨M, 5, none⟩) hM _⟩
  rw [k6]
  rfl
theorem ru_ret {w wf : World} {M : Nat} {s : ByteArray} {r : RuS} {ok : Bool} {act : Act} (h : RuD w wf M r) (hd : act.defers = []) (ht : act.tmps[2]? = some (.pointer (some ⟨M, 0, none⟩)) ∧ act.tmps[3]? = some (.bool ok)) (h1 : ok = true → ruleV s = some r.p) (h2 : ok = false → ruleV s = none ∧ r.p = zeroR) : bodyPost Tryd.prog Tryd.f21 (RuPost w s) .ret act wf := by
  have hc := h.cell
  unfold ruCells at hc
  obtain ⟨r0, r1, r2, r3, r4, r5⟩ := cell6_of hc
  obtain ⟨t2, t3⟩ := ht
  refine bodyPost_ret (v := .tuple #[.agg (ruCells r), .bool ok]) (by simp [results, Tryd.results21, go_sem, t2, t3, r0, r1, r2, r3, r4, r5, ruCells]; done) hd ?_
  exact ⟨⟨r, ok, rfl, h.row, h.fl, h1, h2⟩, h.bel⟩
theorem ru_zero {w wx wf : World} {M : Nat} {x0 x1 x2 x3 x4 x5 : Value} (h : wx.heap[M]? = some (.cells #[x0, x1, x2, x3, x4, x5] 47 (0, 0)))
    (hw : wf = (((((wx.setCell ⟨M, 0, none⟩ (.bool false)).setCell ⟨M, 1, none⟩ (.int .i64 0)).setCell ⟨M, 2, none⟩ (.bool false)).setCell ⟨M, 3, none⟩ (.string ⟨#[]⟩)).setCell ⟨M, 4, none⟩ (.string ⟨#[]⟩)).setCell ⟨M, 5, none⟩ (.slice none 0 0)) (hb : Below w.heap.size w wx) (hM : w.heap.size ≤ M) : RuD w wf M zeroS :=
  ru_put zeroS h (RowIt.nil _ _) (FlIt.nil _ _) hw hb hM
theorem fields_none1 {a b c d e f : ByteArray} (h : ¬ (b.size = 1 ∧ letU (uB b 0) = true ∧ (a = bPFX ∨ a = bSFX) ∧ (c = bY ∨ c = bN))) : fieldsV a b c d e f = none := if_neg h
theorem fields_none2 {a b c d e f : ByteArray} (h : affV d = none ∨ affV e = none ∨ condV f = none) : fieldsV a b c d e f = none := by
  unfold fieldsV
  split
  · rcases h with h | h | h
    · rw [h]
    · rw [h]; cases affV d <;> rfl
    · rw [h]; cases affV d <;> cases affV e <;> rfl
  · rfl
theorem fields_some {a b c d e f : ByteArray} {s1 s2 : ByteArray} {l : List ItP} (h : b.size = 1 ∧ letU (uB b 0) = true ∧ (a = bPFX ∨ a = bSFX) ∧ (c = bY ∨ c = bN)) (h1 : affV d = some s1) (h2 : affV e = some s2) (h3 : condV f = some l) : fieldsV a b c d e f = some ⟨decide (a = bPFX), uB b 0, decide (c = bY), s1, s2, l⟩ := by
  unfold fieldsV
  rw [if_pos h, h1, h2, h3]
def rowsV (l : List ByteArray) : Option RuP :=
  match l with
  | [a, b, c, d, e, f] => fieldsV a b c d e f
  | _ => none
theorem ruleV_rows (s : ByteArray) : ruleV s = rowsV (cutB 32 s) := rfl
theorem rows_none {l : List ByteArray} (h : l.length ≠ 6) : rowsV l = none := by
  match l, h with
  | [], _ => rfl
  | [_], _ => rfl
  | [_, _], _ => rfl
  | [_, _, _], _ => rfl
  | [_, _, _, _], _ => rfl
  | [_, _, _, _, _], _ => rfl
  | [_, _, _, _, _, _], h => exact absurd rfl h
  | _ :: _ :: _ :: _ :: _ :: _ :: _ :: _, _ => rfl
structure SwS (w2 wx : World) (N u : Nat) (pf cr : Bool) : Prop where
  cell : wx.heap[N]? = some (.cells #[.bool pf, .int .i64 (u : Nat), .bool cr, .string ⟨#[]⟩, .string ⟨#[]⟩, .slice none 0 0] 47 (0, 0))
  bel : Below w2.heap.size w2 wx
theorem sw_two {w2 wx : World} {N u : Nat} {pf cr x : Bool} (h : SwS w2 wx N u pf cr) (hN : w2.heap.size ≤ N) : SwS w2 (wx.setCell ⟨N, 2, none⟩ (.bool x)) N u pf x :=
  ⟨by rw [setCell_same h.cell]; rfl, h.bel.setCell (p := ⟨N, 2, none⟩) hN _⟩
theorem sw_one {w2 wx : World} {N u : Nat} {pf cr x : Bool} (h : SwS w2 wx N u pf cr) (hN : w2.heap.size ≤ N) : SwS w2 (wx.setCell ⟨N, 0, none⟩ (.bool x)) N u x cr :=
  ⟨by rw [setCell_same h.cell]; rfl, h.bel.setCell (p := ⟨N, 0, none⟩) hN _⟩
structure NcS (w2 wx : World) (N : Nat) (cs : Array Value) : Prop where
  cell : wx.heap[N]? = some (.cells cs 47 (0, 0))
  bel : Below w2.heap.size w2 wx
theorem NcS.below {w2 wx wy : World} {N : Nat} {cs : Array Value} (h : NcS w2 wx N cs) (hb : Below wx.heap.size wx wy) : NcS w2 wy N cs :=
  ⟨(hb.block _ (Array.getElem?_eq_some_iff.1 h.cell).1).trans h.cell, h.bel.trans (hb.mono h.bel.size)⟩
theorem NcS.set {w2 wx : World} {N : Nat} {cs : Array Value} (h : NcS w2 wx N cs) (hN : w2.heap.size ≤ N) (j : Nat) (v : Value) : NcS w2 (wx.setCell ⟨N, j, none⟩ v) N (cs.setIfInBounds j v) :=
  ⟨setCell_same h.cell v, h.bel.setCell (p := ⟨N, j, none⟩) hN _⟩
def okA (a c : ByteArray) : Prop := (a = bPFX ∨ a = bSFX) ∧ (c = bY ∨ c = bN)
structure SwR (w2 wx : World) (N u : Nat) (a c : ByteArray) (pf cr ok : Bool) : Prop where
  s : SwS w2 wx N u pf cr
  yes : ok = true → okA a c ∧ pf = decide (a = bPFX) ∧ cr = decide (c = bY)
  no : ok = false → ¬ okA a c
def sndC : Code → Code
  | .seq _ y => y
  | c => c
def fstC : Code → Code
  | .seq x _ => x
  | c => c
def bodyC (f : Func) : Code := f.body.getD .skip
theorem wp_of_eq {P : Program} {c d : Code} {Q : Exit → Act → World → Prop} {a : Act} {w : World} (h : c = d) (hw : d.wp P Q a w) : c.wp P Q a w := h ▸ hw
def tail6 (f : Func) : Code := sndC (sndC (sndC (sndC (sndC (sndC (bodyC f))))))
set_option maxRecDepth 100000 in
set_option maxHeartbeats 32000000 in
theorem rp_tail {w w2 wc : World} {s a b c d e f : ByteArray} {M N Q u : Nat} {pf cr ok : Bool} (hs : s.size ≤ 1000000)
    (hsr : (ok = true → okA a c ∧ pf = decide (a = bPFX) ∧ cr = decide (c = bY)) ∧ (ok = false → ¬ okA a c))
    (hn4 : NcS w2 wc N #[.bool pf, .int .i64 (u : Nat), .bool cr, .string ⟨#[]⟩, .string ⟨#[]⟩, .slice none 0 0])
    (hm0 : w.heap.size ≤ M) (hn0 : w2.heap.size ≤ N) (hb2 : Below w.heap.size w w2) (hm2 : w2.heap[M]? = some (.cells #[.bool false, .int .i64 0, .bool false, .string ⟨#[]⟩, .string ⟨#[]⟩, .slice none 0 0] 47 (0, 0)))
    (hT : TabsL w2) (hkb : ∀ wx, Below w2.heap.size w2 wx → BlkS wx Q [a, b, c, d, e, f]) (hb1 : b.size = 1 ∧ u = uB b 0) (hlt : true = letU u) (hr2 : ruleV s = fieldsV a b c d e f)
    (zd : d.size ≤ s.size) (ze : e.size ≤ s.size) (zf : f.size ≤ s.size) (u0 u1 u3 u7 u8 u9 u10 u11 u12 u13 u14 u15 u16 u17 u18 u19 u20 u21 u22 u23 u24 u25 u26 u27 u28 u29 u30 u31 u32 u33 u34 u35 u36 u37 u38 u39 u40 u41 u42 u43 u44 u45 u46 u47 u48 u49 u50 u51 u52 u53 u54 u55 u56 u57 u58 u59 u60 u61 u62 u63 u64 u65 u66 u67 u68 u69 u70 u71 u72 u73 u74 u75 u76 u77 u78 u79 u80 u81 u82 u83 u84 u85 u86 u87 u88 u89 u90 u91 u92 u93 u94 u95 u96 u97 u98 : Value) (K : Act → World → Prop)
    (hK : ∀ a w', (sndC (tail6 Tryd.f21)).wp Tryd.prog (bodyPost Tryd.prog Tryd.f21 (RuPost w s)) a w' → K a w') :
    (fstC (tail6 Tryd.f21)).wp Tryd.prog (Exit.then K (bodyPost Tryd.prog Tryd.f21 (RuPost w s))) { tmps := #[u0, u1, .pointer (some ⟨M, 0, none⟩), u3, .slice (some ⟨Q, 0, none⟩) 6 6, .pointer (some ⟨N, 0, none⟩), .bool ok, u7, u8, u9, u10, u11, u12, u13, u14, u15, u16, u17, u18, u19, u20, u21, u22, u23, u24, u25, u26, u27, u28, u29, u30, u31, u32, u33, u34, u35, u36, u37, u38, u39, u40, u41, u42, u43, u44, u45, u46, u47, u48, u49, u50, u51, u52, u53, u54, u55, u56, u57, u58, u59, u60, u61, u62, u63, u64, u65, u66, u67, u68, u69, u70, u71, u72, u73, u74, u75, u76, u77, u78, u79, u80, u81, u82, u83, u84, u85, u86, u87, u88, u89, u90, u91, u92, u93, u94, u95, u96, u97, u98], defers := [] } wc := by
  have HSR := Lib.hid hsr
  have N4 := Lib.hid hn4
  have HM0 := Lib.hid hm0
  have HN0 := Lib.hid hn0
  have B2 := Lib.hid hb2
  have M2 := Lib.hid hm2
  have HT := Lib.hid hT
  have KB := Lib.hid hkb
  have HB1 := Lib.hid hb1
  have HLT := Lib.hid hlt
  have HR2 := Lib.hid hr2
  have CA1 := Lib.hid (affix_calls d wc (by omega) (HT.out.below hn4.bel))
  unfold AfPost at CA1
  have k3 := BlkS.cell (KB.out wc hn4.bel) (j := 3) (p := d) rfl
  clear hsr hn4 hm0 hn0 hb2 hm2 hT hkb hb1 hlt hr2
  have hK2 : ∀ a w', Code.wp Tryd.prog (Code.seq _ _) (bodyPost Tryd.prog Tryd.f21 (RuPost w s)) a w' → K a w' := fun a w' h => hK a w' (wp_of_eq rfl h)
  clear hK
  refine wp_of_eq (d := Code.region _ _ _) rfl ?_
  go_wp2_with (fail)
  refine CA1.out.mono ?_
  rintro e0 u1 ⟨⟨t1, o1, rfl, ha1, ha2⟩, bu1⟩
  have HA1 := Lib.hid (And.intro ha1 ha2)
  have N5 := Lib.hid (N4.out.below bu1)
  obtain ⟨w5, hw5⟩ : ∃ w5, w5 = u1.setCell ⟨N, 3, none⟩ (.string t1) := ⟨_, rfl⟩
  have N6 := Lib.hid (show NcS w2 w5 N #[.bool pf, .int .i64 (u : Nat), .bool cr, .string t1, .string ⟨#[]⟩, .slice none 0 0] by rw [hw5]; exact N5.out.set HN0.out 3 (.string t1))
  have HW5 := Lib.hid hw5
  obtain ⟨n0, n1, n2, n3, n4, n5⟩ := cell6_of N5.out.cell
  have fz : ∀ j, u1.frozen? ⟨N, j, none⟩ = false := fun j => by have := N5.out.cell; simp [World.frozen?, this]
  clear ha1 ha2 bu1 hw5 CA1 k3
  go_upto_region 15 with (fail)
  rw [← HW5.out]
  clear HW5 n0 n1 n2 n3 n4 n5 fz N4 N5
  have CA2 := Lib.hid (affix_calls e w5 (by omega) (HT.out.below N6.out.bel))
  unfold AfPost at CA2
  have k4 := BlkS.cell (KB.out w5 N6.out.bel) (j := 4) (p := e) rfl
  go_wp2_with (fail)
  refine CA2.out.mono ?_
  rintro e0 u2 ⟨⟨t2, o2, rfl, ha1, ha2⟩, bu2⟩
  have HA2 := Lib.hid (And.intro ha1 ha2)
  have N7 := Lib.hid (N6.out.below bu2)
  obtain ⟨w6, hw6⟩ : ∃ w6, w6 = u2.setCell ⟨N, 4, none⟩ (.string t2) := ⟨_, rfl⟩
  have N8 := Lib.hid (show NcS w2 w6 N #[.bool pf, .int .i64 (u : Nat), .bool cr, .string t1, .string t2, .slice none 0 0] by rw [hw6]; exact N7.out.set HN0.out 4 (.string t2))
  have HW6 := Lib.hid hw6
  obtain ⟨n0, n1, n2, n3, n4, n5⟩ := cell6_of N7.out.cell
  have fz : ∀ j, u2.frozen? ⟨N, j, none⟩ = false := fun j => by have := N7.out.cell; simp [World.frozen?, this]
  clear ha1 ha2 bu2 hw6 CA2 k4
  go_upto_region 16 with (fail)
  rw [← HW6.out]
  clear HW6 n0 n1 n2 n3 n4 n5 fz N6 N7
  have B6 := Lib.hid (B2.out.trans (N8.out.bel.mono B2.out.size))
  have CC := Lib.hid (cparse_calls f w6 (by omega) (HT.out.below N8.out.bel))
  unfold CPost at CC
  have k5 := BlkS.cell (KB.out w6 N8.out.bel) (j := 5) (p := f) rfl
  go_wp2_with (fail)
  refine CC.out.mono ?_
  rintro e0 u3 ⟨⟨v, xs, o3, rfl, hR, hF, hc1, hc2⟩, bu3⟩
  obtain ⟨Ax, cx, hv⟩ := own_is hR
  subst hv
  have HC3 := Lib.hid (And.intro hc1 hc2)
  have N9 := Lib.hid (N8.out.below bu3)
  obtain ⟨w7, hw7⟩ : ∃ w7, w7 = u3.setCell ⟨N, 5, none⟩ (.slice Ax xs.length cx) := ⟨_, rfl⟩
  have N10 := Lib.hid (show NcS w2 w7 N #[.bool pf, .int .i64 (u : Nat), .bool cr, .string t1, .string t2, .slice Ax xs.length cx] by rw [hw7]; exact N9.out.set HN0.out 5 (.slice Ax xs.length cx))
  have HR7 := Lib.hid (show RowIt w7 w.heap.size (.slice Ax xs.length cx) xs by rw [hw7]; exact own_other (own_base hR B6.out.size) N9.out.cell (by decide))
  have HF7 := Lib.hid (show FlIt w7 w.heap.size xs from fun x hx => by rw [hw7]; exact own_other (own_base (hF x hx) B6.out.size) N9.out.cell (by decide))
  have HW7 := Lib.hid hw7
  obtain ⟨n0, n1, n2, n3, n4, n5⟩ := cell6_of N9.out.cell
  have fz : ∀ j, u3.frozen? ⟨N, j, none⟩ = false := fun j => by have := N9.out.cell; simp [World.frozen?, this]
  clear hc1 hc2 bu3 hw7 CC k5 hR hF
  go_upto_region 17 with (fail)
  rw [← HW7.out]
  clear HW7 n0 n1 n2 n3 n4 n5 fz N8 N9
  have B7 := Lib.hid (B2.out.trans (N10.out.bel.mono B2.out.size))
  have M7 := Lib.hid ((N10.out.bel.block _ (Array.getElem?_eq_some_iff.1 M2.out).1).trans M2.out)
  obtain ⟨m0, m1, m2, m3, m4, m5⟩ := cell6_of M7.out
  have fzM : ∀ j, w7.frozen? ⟨M, j, none⟩ = false := fun j => by have := M7.out; simp [World.frozen?, this]
  cases ok with
  | false =>
    have E := Lib.hid (show ruleV s = none by rw [HR2.out]; exact fields_none1 (fun h => HSR.out.2 rfl ⟨h.2.2.1, h.2.2.2⟩))
    clear HSR HR2 HB1 HLT HA1 HA2 HC3 HR7 HF7 N10
    go_wp2_with (fail)
    generalize hwf : ((((((w7).setCell ⟨M, 0, none⟩ (.bool _)).setCell ⟨M, 1, none⟩ (.int .i64 _)).setCell ⟨M, 2, none⟩ (.bool _)).setCell ⟨M, 3, none⟩ (.string _)).setCell ⟨M, 4, none⟩ (.string _)).setCell ⟨M, 5, none⟩ (.slice _ _ _) = wf
    have HWF := ru_zero M7.out hwf.symm B7.out HM0.out
    clear hwf
    exact ru_ret HWF rfl ⟨rfl, rfl⟩ (fun h => by cases h) (fun _ => ⟨E.out, rfl⟩)
  | true =>
    cases o1 with
    | false =>
      have E := Lib.hid (show ruleV s = none by rw [HR2.out]; exact fields_none2 (.inl (HA1.out.2 rfl)))
      clear HSR HR2 HB1 HLT HA1 HA2 HC3 HR7 HF7 N10
      go_wp2_with (fail)
      generalize hwf : ((((((w7).setCell ⟨M, 0, none⟩ (.bool _)).setCell ⟨M, 1, none⟩ (.int .i64 _)).setCell ⟨M, 2, none⟩ (.bool _)).setCell ⟨M, 3, none⟩ (.string _)).setCell ⟨M, 4, none⟩ (.string _)).setCell ⟨M, 5, none⟩ (.slice _ _ _) = wf
      have HWF := ru_zero M7.out hwf.symm B7.out HM0.out
      clear hwf
      exact ru_ret HWF rfl ⟨rfl, rfl⟩ (fun h => by cases h) (fun _ => ⟨E.out, rfl⟩)
    | true =>
      cases o2 with
      | false =>
        have E := Lib.hid (show ruleV s = none by rw [HR2.out]; exact fields_none2 (.inr (.inl (HA2.out.2 rfl))))
        clear HSR HR2 HB1 HLT HA1 HA2 HC3 HR7 HF7 N10
        go_wp2_with (fail)
        generalize hwf : ((((((w7).setCell ⟨M, 0, none⟩ (.bool _)).setCell ⟨M, 1, none⟩ (.int .i64 _)).setCell ⟨M, 2, none⟩ (.bool _)).setCell ⟨M, 3, none⟩ (.string _)).setCell ⟨M, 4, none⟩ (.string _)).setCell ⟨M, 5, none⟩ (.slice _ _ _) = wf
        have HWF := ru_zero M7.out hwf.symm B7.out HM0.out
        clear hwf
        exact ru_ret HWF rfl ⟨rfl, rfl⟩ (fun h => by cases h) (fun _ => ⟨E.out, rfl⟩)
      | true =>
        cases o3 with
        | false =>
          have E := Lib.hid (show ruleV s = none by rw [HR2.out]; exact fields_none2 (.inr (.inr (HC3.out.2 rfl).1)))
          clear HSR HR2 HB1 HLT HA1 HA2 HC3 HR7 HF7 N10
          go_wp2_with (fail)
          generalize hwf : ((((((w7).setCell ⟨M, 0, none⟩ (.bool _)).setCell ⟨M, 1, none⟩ (.int .i64 _)).setCell ⟨M, 2, none⟩ (.bool _)).setCell ⟨M, 3, none⟩ (.string _)).setCell ⟨M, 4, none⟩ (.string _)).setCell ⟨M, 5, none⟩ (.slice _ _ _) = wf
          have HWF := ru_zero M7.out hwf.symm B7.out HM0.out
          clear hwf
          exact ru_ret HWF rfl ⟨rfl, rfl⟩ (fun h => by cases h) (fun _ => ⟨E.out, rfl⟩)
        | true =>
          have E := Lib.hid (show ruleV s = some (RuS.p ⟨pf, u, cr, t1, t2, Ax, cx, xs⟩) by
            obtain ⟨hk, hp, hc⟩ := HSR.out.1 rfl
            rw [HR2.out, fields_some ⟨HB1.out.1, by rw [← HB1.out.2, ← HLT.out], hk.1, hk.2⟩ (HA1.out.1 rfl) (HA2.out.1 rfl) (HC3.out.1 rfl), HB1.out.2, hp, hc]
            rfl)
          clear HSR HR2 HB1 HLT HA1 HA2 HC3
          go_upto_region 19 with (fail)
          obtain ⟨n0, n1, n2, n3, n4, n5⟩ := cell6_of N10.out.cell
          clear N10
          go_wp2_with (fail)
          generalize hwf : ((((((w7).setCell ⟨M, 0, none⟩ (.bool _)).setCell ⟨M, 1, none⟩ (.int .i64 _)).setCell ⟨M, 2, none⟩ (.bool _)).setCell ⟨M, 3, none⟩ (.string _)).setCell ⟨M, 4, none⟩ (.string _)).setCell ⟨M, 5, none⟩ (.slice _ _ _) = wf
          have HWF := ru_put ⟨pf, u, cr, t1, t2, Ax, cx, xs⟩ M7.out HR7.out HF7.out hwf.symm B7.out HM0.out
          clear hwf
          exact ru_ret HWF rfl ⟨rfl, rfl⟩ (fun _ => E.out) (fun h => by cases h)
end Go.Proofs.YtmcnnfpeicnnjaaDoor

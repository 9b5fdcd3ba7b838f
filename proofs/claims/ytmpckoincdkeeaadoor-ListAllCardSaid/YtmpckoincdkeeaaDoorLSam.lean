/- list: are two lists the same (the document's Same). -/
import Derived.Test.YtmpckoincdkeeaaDoorListI
namespace Go.Proofs.YtmpckoincdkeeaaDoor
open Go.RowKit Go.Deep Go.Own
set_option linter.unusedVariables false
theorem bytes_ne {a b : ByteArray} (h : ¬ a = b) : ¬ a.toList = b.toList := fun e => h (by
  rw [ByteArray.toList_eq, ByteArray.toList_eq] at e
  exact ByteArray.ext (Array.toList_inj.1 e))
theorem take_step {α : Type} {l m : List α} {k : Nat} {x y : α} (h : l.take k = m.take k) (hx : l[k]? = some x) (hy : m[k]? = some y) (e : x = y) : l.take (k + 1) = m.take (k + 1) := by
  obtain ⟨h1, e1⟩ := List.getElem?_eq_some_iff.1 hx
  obtain ⟨h2, e2⟩ := List.getElem?_eq_some_iff.1 hy
  rw [List.take_succ_eq_append_getElem h1, List.take_succ_eq_append_getElem h2, h, e1, e2, e]
theorem ne_at {α : Type} {l m : List α} {k : Nat} {x y : α} (hx : l[k]? = some x) (hy : m[k]? = some y) (e : ¬ x = y) : ¬ l = m := fun h => by
  rw [h, hy] at hx
  exact e (Option.some.inj hx).symm
set_option maxRecDepth 100000 in
set_option maxHeartbeats 8000000 in
theorem lsameD_calls (es fs : List Ent) (va vb : Value) (w : World) (ha : Got w va es) (hb : Got w vb fs) (hl : es.length ≤ 1000000) (hl2 : fs.length ≤ 1000000) (hfl : ∀ e ∈ es, e.2.length ≤ 1000000) (hfl2 : ∀ e ∈ fs, e.2.length ≤ 1000000) :
    Calls Tryd.prog 21 #[va, vb] w fun e w' => e = .returned (.bool (decide (es = fs))) ∧ ∃ n, w' = w.drewN n := by
  obtain ⟨A, ca, rfl, _, ra⟩ := ha.out
  obtain ⟨B, cb, rfl, _, rb⟩ := hb.out
  have RA := Lib.hid ra
  have RB := Lib.hid rb
  have HFL := Lib.hid hfl
  have HFL2 := Lib.hid hfl2
  clear ra rb ha hb hfl hfl2
  by_cases hlen : es.length = fs.length
  · obtain ⟨n, hn⟩ : ∃ n, n = es.length := ⟨_, rfl⟩
    have hn2 : n = fs.length := by omega
    have HN := Lib.hid (And.intro hn hn2)
    rw [← hn, ← hn2]
    rw [← hn] at hl
    clear hn hn2 hlen hl2
    go_enter Tryd.func21, Tryd.ntmps21
    go_wp2_with (fail)
    go_loopw [5] (fun iv wr => ∃ i nk : Nat, i ≤ n ∧ iv = .int .i64 (i : Nat) ∧ wr = w.drewN nk ∧ es.take i = fs.take i) (fun iv _ => n - (intOf iv).toNat)
    case atStart => exact ⟨0, 0, Nat.zero_le _, rfl, rfl, rfl⟩
    case round =>
      obtain ⟨i, nk, hi, rfl, rfl, htk⟩ := hrel
      have HTK := Lib.hid htk
      clear htk
      by_cases hlt : i < n
      · have g1 : decide (i < n) = true := by simpa using hlt
        obtain ⟨x, hx⟩ : ∃ x, es[i]? = some x := ⟨_, List.getElem?_eq_getElem (by have := HN.out.1; omega)⟩
        obtain ⟨y, hy⟩ : ∃ y, fs[i]? = some y := ⟨_, List.getElem?_eq_getElem (by have := HN.out.2; omega)⟩
        obtain ⟨qa, oa, Fa, fa, rfl, _, a1, a2, _, a4⟩ := RA.out i x hx
        obtain ⟨qb, ob, Fb, fb, rfl, _, b1, b2, _, b4⟩ := RB.out i y hy
        have hz := HFL.out x (List.mem_of_getElem? hx)
        have hz2 := HFL2.out y (List.mem_of_getElem? hy)
        have HXY := Lib.hid (And.intro hx hy)
        obtain ⟨wd, fl⟩ := x
        obtain ⟨vd, gl⟩ := y
        simp only at a1 a2 a4 b1 b2 b4 hz hz2
        have A4 := Lib.hid a4
        have B4 := Lib.hid b4
        clear hx hy a4 b4
        by_cases hwd : wd = vd
        · subst hwd
          by_cases hfl : fl.length = gl.length
          · have HF := Lib.hid hfl
            rw [← hfl] at b2
            obtain ⟨m, hm⟩ : ∃ m, m = fl.length := ⟨_, rfl⟩
            have HM := Lib.hid (And.intro hm (show m = gl.length by omega))
            rw [← hm] at a2 b2 hz
            clear hfl hz2 hm
            go_upto_region 6 with (fail)
            refine Own.region_all (fun w' => ∃ n, w' = World.drewN w n) (by kernel_rfl) (by kernel_rfl) ⟨nk + 1, by first | rfl | simp | trace_state⟩ ?_
            repeat (go_big_quiet_step (fail))
            refine wpQuiet_nil ?_
            rintro _ ⟨nq, rfl⟩
            go_wp2_with (fail)
            go_loopw [6] (fun kv wz => ∃ k nz : Nat, k ≤ m ∧ kv = .int .i64 (k : Nat) ∧ wz = w.drewN nz ∧ fl.take k = gl.take k) (fun kv _ => m - (intOf kv).toNat)
            case atStart => exact ⟨0, nq, Nat.zero_le _, rfl, rfl, rfl⟩
            case round =>
              obtain ⟨k, nz, hk, rfl, rfl, hft⟩ := hrel
              have HFT := Lib.hid hft
              clear hft
              by_cases hkl : k < m
              · have g2 : decide (k < m) = true := by simpa using hkl
                obtain ⟨v, hv⟩ : ∃ v, fl[k]? = some v := ⟨_, List.getElem?_eq_getElem (by have := HM.out.1; omega)⟩
                obtain ⟨u, hu⟩ : ∃ u, gl[k]? = some u := ⟨_, List.getElem?_eq_getElem (by have := HM.out.2; omega)⟩
                obtain ⟨ba, pa, rfl, ya⟩ := reads_at A4.out (Below.refl _ _) hv
                obtain ⟨bb, pb, rfl, yb⟩ := reads_at B4.out (Below.refl _ _) hu
                have HVU := Lib.hid (And.intro hv hu)
                clear hv hu
                by_cases hvu : v = u
                · subst hvu
                  have E := Lib.hid (take_step HFT.out HVU.out.1 HVU.out.2 rfl)
                  go_upto_region 11 with (fail)
                  refine Own.region_all (fun w' => ∃ n, w' = World.drewN w n) (by kernel_rfl) (by kernel_rfl) ⟨nz + 1, by first | rfl | simp | trace_state⟩ ?_
                  repeat (go_big_quiet_step (fail))
                  refine wpQuiet_nil ?_
                  rintro _ ⟨nq2, rfl⟩
                  go_wp2_with (fail)
                  go_roundw
                  case rel => exact ⟨k + 1, nq2, hkl, by go_num, rfl, E.out⟩
                  case measure => simp [intOf]; omega
                · have g3 : (v == u) = false := by simpa using hvu
                  have E := Lib.hid (show decide (es = fs) = false from decide_eq_false (ne_at HXY.out.1 HXY.out.2 (fun e => ne_at HVU.out.1 HVU.out.2 hvu (Prod.mk.inj e).2)))
                  clear hvu
                  go_upto_region 11 with (fail)
                  refine Own.region_all (fun w' => ∃ n, w' = World.drewN w n) (by kernel_rfl) (by kernel_rfl) ⟨nz + 1, by first | rfl | simp | trace_state⟩ ?_
                  repeat (go_big_quiet_step (fail))
                  refine wpQuiet_nil ?_
                  rintro _ ⟨nq2, rfl⟩
                  go_wp2_with (fail)
                  go_ret
                  exact ⟨by rw [E.out]; rfl, nq2, rfl⟩
              · have g2 : decide (k < m) = false := by simpa using hkl
                have E := Lib.hid (show es.take (i + 1) = fs.take (i + 1) from take_step HTK.out HXY.out.1 HXY.out.2 (by
                  have h1 := HFT.out
                  rw [List.take_of_length_le (by have := HM.out.1; omega), List.take_of_length_le (by have := HM.out.2; omega)] at h1
                  rw [h1]))
                go_wp2_with (fail)
                go_roundw
                case rel => exact ⟨i + 1, nz, hlt, by go_num, rfl, E.out⟩
                case measure => simp [intOf]; omega
          · have E := Lib.hid (show decide (es = fs) = false from decide_eq_false (ne_at HXY.out.1 HXY.out.2 (fun e => hfl (by rw [(Prod.mk.inj e).2]))))
            have g3 : (fl.length == gl.length) = false := by simpa using hfl
            have g4 : ((fl.length : Int) == (gl.length : Int)) = false := by simp; omega
            have g5 : ¬ fl.length = gl.length := hfl
            clear hfl
            go_upto_region 6 with (fail)
            refine Own.region_all (fun w' => ∃ n, w' = World.drewN w n) (by kernel_rfl) (by kernel_rfl) ⟨nk + 1, by first | rfl | simp | trace_state⟩ ?_
            repeat (go_big_quiet_step (fail))
            refine wpQuiet_nil ?_
            rintro _ ⟨nq, rfl⟩
            go_wp2_with (fail)
            go_ret
            exact ⟨by rw [E.out]; rfl, nq, rfl⟩
        · have E := Lib.hid (show decide (es = fs) = false from decide_eq_false (ne_at HXY.out.1 HXY.out.2 (fun e => hwd (Prod.mk.inj e).1)))
          have g3 := bytes_ne hwd
          have g4 : (wd.toList == vd.toList) = false := by rw [beq_eq_false_iff_ne]; exact g3
          go_upto_region 6 with (fail)
          refine Own.region_all (fun w' => ∃ n, w' = World.drewN w n) (by kernel_rfl) (by kernel_rfl) ⟨nk + 1, by first | rfl | simp | trace_state⟩ ?_
          repeat (go_big_quiet_step (fail))
          refine wpQuiet_nil ?_
          rintro _ ⟨nq, rfl⟩
          go_wp2_with (fail)
          go_ret
          exact ⟨by rw [E.out]; rfl, nq, rfl⟩
      · have g1 : decide (i < n) = false := by simpa using hlt
        have E := Lib.hid (show decide (es = fs) = true from decide_eq_true (by
          have h1 := HTK.out
          rw [List.take_of_length_le (by have := HN.out.1; omega), List.take_of_length_le (by have := HN.out.2; omega)] at h1
          exact h1))
        go_wp2_with (fail)
        go_ret
        exact ⟨by rw [E.out]; rfl, nk, rfl⟩
  · have E := Lib.hid (show decide (es = fs) = false from decide_eq_false fun e => hlen (by rw [e]))
    have g3 : (es.length == fs.length) = false := by simpa using hlen
    have g4 : ((es.length : Int) == (fs.length : Int)) = false := by simp; omega
    go_enter Tryd.func21, Tryd.ntmps21
    go_wp2_with (fail)
    go_ret
    exact ⟨by rw [E.out]; rfl, 0, rfl⟩
end Go.Proofs.YtmpckoincdkeeaaDoor

/- Store's laws: StoreGrows. -/
import Derived.Test.YtemcffihfeaniaaStoreE
namespace Go.Own
open Go Go.RowKit Go.Deep
set_option linter.unusedVariables false
/-- a slice of texts that is read -/
def ReadsS (w : World) (A : Option Addr) (l : List ByteArray) : Prop :=
  0 < l.length → ∃ b o, A = some ⟨b, o, none⟩ ∧ ∀ w' : World, w.Since w.heap.size w' → ∀ i, i < l.length → w'.cell? ⟨b, o + i, none⟩ = some (.string (l.getD i ⟨#[]⟩))
def IsRowS (w : World) (a : Option Addr) (len cap : Nat) (ss : List ByteArray) : Prop :=
  (a = none ∧ len = 0 ∧ cap = 0 ∧ ss = []) ∨
  ∃ x, a = some x ∧ len ≤ cap ∧ ss.length = cap ∧ ∀ i, i < ss.length → w.cell? (x.add i) = some (.string (ss.getD i ByteArray.empty))
theorem ReadsS.of_row {w : World} {A : Option Addr} {len cap : Nat} {ss : List ByteArray} (h : IsRowS w A len cap ss) : ReadsS w A (ss.take len) ∧ (ss.take len).length = len := by
  rcases h with ⟨rfl, rfl, rfl, rfl⟩ | ⟨x, rfl, hl, hz, hc⟩
  · exact ⟨fun h => by simp at h, rfl⟩
  · have hlen : (ss.take len).length = len := by rw [List.length_take]; omega
    refine ⟨fun h0 => ?_, hlen⟩
    rw [hlen] at h0
    have h1 := hc 0 (by omega)
    rw [show x.add 0 = x from by simp [Addr.add]] at h1
    obtain ⟨b, o, rfl⟩ := cell_plain h1
    refine ⟨b, o, rfl, fun w' hs i hi => ?_⟩
    rw [hlen] at hi
    have hci := hc i (by omega)
    rw [show (⟨b, o, none⟩ : Addr).add i = ⟨b, o + i, none⟩ from by unfold Addr.add; split <;> simp_all] at hci
    rw [hs.cell (a := ⟨b, o + i, none⟩) (World.block_lt_of_cell? _ _ hci), hci]
    have hi2 : i < ss.length := by omega
    rw [List.getD_eq_getElem?_getD, List.getD_eq_getElem?_getD, List.getElem?_take, if_pos hi, List.getElem?_eq_getElem hi2]
    rfl
end Go.Own
namespace Go.Proofs.Ytemcffihfeaniaa
open Go.RowKit Go.Deep Go.Own
set_option linter.unusedVariables false
theorem cutB_front (x p : List UInt8) (k m : Nat) (h : k + m ≤ x.length) : cutB (x ++ p) k m = cutB x k m := by
  unfold cutB
  congr 2
  rw [List.drop_append_of_le_length (by omega), List.take_append_of_le_length (by rw [List.length_drop]; omega)]
theorem stS_add {W w : World} {b : Nat} (y z : ByteArray) (h : St W w b y.data.toList) (hsz : y.size + z.size ≤ 1099511627776) :
    Calls Try.prog 18 #[.pointer (some ⟨b, 0, none⟩), .string z] w fun e w' => e = .returned (.int .i64 (y.size : Nat)) ∧ St W w' b (y ++ z).data.toList := by
  have hl : y.data.toList.length = y.size := by simp
  exact (st_add z h (by rw [hl]; exact hsz)).mono fun e w' ⟨h1, h2⟩ => ⟨by rw [h1, hl], by simpa using h2⟩
theorem stS_len {W w : World} {b : Nat} (y : ByteArray) (h : St W w b y.data.toList) :
    Calls Try.prog 20 #[.pointer (some ⟨b, 0, none⟩)] w fun e w' => e = .returned (.int .i64 (y.size : Nat)) ∧ w = w' := by
  have hl : y.data.toList.length = y.size := by simp
  exact (st_len h).mono fun e w' ⟨h1, h2⟩ => ⟨by rw [h1, hl], h2⟩
theorem stS_slice {W w : World} {b : Nat} (y x : ByteArray) (p : List UInt8) (hy : y.data.toList = x.data.toList ++ p) (k m : Nat) (h : St W w b y.data.toList) (hkm : k + m ≤ x.size) (hsz : y.size ≤ 1099511627776) :
    Calls Try.prog 19 #[.pointer (some ⟨b, 0, none⟩), .int .i64 (k : Nat), .int .i64 (m : Nat)] w fun e w' => e = .returned (.tuple #[.string (x.extract k (k + m)), .bool true]) ∧ St W w' b y.data.toList := by
  have hl : y.data.toList.length = y.size := by simp
  have hx : x.data.toList.length = x.size := by simp
  have hle : x.size ≤ y.size := by rw [← hl, hy, List.length_append, hx]; omega
  exact st_slice k m h (by rw [hl]; omega) (by rw [hl]; exact hsz) _ (by rw [hy, cutB_front _ _ _ _ (by rw [hx]; exact hkm), cutB_extract])
theorem slice_str (x : ByteArray) (f n : Nat) (hfn : f + n ≤ x.size) (w : World) : (Instr.slice 9 (.string x) (some (.int .i64 (f : Nat))) (some (.int .i64 ((f : Int) + (n : Int)))) none).run Try.prog w = .ok (.string (x.extract f (f + n))) w := by
  have e : ((f : Int) + (n : Int)) = ((f + n : Nat) : Int) := by omega
  rw [e, run_slice_string (t := 9) (s := x) (k := .i64) (k' := .i64) (i := (f : Nat)) (j := ((f + n : Nat) : Int)) (h := Try.underlying9)]
  · have e2 : ((f : Int) + (n : Int)).toNat = f + n := by omega
    simp [e2]
  all_goals omega
set_option maxRecDepth 100000 in
set_option maxHeartbeats 4000000 in
theorem storeGrows_walk (x : ByteArray) (A : Option Addr) (cap : Nat) (l : List ByteArray) (at' n : Int) (W : World) (hx : x.size ≤ 140737488351232) (hA : ReadsS W A l) (hat : (Lit.int .i64 at').wf = true) (hn : (Lit.int .i64 n).wf = true) :
    Calls Try.prog 3 #[.string x, .slice A l.length cap, .int .i64 at', .int .i64 n] W fun e w' => e = .returned (.bool true) ∧ Below W.heap.size W w' := by
  clear hat hn
  by_cases hg : 500 < x.size ∨ 40 < l.length
  · by_cases h5 : 500 < x.size
    · go_enter Try.func3, Try.ntmps3
      go_wp2_with (first | (go_at_call 15; refine (awake_calls _).mono ?_; rintro e w1 ⟨rfl, h1⟩))
      go_ret
      exact ⟨rfl, h1⟩
    · have h6 : 40 < l.length := by omega
      clear hg
      go_enter Try.func3, Try.ntmps3
      go_wp2_with (first | (go_at_call 15; refine (awake_calls _).mono ?_; rintro e w1 ⟨rfl, h1⟩))
      go_ret
      exact ⟨rfl, h1⟩
  · have hx5 : x.size ≤ 500 := by omega
    have hl4 : l.length ≤ 40 := by omega
    clear hg hx
    obtain ⟨k, hk, _, ck⟩ := place_nat at' (x.size + 1) (by omega) (by omega)
    obtain ⟨m, hm, _, cm⟩ := place_nat n (x.size - k + 1) (by omega) (by omega)
    have e1 : ((x.size - k + 1 : Nat) : Int) = (x.size : Int) - (k : Int) + 1 := by omega
    rw [e1] at cm
    have CK := Lib.hid (show ∀ w : World, Calls Try.prog 17 #[.int .i64 at', .int .i64 ((x.size : Int) + 1)] w fun e w' => e = .returned (.int .i64 (k : Nat)) ∧ w = w' from ck)
    have CM := Lib.hid cm
    have sl := slice_str x k m (by omega)
    have HN := Lib.hid (st_new x W (by omega))
    have HA := Lib.hid hA
    clear ck cm e1 hA
    have hkm : k + m ≤ x.size := by omega
    go_enter Try.func3, Try.ntmps3
    go_wp2_with (first
      | (go_at_call 16; refine HN.out.mono ?_; rintro e w1 ⟨rfl, h1⟩; clear HN)
      | (go_at_call 17; refine (CK.out _).mono ?_; rintro e w2 ⟨rfl, rfl⟩; clear CK)
      | (go_at_call 17; refine (CM.out _).mono ?_; rintro e w2 ⟨rfl, rfl⟩; clear CM))
    go_loopw [10, 13] (fun s u wr => ∃ (i : Nat) (y : ByteArray) (p : List UInt8), i ≤ l.length ∧ s = .string y ∧ u = .int .i64 (i : Nat) ∧ y.data.toList = x.data.toList ++ p ∧ y.size ≤ 500 + 200 * i ∧ St W wr W.heap.size y.data.toList) (fun _ u _ => l.length - (intOf u).toNat)
    case atStart => exact ⟨0, x, [], by omega, rfl, rfl, by simp, by omega, h1⟩
    case round =>
      obtain ⟨i, y, p, hi, rfl, rfl, hy, hys, hS⟩ := hrel
      clear h1
      have HY := Lib.hid hy
      clear hy
      by_cases hlt : i < l.length
      · obtain ⟨bb, oo, rfl, hcell⟩ := HA.out (by omega)
        obtain ⟨z, hz⟩ : ∃ z, z = l.getD i ⟨#[]⟩ := ⟨_, rfl⟩
        have x1 : ∀ wz : World, St W wz W.heap.size y.data.toList → wz.cell? ⟨bb, oo + i, none⟩ = some (.string z) := fun wz h => by rw [hz]; exact hcell wz (since_of_below h.below) i hlt
        have x2 : ∀ wz : World, St W wz W.heap.size (y ++ z).data.toList → wz.cell? ⟨bb, oo + i, none⟩ = some (.string z) := fun wz h => by rw [hz]; exact hcell wz (since_of_below h.below) i hlt
        have X1 := Lib.hid x1
        have X2 := Lib.hid x2
        have y1 := x1 _ hS
        clear x1 x2 hz hcell
        by_cases h2 : 200 < z.size
        · go_wp2_with (first | (go_at_call 15; refine (awake_calls _).mono ?_; rintro e w3 ⟨rfl, h3⟩))
          go_ret
          exact ⟨rfl, hS.below.trans (h3.mono hS.below.size)⟩
        · have hyz : (y ++ z).size = y.size + z.size := by simp
          have hyl : (y ++ z).data.toList = x.data.toList ++ (p ++ z.data.toList) := by simp [HY.out]
          have HYZ := Lib.hid hyz
          have HYL := Lib.hid hyl
          clear hyz hyl
          go_wp2_with (first
            | (go_at_call 18; refine (stS_add y z hS (by omega)).mono ?_; rintro e w3 ⟨rfl, h3⟩; have y2 := X2.out _ h3; clear hS y1)
            | (go_at_call 19; refine (stS_slice (y ++ z) x _ HYL.out k m h3 hkm (by rw [HYZ.out]; omega)).mono ?_; rintro e w4 ⟨rfl, h4⟩; clear h3 y2)
            | (go_at_call 20; refine (stS_len (y ++ z) h4).mono ?_; rintro e w5 ⟨rfl, rfl⟩))
          go_roundw
          case rel => exact ⟨i + 1, y ++ z, _, by omega, rfl, by go_num, HYL.out, by rw [HYZ.out]; omega, h4⟩
          case measure => simp [intOf]; omega
      · have hyb : y.size ≤ 10000 := by omega
        obtain ⟨k2, hk2, _, ck2⟩ := place_nat at' (y.size + 1) (by omega) (by omega)
        obtain ⟨m2, hm2, _, cm2⟩ := place_nat n (y.size - k2 + 1) (by omega) (by omega)
        have e1 : ((y.size - k2 + 1 : Nat) : Int) = (y.size : Int) - (k2 : Int) + 1 := by omega
        rw [e1] at cm2
        have CK2 := Lib.hid (show ∀ w : World, Calls Try.prog 17 #[.int .i64 at', .int .i64 ((y.size : Int) + 1)] w fun e w' => e = .returned (.int .i64 (k2 : Nat)) ∧ w = w' from ck2)
        have CM2 := Lib.hid cm2
        have sl2 := slice_str y k2 m2 (by omega)
        have C2 := Lib.hid (stS_slice y y [] (by simp) k2 m2 hS (by omega) (by omega))
        clear ck2 cm2 e1 sl
        go_wp2_with (first
          | (go_at_call 17; refine (CK2.out _).mono ?_; rintro e w2 ⟨rfl, rfl⟩; clear CK2)
          | (go_at_call 17; refine (CM2.out _).mono ?_; rintro e w2 ⟨rfl, rfl⟩; clear CM2)
          | (go_at_call 19; refine C2.out.mono ?_; rintro e w4 ⟨rfl, h4⟩; clear C2)
          | (go_at_call 15; refine (awake_calls _).mono ?_; rintro e w6 ⟨rfl, h6⟩))
        go_ret
        exact ⟨rfl, h4.below.trans (h6.mono h4.below.size)⟩
end Go.Proofs.Ytemcffihfeaniaa

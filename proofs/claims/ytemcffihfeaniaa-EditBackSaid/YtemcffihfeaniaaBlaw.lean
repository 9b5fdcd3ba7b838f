/- Buffer's laws: awake. -/
import Derived.Test.YtemcffihfeaniaaBt
namespace Go.Proofs.Ytemcffihfeaniaa
open Go.RowKit Go.Deep Go.Own
set_option linter.unusedVariables false
theorem arr_self (s : ByteArray) : (⟨s.data.toList.toArray⟩ : ByteArray) = s := by cases s; simp
section
variable {W w w' : World} {b : Nat} {most k g : Nat}
theorem bs_text (x : ByteArray) (h : Bt W w b x.data.toList most k g) (hg : g ≤ 1000000) : Calls Try.prog 35 #[.pointer (some ⟨b, 0, none⟩)] w fun e w' => e = .returned (.string x) ∧ Bt W w' b x.data.toList most k g := by
  have := bt_text h hg
  rwa [arr_self] at this
theorem bs_len (x : ByteArray) (h : Bt W w b x.data.toList most k g) : Calls Try.prog 37 #[.pointer (some ⟨b, 0, none⟩)] w fun e w' => e = .returned (.int .i64 (x.size : Nat)) ∧ w = w' := by
  have := bt_len h
  rwa [show x.data.toList.length = x.size by simp] at this
theorem bs_new (s : ByteArray) (most : Int) (M : Nat) (hM : imax 0 (imin most 65536) = (M : Int)) (hM2 : M ≤ 65536) (W w : World) (h : Below W.heap.size W w) (hs : s.size ≤ M) :
    Calls Try.prog 33 #[.string s, .int .i64 most] w fun e w' => ∃ b k, e = .returned (.tuple #[.pointer (some ⟨b, 0, none⟩), .int .i64 0]) ∧ k ≤ 1 ∧ Bt W w' b s.data.toList M k 0 :=
  (bnew_ok s most M hM hM2 w hs).mono fun e w' ⟨b, h1, c, bo, ba, bt, vl, ps, qs, X, h2, h3, h4, h5, h6⟩ =>
    ⟨b, qs.length, h1, h6, ⟨⟨c, _, _, bo, ba, bt, vl, ps, qs, X, fun j hj => Nat.le_trans h.size (h2 j hj), h4, rfl, by simp; omega, by simp, by omega⟩, h.trans (h3.mono h.size), by simpa using hs, hM2⟩⟩
theorem bs_insert (x y : ByteArray) (a : Int) (s : ByteArray) (r : Int) (h : Bt W w b x.data.toList most k g) (hr : insR x.data.toList most a s.data.toList = (r, y.data.toList)) (hg : g ≤ 1000000) (hs : s.size ≤ 140737488351232) : Calls Try.prog 34 #[.pointer (some ⟨b, 0, none⟩), .int .i64 a, .string s] w fun e w' =>
    e = .returned (.int .i64 r) ∧ ∃ k', k' ≤ k + 2 ∧ Bt W w' b y.data.toList most k' (g + 1) := by
  have := bt_insert h hg a s hs
  rwa [hr] at this
theorem bs_delete (x y : ByteArray) (a n : Int) (r : Int) (h : Bt W w b x.data.toList most k g) (hr : delR x.data.toList a n = (r, y.data.toList)) (hg : g ≤ 1000000) : Calls Try.prog 36 #[.pointer (some ⟨b, 0, none⟩), .int .i64 a, .int .i64 n] w fun e w' =>
    e = .returned (.int .i64 r) ∧ ∃ k', k' ≤ k + 1 ∧ Bt W w' b y.data.toList most k' (g + 1) := by
  have := bt_delete h hg a n
  rwa [hr] at this
end
set_option maxRecDepth 100000 in
set_option maxHeartbeats 4000000 in
theorem bu_awake (W : World) : Calls Try.prog 32 #[] W fun e w' => e = .returned (.bool true) ∧ Below W.heap.size W w' := by
  have CN := Lib.hid (bs_new ⟨#[97, 98]⟩ 9 9 (by decide) (by decide) W W (Below.refl _ _) (by decide))
  have CB := Lib.hid (fun w => bnew_big ⟨#[97, 98]⟩ 1 1 (by decide) w (by decide) (by unfold BigS; decide))
  go_enter Try.func32, Try.ntmps32
  go_wp2_with (fail)
  refine CN.out.mono ?_
  rintro e w1 ⟨b, k, rfl, hk, h1⟩
  have CI := Lib.hid (bs_insert ⟨#[97, 98]⟩ ⟨#[97, 120, 98]⟩ 1 ⟨#[120]⟩ 0 h1 (by decide) (by decide) (by decide))
  clear h1
  go_wp2_with (fail)
  refine CI.out.mono ?_
  rintro e w2 ⟨rfl, k2, hk2, h2⟩
  clear CI
  go_wp2_with (fail)
  refine (CB.out _).mono ?_
  rintro e w3 ⟨rfl, rfl⟩
  have CT := Lib.hid (bs_text ⟨#[97, 120, 98]⟩ h2 (by decide))
  clear h2
  go_wp2_with (fail)
  refine CT.out.mono ?_
  rintro e w4 ⟨rfl, h4⟩
  have CL := Lib.hid (bs_len ⟨#[97, 120, 98]⟩ h4)
  rw [show ((⟨#[97, 120, 98]⟩ : ByteArray).size) = 3 from rfl] at CL
  have H4 := Lib.hid h4
  clear h4 CT
  go_wp2_with (fail)
  refine CL.out.mono ?_
  rintro e w5 ⟨rfl, rfl⟩
  go_wp2_with (fail)
  go_ret
  exact ⟨rfl, H4.out.below⟩
end Go.Proofs.Ytemcffihfeaniaa

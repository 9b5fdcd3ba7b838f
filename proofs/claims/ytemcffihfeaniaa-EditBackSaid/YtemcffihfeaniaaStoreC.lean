/- Store's laws: awake, Place, StoreNone. -/
import Derived.Test.YtemcffihfeaniaaStoreB
namespace Go.Proofs.Ytemcffihfeaniaa
open Go.RowKit Go.Deep Go.Own
set_option linter.unusedVariables false
structure St (W w : World) (b : Nat) (t : List UInt8) : Prop where
  holds : Holds w (Mk W w) b t
  below : Below W.heap.size W w
theorem St.later {W w w' : World} {b : Nat} {t : List UInt8} (h : St W w b t) (hb : Below w.heap.size w w') : St W w' b t :=
  ⟨(h.holds.keep (fun k hk _ => hb.block k hk)).mono (fun k hk => ⟨hk.1, Nat.lt_of_lt_of_le hk.2 hb.size⟩), h.below.trans (hb.mono h.below.size)⟩
theorem St.drew {W w : World} {b : Nat} {t : List UInt8} (h : St W w b t) : St W w.drew b t := h.later (Below.refl _ _).drew
theorem St.drewN {W w : World} {b n : Nat} {t : List UInt8} (h : St W w b t) : St W (w.drewN n) b t := h.later ⟨rfl, rfl, rfl, Nat.le_refl _, fun _ _ => rfl⟩
theorem st_new (x : ByteArray) (W : World) (hx : x.size ≤ 1099511627776) : Calls Try.prog 16 #[.string x] W fun e w' => e = .returned (.pointer (some ⟨W.heap.size, 0, none⟩)) ∧ St W w' W.heap.size x.data.toList :=
  (new_calls x W hx).mono fun e w' ⟨h1, h2, h3⟩ => ⟨h1, h2, h3⟩
theorem st_add {W w : World} {b : Nat} {t : List UInt8} (x : ByteArray) (h : St W w b t) (hsz : t.length + x.size ≤ 1099511627776) :
    Calls Try.prog 18 #[.pointer (some ⟨b, 0, none⟩), .string x] w fun e w' => e = .returned (.int .i64 (t.length : Nat)) ∧ St W w' b (t ++ x.data.toList) :=
  (add_calls _ b t x w h.holds hsz).mono fun e w' ⟨h1, h2, h3⟩ => ⟨h1, h2.mono (fun k hk => by
    have := h3.size
    have := h.below.size
    rcases hk with hk | hk
    · exact ⟨hk.1, by have := hk.2; omega⟩
    · exact ⟨by have := hk.1; omega, hk.2⟩), h.below.trans (h3.below (fun k hk => hk.1) h.below.size)⟩
theorem st_slice {W w : World} {b : Nat} {t : List UInt8} (f n : Nat) (h : St W w b t) (hfn : f + n ≤ t.length) (hsz : t.length ≤ 1099511627776) (s : ByteArray) (hs : s = cutB t f n) :
    Calls Try.prog 19 #[.pointer (some ⟨b, 0, none⟩), .int .i64 (f : Nat), .int .i64 (n : Nat)] w fun e w' => e = .returned (.tuple #[.string s, .bool true]) ∧ St W w' b t :=
  (slice_ok _ b t f n w h.holds (fun k hk => hk.2) hfn hsz).mono fun e w' ⟨h1, h2⟩ => ⟨by rw [h1, hs], h.later h2⟩
theorem st_slice_no {W w : World} {b : Nat} {t : List UInt8} (f n : Int) (h : St W w b t) (hf : (Lit.int .i64 f).wf = true) (hn : (Lit.int .i64 n).wf = true) (hno : ¬ (0 ≤ f ∧ 0 ≤ n ∧ f ≤ t.length ∧ n ≤ t.length - f)) (hsz : t.length ≤ 1099511627776) :
    Calls Try.prog 19 #[.pointer (some ⟨b, 0, none⟩), .int .i64 f, .int .i64 n] w fun e w' => e = .returned (.tuple #[.string ⟨#[]⟩, .bool false]) ∧ St W w' b t :=
  (slice_no _ b t f n w h.holds hf hn hno hsz).mono fun e w' ⟨h1, h2⟩ => ⟨h1, h.later h2⟩
theorem st_len {W w : World} {b : Nat} {t : List UInt8} (h : St W w b t) : Calls Try.prog 20 #[.pointer (some ⟨b, 0, none⟩)] w fun e w' => e = .returned (.int .i64 (t.length : Nat)) ∧ w = w' := len_calls _ b t w h.holds
theorem cutB_extract (x : ByteArray) (f n : Nat) : x.extract f (f + n) = cutB x.data.toList f n := by
  unfold cutB
  have e : f + n - f = n := by omega
  rw [show x = ByteArray.mk x.data.toList.toArray from rfl, ByteArray.extract_mk, e]
theorem tmod_neg {v n : Int} (hn : 0 < n) (h : v.tmod n < 0) : v % n = v.tmod n + n := by
  have h0 := Int.emod_nonneg v (show n ≠ 0 by omega)
  have h1 := Int.emod_lt_of_pos v hn
  rw [Int.tmod_eq_emod] at h ⊢
  split at h
  · omega
  · rename_i hh; rw [if_neg hh]; simp only [Int.natAbs_of_nonneg (show 0 ≤ n by omega)]; omega
theorem tmod_pos {v n : Int} (hn : 0 < n) (h : ¬ v.tmod n < 0) : v % n = v.tmod n := by
  have h0 := Int.emod_nonneg v (show n ≠ 0 by omega)
  have h1 := Int.emod_lt_of_pos v hn
  rw [Int.tmod_eq_emod] at h ⊢
  split at h
  · rename_i hh; rw [if_pos hh]; omega
  · rename_i hh; simp only [Int.natAbs_of_nonneg (show 0 ≤ n by omega)] at h; omega
theorem place_calls (v n : Int) (w : World) (hn : 0 < n) (hn' : n ≤ 1099511627776) :
    Calls Try.prog 17 #[.int .i64 v, .int .i64 n] w fun e w' => e = .returned (.int .i64 (v % n)) ∧ w = w' := by
  have hne : (n == 0) = false := by simp; omega
  have hne1 : (n == -1) = false := by simp; omega
  have t1 := Int.tmod_lt_of_pos v hn
  have t2 : -n < v.tmod n := Int.lt_tmod_of_pos v hn
  by_cases h : v.tmod n < 0
  · have E := Lib.hid (tmod_neg hn h)
    go_enter Try.func17, Try.ntmps17
    go_wp2
    go_ret
    exact ⟨ret_int E.out.symm, rfl⟩
  · have E := Lib.hid (tmod_pos hn h)
    go_enter Try.func17, Try.ntmps17
    go_wp2
    go_ret
    exact ⟨ret_int E.out.symm, rfl⟩
theorem awake_calls (W : World) : Calls Try.prog 15 #[] W fun e w' => e = .returned (.bool true) ∧ Below W.heap.size W w' := by
  go_enter Try.func15, Try.ntmps15
  go_wp2_with (first
    | (go_at_call 16; refine (st_new ⟨#[97, 98]⟩ _ (by decide)).mono ?_; rintro e w1 ⟨rfl, h1⟩)
    | (go_at_call 18; refine (st_add (t := [97, 98]) ⟨#[99]⟩ h1 (by decide)).mono ?_; rintro e w2 ⟨rfl, h2⟩; clear h1)
    | (go_at_call 19; refine (st_slice (t := [97, 98, 99]) 1 2 h2 (by decide) (by decide) ⟨#[98, 99]⟩ rfl).mono ?_; rintro e w3 ⟨rfl, h3⟩; clear h2)
    | (go_at_call 20; refine (st_len h3).mono ?_; rintro e w4 ⟨rfl, rfl⟩))
  go_ret
  exact ⟨rfl, h3.below⟩
end Go.Proofs.Ytemcffihfeaniaa

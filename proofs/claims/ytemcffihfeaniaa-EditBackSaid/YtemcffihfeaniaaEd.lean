/- Edit: Inverse, Apply at the example, awake; Do; the reference's Do. -/
import Derived.Test.YtemcffihfeaniaaBpla
import Derived.Test.YtemcffihfeaniaaBk
namespace Go.Proofs.Ytemcffihfeaniaa
open Go.RowKit Go.Deep Go.Own
set_option linter.unusedVariables false
def edV (a : Int) (d i : ByteArray) : Value := .agg #[.int .i64 a, .string d, .string i]
set_option maxRecDepth 100000 in
theorem inverse_calls (a : Int) (d i : ByteArray) (w : World) : Calls Try.prog 69 #[.agg #[.int .i64 a, .string d, .string i]] w fun e w' => e = .returned (.agg #[.int .i64 a, .string i, .string d]) ∧ Below w.heap.size w w' := by
  go_enter Try.func69, Try.ntmps69
  go_wp2_with (fail)
  refine bodyPost_ret (v := .agg #[.int .i64 a, .string i, .string d]) (by simp [results, Try.results69, go_sem]) rfl ⟨rfl, ?_⟩
  exact ((((Below.refl _ _).alloc (Nat.le_refl _) _).alloc (by simp) _))
set_option maxRecDepth 100000 in
theorem apply_example (w : World) : Calls Try.prog 70 #[.string ⟨#[120, 98, 121]⟩, .agg #[.int .i64 1, .string ⟨#[98]⟩, .string ⟨#[97]⟩]] w fun e w' => e = .returned (.tuple #[.string ⟨#[120, 97, 121]⟩, .bool true]) ∧ Below w.heap.size w w' := by
  have e1 : (⟨#[120, 98, 121]⟩ : ByteArray).extract 0 1 = ⟨#[120]⟩ := by rfl
  have e2 : (⟨#[120, 98, 121]⟩ : ByteArray).extract 1 3 = ⟨#[98, 121]⟩ := by rfl
  have e3 : (⟨#[98, 121]⟩ : ByteArray).extract 0 1 = ⟨#[98]⟩ := by rfl
  have e4 : (⟨#[98, 121]⟩ : ByteArray).extract 1 2 = ⟨#[121]⟩ := by rfl
  have e5 : (⟨#[120]⟩ : ByteArray) ++ ⟨#[97]⟩ = ⟨#[120, 97]⟩ := by rfl
  have e6 : (⟨#[120, 97]⟩ : ByteArray) ++ ⟨#[121]⟩ = ⟨#[120, 97, 121]⟩ := by rfl
  have e7 : (⟨#[98, 121]⟩ : ByteArray).size = 2 := by rfl
  go_enter Try.func70, Try.ntmps70
  go_wp2_with (fail)
  obtain ⟨w1, hw1⟩ : ∃ w1, w1 = w.alloc (.cells #[Value.int .i64 1, .string ⟨#[98]⟩, .string ⟨#[97]⟩] 68) := ⟨_, rfl⟩
  obtain ⟨N, hN⟩ : ∃ N, N = w.heap.size := ⟨_, rfl⟩
  have n1 : w1.heap[N]? = some (.cells #[Value.int .i64 1, .string ⟨#[98]⟩, .string ⟨#[97]⟩] 68 (0, 0)) := by rw [hw1, hN]; exact blk_alloc_new w _
  have d0 : w1.cell? ⟨N, 0, none⟩ = some (Value.int .i64 1) := by simp [World.cell?, n1]
  have d1 : w1.cell? ⟨N, 1, none⟩ = some (Value.string ⟨#[98]⟩) := by simp [World.cell?, n1]
  have d2 : w1.cell? ⟨N, 2, none⟩ = some (Value.string ⟨#[97]⟩) := by simp [World.cell?, n1]
  have B1 := Lib.hid (show Below w.heap.size w w1 by rw [hw1]; exact (Below.refl _ _).alloc (Nat.le_refl _) _)
  rw [← hw1, ← hN]
  clear hw1 n1 hN
  refine Own.region_all (fun w' => ∃ n, w' = World.drewN w1 n) (by kernel_rfl) (by kernel_rfl) ⟨1, rfl⟩ ?_
  repeat (go_big_quiet_step (fail))
  refine wpQuiet_nil ?_
  rintro _ ⟨n1, rfl⟩
  go_wp2_with (fail)
  refine Own.region_all (fun w' => ∃ n, w' = World.drewN w1 n) (by kernel_rfl) (by kernel_rfl) ⟨n1 + 1, rfl⟩ ?_
  repeat (go_big_quiet_step (fail))
  refine wpQuiet_nil ?_
  rintro _ ⟨n2, rfl⟩
  go_wp2_with (fail)
  refine Own.region_all (fun w' => ∃ n, w' = World.drewN w1 n) (by kernel_rfl) (by kernel_rfl) ⟨n2 + 1, rfl⟩ ?_
  repeat (go_big_quiet_step (fail))
  refine wpQuiet_nil ?_
  rintro _ ⟨n3, rfl⟩
  go_wp2_with (fail)
  go_ret2
  exact ⟨rfl, B1.out.trans ⟨rfl, rfl, rfl, Nat.le_refl _, fun _ _ => rfl⟩⟩
set_option maxRecDepth 100000 in
theorem ed_awake (W : World) : Calls Try.prog 42 #[] W fun e w' => e = .returned (.bool true) ∧ Below W.heap.size W w' := by
  go_enter Try.func42, Try.ntmps42
  go_wp2_with (fail)
  refine (inverse_calls 1 ⟨#[97]⟩ ⟨#[98]⟩ W).mono ?_
  rintro e w1 ⟨rfl, b1⟩
  have B1 := Lib.hid b1
  clear b1
  go_wp2_with (fail)
  refine (apply_example _).mono ?_
  rintro e w3 ⟨rfl, b3⟩
  obtain ⟨w2, hw2⟩ : ∃ w2, w2 = w1.alloc (.cells #[Value.int .i64 1, .string ⟨#[98]⟩, .string ⟨#[97]⟩] 68) := ⟨_, rfl⟩
  obtain ⟨N, hN⟩ : ∃ N, N = w1.heap.size := ⟨_, rfl⟩
  rw [← hw2] at b3
  have n2 : w2.heap[N]? = some (.cells #[Value.int .i64 1, .string ⟨#[98]⟩, .string ⟨#[97]⟩] 68 (0, 0)) := by rw [hw2, hN]; exact blk_alloc_new w1 _
  have n3 := (b3.block N (by rw [hw2, hN]; simp)).trans n2
  have d0 : w3.cell? ⟨N, 0, none⟩ = some (Value.int .i64 1) := by simp [World.cell?, n3]
  have d1 : w3.cell? ⟨N, 1, none⟩ = some (Value.string ⟨#[98]⟩) := by simp [World.cell?, n3]
  have d2 : w3.cell? ⟨N, 2, none⟩ = some (Value.string ⟨#[97]⟩) := by simp [World.cell?, n3]
  have B3 := Lib.hid (show Below W.heap.size W w3 from (B1.out.trans ((show Below w1.heap.size w1 w2 by rw [hw2]; exact (Below.refl _ _).alloc (Nat.le_refl _) _).mono B1.out.size)).trans (b3.mono (Nat.le_trans B1.out.size (by rw [hw2]; simp))))
  rw [← hN]
  clear hw2 hN n2 n3 b3
  go_wp2_with (fail)
  go_ret
  exact ⟨rfl, B3.out⟩
theorem size_data (x : ByteArray) : x.size = x.data.toList.length := by rw [Array.length_toList]; rfl
theorem ext_mid (x : ByteArray) (a n : Nat) : (x.extract a (a + n)).data.toList = (x.data.toList.drop a).take n := by
  rw [Lib.extract_data, show a + n - a = n by omega]
section
variable {K : Nat → Prop} {w w' : World} {b : Nat} {most k g : Nat}
theorem ks_slice (x : ByteArray) (h : Bk K w b x.data.toList most k g) (hg : g ≤ 1000000) (a n : Nat) (hn : a + n ≤ x.size) : Calls Try.prog 38 #[.pointer (some ⟨b, 0, none⟩), .int .i64 (a : Nat), .int .i64 (n : Nat)] w fun e w' => e = .returned (.tuple #[.string (x.extract a (a + n)), .int .i64 0]) ∧ Bk K w' b x.data.toList most k g ∧ Kp K w w' := by
  have := bk_slice h hg a n (by simpa using hn)
  rw [← ext_mid, arr_self] at this
  exact this
theorem ks_text (x : ByteArray) (h : Bk K w b x.data.toList most k g) (hg : g ≤ 1000000) : Calls Try.prog 35 #[.pointer (some ⟨b, 0, none⟩)] w fun e w' => e = .returned (.string x) ∧ Bk K w' b x.data.toList most k g ∧ Kp K w w' := by
  have := bk_text h hg
  rwa [arr_self] at this
theorem ks_insert (x y : ByteArray) (a : Int) (s : ByteArray) (r : Int) (h : Bk K w b x.data.toList most k g) (hr : insR x.data.toList most a s.data.toList = (r, y.data.toList)) (hg : g ≤ 1000000) (hs : s.size ≤ 140737488351232) : Calls Try.prog 34 #[.pointer (some ⟨b, 0, none⟩), .int .i64 a, .string s] w fun e w' =>
    e = .returned (.int .i64 r) ∧ ∃ k', k' ≤ k + 2 ∧ Bk K w' b y.data.toList most k' (g + 1) ∧ Kp K w w' := by
  have := bk_insert h hg a s hs
  rwa [hr] at this
theorem ks_delete (x y : ByteArray) (a n : Int) (r : Int) (h : Bk K w b x.data.toList most k g) (hr : delR x.data.toList a n = (r, y.data.toList)) (hg : g ≤ 1000000) : Calls Try.prog 36 #[.pointer (some ⟨b, 0, none⟩), .int .i64 a, .int .i64 n] w fun e w' =>
    e = .returned (.int .i64 r) ∧ ∃ k', k' ≤ k + 1 ∧ Bk K w' b y.data.toList most k' (g + 1) ∧ Kp K w w' := by
  have := bk_delete h hg a n
  rwa [hr] at this
def DoPost (K : Nat → Prop) (w : World) (b : Nat) (t : List UInt8) (most g : Nat) (w' : World) : Prop := ∃ k', Bk K w' b t most k' (g + 3) ∧ Kp K w w'
set_option maxRecDepth 100000 in
theorem do_place (x : ByteArray) (a n : Int) (i : ByteArray) (h : Bk K w b x.data.toList most k g) (hn : ¬ (0 ≤ a ∧ 0 ≤ n ∧ a ≤ x.data.toList.length ∧ n ≤ x.data.toList.length - a)) :
    Calls Try.prog 43 #[.pointer (some ⟨b, 0, none⟩), .int .i64 a, .int .i64 n, .string i] w fun e w' => e = .returned (.tuple #[.agg #[.int .i64 0, .string ⟨#[]⟩, .string ⟨#[]⟩], .int .i64 2]) ∧ DoPost K w b x.data.toList most g w' := by
  have CS := Lib.hid (fun o => bk_slice_no (h.later ((Below.refl _ _).alloc (Nat.le_refl _) o)) a n hn)
  have H := Lib.hid h
  clear h
  go_enter Try.func43, Try.ntmps43
  go_wp2_with (fail)
  refine (CS.out _).mono ?_
  rintro e w1 ⟨rfl, rfl⟩
  go_wp2_with (fail)
  refine bodyPost_ret (v := .tuple #[.agg #[.int .i64 0, .string ⟨#[]⟩, .string ⟨#[]⟩], .int .i64 2]) (by simp [results, Try.results43, go_sem]) rfl ⟨rfl, k, ?_, Kp.of_below ((Below.refl _ _).alloc (Nat.le_refl _) _)⟩
  exact (H.out.later ((Below.refl _ _).alloc (Nat.le_refl _) _)).more (by omega)
set_option maxRecDepth 100000 in
set_option maxHeartbeats 4000000 in
theorem do_ok (x : ByteArray) (a n : Nat) (i y z : ByteArray) (h : Bk K w b x.data.toList most k g) (hn : a + n ≤ x.size) (hy : y = x.extract 0 a ++ x.extract (a + n) x.size) (hz : z = x.extract 0 a ++ i ++ x.extract (a + n) x.size) (hb : z.size ≤ most) (hg : g ≤ 999990) (hi : i.size ≤ 140737488351232) :
    Calls Try.prog 43 #[.pointer (some ⟨b, 0, none⟩), .int .i64 (a : Nat), .int .i64 (n : Nat), .string i] w fun e w' => e = .returned (.tuple #[.agg #[.int .i64 (a : Nat), .string (x.extract a (a + n)), .string i], .int .i64 0]) ∧ DoPost K w b z.data.toList most g w' := by
  have hxl : x.data.toList.length = x.size := by simp
  have hil : i.data.toList.length = i.size := by simp
  have hyd : y.data.toList = x.data.toList.take a ++ x.data.toList.drop (a + n) := by
    rw [hy]; simp only [ByteArray.data_append, Array.toList_append, ext_take, ext_drop]
  have hzd : z.data.toList = x.data.toList.take a ++ (i.data.toList ++ x.data.toList.drop (a + n)) := by
    rw [hz]; simp only [ByteArray.data_append, Array.toList_append, ext_take, ext_drop, List.append_assoc]
  have hzl : z.data.toList.length = z.size := by simp
  have RD : Hid (delR x.data.toList (a : Int) (n : Int) = (0, y.data.toList)) := Lib.hid (by rw [hyd]; exact delR_ok _ _ _ (by rw [hxl]; exact hn))
  have RI : Hid (insR y.data.toList most (a : Int) i.data.toList = (0, z.data.toList)) := Lib.hid (by
    have ht : (x.data.toList.take a).length = a := by rw [List.length_take]; omega
    have h1 := List.take_left (l₁ := x.data.toList.take a) (l₂ := x.data.toList.drop (a + n))
    have h2 := List.drop_left (l₁ := x.data.toList.take a) (l₂ := x.data.toList.drop (a + n))
    rw [ht] at h1 h2
    have hl : (x.data.toList.take a ++ x.data.toList.drop (a + n)).length + i.data.toList.length = z.size := by
      rw [← hzl, hzd]; simp only [List.length_append]; omega
    rw [hyd, insR_ok _ _ _ _ (by rw [List.length_append, ht]; omega) (by rw [hl]; exact hb), h1, h2, hzd])
  have H1 := Lib.hid (fun o => h.fresh o)
  have CS := Lib.hid (fun o => ks_slice x (h.fresh o) (by omega) a n hn)
  obtain ⟨N, hN⟩ : ∃ N, N = w.heap.size := ⟨_, rfl⟩
  rw [← hN] at H1 CS
  have HN := Lib.hid hN
  have HKL := Lib.hid h.kl
  clear h hN hxl hil hyd hzd hzl hy hz hb
  go_enter Try.func43, Try.ntmps43
  go_wp2_with (fail)
  refine (CS.out _).mono ?_
  rintro e w2 ⟨rfl, t2, k2⟩
  have CD := Lib.hid (ks_delete x y (a : Int) (n : Int) 0 t2 RD.out (by omega))
  have K2 := Lib.hid k2
  clear t2 k2 CS
  go_wp2_with (fail)
  refine CD.out.mono ?_
  rintro e w3 ⟨rfl, k3', hk3, t3, k3⟩
  have CI := Lib.hid (ks_insert y z (a : Int) i 0 t3 RI.out (by omega) hi)
  have K3 := Lib.hid k3
  clear t3 k3 CD
  go_wp2_with (fail)
  refine CI.out.mono ?_
  rintro e w4 ⟨rfl, k4', hk4, t4, k4⟩
  have N1 := HN.out
  rw [← N1]
  obtain ⟨w1, hw1⟩ : ∃ w1, w1 = w.alloc (.cells #[Value.int .i64 0, .string ⟨#[]⟩, .string ⟨#[]⟩] 68) := ⟨_, rfl⟩
  have n1 : w1.heap[N]? = some (.cells #[Value.int .i64 0, .string ⟨#[]⟩, .string ⟨#[]⟩] 68 (0, 0)) := by rw [hw1, N1]; exact blk_alloc_new w _
  have s1 : N < w1.heap.size := by rw [hw1, N1]; simp
  have kk : Kp (fun j => K j ∨ j = N) w1 w4 := by rw [hw1]; exact (K2.out.trans K3.out).trans k4
  have n4 := (kk.block s1 (.inr rfl)).trans n1
  have d0 : w4.cell? ⟨N, 0, none⟩ = some (Value.int .i64 0) := by simp [World.cell?, n4]
  have d1 : w4.cell? ⟨N, 1, none⟩ = some (Value.string ⟨#[]⟩) := by simp [World.cell?, n4]
  have d2 : w4.cell? ⟨N, 2, none⟩ = some (Value.string ⟨#[]⟩) := by simp [World.cell?, n4]
  have d3 : ∀ j, w4.frozen? ⟨N, j, none⟩ = false := fun j => by simp [World.frozen?, n4]
  have T4 := Lib.hid t4
  have B1 := Lib.hid (show Below w.heap.size w w1 by rw [hw1]; exact (Below.refl _ _).alloc (Nat.le_refl _) _)
  have KK := Lib.hid kk
  clear t4 k4 CI hw1 n1 s1 kk n4 N1
  go_wp2_with (fail)
  refine bodyPost_ret (v := .tuple #[.agg #[.int .i64 (a : Nat), .string (x.extract a (a + n)), .string i], .int .i64 0]) (by simp [results, Try.results43, go_sem, d0, d1, d2]) rfl ⟨rfl, k4', ?_, ?_⟩
  · exact ((((T4.out.setCell ⟨N, 0, none⟩ _ (.inr rfl)).setCell ⟨N, 1, none⟩ _ (.inr rfl)).setCell ⟨N, 2, none⟩ _ (.inr rfl)).mono fun j hj => .inl hj).more (by omega)
  · have f4 : Kp K w w4 := (Kp.of_below B1.out).trans (KK.out.mono fun j hj => .inl hj)
    have hN2 : FN (fun j => ¬ K j) w w4 N := .inr ⟨Nat.le_of_eq HN.out.symm, World.block_lt_of_cell? _ _ d0⟩
    exact ((Fr.setCell f4 ⟨N, 0, none⟩ _ hN2).setCell ⟨N, 1, none⟩ _ (.inr ⟨Nat.le_of_eq HN.out.symm, by simpa [World.setCell] using World.block_lt_of_cell? _ _ d0⟩)).setCell ⟨N, 2, none⟩ _ (.inr ⟨Nat.le_of_eq HN.out.symm, by simpa [World.setCell] using World.block_lt_of_cell? _ _ d0⟩)
set_option maxRecDepth 100000 in
set_option maxHeartbeats 4000000 in
theorem do_big (x : ByteArray) (a n : Nat) (i y : ByteArray) (h : Bk K w b x.data.toList most k g) (hn : a + n ≤ x.size) (hy : y = x.extract 0 a ++ x.extract (a + n) x.size) (hb : most < x.size - n + i.size) (hg : g ≤ 999990) (hi : i.size ≤ 140737488351232) :
    Calls Try.prog 43 #[.pointer (some ⟨b, 0, none⟩), .int .i64 (a : Nat), .int .i64 (n : Nat), .string i] w fun e w' => e = .returned (.tuple #[.agg #[.int .i64 0, .string ⟨#[]⟩, .string ⟨#[]⟩], .int .i64 3]) ∧ DoPost K w b x.data.toList most g w' := by
  have hxl : x.data.toList.length = x.size := by simp
  have hil : i.data.toList.length = i.size := by simp
  have hyd : y.data.toList = x.data.toList.take a ++ x.data.toList.drop (a + n) := by
    rw [hy]; simp only [ByteArray.data_append, Array.toList_append, ext_take, ext_drop]
  have RD : Hid (delR x.data.toList (a : Int) (n : Int) = (0, y.data.toList)) := Lib.hid (by rw [hyd]; exact delR_ok _ _ _ (by rw [hxl]; exact hn))
  have hm := h.le
  have ht : (x.data.toList.take a).length = a := by rw [List.length_take]; omega
  have hyl : y.data.toList.length = x.size - n := by rw [hyd, List.length_append, ht, List.length_drop]; omega
  have RI : Hid (insR y.data.toList most (a : Int) i.data.toList = (3, y.data.toList)) := Lib.hid (insR_big _ _ _ _ (by omega) (by omega))
  have hdl : (x.extract a (a + n)).data.toList.length = n := by rw [ext_mid, List.length_take, List.length_drop]; omega
  have RB : Hid (insR y.data.toList most (a : Int) (x.extract a (a + n)).data.toList = (0, x.data.toList)) := Lib.hid (by
    have h1 := List.take_left (l₁ := x.data.toList.take a) (l₂ := x.data.toList.drop (a + n))
    have h2 := List.drop_left (l₁ := x.data.toList.take a) (l₂ := x.data.toList.drop (a + n))
    rw [ht] at h1 h2
    rw [insR_ok _ _ _ _ (by omega) (by omega), hyd, h1, h2, ext_mid, ← List.drop_drop, List.take_append_drop, List.take_append_drop])
  have hsz : (x.extract a (a + n)).size = n := (size_data _).trans hdl
  have hds : Hid ((x.extract a (a + n)).size ≤ 140737488351232) := Lib.hid (by rw [hsz]; have := h.most; omega)
  have H1 := Lib.hid (fun o => h.fresh o)
  have CS := Lib.hid (fun o => ks_slice x (h.fresh o) (by omega) a n hn)
  obtain ⟨N, hN⟩ : ∃ N, N = w.heap.size := ⟨_, rfl⟩
  rw [← hN] at H1 CS
  have HN := Lib.hid hN
  have HKL := Lib.hid h.kl
  clear h hN hxl hil hyd hy hb hm ht hyl hdl hsz
  go_enter Try.func43, Try.ntmps43
  go_wp2_with (fail)
  refine (CS.out _).mono ?_
  rintro e w2 ⟨rfl, t2, k2⟩
  have CD := Lib.hid (ks_delete x y (a : Int) (n : Int) 0 t2 RD.out (by omega))
  have K2 := Lib.hid k2
  clear t2 k2 CS
  go_wp2_with (fail)
  refine CD.out.mono ?_
  rintro e w3 ⟨rfl, k3', hk3, t3, k3⟩
  have CI := Lib.hid (ks_insert y y (a : Int) i 3 t3 RI.out (by omega) hi)
  have K3 := Lib.hid k3
  clear t3 k3 CD
  go_wp2_with (fail)
  refine CI.out.mono ?_
  rintro e w5 ⟨rfl, k5', hk5, t5, k5⟩
  have CJ := Lib.hid (ks_insert y x (a : Int) (x.extract a (a + n)) 0 t5 RB.out (by omega) hds.out)
  have K5 := Lib.hid k5
  clear t5 k5 CI
  go_wp2_with (fail)
  refine CJ.out.mono ?_
  rintro e w4 ⟨rfl, k4', hk4, t4, k4⟩
  have N1 := HN.out
  rw [← N1]
  obtain ⟨w1, hw1⟩ : ∃ w1, w1 = w.alloc (.cells #[Value.int .i64 0, .string ⟨#[]⟩, .string ⟨#[]⟩] 68) := ⟨_, rfl⟩
  have n1 : w1.heap[N]? = some (.cells #[Value.int .i64 0, .string ⟨#[]⟩, .string ⟨#[]⟩] 68 (0, 0)) := by rw [hw1, N1]; exact blk_alloc_new w _
  have s1 : N < w1.heap.size := by rw [hw1, N1]; simp
  have kk : Kp (fun j => K j ∨ j = N) w1 w4 := by rw [hw1]; exact ((K2.out.trans K3.out).trans K5.out).trans k4
  have n4 := (kk.block s1 (.inr rfl)).trans n1
  have d0 : w4.cell? ⟨N, 0, none⟩ = some (Value.int .i64 0) := by simp [World.cell?, n4]
  have d1 : w4.cell? ⟨N, 1, none⟩ = some (Value.string ⟨#[]⟩) := by simp [World.cell?, n4]
  have d2 : w4.cell? ⟨N, 2, none⟩ = some (Value.string ⟨#[]⟩) := by simp [World.cell?, n4]
  have d3 : ∀ j, w4.frozen? ⟨N, j, none⟩ = false := fun j => by simp [World.frozen?, n4]
  have T4 := Lib.hid t4
  have B1 := Lib.hid (show Below w.heap.size w w1 by rw [hw1]; exact (Below.refl _ _).alloc (Nat.le_refl _) _)
  have KK := Lib.hid kk
  clear t4 k4 CJ hw1 n1 s1 kk n4 N1
  go_wp2_with (fail)
  refine bodyPost_ret (v := .tuple #[.agg #[.int .i64 0, .string ⟨#[]⟩, .string ⟨#[]⟩], .int .i64 3]) (by simp [results, Try.results43, go_sem, d0, d1, d2]) rfl ⟨rfl, k4', ?_, ?_⟩
  · exact ((((T4.out.setCell ⟨N, 0, none⟩ _ (.inr rfl)).setCell ⟨N, 1, none⟩ _ (.inr rfl)).setCell ⟨N, 2, none⟩ _ (.inr rfl)).mono fun j hj => .inl hj).more (by omega)
  · have f4 : Kp K w w4 := (Kp.of_below B1.out).trans (KK.out.mono fun j hj => .inl hj)
    have hN2 : FN (fun j => ¬ K j) w w4 N := .inr ⟨Nat.le_of_eq HN.out.symm, World.block_lt_of_cell? _ _ d0⟩
    exact ((Fr.setCell f4 ⟨N, 0, none⟩ _ hN2).setCell ⟨N, 1, none⟩ _ (.inr ⟨Nat.le_of_eq HN.out.symm, by simpa [World.setCell] using World.block_lt_of_cell? _ _ d0⟩)).setCell ⟨N, 2, none⟩ _ (.inr ⟨Nat.le_of_eq HN.out.symm, by simpa [World.setCell] using World.block_lt_of_cell? _ _ d0⟩)
end
end Go.Proofs.Ytemcffihfeaniaa

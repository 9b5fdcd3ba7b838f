/- AffixMany: plain laws. AffixMany: the walk. -/
import Derived.Test.YtmcnnfpeicnnjaaDoorAffG
namespace Go.Proofs.YtmcnnfpeicnnjaaDoor
open Go.RowKit Go.Deep Go.Own
set_option linter.unusedVariables false
def p0L : List UInt8 := [83, 70, 88, 32, 83, 32, 89, 32, 48, 32, 115, 32, 46]
theorem linesT_len : ∀ (ls : List (List UInt8)) (n : Nat), (∀ l ∈ ls, l.length = n) → (linesT ls).length = ls.length * (n + 1)
  | [], n, h => by simp [linesT]
  | l :: t, n, h => by
    have ih := linesT_len t n (fun x hx => h x (List.mem_cons_of_mem _ hx))
    have h1 := h l List.mem_cons_self
    rw [linesT, List.length_append, List.length_cons, ih, List.length_cons, h1, Nat.succ_mul]
    omega
/-- rules -/
def mrT : Nat → ByteArray
  | 0 => ⟨#[]⟩
  | n + 1 => mrT n ++ ⟨#[83, 70, 88, 32, 83, 32, 89, 32, 48, 32, 115, 32, 46, 10]⟩
theorem mrT_data : ∀ n, (mrT n).data.toList = linesT (List.replicate n p0L)
  | 0 => rfl
  | n + 1 => by
    rw [List.replicate_succ', linesT_end, mrT, ByteArray.data_append, Array.toList_append, mrT_data n, List.append_assoc]
    rfl
theorem size_list (s : ByteArray) : s.data.toList.length = s.size := by simp
theorem mrT_size (n : Nat) : (mrT n).size = n * 14 := by
  rw [← size_list, mrT_data, linesT_len _ 13 (fun l hl => by rw [(List.mem_replicate.1 hl).2]; rfl), List.length_replicate]
theorem mr_fold : ∀ n, ∃ rr : List Int, foldF zeroF 0 ((List.replicate n p0L).map mkB) = ⟨List.replicate n awS, [], rr, 0⟩
  | 0 => ⟨[], rfl⟩
  | n + 1 => by
    obtain ⟨rr, h⟩ := mr_fold n
    rw [List.replicate_succ', List.map_append, foldF_app, h]
    show ∃ rr : List Int, stepF _ _ (mkB [83, 70, 88, 32, 83, 32, 89, 32, 48, 32, 115, 32, 46]) = _
    rw [step_rule aw_s.1 aw_s.2.1 aw_s.2.2, List.replicate_succ']
    exact ⟨_, rfl⟩
theorem clash_same (m i : Nat) : clashV (List.replicate m awS) i = false := by
  unfold clashV
  cases h : (List.replicate m awS)[i]? with
  | none => rfl
  | some r =>
    have hr := (List.getElem?_eq_some_iff.1 h)
    obtain ⟨hl, e⟩ := hr
    have : r = awS := by rw [← e, List.getElem_replicate]
    subst this
    simp only
    rw [List.take_replicate, any_rep _ false _ aw_hit.1]
    simp
theorem mr_file (n : Nat) (h0 : 1 ≤ n) (h1 : n ≤ 201) : aFile (mrT n) = if 200 < n then ⟨[], [], 0, 3⟩ else ⟨List.replicate n awS, [], 0, 0⟩ := by
  obtain ⟨rr, h2⟩ := mr_fold n
  have hz := mrT_size n
  have hr : rowsB (mrT n) = (List.replicate n p0L).map mkB := rows_lines _ (mrT_data n) (fun l hl => by rw [(List.mem_replicate.1 hl).2]; unfold lnOk p0L; decide) (by
    intro h
    have := congrArg List.length h
    rw [List.length_replicate, List.length_nil] at this
    omega)
  unfold aFile fileV
  rw [if_neg (by omega), hr, h2]
  unfold doneV
  simp only [List.length_replicate, List.length_nil]
  by_cases h : 200 < n
  · rw [if_pos (.inl h), if_pos h]
  · rw [if_neg (fun e => e.elim h (by omega)), if_neg h, if_neg (by omega), if_neg]
    unfold bothV2
    rw [find_none (fun i _ => clash_same n i)]
    exact Int.lt_irrefl 0
/-- pairs -/
def mpA (i : Nat) : ByteArray := Utf8.encode (16384 + 2 * (i : Int))
def mpB (i : Nat) : ByteArray := Utf8.encode (16385 + 2 * (i : Int))
def mpL (i : Nat) : List UInt8 := [67, 65, 83, 69, 32] ++ (mpA i).data.toList ++ (mpB i).data.toList
def mpP (i : Nat) : Int × Int := (16384 + 2 * (i : Int), 16385 + 2 * (i : Int))
def mpT : Nat → ByteArray
  | 0 => ⟨#[]⟩
  | n + 1 => mpT n ++ ⟨#[67, 65, 83, 69, 32]⟩ ++ mpA n ++ mpB n ++ ⟨#[10]⟩
def mpLs (n : Nat) : List (List UInt8) := (List.range n).map mpL
theorem mpLs_succ (n : Nat) : mpLs (n + 1) = mpLs n ++ [mpL n] := by unfold mpLs; rw [List.range_succ, List.map_append]; rfl
theorem mpT_data : ∀ n, (mpT n).data.toList = linesT (mpLs n)
  | 0 => rfl
  | n + 1 => by
    rw [mpLs_succ, linesT_end, mpT]
    simp only [ByteArray.data_append, Array.toList_append]
    rw [mpT_data n]
    unfold mpL
    simp only [List.append_assoc]
def mpOk (i : Nat) : Bool := decide (ruleV (mkB (mpL i)) = none) && decide (pairV ((List.range i).map mpP) (mkB (mpL i)) = some (mpP i)) && (mpL i).all (fun x => decide (x ≠ 10)) && decide ((mpL i).length = 11) && decide (uB (mkB (mpL i)) 0 ≠ 35)
set_option maxRecDepth 100000 in
theorem mp_all : (List.range 201).all mpOk = true := by decide +kernel
structure MpI (i : Nat) : Prop where
  rule : ruleV (mkB (mpL i)) = none
  pair : pairV ((List.range i).map mpP) (mkB (mpL i)) = some (mpP i)
  ok : lnOk (mpL i)
  len : (mpL i).length = 11
  n35 : uB (mkB (mpL i)) 0 ≠ 35
set_option maxRecDepth 100000 in
theorem mp_at {i : Nat} (h : i < 201) : MpI i := by
  have := List.all_eq_true.1 mp_all i (List.mem_range.2 h)
  unfold mpOk at this
  simp only [Bool.and_eq_true, decide_eq_true_eq, List.all_eq_true] at this
  obtain ⟨⟨⟨⟨h1, h2⟩, h3⟩, h4⟩, h5⟩ := this
  exact ⟨h1, h2, h3, h4, h5⟩
theorem mp_fold : ∀ n, n ≤ 201 → foldF zeroF 0 ((mpLs n).map mkB) = ⟨[], (List.range n).map mpP, [], 0⟩
  | 0, _ => rfl
  | n + 1, hn => by
    have ih := mp_fold n (by omega)
    have h := mp_at (i := n) (by omega)
    rw [mpLs_succ, List.map_append, foldF_app, ih]
    have hz : (mkB (mpL n)).size ≠ 0 := by rw [mk_size, h.len]; decide
    have e := step_pair (f := ⟨[], (List.range n).map mpP, [], 0⟩) (i := 0 + ((mpLs n).map mkB).length) h.rule h.pair hz h.n35
    have e2 : (List.range (n + 1)).map mpP = (List.range n).map mpP ++ [mpP n] := by rw [List.range_succ, List.map_append]; rfl
    rw [e2]
    exact e
theorem mpT_size (n : Nat) (hn : n ≤ 201) : (mpT n).size = n * 12 := by
  rw [← size_list, mpT_data, linesT_len _ 11 (fun l hl => by
    unfold mpLs at hl
    obtain ⟨i, hi, rfl⟩ := List.mem_map.1 hl
    exact (mp_at (by have := List.mem_range.1 hi; omega)).len)]
  simp [mpLs]
theorem mp_file (n : Nat) (h0 : 1 ≤ n) (h1 : n ≤ 201) : aFile (mpT n) = if 200 < n then ⟨[], [], 0, 3⟩ else ⟨[], (List.range n).map mpP, 0, 0⟩ := by
  have h2 := mp_fold n h1
  have hz := mpT_size n h1
  have hr : rowsB (mpT n) = (mpLs n).map mkB := rows_lines _ (mpT_data n) (fun l hl => by
    unfold mpLs at hl
    obtain ⟨i, hi, rfl⟩ := List.mem_map.1 hl
    exact (mp_at (by have := List.mem_range.1 hi; omega)).ok) (by
    intro h
    have := congrArg List.length h
    simp [mpLs] at this
    omega)
  unfold aFile fileV
  rw [if_neg (by omega), hr, h2]
  unfold doneV
  simp only [List.length_map, List.length_range, List.length_nil]
  by_cases h : 200 < n
  · rw [if_pos (.inr h), if_pos h]
  · rw [if_neg (fun e => e.elim (by omega) h), if_neg h, if_neg (by omega), if_neg]
    exact Int.lt_irrefl 0
/-- empty lines -/
theorem cut_tens : ∀ n, cutL 10 (List.replicate n 10) = List.replicate (n + 1) []
  | 0 => rfl
  | n + 1 => by
    rw [List.replicate_succ, cutL, if_pos rfl, cut_tens n]
    rfl
theorem ml_fold : ∀ (n i : Nat), foldF zeroF i (List.replicate n (mkB [])) = zeroF
  | 0, i => rfl
  | n + 1, i => by
    rw [List.replicate_succ, foldF, step_skip (.inl rfl)]
    exact ml_fold n (i + 1)
set_option maxRecDepth 100000 in
theorem ml_file (n : Nat) (h0 : 1 ≤ n) : aFile (mkB (List.replicate n 10)) = if 65536 < n then ⟨[], [], 0, 3⟩ else ⟨[], [], 0, 0⟩ := by
  unfold aFile
  rw [mk_size, List.length_replicate]
  by_cases h : 65536 < n
  · rw [if_pos h, if_pos h]
  · rw [if_neg h, if_neg h]
    have hr : rowsB (mkB (List.replicate n 10)) = List.replicate n (mkB []) := by
      obtain ⟨m, rfl⟩ : ∃ m, n = m + 1 := ⟨n - 1, by omega⟩
      unfold rowsB cutB trimN
      rw [mk_list, mk_list, List.replicate_succ', trim_one, cut_tens, List.map_replicate]
    unfold fileV
    rw [hr, ml_fold]
    rfl
/-- what comes of so many -/
structure MnR (m : Nat) (s : ByteArray) : Prop where
  line : (aFile s).line = 0
  low : m ≤ 1 → (aFile s).err = 0
  high : m = 2 → aFile s = ⟨[], [], 0, 3⟩
theorem mn_of {m : Nat} {s : ByteArray} {a : AffR} (h : aFile s = if 2 ≤ m then ⟨[], [], 0, 3⟩ else a) (h1 : a.line = 0) (h2 : a.err = 0) : MnR m s := by
  refine ⟨?_, fun hm => ?_, fun hm => ?_⟩
  · rw [h]; split
    · rfl
    · exact h1
  · rw [h, if_neg (by omega)]; exact h2
  · rw [h, if_pos (by omega)]
theorem mn_rules (m : Nat) (hm : m < 3) : MnR m (mrT (199 + m)) := mn_of (a := ⟨List.replicate (199 + m) awS, [], 0, 0⟩) (by
  rw [mr_file _ (by omega) (by omega)]
  by_cases h : 2 ≤ m
  · rw [if_pos h, if_pos (by omega)]
  · rw [if_neg h, if_neg (by omega)]) rfl rfl
theorem mn_pairs (m : Nat) (hm : m < 3) : MnR m (mpT (199 + m)) := mn_of (a := ⟨[], (List.range (199 + m)).map mpP, 0, 0⟩) (by
  rw [mp_file _ (by omega) (by omega)]
  by_cases h : 2 ≤ m
  · rw [if_pos h, if_pos (by omega)]
  · rw [if_neg h, if_neg (by omega)]) rfl rfl
set_option maxRecDepth 100000 in
theorem mn_lines (m : Nat) (hm : m < 3) : MnR m (mkB (List.replicate (65535 + m) 10)) := mn_of (a := ⟨[], [], 0, 0⟩) (by
  rw [ml_file _ (by omega)]
  by_cases h : 2 ≤ m
  · rw [if_pos h, if_pos (by omega)]
  · rw [if_neg h, if_neg (by omega)]) rfl rfl
end Go.Proofs.YtmcnnfpeicnnjaaDoor
namespace Go.Proofs.YtmcnnfpeicnnjaaDoor
open Go.RowKit Go.Deep Go.Own
set_option linter.unusedVariables false
theorem tens_back (w : World) (N n : Nat) (c : Array Value) (h : w.heap[N]? = some (.cells c 5 (0, 0))) (hc : ∀ j, j < n → c[j]? = some (.int .u8 10)) : (convert 34 9 (.slice (some ⟨N, 0, none⟩) n n)).run Tryd.prog w = .ok (.string (mkB (List.replicate n 10))) w := by
  have := run_convert_bytes_back (P := Tryd.prog) w 34 9 5 ⟨N, 0, none⟩ n (List.replicate n 10) (by kernel_rfl) (by kernel_rfl) (by kernel_rfl) (fun j hj => by
    rw [show (⟨N, 0, none⟩ : Addr).add j = ⟨N, j, none⟩ from by unfold Addr.add; split <;> simp_all]
    rw [List.length_replicate] at hj
    rw [List.getElem_replicate]
    simp only [World.cell?, h]
    exact hc j hj)
  rw [List.length_replicate] at this
  exact this
theorem enc_size4 (i : Int) : (Utf8.encode i).size ≤ 4 := by
  unfold Utf8.encode
  simp only
  repeat' split
  all_goals simp [ByteArray.size]
theorem wp_conv {o : Oper} {x : Operand} {c : Int} {s : ByteArray} {a : Act} {w : World} {K : Act → World → Prop} {Q : Exit → Act → World → Prop} (ho : o.op = .convert 21 9 x) (hx : a.eval x = .int .i32 c) (hs : Utf8.encode c = s) (h : K (a.put o.dst (.string s)) w) : o.wp Tryd.prog a w K Q := by
  subst hs
  unfold Oper.wp execOp
  simp only [ho, hx, Sem.run_bind, Sem.run_pure, Result.andThen_ok]
  rw [run_convert_int_string w 21 9 .i32 c (by kernel_rfl) (by kernel_rfl)]
  exact h
set_option maxRecDepth 100000 in
set_option maxHeartbeats 32000000 in
theorem affixMany_walk (how nn : Int) (w : World) (_ : (Lit.int .i64 how).wf = true) (_ : (Lit.int .i64 nn).wf = true) (hT : TabsL w) :
    Calls Tryd.prog 4 #[.int .i64 how, .int .i64 nn] w fun e w' => e = .returned (.bool true) ∧ Below w.heap.size w w' := by
  obtain ⟨i0, hi0, hz0, hs0, hb0⟩ := info_parts bl_info5
  obtain ⟨m, hm, _, cp1⟩ := place_nat nn 3 (by omega) (by omega)
  obtain ⟨h, hh, _, cp2⟩ := place_nat how 3 (by omega) (by omega)
  have CP1 := Lib.hid cp1
  have CP2 := Lib.hid cp2
  have HT := Lib.hid hT
  obtain ⟨k, hk⟩ : ∃ k : Int, k = (m : Int) - 1 := ⟨_, rfl⟩
  have HK := Lib.hid hk
  have hkb : -1 ≤ k ∧ k ≤ 1 := by omega
  obtain ⟨hk1, hk2⟩ := hkb
  clear cp1 cp2 hT hk
  go_enter Tryd.func4, Tryd.ntmps4
  go_wp2_with (fail)
  refine (CP1.out _).mono ?_
  rintro e wq ⟨rfl, rfl⟩
  clear CP1
  go_upto_region 2 with (fail)
  rw [← HK.out]
  go_wp2_with (fail)
  refine (CP2.out _).mono ?_
  rintro e wq ⟨rfl, rfl⟩
  clear CP2
  rcases (show h = 0 ∨ h = 1 ∨ h = 2 by omega) with rfl | rfl | rfl
  · go_wp2_with (fail)
    obtain ⟨n, hn⟩ : ∃ n : Nat, n = 199 + m := ⟨_, rfl⟩
    have hnk : (200 : Int) + k = (n : Nat) := by have := HK.out; omega
    go_loopw [6, 7] (fun sv iv wr => ∃ j : Nat, j ≤ n ∧ sv = .string (mrT j) ∧ iv = .int .i64 (j : Nat) ∧ w = wr) (fun _ iv _ => n - (intOf iv).toNat)
    case atStart => exact ⟨0, Nat.zero_le _, rfl, rfl, by first | rfl | trivial⟩
    case round =>
      obtain ⟨j, hj, rfl, rfl, rfl⟩ := hrel
      have hz := mrT_size j
      by_cases hgo : j < n
      · have g1 : decide ((j : Int) < 200 + k) = true := by simp; omega
        obtain ⟨P, hP⟩ : ∃ P, P = mrT j := ⟨_, rfl⟩
        have HS := Lib.hid (show mrT (j + 1) = P ++ ⟨#[83, 70, 88, 32, 83, 32, 89, 32, 48, 32, 115, 32, 46, 10]⟩ by rw [hP]; rfl)
        rw [← hP] at hz ⊢
        have hz2 : P.size ≤ 3000 := by omega
        clear hP hz
        go_wp2_with (fail)
        go_roundw
        case rel => exact ⟨j + 1, hgo, by rw [HS.out], by go_num, by first | rfl | trivial⟩
        case measure => simp [intOf]; omega
      · obtain rfl : j = n := by omega
        have g1 : decide ((j : Int) < 200 + k) = false := by simp; omega
        have hR := mn_rules m hm
        rw [← hn] at hR
        clear hn
        obtain ⟨S, hS⟩ : ∃ S, S = mrT j := ⟨_, rfl⟩
        have hSz : S.size ≤ 100000 := by rw [hS]; omega
        rw [← hS] at hR ⊢
        clear hS hz
        have BB := Lib.hid (Below.refl w.heap.size w)
        have HR := Lib.hid hR
        have CP := Lib.hid (aparse_calls S w (by omega) (HT.out.below BB.out))
        unfold APost at CP
        obtain ⟨a, ha⟩ : ∃ a, a = aFile S := ⟨_, rfl⟩
        rw [← ha, show a.line = 0 by rw [ha]; exact hR.line] at CP
        have HA := Lib.hid ha
        clear hR ha
        by_cases hm1 : m ≤ 1
        · rw [show a.err = 0 by rw [HA.out]; exact HR.out.low hm1] at CP
          have g5 : decide (k ≤ 0) = true := by have := HK.out; simp; omega
          clear hm1
          go_wp2_with (fail)
          refine CP.out.mono ?_
          rintro e u1 ⟨⟨cs, rfl, ga⟩, b1⟩
          obtain ⟨Ax, cx, Dx, dx, hcs, _⟩ := ga.out
          subst hcs
          obtain ⟨u2, hu2⟩ : ∃ u2, u2 = u1.alloc (.cells #[.slice Ax a.rules.length cx, .slice Dx a.pairs.length dx] 29) := ⟨_, rfl⟩
          have b2 : Below u1.heap.size u1 u2 := by rw [hu2]; exact (Below.refl _ _).alloc (Nat.le_refl _) _
          have B2 := Lib.hid (BB.out.trans ((b1.trans (b2.mono b1.size)).mono BB.out.size))
          have CA := Lib.hid (awake11_calls u2 (HT.out.below B2.out))
          have HU := Lib.hid hu2
          clear CP b1 ga hu2 b2
          go_upto_region 21 with (fail)
          rw [← HU.out]
          go_wp2_with (fail)
          refine CA.out.mono ?_
          rintro e u3 ⟨rfl, b3⟩
          have B3 := Lib.hid (B2.out.trans (b3.mono B2.out.size))
          clear CA b3
          go_wp2_with (fail)
          go_ret
          exact ⟨rfl, B3.out⟩
        · have e2 := HR.out.high (by omega)
          rw [← HA.out] at e2
          subst e2
          have g5 : decide (k ≤ 0) = false := by have := HK.out; simp; omega
          clear hm1
          go_wp2_with (fail)
          refine CP.out.mono ?_
          rintro e u1 ⟨⟨cs, rfl, ga⟩, b1⟩
          obtain ⟨Ax, cx, Dx, dx, hcs, _⟩ := ga.out
          subst hcs
          obtain ⟨u2, hu2⟩ : ∃ u2, u2 = u1.alloc (.cells #[.slice Ax 0 cx, .slice Dx 0 dx] 29) := ⟨_, rfl⟩
          obtain ⟨Z, hZ⟩ : ∃ Z, Z = u1.heap.size := ⟨_, rfl⟩
          have b2 : Below u1.heap.size u1 u2 := by rw [hu2]; exact (Below.refl _ _).alloc (Nat.le_refl _) _
          have z2 : u2.heap[Z]? = some (.cells #[.slice Ax 0 cx, .slice Dx 0 dx] 29 (0, 0)) := by rw [hu2, hZ]; exact blk_alloc_new _ _
          obtain ⟨z0, z1⟩ := pcell2 z2
          have B2 := Lib.hid (BB.out.trans ((b1.trans (b2.mono b1.size)).mono BB.out.size))
          have CA := Lib.hid (awake11_calls u2 (HT.out.below B2.out))
          have HU := Lib.hid (And.intro hu2 hZ)
          clear CP b1 ga hu2 b2 z2 hZ
          simp only [List.length_nil]
          go_upto_region 21 with (fail)
          rw [← HU.out.1, ← HU.out.2]
          go_wp2_with (fail)
          refine CA.out.mono ?_
          rintro e u3 ⟨rfl, b3⟩
          have B3 := Lib.hid (B2.out.trans (b3.mono B2.out.size))
          clear CA b3
          go_wp2_with (fail)
          go_ret
          exact ⟨rfl, B3.out⟩
  · go_wp2_with (fail)
    obtain ⟨n, hn⟩ : ∃ n : Nat, n = 199 + m := ⟨_, rfl⟩
    have hnk : (200 : Int) + k = (n : Nat) := by have := HK.out; omega
    go_loopw [6, 8] (fun sv iv wr => ∃ j : Nat, j ≤ n ∧ sv = .string (mpT j) ∧ iv = .int .i64 (j : Nat) ∧ w = wr) (fun _ iv _ => n - (intOf iv).toNat)
    case atStart => exact ⟨0, Nat.zero_le _, rfl, rfl, by first | rfl | trivial⟩
    case round =>
      obtain ⟨j, hj, rfl, rfl, rfl⟩ := hrel
      have hz := mpT_size j (by omega)
      by_cases hgo : j < n
      · have g1 : decide ((j : Int) < 200 + k) = true := by simp; omega
        obtain ⟨P, hP⟩ : ∃ P, P = mpT j := ⟨_, rfl⟩
        have HS := Lib.hid (show mpT (j + 1) = P ++ ⟨#[67, 65, 83, 69, 32]⟩ ++ mpA j ++ mpB j ++ ⟨#[10]⟩ by rw [hP]; rfl)
        rw [← hP] at hz ⊢
        have hz2 : P.size ≤ 3000 := by omega
        have hj2 : (j : Int) ≤ 201 := by omega
        clear hP hz
        go_upto_region 19 with (fail)
        have zA : (mpA j).size ≤ 4 := enc_size4 _
        have zB : (mpB j).size ≤ 4 := enc_size4 _
        iterate 20 go_step
        refine wp_conv (x := .tmp 56) (s := mpA j) rfl rfl rfl ?_
        simp only [Act.put, List.setIfInBounds_toArray, List.set_cons_succ, List.set_cons_zero]
        iterate 17 go_step
        refine wp_conv (x := .tmp 62) (s := mpB j) rfl rfl rfl ?_
        simp only [Act.put, List.setIfInBounds_toArray, List.set_cons_succ, List.set_cons_zero]
        go_wp2_with (fail)
        go_roundw
        case rel => exact ⟨j + 1, hgo, by rw [HS.out], by go_num, by first | rfl | trivial⟩
        case measure => simp [intOf]; omega
      · obtain rfl : j = n := by omega
        have g1 : decide ((j : Int) < 200 + k) = false := by simp; omega
        have hR := mn_pairs m hm
        rw [← hn] at hR
        clear hn
        obtain ⟨S, hS⟩ : ∃ S, S = mpT j := ⟨_, rfl⟩
        have hSz : S.size ≤ 100000 := by rw [hS]; omega
        rw [← hS] at hR ⊢
        clear hS hz
        have BB := Lib.hid (Below.refl w.heap.size w)
        have HR := Lib.hid hR
        have CP := Lib.hid (aparse_calls S w (by omega) (HT.out.below BB.out))
        unfold APost at CP
        obtain ⟨a, ha⟩ : ∃ a, a = aFile S := ⟨_, rfl⟩
        rw [← ha, show a.line = 0 by rw [ha]; exact hR.line] at CP
        have HA := Lib.hid ha
        clear hR ha
        by_cases hm1 : m ≤ 1
        · rw [show a.err = 0 by rw [HA.out]; exact HR.out.low hm1] at CP
          have g5 : decide (k ≤ 0) = true := by have := HK.out; simp; omega
          clear hm1
          go_wp2_with (fail)
          refine CP.out.mono ?_
          rintro e u1 ⟨⟨cs, rfl, ga⟩, b1⟩
          obtain ⟨Ax, cx, Dx, dx, hcs, _⟩ := ga.out
          subst hcs
          obtain ⟨u2, hu2⟩ : ∃ u2, u2 = u1.alloc (.cells #[.slice Ax a.rules.length cx, .slice Dx a.pairs.length dx] 29) := ⟨_, rfl⟩
          have b2 : Below u1.heap.size u1 u2 := by rw [hu2]; exact (Below.refl _ _).alloc (Nat.le_refl _) _
          have B2 := Lib.hid (BB.out.trans ((b1.trans (b2.mono b1.size)).mono BB.out.size))
          have CA := Lib.hid (awake11_calls u2 (HT.out.below B2.out))
          have HU := Lib.hid hu2
          clear CP b1 ga hu2 b2
          go_upto_region 21 with (fail)
          rw [← HU.out]
          go_wp2_with (fail)
          refine CA.out.mono ?_
          rintro e u3 ⟨rfl, b3⟩
          have B3 := Lib.hid (B2.out.trans (b3.mono B2.out.size))
          clear CA b3
          go_wp2_with (fail)
          go_ret
          exact ⟨rfl, B3.out⟩
        · have e2 := HR.out.high (by omega)
          rw [← HA.out] at e2
          subst e2
          have g5 : decide (k ≤ 0) = false := by have := HK.out; simp; omega
          clear hm1
          go_wp2_with (fail)
          refine CP.out.mono ?_
          rintro e u1 ⟨⟨cs, rfl, ga⟩, b1⟩
          obtain ⟨Ax, cx, Dx, dx, hcs, _⟩ := ga.out
          subst hcs
          obtain ⟨u2, hu2⟩ : ∃ u2, u2 = u1.alloc (.cells #[.slice Ax 0 cx, .slice Dx 0 dx] 29) := ⟨_, rfl⟩
          obtain ⟨Z, hZ⟩ : ∃ Z, Z = u1.heap.size := ⟨_, rfl⟩
          have b2 : Below u1.heap.size u1 u2 := by rw [hu2]; exact (Below.refl _ _).alloc (Nat.le_refl _) _
          have z2 : u2.heap[Z]? = some (.cells #[.slice Ax 0 cx, .slice Dx 0 dx] 29 (0, 0)) := by rw [hu2, hZ]; exact blk_alloc_new _ _
          obtain ⟨z0, z1⟩ := pcell2 z2
          have B2 := Lib.hid (BB.out.trans ((b1.trans (b2.mono b1.size)).mono BB.out.size))
          have CA := Lib.hid (awake11_calls u2 (HT.out.below B2.out))
          have HU := Lib.hid (And.intro hu2 hZ)
          clear CP b1 ga hu2 b2 z2 hZ
          simp only [List.length_nil]
          go_upto_region 21 with (fail)
          rw [← HU.out.1, ← HU.out.2]
          go_wp2_with (fail)
          refine CA.out.mono ?_
          rintro e u3 ⟨rfl, b3⟩
          have B3 := Lib.hid (B2.out.trans (b3.mono B2.out.size))
          clear CA b3
          go_wp2_with (fail)
          go_ret
          exact ⟨rfl, B3.out⟩
  · obtain ⟨n, hn⟩ : ∃ n : Nat, n = 65535 + m := ⟨_, rfl⟩
    have HNK := Lib.hid (show (65536 : Int) + k = (n : Nat) by have := HK.out; omega)
    obtain ⟨w1, hw1⟩ : ∃ w1, w1 = w.alloc (.cells (madeCells #[.int .u8 0] (n * 1)) 5) := ⟨_, rfl⟩
    obtain ⟨N, hN⟩ : ∃ N, N = w.heap.size := ⟨_, rfl⟩
    have b1 : Below w.heap.size w w1 := by rw [hw1]; exact (Below.refl _ _).alloc (Nat.le_refl _) _
    have m1 : w1.heap[N]? = some (.cells (madeCells #[.int .u8 0] (n * 1)) 5 (0, 0)) := by rw [hw1, hN]; exact blk_alloc_new _ _
    have hN0 : w.heap.size ≤ N := by rw [hN]; exact Nat.le_refl _
    have hmk : (Instr.makeSlice 34 (.int .i64 (n : Nat)) (.int .i64 (n : Nat))).run Tryd.prog w = .ok (.slice (some ⟨N, 0, none⟩) n n) w1 := by
      have hr := run_make (P := Tryd.prog) w 34 5 i0 (.int .u8 0) Tryd.underlying34 hi0 hz0 .i64 .i64 (n : Nat) (n : Nat) (by omega) (Int.le_refl _) (by rw [hb0]; omega) (by omega)
      rw [hs0] at hr
      simp only [Int.toNat_natCast] at hr
      rw [hw1, hN]
      exact hr
    have hms : (madeCells #[Value.int .u8 0] (n * 1)).size = n := by simp [madeCells]
    have M1 := Lib.hid m1
    have B1 := Lib.hid b1
    have HMS := Lib.hid hms
    have HNN := Lib.hid hn
    clear hw1 hN b1 m1 hms hn
    go_upto_region 4 with (fail)
    iterate 9 go_step
    rw [HNK.out]
    rw [hmk]
    go_wp2_with (fail)
    go_loopw [10] (fun iv wr => ∃ (j : Nat) (c : Array Value), j ≤ n ∧ iv = .int .i64 (j : Nat) ∧ wr.heap[N]? = some (.cells c 5 (0, 0)) ∧ c.size = n ∧ (∀ i, i < j → c[i]? = some (.int .u8 10)) ∧ Below w.heap.size w wr) (fun iv _ => n - (intOf iv).toNat)
    case atStart => exact ⟨0, _, Nat.zero_le _, rfl, M1.out, HMS.out, fun i hi => by omega, B1.out⟩
    case round =>
      clear hmk
      obtain ⟨j, c, hj, rfl, hc, hcs, hci, hb⟩ := hrel
      have hn8 : n ≤ 65537 := by have := HNN.out; omega
      by_cases hgo : j < n
      · have g1 : decide (j < n) = true := by simpa using hgo
        obtain ⟨v0, hv0⟩ : ∃ v0, c[j]? = some v0 := ⟨_, Array.getElem?_eq_getElem (by omega)⟩
        have cj : wr.cell? ⟨N, j, none⟩ = some v0 := by simp [World.cell?, hc, hv0]
        have fz : ∀ j, wr.frozen? ⟨N, j, none⟩ = false := fun j => by simp [World.frozen?, hc]
        obtain ⟨wx, hwx⟩ : ∃ wx, wx = wr.setCell ⟨N, j, none⟩ (.int .u8 10) := ⟨_, rfl⟩
        have hcx : wx.heap[N]? = some (.cells (c.setIfInBounds j (.int .u8 10)) 5 (0, 0)) := by rw [hwx]; exact setCell_same hc _
        have HX := Lib.hid (And.intro hcx (And.intro hwx (show Below w.heap.size w wx by rw [hwx]; exact hb.setCell (p := ⟨N, j, none⟩) hN0 _)))
        have HC := Lib.hid (And.intro hcs hci)
        clear hc hcs hci hb hv0 hwx hcx
        go_wp2_with (fail)
        rw [← HX.out.2.1]
        go_roundw
        case rel =>
          refine ⟨j + 1, _, hgo, by go_num, HX.out.1, by simp [HC.out.1], fun i hi => ?_, HX.out.2.2⟩
          rw [Array.getElem?_setIfInBounds]
          have h1 := HC.out.1
          by_cases hij : j = i
          · rw [if_pos hij, if_pos (by omega)]
          · rw [if_neg hij]
            exact HC.out.2 i (by omega)
        case measure => simp [intOf]; omega
      · obtain rfl : j = n := by omega
        have g1 : decide (j < j) = false := by simp
        have hcv := tens_back wr N j c hc hci
        have hR := mn_lines m hm
        rw [← HNN.out] at hR
        have BB := Lib.hid hb
        obtain ⟨S, hS⟩ : ∃ S, S = mkB (List.replicate j 10) := ⟨_, rfl⟩
        have hSz : S.size ≤ 100000 := by rw [hS, mk_size, List.length_replicate]; omega
        rw [← hS] at hR hcv
        clear hS hc hcs hci hb
        have HR := Lib.hid hR
        have CP := Lib.hid (aparse_calls S wr (by omega) (HT.out.below BB.out))
        unfold APost at CP
        obtain ⟨a, ha⟩ : ∃ a, a = aFile S := ⟨_, rfl⟩
        rw [← ha, show a.line = 0 by rw [ha]; exact hR.line] at CP
        have HA := Lib.hid ha
        clear hR ha
        by_cases hm1 : m ≤ 1
        · rw [show a.err = 0 by rw [HA.out]; exact HR.out.low hm1] at CP
          have g5 : decide (k ≤ 0) = true := by have := HK.out; simp; omega
          clear hm1
          go_wp2_with (fail)
          refine CP.out.mono ?_
          rintro e u1 ⟨⟨cs, rfl, ga⟩, b1⟩
          obtain ⟨Ax, cx, Dx, dx, hcs, _⟩ := ga.out
          subst hcs
          obtain ⟨u2, hu2⟩ : ∃ u2, u2 = u1.alloc (.cells #[.slice Ax a.rules.length cx, .slice Dx a.pairs.length dx] 29) := ⟨_, rfl⟩
          have b2 : Below u1.heap.size u1 u2 := by rw [hu2]; exact (Below.refl _ _).alloc (Nat.le_refl _) _
          have B2 := Lib.hid (BB.out.trans ((b1.trans (b2.mono b1.size)).mono BB.out.size))
          have CA := Lib.hid (awake11_calls u2 (HT.out.below B2.out))
          have HU := Lib.hid hu2
          clear CP b1 ga hu2 b2
          go_upto_region 21 with (fail)
          rw [← HU.out]
          go_wp2_with (fail)
          refine CA.out.mono ?_
          rintro e u3 ⟨rfl, b3⟩
          have B3 := Lib.hid (B2.out.trans (b3.mono B2.out.size))
          clear CA b3
          go_wp2_with (fail)
          go_ret
          exact ⟨rfl, B3.out⟩
        · have e2 := HR.out.high (by omega)
          rw [← HA.out] at e2
          subst e2
          have g5 : decide (k ≤ 0) = false := by have := HK.out; simp; omega
          clear hm1
          go_wp2_with (fail)
          refine CP.out.mono ?_
          rintro e u1 ⟨⟨cs, rfl, ga⟩, b1⟩
          obtain ⟨Ax, cx, Dx, dx, hcs, _⟩ := ga.out
          subst hcs
          obtain ⟨u2, hu2⟩ : ∃ u2, u2 = u1.alloc (.cells #[.slice Ax 0 cx, .slice Dx 0 dx] 29) := ⟨_, rfl⟩
          obtain ⟨Z, hZ⟩ : ∃ Z, Z = u1.heap.size := ⟨_, rfl⟩
          have b2 : Below u1.heap.size u1 u2 := by rw [hu2]; exact (Below.refl _ _).alloc (Nat.le_refl _) _
          have z2 : u2.heap[Z]? = some (.cells #[.slice Ax 0 cx, .slice Dx 0 dx] 29 (0, 0)) := by rw [hu2, hZ]; exact blk_alloc_new _ _
          obtain ⟨z0, z1⟩ := pcell2 z2
          have B2 := Lib.hid (BB.out.trans ((b1.trans (b2.mono b1.size)).mono BB.out.size))
          have CA := Lib.hid (awake11_calls u2 (HT.out.below B2.out))
          have HU := Lib.hid (And.intro hu2 hZ)
          clear CP b1 ga hu2 b2 z2 hZ
          simp only [List.length_nil]
          go_upto_region 21 with (fail)
          rw [← HU.out.1, ← HU.out.2]
          go_wp2_with (fail)
          refine CA.out.mono ?_
          rintro e u3 ⟨rfl, b3⟩
          have B3 := Lib.hid (B2.out.trans (b3.mono B2.out.size))
          clear CA b3
          go_wp2_with (fail)
          go_ret
          exact ⟨rfl, B3.out⟩
end Go.Proofs.YtmcnnfpeicnnjaaDoor

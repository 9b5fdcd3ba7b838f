/- Rows of tokens; the reference's Same. -/
import Derived.Test.YtcljiahpgbedhaaDoorSegA
namespace Go.Own
open Go Go.RowKit Go.Deep
/-- a store into an own row -/
theorem own_set {w : World} {base e size n q cap : Nat} {xs : List Value} (h : w.ownsRow base e size (.slice (some ⟨q, 0, none⟩) n cap) n xs) (hn : 0 < n) (j : Nat) (hj : j < xs.length) (v : Value) : (w.setCell ⟨q, j, none⟩ v).ownsRow base e size (.slice (some ⟨q, 0, none⟩) n cap) n (xs.set j v) := by
  obtain ⟨hl, h⟩ := h
  rcases h with ⟨_, h0⟩ | ⟨g, cap', cur, hv, hb, hg, hc, hm, hs, ht⟩
  · omega
  · obtain ⟨rfl, _, rfl⟩ : q = g ∧ True ∧ cap = cap' := by simpa using hv
    refine ⟨by rw [List.length_set]; exact hl, .inr ⟨q, cap, cur.setIfInBounds j v, rfl, hb, ?_, hc, hm, by simpa using hs, ?_⟩⟩
    · simp [World.setCell, Array.getElem?_modify, hg]
    · rw [Array.toList_setIfInBounds, List.take_set, ht]
end Go.Own
namespace Go.Proofs.YtcljiahpgbedhaaDoor
open Go.RowKit Go.Deep Go.Own
set_option linter.unusedVariables false
def tokCells (t : Tok) : List Value := [.int .i64 (t.f : Nat), .int .i64 (t.t : Nat), .bool t.word]
def RowT (w : World) (base : Nat) (v : Value) (ts : List Tok) : Prop := w.ownsRow base 48 3 v ts.length (ts.flatMap tokCells)
theorem infoT : (Tryd.prog.info? 48).map (fun i => (i.zero, i.size, i.bytes)) = some (some (.agg #[.int .i64 0, .int .i64 0, .bool false]), 3, 24) := by kernel_rfl
theorem RowT.below {w w' : World} {base : Nat} {v : Value} {ts : List Tok} (h : RowT w base v ts) (hb : Below w.heap.size w w') : RowT w' base v ts := own_below h hb
theorem RowT.nil (w : World) (base : Nat) : RowT w base (.slice none 0 0) [] := World.ownsRow_nil _ _ _ _
theorem RowT.push {w' : World} {base : Nat} {v' : Value} {ts : List Tok} {t : Tok} (O : w'.ownsRow base 48 3 v' (ts.length + 1) (ts.flatMap tokCells ++ tokCells t)) : RowT w' base v' (ts ++ [t]) := by
  unfold RowT
  rw [List.length_append, List.flatMap_append, List.flatMap_singleton]
  exact O
theorem tokCells_len (ts : List Tok) : (ts.flatMap tokCells).length = ts.length * 3 := by
  induction ts with
  | nil => rfl
  | cons t ts ih => rw [List.flatMap_cons, List.length_append, ih]; simp [tokCells]; omega
theorem RowT.setTo {w : World} {base q n cap : Nat} {ts : List Tok} {t : Tok} (h : RowT w base (.slice (some ⟨q, 0, none⟩) n cap) (ts ++ [t])) (z : Nat) : RowT (w.setCell ⟨q, ts.length * 3 + 1, none⟩ (.int .i64 (z : Nat))) base (.slice (some ⟨q, 0, none⟩) n cap) (ts ++ [⟨t.f, z, t.word⟩]) := by
  obtain ⟨A', c', hv⟩ := own_is h
  have hn : n = (ts ++ [t]).length := by simp at hv; simpa using hv.2.1
  unfold RowT at h ⊢
  rw [show (ts ++ [(⟨t.f, z, t.word⟩ : Tok)]).length = (ts ++ [t]).length by simp]
  rw [hn] at h ⊢
  have := own_set h (by simp) (ts.length * 3 + 1) (by rw [tokCells_len]; simp; omega) (.int .i64 (z : Nat))
  have e : ((ts ++ [t]).flatMap tokCells).set (ts.length * 3 + 1) (.int .i64 (z : Nat)) = (ts ++ [(⟨t.f, z, t.word⟩ : Tok)]).flatMap tokCells := by
    rw [List.flatMap_append, List.flatMap_append, List.set_append_right _ _ (by rw [tokCells_len]; omega), tokCells_len, Nat.add_sub_cancel_left]
    rfl
  rw [e] at this
  exact this
theorem RowT.setWord {w : World} {base q n cap : Nat} {ts : List Tok} {t : Tok} (h : RowT w base (.slice (some ⟨q, 0, none⟩) n cap) (ts ++ [t])) (b : Bool) : RowT (w.setCell ⟨q, ts.length * 3 + 2, none⟩ (.bool b)) base (.slice (some ⟨q, 0, none⟩) n cap) (ts ++ [⟨t.f, t.t, b⟩]) := by
  obtain ⟨A', c', hv⟩ := own_is h
  have hn : n = (ts ++ [t]).length := by simp at hv; simpa using hv.2.1
  unfold RowT at h ⊢
  rw [show (ts ++ [(⟨t.f, t.t, b⟩ : Tok)]).length = (ts ++ [t]).length by simp]
  rw [hn] at h ⊢
  have := own_set h (by simp) (ts.length * 3 + 2) (by rw [tokCells_len]; simp; omega) (.bool b)
  have e : ((ts ++ [t]).flatMap tokCells).set (ts.length * 3 + 2) (.bool b) = (ts ++ [(⟨t.f, t.t, b⟩ : Tok)]).flatMap tokCells := by
    rw [List.flatMap_append, List.flatMap_append, List.set_append_right _ _ (by rw [tokCells_len]; omega), tokCells_len, Nat.add_sub_cancel_left]
    rfl
  rw [e] at this
  exact this
theorem src_tok {w : World} {M : Nat} {a n : Int} {c : Bool} (h : w.heap[M]? = some (.cells #[.int .i64 a, .int .i64 n, .bool c] 48 (0, 0))) :
    Src Tryd.prog 3 42 (.slice (some ⟨M, 0, none⟩) 1 1) 1 [.int .i64 a, .int .i64 n, .bool c] w := by
  refine Src.ofSlice w Tryd.underlying42 _ 1 1 _ rfl (fun j u hj => ?_) (fun u hu => ?_)
  · match j, hj with
    | 0, hj => simp at hj; subst hj; simp [Addr.add, World.cell?, h]
    | 1, hj => simp at hj; subst hj; simp [Addr.add, World.cell?, h]
    | 2, hj => simp at hj; subst hj; simp [Addr.add, World.cell?, h]
    | j + 3, hj => simp at hj
  · simp only [List.mem_cons, List.mem_nil_iff, or_false] at hu
    rcases hu with rfl | rfl | rfl <;> rfl
/-- the last token's place -/
theorem RowT.last {w : World} {base : Nat} {v : Value} {ts : List Tok} {t : Tok} (h : RowT w base v (ts ++ [t])) : ∃ q cap, v = .slice (some ⟨q, 0, none⟩) (ts.length + 1) cap ∧ base ≤ q ∧ q < w.heap.size ∧
    w.cell? ⟨q, ts.length * 3, none⟩ = some (.int .i64 (t.f : Nat)) ∧ w.cell? ⟨q, ts.length * 3 + 1, none⟩ = some (.int .i64 (t.t : Nat)) ∧ w.cell? ⟨q, ts.length * 3 + 2, none⟩ = some (.bool t.word) ∧ ∀ j, w.frozen? ⟨q, j, none⟩ = false := by
  obtain ⟨q, cap, hv, hb, hq, _, _, hc, hf⟩ := row_at h (by simp)
  obtain ⟨h1, h2, h3⟩ := cells3 tokCells (fun a => ⟨_, _, _, rfl⟩) (ts ++ [t]) ts.length t _ _ _ (by simp) rfl
  exact ⟨q, cap, by rw [hv]; simp, hb, hq, hc _ _ h1, hc _ _ h2, hc _ _ h3, hf⟩
/-- a slice of tokens that is read -/
def ReadsT (w : World) (A : Option Addr) (ts : List Tok) : Prop :=
  0 < ts.length → ∃ q, A = some ⟨q, 0, none⟩ ∧ q < w.heap.size ∧ ∀ j t, ts[j]? = some t → w.cell? ⟨q, j * 3, none⟩ = some (.int .i64 (t.f : Nat)) ∧ w.cell? ⟨q, j * 3 + 1, none⟩ = some (.int .i64 (t.t : Nat)) ∧ w.cell? ⟨q, j * 3 + 2, none⟩ = some (.bool t.word)
theorem RowT.reads {w : World} {base n cap : Nat} {A : Option Addr} {ts : List Tok} (h : RowT w base (.slice A n cap) ts) : n = ts.length ∧ ReadsT w A ts := by
  obtain ⟨A', c', hv⟩ := own_is h
  obtain ⟨rfl, rfl, rfl⟩ : A = A' ∧ n = ts.length ∧ cap = c' := by simpa using hv
  refine ⟨rfl, fun h0 => ?_⟩
  obtain ⟨q, c, hv, _, hq, _, _, hc, _⟩ := row_at h h0
  obtain ⟨rfl, _, rfl⟩ : A = some ⟨q, 0, none⟩ ∧ True ∧ cap = c := by simpa using hv
  refine ⟨q, rfl, hq, fun j u hu => ?_⟩
  obtain ⟨h1, h2, h3⟩ := cells3 tokCells (fun a => ⟨_, _, _, rfl⟩) ts j u _ _ _ hu rfl
  exact ⟨hc _ _ h1, hc _ _ h2, hc _ _ h3⟩
theorem ReadsT.below {w w' : World} {A : Option Addr} {ts : List Tok} (h : ReadsT w A ts) (hb : Below w.heap.size w w') : ReadsT w' A ts := fun h0 => by
  obtain ⟨q, e, hq, hc⟩ := h h0
  refine ⟨q, e, Nat.lt_of_lt_of_le hq hb.size, fun j u hu => ?_⟩
  obtain ⟨h1, h2, h3⟩ := hc j u hu
  exact ⟨(hb.cell (p := ⟨q, j * 3, none⟩) hq).trans h1, (hb.cell (p := ⟨q, j * 3 + 1, none⟩) hq).trans h2, (hb.cell (p := ⟨q, j * 3 + 2, none⟩) hq).trans h3⟩
theorem ReadsT.at {w : World} {A : Option Addr} {ts : List Tok} (h : ReadsT w A ts) {i f t : Nat} {b : Bool} (hu : ts[i]? = some ⟨f, t, b⟩) : ∃ q, A = some ⟨q, 0, none⟩ ∧ q < w.heap.size ∧ w.cell? ⟨q, i * 3, none⟩ = some (.int .i64 (f : Nat)) ∧ w.cell? ⟨q, i * 3 + 1, none⟩ = some (.int .i64 (t : Nat)) ∧ w.cell? ⟨q, i * 3 + 2, none⟩ = some (.bool b) := by
  have hl := (List.getElem?_eq_some_iff.1 hu).1
  obtain ⟨q, e, hq, hc⟩ := h (by omega)
  exact ⟨q, e, hq, hc i _ hu⟩
set_option maxRecDepth 100000 in
set_option maxHeartbeats 4000000 in
theorem tsame_calls (us : List Tok) (A B : Option Addr) (ca cb : Nat) (w : World) (hA : ReadsT w A us) (hB : ReadsT w B us) (hl : us.length ≤ 9223372036854775807) :
    Calls Tryd.prog 25 #[.slice A us.length ca, .slice B us.length cb] w fun e w' => e = .returned (.bool true) ∧ ∃ k, w' = w.drewN k := by
  have HA := Lib.hid hA
  have HB := Lib.hid hB
  clear hA hB
  go_enter Tryd.func25, Tryd.ntmps25
  go_wp2_with (fail)
  go_loopw [5] (fun iv wr => ∃ i k : Nat, i ≤ us.length ∧ iv = .int .i64 (i : Nat) ∧ wr = w.drewN k) (fun iv _ => us.length - (intOf iv).toNat)
  case atStart => exact ⟨0, 0, Nat.zero_le _, rfl, rfl⟩
  case round =>
    obtain ⟨i, k, hi, rfl, rfl⟩ := hrel
    by_cases hlt : i < us.length
    · have g1 : decide (i < us.length) = true := by simpa using hlt
      obtain ⟨⟨f, t, b⟩, hu⟩ : ∃ u, us[i]? = some u := ⟨_, List.getElem?_eq_getElem hlt⟩
      obtain ⟨qa, rfl, _, a1, a2, a3⟩ := HA.out.at hu
      obtain ⟨qb, rfl, _, b1, b2, b3⟩ := HB.out.at hu
      have hbb : (b == b) = true := by simp
      clear hu
      go_wp2_with (fail)
      go_quiet (fail)
      go_wp2_with (fail)
      go_roundw
      case rel => exact ⟨i + 1, _, by omega, by go_num, rfl⟩
      case measure => simp [intOf]; omega
    · have g1 : decide (i < us.length) = false := by simpa using hlt
      go_wp2_with (fail)
      go_ret
      exact ⟨rfl, _, rfl⟩
end Go.Proofs.YtcljiahpgbedhaaDoor

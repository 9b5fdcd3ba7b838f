/- The usual table; strong, firm; a text's kinds, its tokens (plain). -/
import Derived.Test.YtcljiahpgbedhaaDoorClsOf
import Derived.Test.YtcljiahpgbedhaaDoorRLaw1
namespace Go.Proofs.YtcljiahpgbedhaaDoor
open Go.RowKit Go.Deep Go.Own
set_option linter.unusedVariables false
theorem cell_of_blk {w : World} {b : Nat} {cs : Array Value} {t : TypeId} {fr : Nat × Nat} (h : w.heap[b]? = some (.cells cs t fr)) (j : Nat) : w.cell? ⟨b, j, none⟩ = cs[j]? := by
  simp [World.cell?, h]
def tableL : List Rng := [⟨39, 39, 3⟩, ⟨48, 57, 2⟩, ⟨65, 90, 1⟩, ⟨97, 122, 1⟩, ⟨192, 591, 1⟩]
set_option maxRecDepth 100000 in
set_option maxHeartbeats 4000000 in
theorem table_calls (w : World) :
    Calls Tryd.prog 27 #[] w fun e w' => (∃ A, e = .returned (.slice A tableL.length 5) ∧ ReadsR w' A tableL) ∧ Below w.heap.size w w' := by
  go_enter Tryd.func27, Tryd.ntmps27
  go_wp2_with (fail)
  go_ret
  refine ⟨⟨_, rfl, ?_⟩, (Below.refl _ _).alloc (Nat.le_refl _) _⟩
  intro _
  refine ⟨w.heap.size, 0, rfl, by simp, fun j r hr => ?_⟩
  have hb := blk_new w (Obj.cells #[.int .i64 39, .int .i64 39, .int .i64 3, .int .i64 48, .int .i64 57, .int .i64 2, .int .i64 65, .int .i64 90, .int .i64 1, .int .i64 97, .int .i64 122, .int .i64 1, .int .i64 192, .int .i64 591, .int .i64 1] 70)
  match j, hr with
  | 0, hr | 1, hr | 2, hr | 3, hr | 4, hr =>
    simp only [tableL, List.getElem?_cons_succ, List.getElem?_cons_zero, Option.some.injEq] at hr
    subst hr
    exact ⟨(cell_of_blk hb _).trans rfl, (cell_of_blk hb _).trans rfl, (cell_of_blk hb _).trans rfl⟩
  | j + 5, hr => simp [tableL] at hr
theorem unitsFrom_fit (s : ByteArray) : ∀ (f i : Nat) (u : Nat × Nat × Int), u ∈ unitsFrom s f i → i ≤ u.1 ∧ u.1 + u.2.1 ≤ s.size ∧ 1 ≤ u.2.1
  | 0, i, u, h => by cases h
  | f + 1, i, u, h => by
    unfold unitsFrom at h
    split at h
    · rename_i hi
      rcases List.mem_cons.1 h with rfl | h
      · exact ⟨Nat.le_refl _, u_fits s i hi, u_len1 s i⟩
      · have := unitsFrom_fit s f (i + uLen s i) u h
        exact ⟨by omega, this.2⟩
    · cases h
def strongB (c : Int) : Bool := c == 1 || c == 2
set_option maxRecDepth 100000 in
theorem strong_calls (c : Int) (w : World) : Calls Tryd.prog 45 #[.int .i64 c] w fun e w' => e = .returned (.bool (strongB c)) ∧ w' = w := by
  unfold strongB
  by_cases h1 : c = 1
  · subst h1
    go_enter Tryd.func45, Tryd.ntmps45
    go_wp2_with (fail)
    go_ret
    exact ⟨rfl, rfl⟩
  · have k1 : (c == 1) = false := by simpa using h1
    rw [k1, Bool.false_or]
    go_enter Tryd.func45, Tryd.ntmps45
    go_wp2_with (fail)
    go_ret
    exact ⟨rfl, rfl⟩
set_option maxRecDepth 100000 in
theorem firm_calls (c : Int) (w : World) : Calls Tryd.prog 38 #[.int .i64 c] w fun e w' => e = .returned (.bool (strongB c)) ∧ w' = w := by
  unfold strongB
  by_cases h1 : c = 1
  · subst h1
    go_enter Tryd.func38, Tryd.ntmps38
    go_wp2_with (fail)
    go_ret
    exact ⟨rfl, rfl⟩
  · have k1 : (c == 1) = false := by simpa using h1
    rw [k1, Bool.false_or]
    go_enter Tryd.func38, Tryd.ntmps38
    go_wp2_with (fail)
    go_ret
    exact ⟨rfl, rfl⟩
/-- a unit, its class, whether it is solid -/
structure Kd where
  at' : Nat
  len : Nat
  code : Int
  cls : Int
  solid : Bool
structure Tok where
  f : Nat
  t : Nat
  word : Bool
def nextC (rs : List Rng) : List (Nat × Nat × Int) → Int
  | [] => 0
  | v :: _ => clsOf rs v.2.2
def solidB (was cl next : Int) : Bool := strongB cl || (cl == 3 && (strongB was && strongB next))
def kindsFrom (rs : List Rng) : Int → List (Nat × Nat × Int) → List Kd
  | _, [] => []
  | was, u :: t => ⟨u.1, u.2.1, u.2.2, clsOf rs u.2.2, solidB was (clsOf rs u.2.2) (nextC rs t)⟩ :: kindsFrom rs (clsOf rs u.2.2) t
def kindsL (rs : List Rng) (s : ByteArray) : List Kd := kindsFrom rs 0 (units s)
def upTok (k : Kd) (t : Tok) : Tok := ⟨t.f, k.at' + k.len, t.word && !(k.cls == 2)⟩
def upLast (g : Tok → Tok) : List Tok → List Tok
  | [] => []
  | [t] => [g t]
  | t :: u :: l => t :: upLast g (u :: l)
def tokStep (st : Bool × List Tok) (k : Kd) : Bool × List Tok :=
  if k.solid = true then (true, upLast (upTok k) (if st.1 = true then st.2 else st.2 ++ [⟨k.at', k.at', true⟩])) else (false, st.2)
def toksSt (ks : List Kd) : Bool × List Tok := ks.foldl tokStep (false, [])
def toksOf (rs : List Rng) (s : ByteArray) : List Tok := (toksSt (kindsL rs s)).2
theorem upLast_snoc (g : Tok → Tok) : ∀ (l : List Tok) (t : Tok), upLast g (l ++ [t]) = l ++ [g t]
  | [], t => rfl
  | [x], t => rfl
  | x :: y :: l, t => by
    have := upLast_snoc g (y :: l) t
    show x :: upLast g (y :: (l ++ [t])) = _
    rw [show y :: (l ++ [t]) = (y :: l) ++ [t] from rfl, this]; rfl
theorem upLast_length (g : Tok → Tok) : ∀ l : List Tok, (upLast g l).length = l.length
  | [] => rfl
  | [x] => rfl
  | x :: y :: l => by
    show (upLast g (y :: l)).length + 1 = _
    rw [upLast_length g (y :: l)]; rfl
theorem toksSt_snoc (ks : List Kd) (k : Kd) : toksSt (ks ++ [k]) = tokStep (toksSt ks) k := by unfold toksSt; rw [List.foldl_append]; rfl
/-- an open list is not empty -/
theorem tokStep_open (st : Bool × List Tok) (k : Kd) (h : st.1 = true → st.2 ≠ []) : (tokStep st k).1 = true → (tokStep st k).2 ≠ [] := by
  unfold tokStep
  split
  · intro _ he
    have hl := congrArg List.length he
    simp only [upLast_length] at hl
    split at hl
    · rename_i ho
      exact h ho (List.eq_nil_of_length_eq_zero hl)
    · simp at hl
  · intro hh; cases hh
theorem foldl_snoc_ind {α β : Type} (f : β → α → β) (b : β) (P : β → Prop) (h0 : P b) (hs : ∀ x a, P x → P (f x a)) : ∀ l : List α, P (l.foldl f b)
  | [] => h0
  | a :: l => foldl_snoc_ind f (f b a) P (hs b a h0) hs l
theorem toks_open (ks : List Kd) : (toksSt ks).1 = true → (toksSt ks).2 ≠ [] :=
  foldl_snoc_ind tokStep (false, []) (fun st => st.1 = true → st.2 ≠ []) (by intro h; cases h) (fun st k h => tokStep_open st k h) ks
theorem tokStep_len (st : Bool × List Tok) (k : Kd) : (tokStep st k).2.length ≤ st.2.length + 1 := by
  unfold tokStep
  split
  · simp only [upLast_length]
    split <;> simp
  · simp
theorem toks_len : ∀ (ks : List Kd) (st : Bool × List Tok), (ks.foldl tokStep st).2.length ≤ st.2.length + ks.length
  | [], st => Nat.le_refl _
  | k :: ks, st => by
    have h1 := toks_len ks (tokStep st k)
    have h2 := tokStep_len st k
    rw [List.foldl_cons, List.length_cons]; omega
theorem kindsFrom_len (rs : List Rng) : ∀ (us : List (Nat × Nat × Int)) (was : Int), (kindsFrom rs was us).length = us.length
  | [], _ => rfl
  | u :: t, was => by unfold kindsFrom; rw [List.length_cons, kindsFrom_len rs t, List.length_cons]
end Go.Proofs.YtcljiahpgbedhaaDoor

namespace Dst
/-- one cell of the table -/
def cell (c : Nat) (tr : Bool) (t up left diag : Nat) : Nat :=
  if tr then min (min (min (up + 1) (left + 1)) (diag + c)) (t + 1) else min (min (up + 1) (left + 1)) (diag + c)
def cost (x y : Int) : Nat := if x = y then 0 else 1
theorem cost_le (x y : Int) : cost x y ≤ 1 := by unfold cost; split <;> omega
theorem cost_self (x : Int) : cost x x = 0 := by simp [cost]
theorem cost_comm (x y : Int) : cost x y = cost y x := by unfold cost; simp [eq_comm]
/-- may the two last ones be turned? -/
def tr (a b : List Int) (i k : Nat) : Bool :=
  decide (1 ≤ i) && decide (1 ≤ k) && decide (a.getD i 0 = b.getD (k - 1) 0) && decide (a.getD (i - 1) 0 = b.getD k 0)
/-- row i + 1 out of row i and row i - 1 -/
def rowF (a b : List Int) (i : Nat) (was last : Nat → Nat) : Nat → Nat
  | 0 => i + 1
  | k + 1 => cell (cost (a.getD i 0) (b.getD k 0)) (tr a b i k) (last (k - 1)) (was (k + 1)) (rowF a b i was last k) (was k)
def rows (a b : List Int) : Nat → (Nat → Nat) × (Nat → Nat)
  | 0 => (fun k => k, fun _ => 0)
  | i + 1 => (rowF a b i (rows a b i).1 (rows a b i).2, (rows a b i).1)
def D (a b : List Int) (i k : Nat) : Nat := (rows a b i).1 k
theorem D_0 (a b : List Int) (k : Nat) : D a b 0 k = k := rfl
theorem D_s0 (a b : List Int) (i : Nat) : D a b (i + 1) 0 = i + 1 := rfl
theorem D_i0 (a b : List Int) (i : Nat) : D a b i 0 = i := by cases i <;> rfl
theorem D_ss (a b : List Int) (i k : Nat) : D a b (i + 1) (k + 1) =
    cell (cost (a.getD i 0) (b.getD k 0)) (tr a b i k) (D a b (i - 1) (k - 1)) (D a b i (k + 1)) (D a b (i + 1) k) (D a b i k) := by
  show cell _ _ ((rows a b i).2 (k - 1)) (D a b i (k + 1)) (D a b (i + 1) k) (D a b i k) = _
  cases h : tr a b i k
  · simp [cell]
  · cases i with
    | zero => simp [tr] at h
    | succ j => rfl
def far (a b : List Int) : Nat := D a b a.length b.length
theorem cell_up (c : Nat) (b : Bool) (t u l d : Nat) : cell c b t u l d ≤ u + 1 := by unfold cell; split <;> omega
theorem cell_left (c : Nat) (b : Bool) (t u l d : Nat) : cell c b t u l d ≤ l + 1 := by unfold cell; split <;> omega
theorem cell_diag (c : Nat) (b : Bool) (t u l d : Nat) : cell c b t u l d ≤ d + c := by unfold cell; split <;> omega
theorem cell_tr (c : Nat) (t u l d : Nat) : cell c true t u l d ≤ t + 1 := by unfold cell; rw [if_pos rfl]; omega
theorem cell_one (c : Nat) (b : Bool) (t u l d : Nat) : cell c b t u l d = u + 1 ∨ cell c b t u l d = l + 1 ∨ cell c b t u l d = d + c ∨ (b = true ∧ cell c b t u l d = t + 1) := by
  unfold cell; split <;> simp_all <;> omega
theorem D_le (a b : List Int) (i k : Nat) : D a b i k ≤ max i k := by
  induction i generalizing k with
  | zero => simp [D_0]
  | succ i ih =>
    cases k with
    | zero => simp [D_s0]
    | succ k =>
      rw [D_ss]
      have h3 := ih k
      have := cell_diag (cost (a.getD i 0) (b.getD k 0)) (tr a b i k) (D a b (i - 1) (k - 1)) (D a b i (k + 1)) (D a b (i + 1) k) (D a b i k)
      have := cost_le (a.getD i 0) (b.getD k 0)
      omega
theorem D_ge (a b : List Int) (i k : Nat) : i ≤ D a b i k + k ∧ k ≤ D a b i k + i := by
  induction i using Nat.strongRecOn generalizing k with
  | _ i ih =>
    cases i with
    | zero => simp [D_0]
    | succ i =>
      induction k with
      | zero => simp [D_s0]
      | succ k ihk =>
        have h1 := ih i (by omega) (k + 1)
        have h2 := ih i (by omega) k
        have h3 := ih (i - 1) (by omega) (k - 1)
        rw [D_ss]
        rcases cell_one (cost (a.getD i 0) (b.getD k 0)) (tr a b i k) (D a b (i - 1) (k - 1)) (D a b i (k + 1)) (D a b (i + 1) k) (D a b i k) with h | h | h | ⟨ht, h⟩ <;> rw [h] <;> omega
theorem tr_comm (a b : List Int) (i k : Nat) : tr a b i k = tr b a k i := by
  unfold tr
  rw [Bool.eq_iff_iff]; simp; constructor <;> (rintro ⟨⟨⟨h1, h2⟩, h3⟩, h4⟩; exact ⟨⟨⟨h2, h1⟩, h4.symm⟩, h3.symm⟩)
theorem D_comm (a b : List Int) (i k : Nat) : D a b i k = D b a k i := by
  induction i using Nat.strongRecOn generalizing k with
  | _ i ih =>
    cases i with
    | zero => rw [D_0, D_i0]
    | succ i =>
      induction k with
      | zero => rw [D_0, D_i0]
      | succ k ihk =>
        rw [D_ss, D_ss, ih i (by omega) (k + 1), ih i (by omega) k, ihk, ih (i - 1) (by omega) (k - 1), tr_comm, cost_comm]
        unfold cell; split <;> omega
theorem far_comm (a b : List Int) : far a b = far b a := D_comm _ _ _ _
/-- what the table says of beginnings alone -/
theorem D_zero (a b : List Int) (i k : Nat) (h : D a b i k = 0) : i = k ∧ ∀ j, j < i → a.getD j 0 = b.getD j 0 := by
  induction i generalizing k with
  | zero => rw [D_0] at h; exact ⟨h.symm, fun j hj => absurd hj (by omega)⟩
  | succ i ih =>
    cases k with
    | zero => rw [D_s0] at h; omega
    | succ k =>
      rw [D_ss] at h
      rcases cell_one (cost (a.getD i 0) (b.getD k 0)) (tr a b i k) (D a b (i - 1) (k - 1)) (D a b i (k + 1)) (D a b (i + 1) k) (D a b i k) with e | e | e | ⟨ht, e⟩ <;> rw [h] at e <;> try omega
      obtain ⟨h1, h2⟩ := ih k (by omega)
      have hc : cost (a.getD i 0) (b.getD k 0) = 0 := by omega
      subst h1
      refine ⟨rfl, fun j hj => ?_⟩
      by_cases hji : j = i
      · subst hji; unfold cost at hc; split at hc
        · assumption
        · omega
      · exact h2 j (by omega)
theorem far_zero (a b : List Int) (h : far a b = 0) : a = b := by
  obtain ⟨h1, h2⟩ := D_zero a b _ _ h
  refine List.ext_getElem h1 fun j hj hj' => ?_
  have := h2 j hj
  simpa [List.getD_eq_getElem?_getD, hj, hj'] using this
/-- beginnings that are alike cost nothing -/
theorem D_pre (a b c : List Int) (i k : Nat) : D (c ++ a) (c ++ b) (c.length + i) (c.length + k) ≤ D a b i k := by
  have base : ∀ n, n ≤ c.length → D (c ++ a) (c ++ b) n n = 0 := by
    intro n
    induction n with
    | zero => intro _; rfl
    | succ n ih =>
      intro hn
      have := ih (by omega)
      have h := cell_diag (cost ((c ++ a).getD n 0) ((c ++ b).getD n 0)) (tr (c ++ a) (c ++ b) n n) (D (c ++ a) (c ++ b) (n - 1) (n - 1)) (D (c ++ a) (c ++ b) n (n + 1)) (D (c ++ a) (c ++ b) (n + 1) n) (D (c ++ a) (c ++ b) n n)
      rw [← D_ss, this] at h
      have e : (c ++ a).getD n 0 = (c ++ b).getD n 0 := by simp [List.getD_eq_getElem?_getD, List.getElem?_append_left (show n < c.length by omega)]
      rw [e, cost_self] at h
      omega
  have ga : ∀ (x : List Int) (n : Nat), (c ++ x).getD (c.length + n) 0 = x.getD n 0 := by
    intro x n; simp [List.getD_eq_getElem?_getD, List.getElem?_append_right]
  have col : ∀ k, D (c ++ a) (c ++ b) c.length (c.length + k) ≤ k := by
    intro k
    induction k with
    | zero => simp [base]
    | succ k ih =>
      rcases Nat.eq_zero_or_pos c.length with h0 | h0
      · rw [h0, D_0]; omega
      · obtain ⟨m, hm⟩ : ∃ m, c.length = m + 1 := ⟨c.length - 1, by omega⟩
        have h := cell_left (cost ((c ++ a).getD m 0) ((c ++ b).getD (c.length + k) 0)) (tr (c ++ a) (c ++ b) m (c.length + k)) (D (c ++ a) (c ++ b) (m - 1) (c.length + k - 1)) (D (c ++ a) (c ++ b) m (c.length + k + 1)) (D (c ++ a) (c ++ b) (m + 1) (c.length + k)) (D (c ++ a) (c ++ b) m (c.length + k))
        rw [← D_ss, ← hm] at h
        show D (c ++ a) (c ++ b) c.length (c.length + k + 1) ≤ _
        omega
  have row : ∀ i, D (c ++ a) (c ++ b) (c.length + i) c.length ≤ i := by
    intro i
    induction i with
    | zero => simp [base]
    | succ i ih =>
      rcases Nat.eq_zero_or_pos c.length with h0 | h0
      · rw [h0, D_i0]; omega
      · obtain ⟨m, hm⟩ : ∃ m, c.length = m + 1 := ⟨c.length - 1, by omega⟩
        have h := cell_up (cost ((c ++ a).getD (c.length + i) 0) ((c ++ b).getD m 0)) (tr (c ++ a) (c ++ b) (c.length + i) m) (D (c ++ a) (c ++ b) (c.length + i - 1) (m - 1)) (D (c ++ a) (c ++ b) (c.length + i) (m + 1)) (D (c ++ a) (c ++ b) (c.length + i + 1) m) (D (c ++ a) (c ++ b) (c.length + i) m)
        rw [← D_ss, ← hm] at h
        show D (c ++ a) (c ++ b) (c.length + i + 1) c.length ≤ _
        omega
  induction i using Nat.strongRecOn generalizing k with
  | _ i ih =>
    cases i with
    | zero => rw [D_0]; exact col k
    | succ i =>
      induction k with
      | zero => rw [D_s0]; exact row (i + 1)
      | succ k ihk =>
        have h1 := ih i (by omega) (k + 1)
        have h2 := ih i (by omega) k
        have h3 := ih (i - 1) (by omega) (k - 1)
        have e := D_ss (c ++ a) (c ++ b) (c.length + i) (c.length + k)
        rw [ga, ga] at e
        show D (c ++ a) (c ++ b) (c.length + i + 1) (c.length + k + 1) ≤ _
        rw [e, D_ss]
        have ht : tr a b i k = true → tr (c ++ a) (c ++ b) (c.length + i) (c.length + k) = true ∧ c.length + i - 1 = c.length + (i - 1) ∧ c.length + k - 1 = c.length + (k - 1) := by
          intro h
          simp only [tr, Bool.and_eq_true, decide_eq_true_eq] at h ⊢
          obtain ⟨⟨⟨h1, h2⟩, h3⟩, h4⟩ := h
          have e1 : c.length + i - 1 = c.length + (i - 1) := by omega
          have e2 : c.length + k - 1 = c.length + (k - 1) := by omega
          rw [e1, e2, ga, ga, ga, ga]
          exact ⟨⟨⟨⟨by omega, by omega⟩, h3⟩, h4⟩, rfl, rfl⟩
        have u := cell_up (cost (a.getD i 0) (b.getD k 0)) (tr (c ++ a) (c ++ b) (c.length + i) (c.length + k)) (D (c ++ a) (c ++ b) (c.length + i - 1) (c.length + k - 1)) (D (c ++ a) (c ++ b) (c.length + i) (c.length + k + 1)) (D (c ++ a) (c ++ b) (c.length + i + 1) (c.length + k)) (D (c ++ a) (c ++ b) (c.length + i) (c.length + k))
        have l := cell_left (cost (a.getD i 0) (b.getD k 0)) (tr (c ++ a) (c ++ b) (c.length + i) (c.length + k)) (D (c ++ a) (c ++ b) (c.length + i - 1) (c.length + k - 1)) (D (c ++ a) (c ++ b) (c.length + i) (c.length + k + 1)) (D (c ++ a) (c ++ b) (c.length + i + 1) (c.length + k)) (D (c ++ a) (c ++ b) (c.length + i) (c.length + k))
        have d := cell_diag (cost (a.getD i 0) (b.getD k 0)) (tr (c ++ a) (c ++ b) (c.length + i) (c.length + k)) (D (c ++ a) (c ++ b) (c.length + i - 1) (c.length + k - 1)) (D (c ++ a) (c ++ b) (c.length + i) (c.length + k + 1)) (D (c ++ a) (c ++ b) (c.length + i + 1) (c.length + k)) (D (c ++ a) (c ++ b) (c.length + i) (c.length + k))
        have h1' : D (c ++ a) (c ++ b) (c.length + i) (c.length + k + 1) ≤ D a b i (k + 1) := h1
        have h2' : D (c ++ a) (c ++ b) (c.length + i + 1) (c.length + k) ≤ D a b (i + 1) k := ihk
        rcases cell_one (cost (a.getD i 0) (b.getD k 0)) (tr a b i k) (D a b (i - 1) (k - 1)) (D a b i (k + 1)) (D a b (i + 1) k) (D a b i k) with h | h | h | ⟨hb, h⟩ <;> rw [h]
        · omega
        · omega
        · omega
        · obtain ⟨q1, q2, q3⟩ := ht hb
          have t := cell_tr (cost (a.getD i 0) (b.getD k 0)) (D (c ++ a) (c ++ b) (c.length + i - 1) (c.length + k - 1)) (D (c ++ a) (c ++ b) (c.length + i) (c.length + k + 1)) (D (c ++ a) (c ++ b) (c.length + i + 1) (c.length + k)) (D (c ++ a) (c ++ b) (c.length + i) (c.length + k))
          rw [q1]; rw [q2, q3] at t ⊢
          omega
theorem far_pre (a b c : List Int) : far (c ++ a) (c ++ b) ≤ far a b := by
  unfold far
  rw [List.length_append, List.length_append]
  exact D_pre a b c _ _
theorem far_self (a : List Int) : far a a = 0 := by
  have := far_pre [] [] a
  simpa [far, D_0] using this
theorem far_le (a b : List Int) : far a b ≤ max a.length b.length := D_le _ _ _ _
theorem far_ge (a b : List Int) : a.length ≤ far a b + b.length ∧ b.length ≤ far a b + a.length := D_ge _ _ _ _

/-! ### edits -/
theorem D_congr (a a' b b' : List Int) (i k : Nat) (ha : ∀ j, j < i → a.getD j 0 = a'.getD j 0) (hb : ∀ j, j < k → b.getD j 0 = b'.getD j 0) : D a b i k = D a' b' i k := by
  induction i using Nat.strongRecOn generalizing k with
  | _ i ih =>
    cases i with
    | zero => rfl
    | succ i =>
      induction k with
      | zero => rfl
      | succ k ihk =>
        have ht : tr a b i k = tr a' b' i k := by
          unfold tr
          rw [ha i (by omega), hb k (by omega), ha (i - 1) (by omega), hb (k - 1) (by omega)]
        rw [D_ss, D_ss, ha i (by omega), hb k (by omega), ht, ihk (fun j hj => hb j (by omega)), ih i (by omega) (k + 1) (fun j hj => ha j (by omega)) hb,
          ih i (by omega) k (fun j hj => ha j (by omega)) (fun j hj => hb j (by omega)), ih (i - 1) (by omega) (k - 1) (fun j hj => ha j (by omega)) (fun j hj => hb j (by omega))]
theorem getD_snoc_lt (a : List Int) (x : Int) (j : Nat) (h : j < a.length) : (a ++ [x]).getD j 0 = a.getD j 0 := by
  simp [List.getD_eq_getElem?_getD, List.getElem?_append_left h]
theorem getD_snoc_eq (a : List Int) (x : Int) : (a ++ [x]).getD a.length 0 = x := by
  simp [List.getD_eq_getElem?_getD]
theorem far_ins (a b : List Int) (y : Int) : far a (b ++ [y]) ≤ far a b + 1 := by
  unfold far
  rw [List.length_append, List.length_singleton]
  cases ha : a.length with
  | zero => rw [D_0, D_0]; omega
  | succ i =>
    rw [D_ss]
    refine Nat.le_trans (cell_left _ _ _ _ _ _) ?_
    rw [D_congr a a (b ++ [y]) b (i + 1) b.length (fun _ _ => rfl) (fun j hj => getD_snoc_lt b y j hj)]
    exact Nat.le_refl _
theorem far_del (a b : List Int) (x : Int) : far (a ++ [x]) b ≤ far a b + 1 := by
  rw [far_comm (a ++ [x]) b, far_comm a b]; exact far_ins b a x
theorem far_sub (a b : List Int) (x y : Int) : far (a ++ [x]) (b ++ [y]) ≤ far a b + cost x y := by
  unfold far
  rw [List.length_append, List.length_singleton, List.length_append, List.length_singleton, D_ss]
  refine Nat.le_trans (cell_diag _ _ _ _ _ _) ?_
  rw [getD_snoc_eq, getD_snoc_eq, D_congr (a ++ [x]) a (b ++ [y]) b a.length b.length (fun j hj => getD_snoc_lt a x j hj) (fun j hj => getD_snoc_lt b y j hj)]
  exact Nat.le_refl _
/-- one list beside another, with so many differences -/
inductive Ali : List Int → List Int → Nat → Prop
  | nil : Ali [] [] 0
  | ins {a b n} (y : Int) (h : Ali a b n) : Ali a (b ++ [y]) (n + 1)
  | del {a b n} (x : Int) (h : Ali a b n) : Ali (a ++ [x]) b (n + 1)
  | sub {a b n} (x y : Int) (h : Ali a b n) : Ali (a ++ [x]) (b ++ [y]) (n + cost x y)
theorem Ali.far {a b : List Int} {n : Nat} (h : Ali a b n) : far a b ≤ n := by
  induction h with
  | nil => exact Nat.le_refl _
  | ins y h ih => exact Nat.le_trans (far_ins _ _ _) (by omega)
  | del x h ih => exact Nat.le_trans (far_del _ _ _) (by omega)
  | sub x y h ih => exact Nat.le_trans (far_sub _ _ _ _) (by omega)
theorem Ali.append {a b a' b' : List Int} {n n' : Nat} (h : Ali a b n) (h' : Ali a' b' n') : Ali (a ++ a') (b ++ b') (n + n') := by
  induction h' with
  | nil => simpa using h
  | ins y h' ih => rw [← List.append_assoc]; exact ih.ins y
  | del x h' ih => rw [← List.append_assoc]; exact ih.del x
  | sub x y h' ih => rw [← List.append_assoc, ← List.append_assoc, ← Nat.add_assoc]; exact ih.sub x y
theorem snoc_cases (y : List Int) : y = [] ∨ ∃ z e, y = z ++ [e] := by
  rcases List.eq_nil_or_concat y with h | ⟨z, e, h⟩
  · exact .inl h
  · exact .inr ⟨z, e, by simpa using h⟩
theorem Ali.split {a b : List Int} {n : Nat} (h : Ali a b n) : ∀ x y, b = x ++ y → ∃ a1 a2 n1 n2, a = a1 ++ a2 ∧ Ali a1 x n1 ∧ Ali a2 y n2 ∧ n = n1 + n2 := by
  induction h with
  | nil =>
    intro x y e
    have e' := e.symm
    rw [List.append_eq_nil_iff] at e'
    obtain ⟨rfl, rfl⟩ := e'
    exact ⟨[], [], 0, 0, rfl, .nil, .nil, rfl⟩
  | ins z h ih =>
    intro x y e
    rcases snoc_cases y with rfl | ⟨y', e', rfl⟩
    · rw [List.append_nil] at e; subst e
      exact ⟨_, [], _, 0, (List.append_nil _).symm, h.ins z, .nil, rfl⟩
    · rw [← List.append_assoc] at e
      obtain ⟨e1, e2⟩ := List.append_inj' e rfl
      obtain rfl : z = e' := by simpa using e2
      obtain ⟨a1, a2, n1, n2, h1, h2, h3, h4⟩ := ih x y' e1
      exact ⟨a1, a2, n1, n2 + 1, h1, h2, h3.ins z, by omega⟩
  | del z h ih =>
    intro x y e
    obtain ⟨a1, a2, n1, n2, h1, h2, h3, h4⟩ := ih x y e
    exact ⟨a1, a2 ++ [z], n1, n2 + 1, by rw [h1, List.append_assoc], h2, h3.del z, by omega⟩
  | sub z z' h ih =>
    intro x y e
    rcases snoc_cases y with rfl | ⟨y', e', rfl⟩
    · rw [List.append_nil] at e; subst e
      exact ⟨_, [], _, 0, (List.append_nil _).symm, h.sub z z', .nil, rfl⟩
    · rw [← List.append_assoc] at e
      obtain ⟨e1, e2⟩ := List.append_inj' e rfl
      obtain rfl : z' = e' := by simpa using e2
      obtain ⟨a1, a2, n1, n2, h1, h2, h3, h4⟩ := ih x y' e1
      exact ⟨a1, a2 ++ [z], n1, n2 + cost z z', by rw [h1, List.append_assoc], h2, h3.sub z z', by omega⟩
theorem Ali.refl (a : List Int) : Ali a a 0 := by
  have h : ∀ n (a : List Int), a.length = n → Ali a a 0 := by
    intro n
    induction n with
    | zero => intro a h; rw [List.eq_nil_of_length_eq_zero h]; exact .nil
    | succ n ih =>
      intro a h
      rcases snoc_cases a with rfl | ⟨z, e, rfl⟩
      · exact .nil
      · have := (ih z (by simpa using h)).sub e e
        rwa [cost_self] at this
  exact h _ a rfl
theorem Ali.gone (a : List Int) : Ali a [] a.length := by
  have h : ∀ n (a : List Int), a.length = n → Ali a [] n := by
    intro n
    induction n with
    | zero => intro a h; rw [List.eq_nil_of_length_eq_zero h]; exact .nil
    | succ n ih =>
      intro a h
      rcases snoc_cases a with rfl | ⟨z, e, rfl⟩
      · simp at h
      · exact (ih z (by simpa using h)).del e
  exact h _ a rfl
/-- at most so many differences -/
def Few (a b : List Int) (n : Nat) : Prop := ∃ m, Ali a b m ∧ m ≤ n
theorem Few.far {a b : List Int} {n : Nat} (h : Few a b n) : Dst.far a b ≤ n := by obtain ⟨m, h, hm⟩ := h; exact Nat.le_trans h.far hm
theorem Few.refl (a : List Int) : Few a a 0 := ⟨0, .refl a, Nat.le_refl _⟩
theorem Few.put {a x y : List Int} {n : Nat} (k : Int) (h : Few a (x ++ y) n) : Few a (x ++ [k] ++ y) (n + 1) := by
  obtain ⟨m, h, hm⟩ := h
  obtain ⟨a1, a2, n1, n2, rfl, h1, h2, h3⟩ := h.split x y rfl
  exact ⟨_, (h1.ins k).append h2, by omega⟩
theorem Few.gone {a x y : List Int} {e : Int} {n : Nat} (h : Few a (x ++ [e] ++ y) n) : Few a (x ++ y) (n + 1) := by
  obtain ⟨m, h, hm⟩ := h
  obtain ⟨a1, a2, n1, n2, rfl, h1, h2, h3⟩ := h.split (x ++ [e]) y rfl
  obtain ⟨a3, a4, n3, n4, rfl, h4, h5, h6⟩ := h1.split x [e] rfl
  have hl := (far_ge a4 [e]).1
  have hf := h5.far
  simp only [List.length_singleton] at hl
  have := (h4.append (.gone a4)).append h2
  rw [List.append_nil] at this
  exact ⟨_, this, by omega⟩
theorem Few.turn {a x y : List Int} {e : Int} {n : Nat} (k : Int) (h : Few a (x ++ [e] ++ y) n) : Few a (x ++ [k] ++ y) (n + 1) := by
  obtain ⟨m, h, hm⟩ := h
  obtain ⟨a1, a2, n1, n2, rfl, h1, h2, h3⟩ := h.split (x ++ [e]) y rfl
  obtain ⟨a3, a4, n3, n4, rfl, h4, h5, h6⟩ := h1.split x [e] rfl
  have hl := (far_ge a4 [e]).1
  have hf := h5.far
  simp only [List.length_singleton] at hl
  rcases snoc_cases a4 with rfl | ⟨z, q, rfl⟩
  · have := (h4.append ((Ali.nil).ins k)).append h2
    have e1 : Dst.far [] [e] = 1 := rfl
    exact ⟨_, this, by omega⟩
  · have := (h4.append ((Ali.gone z).sub q k)).append h2
    have := cost_le q k
    rw [List.length_append, List.length_singleton] at hl
    exact ⟨_, ‹_›, by omega⟩
theorem far_swap (x y : List Int) (p q : Int) : far (x ++ (p :: q :: y)) (x ++ (q :: p :: y)) ≤ 1 := by
  refine Nat.le_trans (far_pre _ _ x) ?_
  have h : ∀ n, n ≤ y.length → D (p :: q :: y) (q :: p :: y) (n + 2) (n + 2) ≤ 1 := by
    intro n
    induction n with
    | zero =>
      intro _
      have ht : tr (p :: q :: y) (q :: p :: y) 1 1 = true := by simp [tr]
      show D (p :: q :: y) (q :: p :: y) (1 + 1) (1 + 1) ≤ 1
      rw [D_ss, ht]
      exact cell_tr _ _ _ _ _
    | succ n ih =>
      intro hn
      have := ih (by omega)
      show D (p :: q :: y) (q :: p :: y) (n + 2 + 1) (n + 2 + 1) ≤ 1
      rw [D_ss]
      refine Nat.le_trans (cell_diag _ _ _ _ _ _) ?_
      have e : (p :: q :: y).getD (n + 2) 0 = (q :: p :: y).getD (n + 2) 0 := by simp
      rw [e, cost_self]
      omega
  exact h y.length (Nat.le_refl _)
end Dst

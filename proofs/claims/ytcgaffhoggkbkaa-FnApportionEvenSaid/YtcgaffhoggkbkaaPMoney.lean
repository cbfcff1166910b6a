/-
  Plain mathematics of Apportion: the loop gives what is left to the greatest rests; what follows of sums, order and scale. No program is named. Conditions: none.
-/
namespace Go.Proofs.Ytcgaffhoggkbkaa
namespace Plain

/-! ### argmax -/
def bst (l : List Int) : Nat → Nat
  | 0 => 0
  | k + 1 => if l.getD (bst l k) 0 < l.getD k 0 then k else bst l k

theorem bst_lt (l : List Int) : ∀ k, 0 < k → bst l k < k := by
  intro k
  induction k with
  | zero => intro h; omega
  | succ k ih =>
    intro _
    simp only [bst]
    split
    · omega
    · by_cases h : k = 0
      · subst h; simp [bst]
      · have := ih (by omega); omega
theorem bst_le (l : List Int) (k : Nat) : bst l k ≤ k := by
  by_cases h : k = 0
  · subst h; simp [bst]
  · have := bst_lt l k (by omega); omega
theorem bst_max (l : List Int) : ∀ k j, j < k → l.getD j 0 ≤ l.getD (bst l k) 0 := by
  intro k
  induction k with
  | zero => intro j h; omega
  | succ k ih =>
    intro j hj
    simp only [bst]
    split
    · rename_i h
      by_cases e : j = k
      · subst e; exact Int.le_refl _
      · have := ih j (by omega); omega
    · rename_i h
      by_cases e : j = k
      · subst e; omega
      · exact ih j (by omega)
theorem bst_first (l : List Int) : ∀ k j, j < bst l k → l.getD j 0 < l.getD (bst l k) 0 := by
  intro k
  induction k with
  | zero => intro j h; simp [bst] at h
  | succ k ih =>
    intro j
    simp only [bst]
    split
    · rename_i h
      intro hj
      have := bst_max l k j hj
      omega
    · exact ih j
theorem bst_unique (l : List Int) (n b : Nat) (hb : b < n) (hm : ∀ j, j < n → l.getD j 0 ≤ l.getD b 0) (hf : ∀ j, j < b → l.getD j 0 < l.getD b 0) : bst l n = b := by
  have h1 := bst_lt l n (by omega)
  rcases Nat.lt_trichotomy (bst l n) b with h | h | h
  · have a1 := hf _ h
    have a2 := bst_max l n b hb
    omega
  · exact h
  · have a1 := bst_first l n b h
    have a2 := hm _ h1
    omega
/-- The spec starts at 1: the same. -/
theorem bst_one (l : List Int) : bst l 1 = 0 := by simp [bst]

/-! ### the loop -/
def itr : Nat → List Int → List Int → List Int
  | 0, o, _ => o
  | n + 1, o, r => itr n (o.set (bst r r.length) (o.getD (bst r r.length) 0 + 1)) (r.set (bst r r.length) (-1))

def quos (a : Int) (ws : List Int) : List Int := ws.map fun w => a * w / ws.sum
def rsts (a : Int) (ws : List Int) : List Int := ws.map fun w => a * w % ws.sum
def appo (a : Int) (ws : List Int) : List Int :=
  if ws.sum = 0 then List.replicate ws.length 0 else itr (a - (quos a ws).sum).toNat (quos a ws) (rsts a ws)

theorem sum_set (l : List Int) (b : Nat) (v : Int) (h : b < l.length) : (l.set b v).sum = l.sum - l.getD b 0 + v := by
  induction l generalizing b with
  | nil => simp at h
  | cons x l ih =>
    cases b with
    | zero => simp; omega
    | succ b =>
      have := ih b (by simpa using h)
      simp at this ⊢
      omega

structure Ok (a : Int) (ws : List Int) : Prop where
  a0 : 0 ≤ a
  pos : 0 < ws.sum
  nn : ∀ w ∈ ws, 0 ≤ w

/-- What holds while left shares are still to be given. -/
structure Inv (a : Int) (ws o r : List Int) (left : Nat) : Prop where
  lo : o.length = ws.length
  lr : r.length = ws.length
  sum : o.sum = a - left
  ex : ∃ C : Nat → Prop, (∀ i, i < ws.length → (C i ∧ o.getD i 0 * ws.sum - a * ws.getD i 0 = ws.sum - (a * ws.getD i 0 % ws.sum) ∧ r.getD i 0 = -1 ∧ 0 < a * ws.getD i 0 % ws.sum) ∨
        (¬ C i ∧ o.getD i 0 * ws.sum - a * ws.getD i 0 = - (a * ws.getD i 0 % ws.sum) ∧ r.getD i 0 = a * ws.getD i 0 % ws.sum)) ∧
      (∀ i j, i < ws.length → j < ws.length → C i → ¬ C j → a * ws.getD j 0 % ws.sum ≤ a * ws.getD i 0 % ws.sum ∧ (a * ws.getD j 0 % ws.sum = a * ws.getD i 0 % ws.sum → i < j))

theorem sum_nonneg_of (S a : Int) : ∀ (o ws : List Int), o.length = ws.length → (∀ i, i < ws.length → 0 ≤ o.getD i 0 * S - a * ws.getD i 0) → 0 ≤ o.sum * S - a * ws.sum := by
  intro o
  induction o with
  | nil => intro ws h _; cases ws with | nil => simp | cons => simp at h
  | cons x o ih =>
    intro ws h hi
    cases ws with
    | nil => simp at h
    | cons w ws =>
      have h0 := hi 0 (by simp)
      have h1 := ih ws (by simpa using h) (fun i hl => by have := hi (i + 1) (by simpa using hl); simpa using this)
      simp at h0 ⊢
      rw [Int.add_mul, Int.mul_add]
      omega

theorem inv_step {a : Int} {ws o r : List Int} {left : Nat} (ok : Ok a ws) (h : Inv a ws o r (left + 1)) :
    bst r r.length < ws.length ∧ Inv a ws (o.set (bst r r.length) (o.getD (bst r r.length) 0 + 1)) (r.set (bst r r.length) (-1)) left := by
  obtain ⟨C, hC, hG⟩ := h.ex
  have hS := ok.pos
  have hex : ∃ i, i < ws.length ∧ 0 < r.getD i 0 := by
    apply Classical.byContradiction
    intro hn
    have hall : ∀ i, i < ws.length → r.getD i 0 ≤ 0 := fun i hi => by
      apply Classical.byContradiction
      intro hp
      exact hn ⟨i, hi, by omega⟩
    have := sum_nonneg_of ws.sum a o ws h.lo (fun i hi => by
      have hr := hall i hi
      have m1 := Int.emod_lt_of_pos (a * ws.getD i 0) hS
      have m0 := Int.emod_nonneg (a * ws.getD i 0) (show ws.sum ≠ 0 by omega)
      rcases hC i hi with ⟨_, e, _, _⟩ | ⟨_, e, er⟩
      · omega
      · omega)
    rw [h.sum] at this
    have e : (a - ((left + 1 : Nat) : Int)) * ws.sum - a * ws.sum = - (((left + 1 : Nat) : Int) * ws.sum) := by rw [Int.sub_mul]; omega
    rw [e] at this
    have : 0 < ((left + 1 : Nat) : Int) * ws.sum := Int.mul_pos (by omega) hS
    omega
  obtain ⟨i0, hi0, hp0⟩ := hex
  have hn : 0 < r.length := by rw [h.lr]; omega
  have hb := bst_lt r r.length hn
  have hbw : bst r r.length < ws.length := by rw [← h.lr]; exact hb
  have hmax := bst_max r r.length
  have hfirst := bst_first r r.length
  generalize bst r r.length = b at *
  have hbp : 0 < r.getD b 0 := by have := hmax i0 (by rw [h.lr]; exact hi0); omega
  refine ⟨hbw, ⟨by simp [h.lo], by simp [h.lr], ?_, fun i => C i ∨ i = b, ?_, ?_⟩⟩
  · rw [sum_set _ _ _ (by rw [h.lo]; exact hbw), h.sum]; omega
  · intro i hi
    by_cases e : i = b
    · subst e
      left
      rcases hC i hi with ⟨_, _, er, _⟩ | ⟨_, e1, er⟩
      · omega
      · refine ⟨Or.inr rfl, ?_, ?_, ?_⟩
        · rw [List.getD_eq_getElem?_getD, List.getElem?_set_self (by rw [h.lo]; exact hbw)]
          simp only [Option.getD_some]
          rw [Int.add_mul]; omega
        · rw [List.getD_eq_getElem?_getD, List.getElem?_set_self (by rw [h.lr]; exact hbw)]; rfl
        · omega
    · have g1 : (o.set b (o.getD b 0 + 1)).getD i 0 = o.getD i 0 := by
        rw [List.getD_eq_getElem?_getD, List.getElem?_set_ne (fun h => e h.symm), ← List.getD_eq_getElem?_getD]
      have g2 : (r.set b (-1)).getD i 0 = r.getD i 0 := by
        rw [List.getD_eq_getElem?_getD, List.getElem?_set_ne (fun h => e h.symm), ← List.getD_eq_getElem?_getD]
      rw [g1, g2]
      rcases hC i hi with ⟨hc, rest⟩ | ⟨hc, rest⟩
      · exact Or.inl ⟨Or.inl hc, rest⟩
      · exact Or.inr ⟨fun h => h.elim hc e, rest⟩
  · intro i j hi hj hCi hCj
    have hCj' : ¬ C j := fun h => hCj (Or.inl h)
    have hjb : j ≠ b := fun h => hCj (Or.inr h)
    rcases hCi with hCi | rfl
    · exact hG i j hi hj hCi hCj'
    · rcases hC j hj with ⟨hc, _⟩ | ⟨_, _, ej⟩
      · exact absurd hc hCj'
      rcases hC i hi with ⟨_, _, ei, _⟩ | ⟨_, _, ei⟩
      · omega
      have m := hmax j (by rw [h.lr]; exact hj)
      refine ⟨by omega, fun heq => ?_⟩
      rcases Nat.lt_trichotomy i j with hl | hl | hl
      · exact hl
      · exact absurd hl.symm hjb
      · have := hfirst j hl; omega

theorem itr_inv {a : Int} {ws : List Int} (ok : Ok a ws) : ∀ (left : Nat) (o r : List Int), Inv a ws o r left → ∃ r', Inv a ws (itr left o r) r' 0 := by
  intro left
  induction left with
  | zero => intro o r h; exact ⟨r, h⟩
  | succ n ih => intro o r h; exact ih _ _ (inv_step ok h).2

theorem sum_quos_le (a S : Int) (hS : 0 < S) : ∀ ws : List Int, (ws.map fun w => a * w / S).sum * S ≤ a * ws.sum := by
  intro ws
  induction ws with
  | nil => simp
  | cons w ws ih =>
    have := Int.ediv_mul_le (a * w) (show S ≠ 0 by omega)
    simp only [List.map_cons, List.sum_cons]
    rw [Int.add_mul, Int.mul_add]
    omega
theorem quos_sum_le {a : Int} {ws : List Int} (ok : Ok a ws) : (quos a ws).sum ≤ a := by
  have h := sum_quos_le a ws.sum ok.pos ws
  exact Int.le_of_mul_le_mul_right h ok.pos

theorem getD_map' (f : Int → Int) (l : List Int) (i : Nat) (h : i < l.length) : (l.map f).getD i 0 = f (l.getD i 0) := by
  simp [List.getD_eq_getElem?_getD, List.getElem?_map, List.getElem?_eq_getElem h]

theorem inv_start {a : Int} {ws : List Int} (ok : Ok a ws) : Inv a ws (quos a ws) (rsts a ws) (a - (quos a ws).sum).toNat := by
  have hq := quos_sum_le ok
  refine ⟨by simp [quos], by simp [rsts], by omega, fun _ => False, ?_, ?_⟩
  · intro i hi
    right
    refine ⟨id, ?_, ?_⟩
    · rw [quos, getD_map' _ _ _ hi]
      have := Int.mul_ediv_add_emod (a * ws.getD i 0) ws.sum
      rw [Int.mul_comm] at this
      omega
    · rw [rsts, getD_map' _ _ _ hi]
  · intro i j _ _ h; exact h.elim

/-- All that the laws ask of a result over weights that are not all 0. -/
structure Good (a : Int) (ws o : List Int) : Prop where
  len : o.length = ws.length
  sum : o.sum = a
  near : ∀ i, i < ws.length → o.getD i 0 * ws.sum - a * ws.getD i 0 < ws.sum ∧ -(o.getD i 0 * ws.sum - a * ws.getD i 0) < ws.sum
  none : ∀ i, i < ws.length → ws.getD i 0 = 0 → o.getD i 0 = 0
  mono : ∀ i j, i < ws.length → j < ws.length → ws.getD j 0 < ws.getD i 0 → o.getD j 0 ≤ o.getD i 0

theorem le_of_mul (x y S : Int) (hS : 0 < S) (h : x * S < (y + 1) * S) : x ≤ y := by
  have := Int.lt_of_mul_lt_mul_right h (by omega)
  omega

theorem good_of_inv {a : Int} {ws o r : List Int} (ok : Ok a ws) (h : Inv a ws o r 0) : Good a ws o := by
  obtain ⟨C, hC, hG⟩ := h.ex
  have hS := ok.pos
  have m0 : ∀ i, 0 ≤ a * ws.getD i 0 % ws.sum := fun i => Int.emod_nonneg _ (by omega)
  have m1 : ∀ i, a * ws.getD i 0 % ws.sum < ws.sum := fun i => Int.emod_lt_of_pos _ hS
  refine ⟨h.lo, by rw [h.sum]; omega, ?_, ?_, ?_⟩
  · intro i hi
    have := m0 i; have := m1 i
    rcases hC i hi with ⟨_, e, _, p⟩ | ⟨_, e, _⟩
    · omega
    · omega
  · intro i hi hw
    rcases hC i hi with ⟨_, _, _, p⟩ | ⟨_, e, _⟩
    · rw [hw] at p; simp at p
    · rw [hw, Int.mul_zero, Int.zero_emod] at e
      have e' : o.getD i 0 * ws.sum = 0 := by omega
      rcases Int.mul_eq_zero.1 e' with e | e
      · exact e
      · omega
  · intro i j hi hj hlt
    by_cases ha : a = 0
    · have z : ∀ k, k < ws.length → o.getD k 0 = 0 := by
        intro k hk
        rcases hC k hk with ⟨_, _, _, p⟩ | ⟨_, e, _⟩
        · rw [ha] at p; simp at p
        · rw [ha, Int.zero_mul, Int.zero_emod] at e
          have e' : o.getD k 0 * ws.sum = 0 := by omega
          rcases Int.mul_eq_zero.1 e' with e | e
          · exact e
          · omega
      rw [z i hi, z j hj]; exact Int.le_refl _
    · have hpa : 0 < a := by have := ok.a0; omega
      have hm : a * ws.getD j 0 < a * ws.getD i 0 := Int.mul_lt_mul_of_pos_left hlt hpa
      have i0 := m0 i; have i1 := m1 i; have j0 := m0 j; have j1 := m1 j
      apply le_of_mul _ _ _ hS
      rw [Int.add_mul]
      rcases hC i hi with ⟨ci, ei, _, pi⟩ | ⟨ci, ei, _⟩ <;> rcases hC j hj with ⟨cj, ej, _, pj⟩ | ⟨cj, ej, _⟩
      · omega
      · omega
      · -- j has been given one more, i not: then r_i ≤ r_j, and equal only if j < i
        have g := hG j i hj hi cj ci
        -- o_j * S = a w_j + S - r_j, o_i * S = a w_i - r_i
        omega
      · omega

theorem appo_good {a : Int} {ws : List Int} (ok : Ok a ws) : Good a ws (appo a ws) := by
  unfold appo
  rw [if_neg (by have := ok.pos; omega)]
  obtain ⟨r', h⟩ := itr_inv ok _ _ _ (inv_start ok)
  exact good_of_inv ok h

/-! ### scale -/
/-- Rests twice as large, or a mark. -/
def Dbl (x y : Int) : Prop := (0 ≤ x ∧ y = 2 * x) ∨ (x = -1 ∧ y = -1)
theorem dbl_lt {x y x' y' : Int} (h : Dbl x y) (h' : Dbl x' y') : y < y' ↔ x < x' := by
  unfold Dbl at h h'
  rcases h with ⟨_, rfl⟩ | ⟨rfl, rfl⟩ <;> rcases h' with ⟨_, rfl⟩ | ⟨rfl, rfl⟩ <;> omega
theorem bst_dbl {r s : List Int} (hl : r.length = s.length) (h : ∀ i, i < r.length → Dbl (r.getD i 0) (s.getD i 0)) : ∀ k, k ≤ r.length → bst s k = bst r k := by
  intro k
  induction k with
  | zero => intro _; rfl
  | succ k ih =>
    intro hk
    have e := ih (by omega)
    simp only [bst]
    rw [e]
    have hb := bst_le r k
    have := dbl_lt (h (bst r k) (by omega)) (h k (by omega))
    by_cases hx : r.getD (bst r k) 0 < r.getD k 0
    · rw [if_pos hx, if_pos (this.2 hx)]
    · rw [if_neg hx, if_neg (fun hh => hx (this.1 hh))]
theorem itr_dbl : ∀ (n : Nat) (o r s : List Int), r.length = s.length → (∀ i, i < r.length → Dbl (r.getD i 0) (s.getD i 0)) → itr n o s = itr n o r := by
  intro n
  induction n with
  | zero => intro o r s _ _; rfl
  | succ n ih =>
    intro o r s hl h
    rw [itr, itr, ← hl, bst_dbl hl h r.length (Nat.le_refl _)]
    refine ih _ _ _ (by simp [hl]) fun i hi => ?_
    simp at hi
    generalize bst r r.length = b
    by_cases e : i = b
    · subst e
      rw [List.getD_eq_getElem?_getD, List.getElem?_set_self hi, List.getD_eq_getElem?_getD, List.getElem?_set_self (by rw [← hl]; exact hi)]
      exact Or.inr ⟨rfl, rfl⟩
    · rw [List.getD_eq_getElem?_getD, List.getElem?_set_ne (fun h => e h.symm), ← List.getD_eq_getElem?_getD, List.getD_eq_getElem?_getD (l := s.set b (-1)), List.getElem?_set_ne (fun h => e h.symm), ← List.getD_eq_getElem?_getD]
      exact h i hi
def twice (l : List Int) : List Int := l.map (2 * ·)
theorem sum_twice (l : List Int) : (twice l).sum = 2 * l.sum := by
  induction l with
  | nil => rfl
  | cons x l ih =>
    have : twice (x :: l) = (2 * x) :: twice l := rfl
    rw [this, List.sum_cons, ih, List.sum_cons]; omega
theorem quos_twice (a : Int) {l : List Int} : quos a (twice l) = quos a l := by
  unfold quos
  rw [sum_twice]
  unfold twice
  rw [List.map_map]
  apply List.map_congr_left
  intro x _
  show a * (2 * x) / (2 * l.sum) = a * x / l.sum
  rw [show a * (2 * x) = 2 * (a * x) by rw [Int.mul_left_comm], Int.mul_ediv_mul_of_pos _ _ (by omega)]
theorem rsts_twice (a : Int) {l : List Int} (i : Nat) (hi : i < l.length) : (rsts a (twice l)).getD i 0 = 2 * (rsts a l).getD i 0 := by
  unfold rsts
  rw [sum_twice]
  unfold twice
  rw [List.map_map, getD_map' _ _ _ hi, getD_map' _ _ _ hi]
  show a * (2 * l.getD i 0) % (2 * l.sum) = _
  rw [show a * (2 * l.getD i 0) = 2 * (a * l.getD i 0) by rw [Int.mul_left_comm], Int.mul_emod_mul_of_pos _ _ (by omega)]
theorem appo_twice {a : Int} {l : List Int} (h0 : ∀ x ∈ l, 0 ≤ x) (hs : 0 ≤ l.sum) : appo a (twice l) = appo a l := by
  have _ := h0
  by_cases h : l.sum = 0
  · rw [appo, if_pos (by rw [sum_twice, h]; rfl), appo, if_pos h]; simp [twice]
  · have hp : 0 < l.sum := by omega
    rw [appo, if_neg (by rw [sum_twice]; omega), appo, if_neg h, quos_twice a]
    refine itr_dbl _ _ _ _ (by simp [rsts, twice]) fun i hi => ?_
    simp [rsts] at hi
    refine Or.inl ⟨?_, rsts_twice a i hi⟩
    unfold rsts
    rw [getD_map' _ _ _ hi]
    exact Int.emod_nonneg _ (by omega)

/-! ### the whole -/
theorem quos_whole {l : List Int} (h : l.sum ≠ 0) : quos l.sum l = l := by
  unfold quos
  have : l.map (fun w => l.sum * w / l.sum) = l.map id := List.map_congr_left fun x _ => Int.mul_ediv_cancel_left x h
  rw [this, List.map_id]
theorem all_zero : ∀ {l : List Int}, (∀ x ∈ l, 0 ≤ x) → l.sum = 0 → l = List.replicate l.length 0 := by
  intro l
  induction l with
  | nil => intro _ _; rfl
  | cons x l ih =>
    intro h hs
    have hx := h x (by simp)
    have hn : 0 ≤ l.sum := by
      have : ∀ m : List Int, (∀ y ∈ m, 0 ≤ y) → 0 ≤ m.sum := by
        intro m
        induction m with
        | nil => intro _; simp
        | cons y m ihm =>
          intro hm
          have := hm y (by simp)
          have := ihm fun z hz => hm z (by simp [hz])
          simp only [List.sum_cons]; omega
      exact this l fun y hy => h y (by simp [hy])
    rw [List.sum_cons] at hs
    have e : x = 0 := by omega
    subst e
    rw [List.length_cons, List.replicate_succ, ← ih (fun y hy => h y (by simp [hy])) (by omega)]
theorem appo_whole {l : List Int} (h : ∀ x ∈ l, 0 ≤ x) : appo l.sum l = l := by
  by_cases h0 : l.sum = 0
  · rw [appo, if_pos h0]; exact (all_zero h h0).symm
  · rw [appo, if_neg h0, quos_whole h0, Int.sub_self]; rfl

/-! ### equal weights -/
theorem sum_rep (n : Nat) (x : Int) : (List.replicate n x).sum = n * x := by
  induction n with
  | zero => simp
  | succ n ih => rw [List.replicate_succ, List.sum_cons, ih, Int.natCast_add, Int.add_mul]; simp; omega
theorem getD_rep {n i : Nat} {x : Int} (h : i < n) : (List.replicate n x).getD i 0 = x := by
  rw [List.getD_eq_getElem?_getD, List.getElem?_replicate, if_pos h]; rfl
theorem bst_even {n k : Nat} {c : Int} (hc : 0 ≤ c) (hk : k < n) : bst (List.replicate k (-1) ++ List.replicate (n - k) c) n = k := by
  have at1 : ∀ j, j < k → (List.replicate k (-1 : Int) ++ List.replicate (n - k) c).getD j 0 = -1 := fun j hj => by
    rw [List.getD_eq_getElem?_getD, List.getElem?_append_left (by simpa using hj), List.getElem?_replicate, if_pos hj]; rfl
  have at2 : ∀ j, k ≤ j → j < n → (List.replicate k (-1 : Int) ++ List.replicate (n - k) c).getD j 0 = c := fun j hj hn => by
    rw [List.getD_eq_getElem?_getD, List.getElem?_append_right (by simpa using hj), List.getElem?_replicate, if_pos (by simp; omega)]; rfl
  refine bst_unique _ n k hk (fun j hj => ?_) (fun j hj => ?_)
  · rw [at2 k (Nat.le_refl _) hk]
    by_cases h : j < k
    · rw [at1 j h]; omega
    · rw [at2 j (by omega) hj]; exact Int.le_refl _
  · rw [at1 j hj, at2 k (Nat.le_refl _) hk]; omega
theorem itr_even {n : Nat} {c q : Int} (hc : 0 ≤ c) : ∀ (m k : Nat), k + m ≤ n →
    itr m (List.replicate k (q + 1) ++ List.replicate (n - k) q) (List.replicate k (-1) ++ List.replicate (n - k) c) = List.replicate (k + m) (q + 1) ++ List.replicate (n - (k + m)) q := by
  intro m
  induction m with
  | zero => intro k _; rfl
  | succ m ih =>
    intro k h
    have hl : (List.replicate k (-1 : Int) ++ List.replicate (n - k) c).length = n := by simp; omega
    rw [itr, hl, bst_even hc (by omega)]
    have e0 : (List.replicate k (q + 1) ++ List.replicate (n - k) q).getD k 0 = q := by
      rw [List.getD_eq_getElem?_getD, List.getElem?_append_right (by simp), List.getElem?_replicate, if_pos (by simp; omega)]; rfl
    have step : ∀ (x y z : Int), (List.replicate k x ++ List.replicate (n - k) y).set k z = List.replicate k x ++ z :: List.replicate (n - (k + 1)) y := fun x y z => by
      rw [List.set_append_right _ _ (by simp), List.length_replicate, Nat.sub_self, show n - k = (n - (k + 1)) + 1 by omega, List.replicate_succ, List.set_cons_zero]
    have snoc : ∀ (x : Int) (l : List Int), List.replicate k x ++ x :: l = List.replicate (k + 1) x ++ l := fun x l => by
      rw [List.replicate_succ', List.append_assoc]; rfl
    rw [e0, step, step, snoc, snoc, ih (k + 1) (by omega), show k + 1 + m = k + (m + 1) by omega]
theorem appo_even {a : Int} {p : Nat} (hp : 1 ≤ p) : appo a (List.replicate p 7) = List.replicate (a % (p : Int)).toNat (a / (p : Int) + 1) ++ List.replicate (p - (a % (p : Int)).toNat) (a / (p : Int)) := by
  have hs : (List.replicate p (7 : Int)).sum = 7 * p := by rw [sum_rep]; omega
  have m0 : 0 ≤ a % (p : Int) := Int.emod_nonneg _ (by omega)
  have m1 : a % (p : Int) < (p : Int) := Int.emod_lt_of_pos _ (by omega)
  have d := Int.mul_ediv_add_emod a (p : Int)
  have eq : a * 7 / (7 * (p : Int)) = a / (p : Int) := by rw [Int.mul_comm a 7, Int.mul_ediv_mul_of_pos _ _ (by omega)]
  have er : a * 7 % (7 * (p : Int)) = 7 * (a % (p : Int)) := by rw [Int.mul_comm a 7, Int.mul_emod_mul_of_pos _ _ (by omega)]
  have hq : quos a (List.replicate p 7) = List.replicate p (a / (p : Int)) := by unfold quos; rw [hs, List.map_replicate, eq]
  have hr : rsts a (List.replicate p 7) = List.replicate p (7 * (a % (p : Int))) := by unfold rsts; rw [hs, List.map_replicate, er]
  have hl : (a - (List.replicate p (a / (p : Int))).sum).toNat = (a % (p : Int)).toNat := by rw [sum_rep]; congr 1; omega
  rw [appo, if_neg (by rw [hs]; omega), hq, hr, hl]
  have := itr_even (n := p) (c := 7 * (a % (p : Int))) (q := a / (p : Int)) (by omega) (a % (p : Int)).toNat 0 (by omega)
  simpa using this

end Plain
end Go.Proofs.Ytcgaffhoggkbkaa

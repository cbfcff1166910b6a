/-
  Plain mathematics of carts: lines in order are determined by their counts; adding and taking pieces; sums over lines. No program is named. Conditions: none.
-/
namespace Go.Proofs.Ytapjlbcpfemeiaa
namespace Plain

abbrev Ln := Int × Int
abbrev Art := Int × Int × Int × Int
def vArt (a : Art) : Prop := (1 ≤ a.1 ∧ a.1 ≤ 5000) ∧ (0 ≤ a.2.1 ∧ a.2.1 ≤ 2) ∧ (0 ≤ a.2.2.1 ∧ a.2.2.1 ≤ 300) ∧ (0 ≤ a.2.2.2 ∧ a.2.2.2 ≤ 5000)
instance (a : Art) : Decidable (vArt a) := by unfold vArt; exact inferInstance
def vShop (l : List Art) : Bool := decide ((∀ i, i < l.length → vArt (l.getD i (0, 0, 0, 0))) ∧ 1 ≤ l.length ∧ l.length ≤ 10)
theorem vShop_iff (l : List Art) : vShop l = true ↔ (∀ a ∈ l, vArt a) ∧ 1 ≤ l.length ∧ l.length ≤ 10 := by
  unfold vShop
  rw [decide_eq_true_iff]
  refine and_congr_left fun _ => ⟨fun h a ha => ?_, fun h i hi => ?_⟩
  · obtain ⟨i, hi, rfl⟩ := List.getElem_of_mem ha
    have := h i hi
    simpa [List.getD_eq_getElem?_getD, List.getElem?_eq_getElem hi] using this
  · simpa [List.getD_eq_getElem?_getD, List.getElem?_eq_getElem hi] using h _ (List.getElem_mem hi)

/-- Line i of a cart is as it should be, in a shop of m articles. -/
def lineAt (m : Int) (c : List Ln) (i : Nat) : Prop :=
  (0 ≤ (c.getD i (0, 0)).1 ∧ (c.getD i (0, 0)).1 ≤ m - 1) ∧ (1 ≤ (c.getD i (0, 0)).2 ∧ (c.getD i (0, 0)).2 ≤ 20) ∧ (0 < i → (c.getD (i - 1) (0, 0)).1 < (c.getD i (0, 0)).1)
instance (m : Int) (c : List Ln) (i : Nat) : Decidable (lineAt m c i) := by unfold lineAt; exact inferInstance
def vLines (m : Int) (c : List Ln) : Bool := decide ((∀ i, i < c.length → lineAt m c i) ∧ c.length ≤ 8)
def lineOk (m : Int) (l : Ln) : Prop := (0 ≤ l.1 ∧ l.1 ≤ m - 1) ∧ (1 ≤ l.2 ∧ l.2 ≤ 20)
def Lt (x y : Ln) : Prop := x.1 < y.1
/-- Lines of a shop of m articles, in order. -/
def Ct (m : Int) (c : List Ln) : Prop := (∀ l ∈ c, lineOk m l) ∧ c.Pairwise Lt

theorem vLines_iff (m : Int) (c : List Ln) : vLines m c = true ↔ Ct m c ∧ c.length ≤ 8 := by
  have e : ∀ i (hi : i < c.length), c.getD i (0, 0) = c[i] := fun i hi => by simp [List.getD_eq_getElem?_getD, List.getElem?_eq_getElem hi]
  unfold vLines
  rw [decide_eq_true_iff]
  refine and_congr_left fun _ => ⟨fun h => ⟨fun l hl => ?_, List.pairwise_iff_getElem.2 ?_⟩, fun h i hi => ?_⟩
  · obtain ⟨i, hi, rfl⟩ := List.getElem_of_mem hl
    have := h i hi
    unfold lineAt at this
    rw [e i hi] at this
    exact ⟨this.1, this.2.1⟩
  · intro i j hi hj hij
    induction j with
    | zero => omega
    | succ j ih =>
      have g := (h (j + 1) hj).2.2 (by omega)
      rw [e (j + 1) hj, show j + 1 - 1 = j by omega, e j (by omega)] at g
      by_cases hh : i = j
      · subst hh; exact g
      · have := ih (by omega) (by omega)
        unfold Lt at *
        omega
  · have g := h.1 _ (List.getElem_mem hi)
    unfold lineAt
    rw [e i hi]
    refine ⟨g.1, g.2, fun h0 => ?_⟩
    rw [e (i - 1) (by omega)]
    exact List.pairwise_iff_getElem.1 h.2 (i - 1) i (by omega) hi (by omega)

theorem ct_nil (m : Int) : Ct m [] := ⟨by simp, List.Pairwise.nil⟩
theorem ct_cons {m : Int} {x : Ln} {l : List Ln} : Ct m (x :: l) ↔ lineOk m x ∧ (∀ y ∈ l, x.1 < y.1) ∧ Ct m l := by
  unfold Ct
  rw [List.pairwise_cons]
  constructor
  · rintro ⟨h1, h2, h3⟩
    exact ⟨h1 x (by simp), h2, fun s hs => h1 s (by simp [hs]), h3⟩
  · rintro ⟨h1, h2, h3, h4⟩
    refine ⟨fun s hs => ?_, h2, h4⟩
    rcases List.mem_cons.1 hs with rfl | hs
    · exact h1
    · exact h3 s hs
theorem ct_append {m : Int} {l k : List Ln} : Ct m (l ++ k) ↔ Ct m l ∧ Ct m k ∧ ∀ x ∈ l, ∀ y ∈ k, x.1 < y.1 := by
  induction l with
  | nil => simp [ct_nil]
  | cons x l ih =>
    rw [List.cons_append, ct_cons, ih, ct_cons]
    simp only [List.mem_append, List.mem_cons]
    constructor
    · rintro ⟨h1, h2, h3, h4, h5⟩
      refine ⟨⟨h1, fun y hy => h2 y (Or.inl hy), h3⟩, h4, ?_⟩
      rintro z (rfl | hz) y hy
      · exact h2 y (Or.inr hy)
      · exact h5 z hz y hy
    · rintro ⟨⟨h1, h2, h3⟩, h4, h5⟩
      refine ⟨h1, ?_, h3, h4, fun z hz y hy => h5 z (Or.inr hz) y hy⟩
      rintro y (hy | hy)
      · exact h2 y hy
      · exact h5 x (Or.inl rfl) y hy
theorem ct_filter {m : Int} {l : List Ln} (p : Ln → Bool) (h : Ct m l) : Ct m (l.filter p) :=
  ⟨fun s hs => h.1 s (List.mem_filter.1 hs).1, h.2.filter p⟩

/-! ### sums over lines -/
def wsum (f : Int → Int) : List Ln → Int
  | [] => 0
  | x :: l => f x.1 * x.2 + wsum f l
theorem wsum_append (f : Int → Int) (l k : List Ln) : wsum f (l ++ k) = wsum f l + wsum f k := by
  induction l with
  | nil => simp [wsum]
  | cons x l ih => simp only [List.cons_append, wsum, ih]; omega
theorem wsum_snoc (f : Int → Int) (l : List Ln) (x : Ln) : wsum f (l ++ [x]) = wsum f l + f x.1 * x.2 := by
  rw [wsum_append]; simp [wsum]
theorem wsum_congr {f g : Int → Int} {l : List Ln} (h : ∀ x ∈ l, f x.1 = g x.1) : wsum f l = wsum g l := by
  induction l with
  | nil => rfl
  | cons x l ih => simp only [wsum]; rw [h x (by simp), ih fun y hy => h y (by simp [hy])]
theorem wsum_add (f g : Int → Int) (l : List Ln) : wsum (fun x => f x + g x) l = wsum f l + wsum g l := by
  induction l with
  | nil => rfl
  | cons x l ih => simp only [wsum, ih, Int.add_mul]; omega
def one (x : Int) : Int → Int := fun y => if y = x then 1 else 0
/-- How many pieces of an article. -/
def cnt (c : List Ln) (x : Int) : Int := wsum (one x) c

theorem wsum_zero {f : Int → Int} {l : List Ln} (h : ∀ x ∈ l, f x.1 = 0) : wsum f l = 0 := by
  induction l with
  | nil => rfl
  | cons x l ih => simp only [wsum]; rw [h x (by simp), ih fun y hy => h y (by simp [hy])]; simp
theorem cnt_none {c : List Ln} {x : Int} (h : ∀ l ∈ c, l.1 ≠ x) : cnt c x = 0 :=
  wsum_zero fun l hl => by simp [one, h l hl]
theorem cnt_cons (l : Ln) (c : List Ln) (x : Int) : cnt (l :: c) x = (if l.1 = x then l.2 else 0) + cnt c x := by
  simp only [cnt, wsum, one]; split <;> simp

/-- Lines in order, with pieces, are determined by their counts. -/
theorem same_of_cnt {m : Int} : ∀ {l k : List Ln}, Ct m l → Ct m k → (∀ x, cnt l x = cnt k x) → l = k := by
  have pos : ∀ {t : Ln} {k : List Ln}, Ct m (t :: k) → cnt (t :: k) t.1 = t.2 ∧ 1 ≤ t.2 := by
    intro t k h
    have h' := ct_cons.1 h
    rw [cnt_cons, cnt_none fun l hl => by have := h'.2.1 l hl; omega]
    simp
    exact h'.1.2.1
  have low : ∀ {t : Ln} {k : List Ln} {x : Int}, Ct m (t :: k) → x < t.1 → cnt (t :: k) x = 0 := by
    intro t k x h hx
    refine cnt_none fun l hl => ?_
    rcases List.mem_cons.1 hl with rfl | hl
    · omega
    · have := (ct_cons.1 h).2.1 l hl; omega
  intro l
  induction l with
  | nil =>
    intro k _ hk h
    cases k with
    | nil => rfl
    | cons t k =>
      have := pos hk
      have := h t.1
      simp [cnt, wsum] at this
      have := pos hk
      simp [cnt, wsum] at *
      omega
  | cons s l ih =>
    intro k hl hk h
    cases k with
    | nil =>
      have p := pos hl
      have := h s.1
      rw [p.1] at this
      simp [cnt, wsum] at this
      omega
    | cons t k =>
      have ps := pos hl
      have pt := pos hk
      have e1 : s.1 = t.1 := by
        rcases Int.lt_trichotomy s.1 t.1 with g | g | g
        · have := h s.1; rw [ps.1, low hk g] at this; omega
        · exact g
        · have := h t.1; rw [pt.1, low hl g] at this; omega
      have e2 : s.2 = t.2 := by have := h s.1; rw [ps.1, e1, pt.1] at this; exact this
      have e : s = t := Prod.ext e1 e2
      subst e
      congr 1
      refine ih (ct_cons.1 hl).2.2 (ct_cons.1 hk).2.2 fun x => ?_
      have := h x
      rw [cnt_cons, cnt_cons] at this
      omega

theorem filter_yes {p : Ln → Bool} {x : Ln} {l : List Ln} (h : p x = true) : (x :: l).filter p = x :: l.filter p := by rw [List.filter_cons, if_pos h]
theorem filter_no {p : Ln → Bool} {x : Ln} {l : List Ln} (h : p x = false) : (x :: l).filter p = l.filter p := by rw [List.filter_cons, if_neg (by rw [h]; simp)]
/-! ### adding -/
def addL (c : List Ln) (a n : Int) : List Ln := c.filter (fun l => decide (l.1 < a)) ++ [(a, n + cnt c a)] ++ c.filter (fun l => decide (a < l.1))
theorem wsum_part (f : Int → Int) (c : List Ln) (a : Int) : wsum f c = wsum f (c.filter fun l => decide (l.1 < a)) + f a * cnt c a + wsum f (c.filter fun l => decide (a < l.1)) := by
  induction c with
  | nil => simp [wsum, cnt]
  | cons x c ih =>
    rw [cnt_cons, wsum, ih]
    rcases Int.lt_trichotomy x.1 a with g | g | g
    · rw [filter_yes (show decide (x.1 < a) = true by simpa using g), filter_no (show decide (a < x.1) = false by simp; omega), if_neg (by omega), wsum, Int.zero_add]; omega
    · rw [filter_no (show decide (x.1 < a) = false by simp; omega), filter_no (show decide (a < x.1) = false by simp; omega), if_pos g, g, Int.mul_add]; omega
    · rw [filter_no (show decide (x.1 < a) = false by simp; omega), filter_yes (show decide (a < x.1) = true by simpa using g), if_neg (by omega), wsum, Int.zero_add]; omega
theorem wsum_addL (f : Int → Int) (c : List Ln) (a n : Int) : wsum f (addL c a n) = wsum f c + f a * n := by
  unfold addL
  rw [wsum_append, wsum_append, wsum_part f c a]
  simp only [wsum, Int.mul_add]
  omega
theorem cnt_addL (c : List Ln) (a n x : Int) : cnt (addL c a n) x = cnt c x + if a = x then n else 0 := by
  unfold cnt
  rw [wsum_addL]
  simp only [one]
  split <;> simp
theorem pw_addL {c : List Ln} {a n : Int} (h : c.Pairwise Lt) : (addL c a n).Pairwise Lt := by
  unfold addL
  rw [List.pairwise_append, List.pairwise_append]
  refine ⟨⟨h.filter _, by simp, fun x hx y hy => ?_⟩, h.filter _, fun x hx y hy => ?_⟩
  · have := (List.mem_filter.1 hx).2
    simp at this hy
    subst hy
    exact this
  · have hy' := (List.mem_filter.1 hy).2
    simp at hy'
    unfold Lt
    rcases List.mem_append.1 hx with hx | hx
    · have := (List.mem_filter.1 hx).2
      simp at this
      omega
    · simp at hx
      subst hx
      exact hy'
theorem len_addL {c : List Ln} (a n : Int) (h : c.Pairwise Lt) : c.length ≤ (addL c a n).length ∧ (addL c a n).length ≤ c.length + 1 := by
  have key : (c.filter fun l => decide (l.1 < a)).length + (c.filter fun l => decide (a < l.1)).length ≤ c.length ∧
      c.length ≤ (c.filter fun l => decide (l.1 < a)).length + (c.filter fun l => decide (a < l.1)).length + 1 := by
    induction c with
    | nil => simp
    | cons x c ih =>
      have h' := List.pairwise_cons.1 h
      rcases Int.lt_trichotomy x.1 a with g | g | g
      · have := ih h'.2
        rw [filter_yes (show decide (x.1 < a) = true by simpa using g), filter_no (show decide (a < x.1) = false by simp; omega)]
        simp only [List.length_cons]
        omega
      · rw [filter_no (show decide (x.1 < a) = false by simp; omega), filter_no (show decide (a < x.1) = false by simp; omega)]
        have e1 : c.filter (fun l => decide (l.1 < a)) = [] := by
          rw [List.filter_eq_nil_iff]
          intro y hy
          have := h'.1 y hy
          unfold Lt at this
          simp; omega
        have e2 : c.filter (fun l => decide (a < l.1)) = c := by
          rw [List.filter_eq_self]
          intro y hy
          have := h'.1 y hy
          unfold Lt at this
          simp; omega
        rw [e1, e2]
        simp
      · have := ih h'.2
        rw [filter_no (show decide (x.1 < a) = false by simp; omega), filter_yes (show decide (a < x.1) = true by simpa using g)]
        simp only [List.length_cons]
        omega
  unfold addL
  simp only [List.length_append, List.length_cons, List.length_nil]
  omega

theorem mem_addL {c : List Ln} {a n : Int} {y : Ln} (h : y ∈ addL c a n) : y ∈ c ∨ y = (a, n + cnt c a) := by
  unfold addL at h
  rcases List.mem_append.1 h with h | h
  · rcases List.mem_append.1 h with h | h
    · exact Or.inl (List.mem_filter.1 h).1
    · simp at h; exact Or.inr h
  · exact Or.inl (List.mem_filter.1 h).1
/-- The program's loop: what has been built, and whether the article has been met. -/
def astep (a n : Int) (st : List Ln × Bool) (l : Ln) : List Ln × Bool :=
  let st1 : List Ln × Bool := if a < l.1 ∧ st.2 = false then (st.1 ++ [(a, n)], true) else st
  if l.1 = a then (st1.1 ++ [(l.1, l.2 + n)], true) else (st1.1 ++ [l], st1.2)
def aend (a n : Int) (st : List Ln × Bool) : List Ln := if st.2 = false then st.1 ++ [(a, n)] else st.1
theorem afold_done (a n : Int) : ∀ (c : List Ln) (o : List Ln), (∀ l ∈ c, a < l.1) → c.foldl (astep a n) (o, true) = (o ++ c, true) := by
  intro c
  induction c with
  | nil => intro o _; simp
  | cons x c ih =>
    intro o h
    have hx := h x (by simp)
    have e : astep a n (o, true) x = (o ++ [x], true) := by
      simp [astep, show ¬ x.1 = a by omega]
    rw [List.foldl_cons, e, ih _ fun l hl => h l (by simp [hl])]
    simp
theorem afold (a n : Int) : ∀ (c : List Ln) (o : List Ln), c.Pairwise Lt → aend a n (c.foldl (astep a n) (o, false)) = o ++ addL c a n := by
  intro c
  induction c with
  | nil => intro o _; simp [aend, addL, cnt, wsum]
  | cons x c ih =>
    intro o h
    have h' := List.pairwise_cons.1 h
    rw [List.foldl_cons]
    rcases Int.lt_trichotomy x.1 a with g | g | g
    · have e : astep a n (o, false) x = (o ++ [x], false) := by
        simp [astep, show ¬ x.1 = a by omega, show ¬ a < x.1 by omega]
      rw [e, ih _ h'.2]
      unfold addL
      rw [cnt_cons, filter_yes (show decide (x.1 < a) = true by simpa using g), filter_no (show decide (a < x.1) = false by simp; omega), if_neg (by omega)]
      simp
    · have e : astep a n (o, false) x = (o ++ [(x.1, x.2 + n)], true) := by
        simp [astep, g]
      have hgt : ∀ l ∈ c, a < l.1 := fun l hl => by have := h'.1 l hl; unfold Lt at this; omega
      rw [e, afold_done a n c _ hgt]
      have e1 : c.filter (fun l => decide (l.1 < a)) = [] := by
        rw [List.filter_eq_nil_iff]
        intro y hy
        have := hgt y hy
        simp; omega
      have e2 : c.filter (fun l => decide (a < l.1)) = c := by
        rw [List.filter_eq_self]
        intro y hy
        have := hgt y hy
        simp; omega
      unfold addL
      rw [cnt_cons, filter_no (show decide (x.1 < a) = false by simp; omega), filter_no (show decide (a < x.1) = false by simp; omega), if_pos g, e1, e2, cnt_none fun l hl => by have := hgt l hl; omega]
      simp [aend, g]
      omega
    · have e : astep a n (o, false) x = (o ++ [(a, n)] ++ [x], true) := by
        simp [astep, g, show ¬ x.1 = a by omega]
      have hgt : ∀ l ∈ c, a < l.1 := fun l hl => by have := h'.1 l hl; unfold Lt at this; omega
      rw [e, afold_done a n c _ hgt]
      have e1 : c.filter (fun l => decide (l.1 < a)) = [] := by
        rw [List.filter_eq_nil_iff]
        intro y hy
        have := hgt y hy
        simp; omega
      have e2 : c.filter (fun l => decide (a < l.1)) = c := by
        rw [List.filter_eq_self]
        intro y hy
        have := hgt y hy
        simp; omega
      unfold addL
      rw [cnt_cons, filter_no (show decide (x.1 < a) = false by simp; omega), filter_yes (show decide (a < x.1) = true by simpa using g), if_neg (by omega), e1, e2, cnt_none fun l hl => by have := hgt l hl; omega]
      simp [aend]

/-! ### taking -/
/-- The line of an article has so many pieces. -/
def hasN (c : List Ln) (a n : Int) : Prop := ∃ l ∈ c, l.1 = a ∧ n ≤ l.2
def tk (a n : Int) (l : Ln) : List Ln := if l.1 = a then (if n < l.2 then [(a, l.2 - n)] else []) else [l]
def takeL (c : List Ln) (a n : Int) : List Ln := c.flatMap (tk a n)
theorem takeL_cons (x : Ln) (c : List Ln) (a n : Int) : takeL (x :: c) a n = tk a n x ++ takeL c a n := by simp [takeL]
theorem takeL_none {c : List Ln} {a n : Int} (h : ∀ l ∈ c, l.1 ≠ a) : takeL c a n = c := by
  induction c with
  | nil => rfl
  | cons x c ih =>
    rw [takeL_cons, ih fun l hl => h l (by simp [hl])]
    simp [tk, h x (by simp)]
theorem wsum_takeL (f : Int → Int) {c : List Ln} {a n : Int} (h : c.Pairwise Lt) (ho : hasN c a n) (_hn : 1 ≤ n) : wsum f (takeL c a n) = wsum f c - f a * n := by
  induction c with
  | nil => obtain ⟨l, hl, _⟩ := ho; simp at hl
  | cons x c ih =>
    have h' := List.pairwise_cons.1 h
    rw [takeL_cons, wsum_append, wsum]
    by_cases g : x.1 = a
    · have hne : ∀ l ∈ c, l.1 ≠ a := fun l hl => by have := h'.1 l hl; unfold Lt at this; omega
      have hx : n ≤ x.2 := by
        obtain ⟨l, hl, e, hl2⟩ := ho
        rcases List.mem_cons.1 hl with rfl | hl
        · exact hl2
        · exact absurd e (hne l hl)
      rw [takeL_none hne, g]
      unfold tk
      rw [if_pos g]
      split
      · simp only [wsum, Int.mul_sub]; omega
      · have : n = x.2 := by omega
        subst this
        simp only [wsum]; omega
    · have ho' : hasN c a n := by
        obtain ⟨l, hl, e, hl2⟩ := ho
        rcases List.mem_cons.1 hl with rfl | hl
        · exact absurd e g
        · exact ⟨l, hl, e, hl2⟩
      rw [ih h'.2 ho']
      unfold tk
      rw [if_neg g]
      simp only [wsum]; omega
theorem mem_tk {a n : Int} {l y : Ln} (h : y ∈ tk a n l) : y.1 = l.1 ∧ (y = l ∨ (y.2 = l.2 - n ∧ 1 ≤ y.2)) := by
  unfold tk at h
  split at h
  · rename_i e
    split at h
    · simp at h; subst h; exact ⟨e.symm, Or.inr ⟨rfl, by simp; omega⟩⟩
    · simp at h
  · simp at h; subst h; exact ⟨rfl, Or.inl rfl⟩
theorem mem_takeL {c : List Ln} {a n : Int} {y : Ln} (h : y ∈ takeL c a n) : ∃ l ∈ c, y.1 = l.1 ∧ (y = l ∨ (y.2 = l.2 - n ∧ 1 ≤ y.2)) := by
  obtain ⟨l, hl, hy⟩ := List.mem_flatMap.1 h
  exact ⟨l, hl, mem_tk hy⟩
theorem ct_takeL {m : Int} {c : List Ln} {a n : Int} (h : Ct m c) (hn : 1 ≤ n) : Ct m (takeL c a n) := by
  induction c with
  | nil => exact h
  | cons x c ih =>
    obtain ⟨h1, h2, h3⟩ := ct_cons.1 h
    rw [takeL_cons, ct_append]
    refine ⟨?_, ih h3, fun y hy z hz => ?_⟩
    · unfold tk
      split
      · split
        · rename_i e g
          rw [ct_cons]
          refine ⟨?_, by simp, ct_nil m⟩
          obtain ⟨p, q⟩ := h1
          rw [e] at p
          exact ⟨p, by simp; omega⟩
        · exact ct_nil m
      · rw [ct_cons]; exact ⟨h1, by simp, ct_nil m⟩
    · obtain ⟨l, hl, e, _⟩ := mem_takeL hz
      have := (mem_tk hy).1
      have := h2 l hl
      omega
theorem len_takeL (c : List Ln) (a n : Int) : (takeL c a n).length ≤ c.length := by
  induction c with
  | nil => simp [takeL]
  | cons x c ih =>
    rw [takeL_cons, List.length_append, List.length_cons]
    have : (tk a n x).length ≤ 1 := by unfold tk; split <;> (try split) <;> simp
    omega
theorem cnt_takeL {c : List Ln} {a n : Int} (h : c.Pairwise Lt) (ho : hasN c a n) (hn : 1 ≤ n) (x : Int) : cnt (takeL c a n) x = cnt c x - if a = x then n else 0 := by
  unfold cnt
  rw [wsum_takeL _ h ho hn]
  simp only [one]
  split <;> simp
/-- Each other line is still there. -/
theorem mem_takeL_other {c : List Ln} {a n : Int} {l : Ln} (h : l ∈ c) (hne : l.1 ≠ a) : l ∈ takeL c a n :=
  List.mem_flatMap.2 ⟨l, h, by simp [tk, hne]⟩

/-! ### the laws of carts -/
theorem cnt_of_mem {m : Int} {c : List Ln} (h : Ct m c) {l : Ln} (hl : l ∈ c) : cnt c l.1 = l.2 := by
  induction c with
  | nil => simp at hl
  | cons x c ih =>
    obtain ⟨_, h2, h3⟩ := ct_cons.1 h
    rw [cnt_cons]
    rcases List.mem_cons.1 hl with rfl | hl
    · rw [if_pos rfl, cnt_none fun y hy => by have := h2 y hy; omega]; omega
    · have := h2 l hl
      rw [if_neg (by omega), ih h3 hl]; omega
theorem cnt_nonneg {m : Int} {c : List Ln} (h : Ct m c) (x : Int) : 0 ≤ cnt c x := by
  induction c with
  | nil => simp [cnt, wsum]
  | cons y c ih =>
    obtain ⟨h1, _, h3⟩ := ct_cons.1 h
    rw [cnt_cons]
    have := ih h3
    have := h1.2.1
    split <;> omega
theorem has_addL {m : Int} {c : List Ln} {a n : Int} (h : Ct m c) : hasN (addL c a n) a n :=
  ⟨(a, n + cnt c a), by simp [addL], rfl, by have := cnt_nonneg h a; simp; omega⟩
theorem add_take {m : Int} {c : List Ln} {a n : Int} (h : Ct m c) (h' : Ct m (addL c a n)) (hn : 1 ≤ n) : takeL (addL c a n) a n = c :=
  same_of_cnt (ct_takeL h' hn) h fun x => by
    rw [cnt_takeL h'.2 (has_addL h) hn, cnt_addL]
    split <;> omega
theorem ct_add_take {m : Int} {c : List Ln} {a n : Int} (h : Ct m c) (ho : hasN c a n) (hn : 1 ≤ n) : Ct m (addL (takeL c a n) a n) := by
  have ht := ct_takeL (a := a) h hn
  obtain ⟨l, hl, rfl, hl2⟩ := ho
  have hlk := h.1 l hl
  refine ⟨fun y hy => ?_, pw_addL ht.2⟩
  unfold addL at hy
  rcases List.mem_append.1 hy with hy | hy
  · rcases List.mem_append.1 hy with hy | hy
    · exact ht.1 y (List.mem_filter.1 hy).1
    · simp at hy
      subst hy
      refine ⟨hlk.1, ?_⟩
      rw [cnt_takeL h.2 ⟨l, hl, rfl, hl2⟩ hn, if_pos rfl, cnt_of_mem h hl]
      have := hlk.2
      simp
      omega
  · exact ht.1 y (List.mem_filter.1 hy).1
theorem take_add {m : Int} {c : List Ln} {a n : Int} (h : Ct m c) (ho : hasN c a n) (hn : 1 ≤ n) : addL (takeL c a n) a n = c :=
  same_of_cnt (ct_add_take h ho hn) h fun x => by
    rw [cnt_addL, cnt_takeL h.2 ho hn]
    split <;> omega
theorem add_order {m : Int} {c : List Ln} {a n a' n' : Int} (h1 : Ct m (addL (addL c a n) a' n')) (h2 : Ct m (addL c a' n')) : addL (addL c a' n') a n = addL (addL c a n) a' n' := by
  have hc : ∀ x, cnt (addL (addL c a' n') a n) x = cnt (addL (addL c a n) a' n') x := fun x => by
    rw [cnt_addL, cnt_addL, cnt_addL, cnt_addL]; omega
  refine same_of_cnt (m := m) ⟨fun y hy => ?_, pw_addL h2.2⟩ h1 hc
  have hmem : (a, n + cnt (addL c a' n') a) ∈ addL (addL c a n) a' n' := by
    -- the line of a among the lines in the other order
    have hpos : ∃ l ∈ addL (addL c a n) a' n', l.1 = a := by
      by_cases e : a = a'
      · exact ⟨(a', n' + cnt (addL c a n) a'), by simp [addL], e.symm⟩
      · have ha : (a, n + cnt c a) ∈ addL c a n := by simp [addL]
        rcases Int.lt_trichotomy a a' with g | g | g
        · exact ⟨(a, n + cnt c a), by
            show _ ∈ _ ++ _ ++ _
            refine List.mem_append.2 (Or.inl (List.mem_append.2 (Or.inl (List.mem_filter.2 ⟨ha, by simpa using g⟩)))), rfl⟩
        · exact absurd g e
        · exact ⟨(a, n + cnt c a), by
            show _ ∈ _ ++ _ ++ _
            refine List.mem_append.2 (Or.inr (List.mem_filter.2 ⟨ha, by simpa using g⟩)), rfl⟩
    obtain ⟨l, hl, e⟩ := hpos
    have e2 := cnt_of_mem h1 hl
    rw [e, ← hc, cnt_addL, if_pos rfl] at e2
    have : l = (a, n + cnt (addL c a' n') a) := Prod.ext e (by simp; omega)
    rwa [this] at hl
  rcases mem_addL hy with hy | hy
  · exact h2.1 y hy
  · subst hy
    exact h1.1 _ hmem

/-- Article by article: the sum over the first m articles. -/
def arts (p : Int → Int) (c : List Ln) : Nat → Int
  | 0 => 0
  | m + 1 => arts p c m + wsum (fun x => if x = m then p x else 0) c
theorem arts_eq (p : Int → Int) (c : List Ln) : ∀ m : Nat, arts p c m = wsum (fun x => if 0 ≤ x ∧ x < m then p x else 0) c := by
  intro m
  induction m with
  | zero =>
    rw [arts, wsum_zero]
    intro x _
    rw [if_neg (by omega)]
  | succ m ih =>
    rw [arts, ih, ← wsum_add]
    apply wsum_congr
    intro x _
    by_cases h : x.1 = m
    · rw [if_neg (by omega), if_pos h, if_pos (by omega)]; omega
    · by_cases h' : 0 ≤ x.1 ∧ x.1 < m
      · rw [if_pos h', if_neg h, if_pos (by omega)]; omega
      · rw [if_neg h', if_neg h, if_neg (by omega)]; omega
theorem arts_all (p : Int → Int) {c : List Ln} {m : Nat} (h : Ct m c) : arts p c m = wsum p c := by
  rw [arts_eq]
  apply wsum_congr
  intro x hx
  have := (h.1 x hx).1
  rw [if_pos (by omega)]
theorem wsum_bound {f : Int → Int} {l : List Ln} {B : Int} (h : ∀ x ∈ l, 0 ≤ f x.1 * x.2 ∧ f x.1 * x.2 ≤ B) : 0 ≤ wsum f l ∧ wsum f l ≤ l.length * B := by
  induction l with
  | nil => simp [wsum]
  | cons x l ih =>
    have := ih fun y hy => h y (by simp [hy])
    have := h x (by simp)
    simp only [wsum, List.length_cons]
    rw [show ((l.length + 1 : Nat) : Int) * B = l.length * B + B by rw [Int.natCast_add, Int.add_mul]; simp]
    omega
theorem ct_take {m : Int} {c : List Ln} (h : Ct m c) (k : Nat) : Ct m (c.take k) :=
  ⟨fun l hl => h.1 l (List.mem_of_mem_take hl), h.2.sublist (List.take_sublist k c)⟩
theorem ct_drop {m : Int} {c : List Ln} (h : Ct m c) (k : Nat) : Ct m (c.drop k) :=
  ⟨fun l hl => h.1 l (List.mem_of_mem_drop hl), h.2.sublist (List.drop_sublist k c)⟩
end Plain

end Go.Proofs.Ytapjlbcpfemeiaa

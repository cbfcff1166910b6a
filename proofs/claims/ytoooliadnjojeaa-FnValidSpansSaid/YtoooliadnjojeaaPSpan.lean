/-
  Plain mathematics of spans: valid ones are determined by the numbers in them; what uniting and taking out leaves. No program is named. Conditions: none.
-/
namespace Go.Proofs.Ytoooliadnjojeaa
namespace Plain

abbrev Sp := Int × Int
/-- One span is valid. -/
def V (s : Sp) : Prop := 0 ≤ s.1 ∧ s.1 ≤ 1000000 ∧ s.1 ≤ s.2 ∧ s.2 ≤ 1000000
instance (s : Sp) : Decidable (V s) := by unfold V; exact inferInstance
def R (x y : Sp) : Prop := x.2 + 2 ≤ y.1
/-- Valid spans, in order and apart. -/
def Ch (l : List Sp) : Prop := (∀ s ∈ l, V s) ∧ l.Pairwise R
def mem (l : List Sp) (n : Int) : Prop := ∃ s ∈ l, s.1 ≤ n ∧ n ≤ s.2

/-- As the loops ask it: element i is valid, and apart from the one before. -/
def goodAt (l : List Sp) (i : Nat) : Prop := V (l.getD i (0, 0)) ∧ (0 < i → (l.getD (i - 1) (0, 0)).2 + 2 ≤ (l.getD i (0, 0)).1)
instance (l : List Sp) (i : Nat) : Decidable (goodAt l i) := by unfold goodAt; exact inferInstance
def vSpans (l : List Sp) : Bool := decide ((∀ i, i < l.length → goodAt l i) ∧ l.length ≤ 6)

theorem ch_nil : Ch [] := ⟨by simp, List.Pairwise.nil⟩
theorem ch_cons {x : Sp} {l : List Sp} : Ch (x :: l) ↔ V x ∧ (∀ y ∈ l, R x y) ∧ Ch l := by
  unfold Ch
  rw [List.pairwise_cons]
  constructor
  · rintro ⟨h1, h2, h3⟩
    exact ⟨h1 x (by simp), h2, fun s hs => h1 s (by simp [hs]), h3⟩
  · rintro ⟨h1, h2, h3, h4⟩
    refine ⟨fun s hs => ?_, h2, h4⟩
    rcases List.mem_cons.1 hs with rfl | hs
    · exact h1
    · exact h3 s hs
theorem ch_append {l m : List Sp} : Ch (l ++ m) ↔ Ch l ∧ Ch m ∧ ∀ x ∈ l, ∀ y ∈ m, R x y := by
  induction l with
  | nil => simp [ch_nil]
  | cons x l ih =>
    rw [List.cons_append, ch_cons, ih, ch_cons]
    simp only [List.mem_append, List.mem_cons]
    constructor
    · rintro ⟨h1, h2, h3, h4, h5⟩
      refine ⟨⟨h1, fun y hy => h2 y (Or.inl hy), h3⟩, h4, ?_⟩
      rintro z (rfl | hz) y hy
      · exact h2 y (Or.inr hy)
      · exact h5 z hz y hy
    · rintro ⟨⟨h1, h2, h3⟩, h4, h5⟩
      refine ⟨h1, ?_, h3, h4, fun z hz y hy => h5 z (Or.inr hz) y hy⟩
      rintro y (hy | hy)
      · exact h2 y hy
      · exact h5 x (Or.inl rfl) y hy
theorem ch_filter {l : List Sp} (p : Sp → Bool) (h : Ch l) : Ch (l.filter p) :=
  ⟨fun s hs => h.1 s (List.mem_filter.1 hs).1, h.2.filter p⟩

theorem good_of_ch {l : List Sp} (h : Ch l) (i : Nat) (hi : i < l.length) : goodAt l i := by
  have e : l.getD i (0, 0) = l[i] := by simp [List.getD_eq_getElem?_getD, List.getElem?_eq_getElem hi]
  refine ⟨by rw [e]; exact h.1 _ (List.getElem_mem hi), fun h0 => ?_⟩
  have e' : l.getD (i - 1) (0, 0) = l[i - 1] := by simp [List.getD_eq_getElem?_getD, List.getElem?_eq_getElem (show i - 1 < l.length by omega)]
  rw [e, e']
  exact List.pairwise_iff_getElem.1 h.2 (i - 1) i (by omega) hi (by omega)
theorem ch_of_good {l : List Sp} (h : ∀ i, i < l.length → goodAt l i) : Ch l := by
  have e : ∀ i (hi : i < l.length), l.getD i (0, 0) = l[i] := fun i hi => by simp [List.getD_eq_getElem?_getD, List.getElem?_eq_getElem hi]
  refine ⟨fun s hs => ?_, List.pairwise_iff_getElem.2 ?_⟩
  · obtain ⟨i, hi, rfl⟩ := List.getElem_of_mem hs
    have := (h i hi).1
    rwa [e i hi] at this
  · intro i j hi hj hij
    induction j with
    | zero => omega
    | succ j ih =>
      have g := h (j + 1) hj
      have g2 := g.2 (by omega)
      rw [e (j + 1) hj, show j + 1 - 1 = j by omega, e j (by omega)] at g2
      by_cases hh : i = j
      · subst hh; exact g2
      · have := ih (by omega) (by omega)
        have v := (h j (by omega)).1
        rw [e j (by omega)] at v
        unfold R V at *
        omega
theorem vSpans_iff (l : List Sp) : vSpans l = true ↔ Ch l ∧ l.length ≤ 6 := by
  unfold vSpans
  rw [decide_eq_true_iff]
  exact ⟨fun ⟨h, h'⟩ => ⟨ch_of_good h, h'⟩, fun ⟨h, h'⟩ => ⟨fun i hi => good_of_ch h i hi, h'⟩⟩

/-! ### spans in order and apart are determined by their numbers -/
theorem mem_cons {x : Sp} {l : List Sp} {n : Int} : mem (x :: l) n ↔ (x.1 ≤ n ∧ n ≤ x.2) ∨ mem l n := by
  unfold mem
  simp only [List.mem_cons]
  constructor
  · rintro ⟨s, rfl | hs, h⟩
    · exact Or.inl h
    · exact Or.inr ⟨s, hs, h⟩
  · rintro (h | ⟨s, hs, h⟩)
    · exact ⟨x, Or.inl rfl, h⟩
    · exact ⟨s, Or.inr hs, h⟩
theorem mem_nil {n : Int} : ¬ mem [] n := by rintro ⟨s, hs, _⟩; simp at hs
theorem mem_append {l m : List Sp} {n : Int} : mem (l ++ m) n ↔ mem l n ∨ mem m n := by
  unfold mem
  simp only [List.mem_append]
  constructor
  · rintro ⟨s, hs | hs, h⟩
    · exact Or.inl ⟨s, hs, h⟩
    · exact Or.inr ⟨s, hs, h⟩
  · rintro (⟨s, hs, h⟩ | ⟨s, hs, h⟩)
    · exact ⟨s, Or.inl hs, h⟩
    · exact ⟨s, Or.inr hs, h⟩
/-- What stands behind a span is greater by two at least than its end. -/
theorem ge_of_mem {x : Sp} {l : List Sp} (h : Ch (x :: l)) {n : Int} (hn : mem l n) : x.2 + 2 ≤ n := by
  obtain ⟨s, hs, h1, _⟩ := hn
  have := (ch_cons.1 h).2.1 s hs
  unfold R at this
  omega
theorem ge_of_mem' {x : Sp} {l : List Sp} (h : Ch (x :: l)) {n : Int} (hn : mem (x :: l) n) : x.1 ≤ n := by
  rcases mem_cons.1 hn with h1 | h1
  · exact h1.1
  · have := ge_of_mem h h1
    have v := (ch_cons.1 h).1
    unfold V at v
    omega
theorem same_of_mem : ∀ {l m : List Sp}, Ch l → Ch m → (∀ n, mem l n ↔ mem m n) → l = m := by
  intro l
  induction l with
  | nil =>
    intro m _ hm h
    cases m with
    | nil => rfl
    | cons t m =>
      have v := (ch_cons.1 hm).1
      unfold V at v
      exact absurd ((h t.1).2 (mem_cons.2 (Or.inl (by omega)))) mem_nil
  | cons s l ih =>
    intro m hl hm h
    cases m with
    | nil =>
      have v := (ch_cons.1 hl).1
      unfold V at v
      exact absurd ((h s.1).1 (mem_cons.2 (Or.inl (by omega)))) mem_nil
    | cons t m =>
      have vs := (ch_cons.1 hl).1
      have vt := (ch_cons.1 hm).1
      unfold V at vs vt
      have e1 : s.1 = t.1 := by
        have a := ge_of_mem' hm ((h s.1).1 (mem_cons.2 (Or.inl (by omega))))
        have b := ge_of_mem' hl ((h t.1).2 (mem_cons.2 (Or.inl (by omega))))
        omega
      have e2 : s.2 = t.2 := by
        rcases Int.lt_trichotomy s.2 t.2 with g | g | g
        · have hx := (h (s.2 + 1)).2 (mem_cons.2 (Or.inl (by omega)))
          rcases mem_cons.1 hx with hx | hx
          · omega
          · have := ge_of_mem hl hx; omega
        · exact g
        · have hx := (h (t.2 + 1)).1 (mem_cons.2 (Or.inl (by omega)))
          rcases mem_cons.1 hx with hx | hx
          · omega
          · have := ge_of_mem hm hx; omega
      have e : s = t := Prod.ext e1 e2
      subst e
      congr 1
      refine ih (ch_cons.1 hl).2.2 (ch_cons.1 hm).2.2 fun n => ⟨fun hn => ?_, fun hn => ?_⟩
      · have g := ge_of_mem hl hn
        rcases mem_cons.1 ((h n).1 (mem_cons.2 (Or.inr hn))) with hx | hx
        · omega
        · exact hx
      · have g := ge_of_mem hm hn
        rcases mem_cons.1 ((h n).2 (mem_cons.2 (Or.inr hn))) with hx | hx
        · omega
        · exact hx

/-! ### union -/
def hull (s x : Sp) : Sp := (min s.1 x.1, max s.2 x.2)
def bef (s x : Sp) : Bool := decide (x.2 + 1 < s.1)
def aft (s x : Sp) : Bool := decide (s.2 + 1 < x.1)
/-- The spec's middle loop. -/
def mg (s : Sp) : List Sp → Sp
  | [] => s
  | x :: l => if s.1 ≤ x.2 + 1 ∧ x.1 ≤ s.2 + 1 then mg (hull s x) l else mg s l
def uni (l : List Sp) (s : Sp) : List Sp := l.filter (bef s) ++ [mg s l] ++ l.filter (aft (mg s l))
/-- The program's one loop. -/
def ustep (st : List Sp × Sp × List Sp) (x : Sp) : List Sp × Sp × List Sp :=
  if x.2 + 1 < st.2.1.1 then (st.1 ++ [x], st.2.1, st.2.2) else if st.2.1.2 + 1 < x.1 then (st.1, st.2.1, st.2.2 ++ [x]) else (st.1, hull st.2.1 x, st.2.2)

theorem mg_const (s : Sp) : ∀ l : List Sp, (∀ y ∈ l, s.2 + 1 < y.1) → mg s l = s := by
  intro l
  induction l with
  | nil => intro _; rfl
  | cons x l ih =>
    intro h
    have hx := h x (by simp)
    rw [mg, if_neg (by omega)]
    exact ih fun y hy => h y (by simp [hy])
theorem mg_le : ∀ (l : List Sp) (s : Sp), (mg s l).1 ≤ s.1 ∧ s.2 ≤ (mg s l).2 := by
  intro l
  induction l with
  | nil => intro s; exact ⟨Int.le_refl _, Int.le_refl _⟩
  | cons x l ih =>
    intro s
    rw [mg]
    split
    · have := ih (hull s x)
      simp only [hull] at this ⊢
      omega
    · exact ih s
theorem v_hull {s x : Sp} (hs : V s) (hx : V x) : V (hull s x) := by
  unfold V hull at *
  simp only
  omega
theorem v_mg : ∀ (l : List Sp) (s : Sp), (∀ x ∈ l, V x) → V s → V (mg s l) := by
  intro l
  induction l with
  | nil => intro s _ h; exact h
  | cons x l ih =>
    intro s hl hs
    rw [mg]
    split
    · exact ih _ (fun y hy => hl y (by simp [hy])) (v_hull hs (hl x (by simp)))
    · exact ih _ (fun y hy => hl y (by simp [hy])) hs
theorem filter_nil_of {p : Sp → Bool} {l : List Sp} (h : ∀ x ∈ l, p x = false) : l.filter p = [] := by
  rw [List.filter_eq_nil_iff]
  intro x hx
  rw [h x hx]
  simp
theorem ufold : ∀ (l : List Sp) (b : List Sp) (s : Sp) (a : List Sp), Ch l → V s →
    l.foldl ustep (b, s, a) = (b ++ l.filter (bef s), mg s l, a ++ l.filter (aft (mg s l))) := by
  intro l
  induction l with
  | nil => intro b s a _ _; simp [mg]
  | cons x l ih =>
    intro b s a hl hs
    obtain ⟨vx, hr, hl'⟩ := ch_cons.1 hl
    have vx' := vx
    have hs' := hs
    unfold V at vx hs
    rw [List.foldl_cons]
    by_cases h1 : x.2 + 1 < s.1
    · have e : ustep (b, s, a) x = (b ++ [x], s, a) := by simp [ustep, h1]
      rw [e, ih _ _ _ hl' hs', mg, if_neg (by omega)]
      have g := mg_le l s
      have b1 : bef s x = true := by simp [bef, h1]
      have b2 : aft (mg s l) x = false := by simp [aft]; omega
      rw [List.filter_cons, if_pos b1, List.filter_cons, if_neg (by rw [b2]; simp)]
      simp
    · by_cases h2 : s.2 + 1 < x.1
      · have e : ustep (b, s, a) x = (b, s, a ++ [x]) := by simp [ustep, h1, h2]
        have hc : mg s l = s := mg_const s l fun y hy => by have := hr y hy; unfold R at this; omega
        rw [e, ih _ _ _ hl' hs', mg, if_neg (by omega), hc]
        have b1 : bef s x = false := by simp [bef]; omega
        have b2 : aft s x = true := by simp [aft, h2]
        rw [List.filter_cons, if_neg (by rw [b1]; simp), List.filter_cons, if_pos b2]
        simp
      · have e : ustep (b, s, a) x = (b, hull s x, a) := by simp [ustep, h1, h2]
        rw [e, ih _ _ _ hl' (v_hull hs' vx'), mg, if_pos (by omega)]
        have g := mg_le l (hull s x)
        simp only [hull] at g
        have b1 : bef s x = false := by simp [bef]; omega
        have b2 : aft (mg (hull s x) l) x = false := by simp [aft]; simp only [hull]; omega
        have f1 : l.filter (bef s) = [] := filter_nil_of fun y hy => by
          have r := hr y hy
          have v := hl'.1 y hy
          unfold R at r; unfold V at v
          simp [bef]; omega
        have f2 : l.filter (bef (hull s x)) = [] := filter_nil_of fun y hy => by
          have r := hr y hy
          have v := hl'.1 y hy
          unfold R at r; unfold V at v
          show decide (y.2 + 1 < min s.1 x.1) = false
          rw [decide_eq_false_iff_not]
          omega
        rw [List.filter_cons, if_neg (by rw [b1]; simp), List.filter_cons, if_neg (by rw [b2]; simp), f1, f2]

/-- What becomes of each span, and what the merged one holds. -/
theorem mg_facts : ∀ (l : List Sp) (s : Sp), Ch l → V s →
    (∀ x ∈ l, x.2 + 1 < s.1 ∨ (mg s l).2 + 1 < x.1 ∨ ((mg s l).1 ≤ x.1 ∧ x.2 ≤ (mg s l).2)) ∧
    (∀ n, (mg s l).1 ≤ n → n ≤ (mg s l).2 → (s.1 ≤ n ∧ n ≤ s.2) ∨ mem l n) ∧
    (∀ x ∈ l, x.2 + 1 < s.1 → x.2 + 2 ≤ (mg s l).1) := by
  intro l
  induction l with
  | nil => intro s _ _; exact ⟨by simp, fun n h1 h2 => Or.inl ⟨h1, h2⟩, by simp⟩
  | cons x l ih =>
    intro s hl hs
    obtain ⟨vx, hr, hl'⟩ := ch_cons.1 hl
    have vx' := vx
    have hs' := hs
    unfold V at vx hs
    by_cases ht : s.1 ≤ x.2 + 1 ∧ x.1 ≤ s.2 + 1
    · obtain ⟨i1, i2, i3⟩ := ih (hull s x) hl' (v_hull hs' vx')
      have g := mg_le l (hull s x)
      rw [mg, if_pos ht]
      generalize mg (hull s x) l = m at *
      simp only [hull] at g
      refine ⟨?_, ?_, ?_⟩
      · intro y hy
        rcases List.mem_cons.1 hy with rfl | hy
        · right; right; omega
        · have r := hr y hy
          have v := hl'.1 y hy
          unfold R at r; unfold V at v
          rcases i1 y hy with k | k | k
          · simp only [hull] at k; omega
          · exact Or.inr (Or.inl k)
          · exact Or.inr (Or.inr k)
      · intro n h1 h2
        rcases i2 n h1 h2 with k | k
        · simp only [hull] at k
          by_cases hx : x.1 ≤ n ∧ n ≤ x.2
          · exact Or.inr (mem_cons.2 (Or.inl hx))
          · left; omega
        · exact Or.inr (mem_cons.2 (Or.inr k))
      · intro y hy h
        rcases List.mem_cons.1 hy with rfl | hy
        · omega
        · have r := hr y hy
          have v := hl'.1 y hy
          unfold R at r; unfold V at v
          omega
    · obtain ⟨i1, i2, i3⟩ := ih s hl' hs'
      have hc : s.2 + 1 < x.1 → mg s l = s := fun h => mg_const s l fun y hy => by have := hr y hy; unfold R at this; omega
      rw [mg, if_neg ht]
      refine ⟨?_, ?_, ?_⟩
      · intro y hy
        rcases List.mem_cons.1 hy with rfl | hy
        · by_cases h2 : s.2 + 1 < y.1
          · rw [hc h2]; exact Or.inr (Or.inl h2)
          · left; omega
        · exact i1 y hy
      · intro n h1 h2
        rcases i2 n h1 h2 with k | k
        · exact Or.inl k
        · exact Or.inr (mem_cons.2 (Or.inr k))
      · intro y hy h
        rcases List.mem_cons.1 hy with rfl | hy
        · -- x itself lies before: the merged one begins behind it
          by_cases hm : (mg s l).1 < y.2 + 2
          · exfalso
            have g := mg_le l s
            rcases i2 (max (mg s l).1 (y.2 + 1)) (by omega) (by omega) with k | k
            · omega
            · have := ge_of_mem hl k; omega
          · omega
        · exact i3 y hy h

theorem ch_uni {l : List Sp} {s : Sp} (hl : Ch l) (hs : V s) : Ch (uni l s) := by
  obtain ⟨f1, f2, f3⟩ := mg_facts l s hl hs
  unfold uni
  rw [ch_append, ch_append]
  refine ⟨⟨ch_filter _ hl, ?_, ?_⟩, ch_filter _ hl, ?_⟩
  · rw [ch_cons]; exact ⟨v_mg l s hl.1 hs, by simp, ch_nil⟩
  · intro x hx y hy
    obtain ⟨hx, hb⟩ := List.mem_filter.1 hx
    simp at hy
    subst hy
    exact f3 x hx (by simpa [bef] using hb)
  · intro x hx y hy
    obtain ⟨hy, ha⟩ := List.mem_filter.1 hy
    simp only [aft, decide_eq_true_eq] at ha
    rcases List.mem_append.1 hx with hx | hx
    · obtain ⟨hx, hb⟩ := List.mem_filter.1 hx
      have := f3 x hx (by simpa [bef] using hb)
      have g := mg_le l s
      have v := v_mg l s hl.1 hs
      unfold V at v
      unfold R; omega
    · simp at hx
      subst hx
      unfold R; omega
theorem mem_uni {l : List Sp} {s : Sp} (hl : Ch l) (hs : V s) (n : Int) : mem (uni l s) n ↔ mem l n ∨ (s.1 ≤ n ∧ n ≤ s.2) := by
  obtain ⟨f1, f2, _⟩ := mg_facts l s hl hs
  have g := mg_le l s
  unfold uni
  rw [mem_append, mem_append, mem_cons]
  constructor
  · rintro ((h | h | h) | h)
    · obtain ⟨x, hx, h⟩ := h
      exact Or.inl ⟨x, (List.mem_filter.1 hx).1, h⟩
    · rcases f2 n h.1 h.2 with k | k
      · exact Or.inr k
      · exact Or.inl k
    · exact absurd h mem_nil
    · obtain ⟨x, hx, h⟩ := h
      exact Or.inl ⟨x, (List.mem_filter.1 hx).1, h⟩
  · rintro (⟨x, hx, h⟩ | h)
    · rcases f1 x hx with k | k | k
      · exact Or.inl (Or.inl ⟨x, List.mem_filter.2 ⟨hx, by simp [bef, k]⟩, h⟩)
      · exact Or.inr ⟨x, List.mem_filter.2 ⟨hx, by simp [aft, k]⟩, h⟩
      · exact Or.inl (Or.inr (Or.inl (by omega)))
    · exact Or.inl (Or.inr (Or.inl (by omega)))

/-! ### without -/
def pieces (s x : Sp) : List Sp :=
  (if x.1 < s.1 then [(x.1, min x.2 (s.1 - 1))] else []) ++ (if s.2 < x.2 then [(max x.1 (s.2 + 1), x.2)] else [])
def wout (l : List Sp) (s : Sp) : List Sp := l.flatMap (pieces s)
/-- The program's form. -/
def pieces' (s x : Sp) : List Sp :=
  (if x.1 ≤ min x.2 (s.1 - 1) then [(x.1, min x.2 (s.1 - 1))] else []) ++ (if max x.1 (s.2 + 1) ≤ x.2 then [(max x.1 (s.2 + 1), x.2)] else [])
theorem pieces_eq {s x : Sp} (hx : V x) : pieces' s x = pieces s x := by
  unfold V at hx
  unfold pieces pieces'
  congr 1
  · by_cases h : x.1 < s.1
    · rw [if_pos (by omega), if_pos h]
    · rw [if_neg (by omega), if_neg h]
  · by_cases h : s.2 < x.2
    · rw [if_pos (by omega), if_pos h]
    · rw [if_neg (by omega), if_neg h]
theorem pieces_mem {s x : Sp} (hs : V s) (hx : V x) : Ch (pieces s x) ∧ (∀ y ∈ pieces s x, x.1 ≤ y.1 ∧ y.2 ≤ x.2) ∧ ∀ n, mem (pieces s x) n ↔ (x.1 ≤ n ∧ n ≤ x.2) ∧ ¬ (s.1 ≤ n ∧ n ≤ s.2) := by
  unfold V at hs hx
  unfold pieces
  by_cases h1 : x.1 < s.1 <;> by_cases h2 : s.2 < x.2 <;> simp only [h1, h2, if_true, if_false]
  · refine ⟨?_, ?_, fun n => ?_⟩
    · simp only [List.cons_append, List.nil_append, ch_cons, V, R, List.mem_cons, List.not_mem_nil, or_false, forall_eq, false_imp_iff, implies_true, ch_nil, and_true]
      omega
    · simp; omega
    · simp only [List.cons_append, List.nil_append, mem_cons, mem_nil, or_false]; omega
  · refine ⟨?_, ?_, fun n => ?_⟩
    · simp only [List.append_nil, ch_cons, V, List.not_mem_nil, false_imp_iff, implies_true, ch_nil, and_true]
      omega
    · simp; omega
    · simp only [List.append_nil, mem_cons, mem_nil, or_false]; omega
  · refine ⟨?_, ?_, fun n => ?_⟩
    · simp only [List.nil_append, ch_cons, V, List.not_mem_nil, false_imp_iff, implies_true, ch_nil, and_true]
      omega
    · simp; omega
    · simp only [List.nil_append, mem_cons, mem_nil, or_false]; omega
  · refine ⟨?_, ?_, fun n => ?_⟩
    · simpa using ch_nil
    · simp
    · simp only [List.append_nil, mem_nil, false_iff]; omega
theorem wout_facts {s : Sp} (hs : V s) : ∀ {l : List Sp}, Ch l → Ch (wout l s) ∧ (∀ y ∈ wout l s, ∃ x ∈ l, x.1 ≤ y.1 ∧ y.2 ≤ x.2) ∧ ∀ n, mem (wout l s) n ↔ mem l n ∧ ¬ (s.1 ≤ n ∧ n ≤ s.2) := by
  intro l
  induction l with
  | nil => intro _; exact ⟨ch_nil, by simp [wout], fun n => by simp [wout, mem_nil]⟩
  | cons x l ih =>
    intro hl
    obtain ⟨vx, hr, hl'⟩ := ch_cons.1 hl
    obtain ⟨i1, i2, i3⟩ := ih hl'
    obtain ⟨p1, p2, p3⟩ := pieces_mem hs vx
    have e : wout (x :: l) s = pieces s x ++ wout l s := by simp [wout]
    rw [e]
    refine ⟨ch_append.2 ⟨p1, i1, fun a ha b hb => ?_⟩, fun y hy => ?_, fun n => ?_⟩
    · have ha' := p2 a ha
      obtain ⟨z, hz, hb'⟩ := i2 b hb
      have := hr z hz
      unfold R at *
      omega
    · rcases List.mem_append.1 hy with hy | hy
      · exact ⟨x, by simp, p2 y hy⟩
      · obtain ⟨z, hz, hb'⟩ := i2 y hy
        exact ⟨z, by simp [hz], hb'⟩
    · rw [mem_append, p3, i3, mem_cons]
      constructor
      · rintro (⟨h1, h2⟩ | ⟨h1, h2⟩)
        · exact ⟨Or.inl h1, h2⟩
        · exact ⟨Or.inr h1, h2⟩
      · rintro ⟨h1 | h1, h2⟩
        · exact Or.inl ⟨h1, h2⟩
        · exact Or.inr ⟨h1, h2⟩
theorem ch_wout {l : List Sp} {s : Sp} (hl : Ch l) (hs : V s) : Ch (wout l s) := (wout_facts hs hl).1
theorem mem_wout {l : List Sp} {s : Sp} (hl : Ch l) (hs : V s) (n : Int) : mem (wout l s) n ↔ mem l n ∧ ¬ (s.1 ≤ n ∧ n ≤ s.2) := (wout_facts hs hl).2.2 n

/-! ### the laws -/
theorem uni_order {l : List Sp} {s t : Sp} (hl : Ch l) (hs : V s) (ht : V t) : uni (uni l s) t = uni (uni l t) s :=
  same_of_mem (ch_uni (ch_uni hl hs) ht) (ch_uni (ch_uni hl ht) hs) fun n => by
    rw [mem_uni (ch_uni hl hs) ht, mem_uni hl hs, mem_uni (ch_uni hl ht) hs, mem_uni hl ht]
    constructor <;> rintro ((h | h) | h) <;> simp [h]
theorem uni_part {l : List Sp} {x : Sp} (hl : Ch l) (hx : V x) (h : ∀ n, x.1 ≤ n ∧ n ≤ x.2 → mem l n) : uni l x = l :=
  same_of_mem (ch_uni hl hx) hl fun n => by
    rw [mem_uni hl hx]
    exact ⟨fun h' => h'.elim id (h n), Or.inl⟩
theorem uni_twice {l : List Sp} {s : Sp} (hl : Ch l) (hs : V s) : uni (uni l s) s = uni l s :=
  uni_part (ch_uni hl hs) hs fun n h => (mem_uni hl hs n).2 (Or.inr h)
theorem uni_elem {l : List Sp} {s x : Sp} (hl : Ch l) (hs : V s) (hx : x ∈ l) : uni (uni l s) x = uni l s :=
  uni_part (ch_uni hl hs) (hl.1 x hx) fun n h => (mem_uni hl hs n).2 (Or.inl ⟨x, hx, h⟩)
theorem wout_twice {l : List Sp} {s : Sp} (hl : Ch l) (hs : V s) : wout (wout l s) s = wout l s :=
  same_of_mem (ch_wout (ch_wout hl hs) hs) (ch_wout hl hs) fun n => by
    rw [mem_wout (ch_wout hl hs) hs, mem_wout hl hs]
    exact ⟨fun h => h.1, fun h => ⟨h, h.2⟩⟩
theorem wout_all {l : List Sp} (hl : Ch l) : wout l (0, 1000000) = [] :=
  same_of_mem (ch_wout hl (by unfold V; simp)) ch_nil fun n => by
    rw [mem_wout hl (by unfold V; simp)]
    refine ⟨fun ⟨⟨x, hx, h⟩, h'⟩ => ?_, fun h => absurd h mem_nil⟩
    have := hl.1 x hx
    unfold V at this
    simp at h'
    omega
theorem wout_uni {l : List Sp} {s : Sp} (hl : Ch l) (hs : V s) : uni (wout l s) s = uni l s :=
  same_of_mem (ch_uni (ch_wout hl hs) hs) (ch_uni hl hs) fun n => by
    rw [mem_uni (ch_wout hl hs) hs, mem_wout hl hs, mem_uni hl hs]
    by_cases h : s.1 ≤ n ∧ n ≤ s.2 <;> simp [h]
end Plain
end Go.Proofs.Ytoooliadnjojeaa

/-
  Contracts of the generators of spans. Conditions: a position below some hundred thousands.
-/
import Derived.Test.YtgekfmbdfimbfaaDraw0
import Derived.Test.YtgekfmbdfimbfaaSpanB
namespace Go.Proofs.Ytgekfmbdfimbfaa
open Go.RowKit
namespace C

/-- A variable of two cells. -/
def Box2 (w : World) (b : Nat) (x y : Value) : Prop := w.cell? ⟨b, 0, none⟩ = some x ∧ w.cell? ⟨b, 1, none⟩ = some y ∧ w.frozen? ⟨b, 0, none⟩ = false ∧ w.frozen? ⟨b, 1, none⟩ = false ∧ b < w.heap.size
theorem Box2.new (w : World) (x y : Value) (t : TypeId) : Box2 (w.alloc (.cells #[x, y] t)) w.heap.size x y := by
  have e : (w.alloc (.cells #[x, y] t)).heap[w.heap.size]? = some (.cells #[x, y] t) := heap_alloc_new w _
  refine ⟨?_, ?_, ?_, ?_, by simp⟩
  · rw [cell_of_row _ w.heap.size 0 _ _ _ e]; rfl
  · rw [cell_of_row _ w.heap.size 1 _ _ _ e]; rfl
  · unfold World.frozen?; rw [e]; rfl
  · unfold World.frozen?; rw [e]; rfl
theorem Box2.kept {w w' : World} {b : Nat} {x y : Value} (h : Box2 w b x y) (k : K.Kept w w') : Box2 w' b x y := by
  obtain ⟨h1, h2, h3, h4, h5⟩ := h
  exact ⟨by rw [k.cell h5]; exact h1, by rw [k.cell h5]; exact h2, by rw [k.frozen h5]; exact h3, by rw [k.frozen h5]; exact h4, Nat.lt_of_lt_of_le h5 k.size⟩
theorem Box2.but {w w' : World} {g b : Nat} {x y : Value} (h : Box2 w b x y) (k : K.But g w w') (hne : b ≠ g) : Box2 w' b x y := by
  obtain ⟨h1, h2, h3, h4, h5⟩ := h
  have e := k.block b h5 (by simpa using hne)
  exact ⟨by rw [World.cell?_of_block (w := w) e]; exact h1, by rw [World.cell?_of_block (w := w) e]; exact h2, by rw [World.frozen?_of_block (w := w) e]; exact h3, by rw [World.frozen?_of_block (w := w) e]; exact h4, Nat.lt_of_lt_of_le h5 k.size⟩
theorem Box2.put0 {w : World} {b : Nat} {x y : Value} (h : Box2 w b x y) (u : Value) : (w.setCell ⟨b, 0, none⟩ u).cell? ⟨b, 0, none⟩ = some u := World.cell?_setCell_same w _ u h.1
theorem Box2.put1 {w : World} {b : Nat} {x y : Value} (h : Box2 w b x y) (u v : Value) : ((w.setCell ⟨b, 0, none⟩ u).setCell ⟨b, 1, none⟩ v).cell? ⟨b, 1, none⟩ = some v :=
  World.cell?_setCell_same _ _ v ((World.cell?_setCell_other w _ _ u (by simp)).trans h.2.1)
/-- What was below B, and all but g, is as it was behind two stores into a new variable. -/
theorem but_put {w w' : World} {g b : Nat} (k : K.But g w w') (hb : w.heap.size ≤ b) (u v : Value) : K.But g w ((w'.setCell ⟨b, 0, none⟩ u).setCell ⟨b, 1, none⟩ v) :=
  (k.setCell (.inr hb) u).setCell (.inr hb) v
theorem rdr_put {w : World} {B g p b : Nat} (h : Rdr w B g p) (hb : b ≠ g) (hB : B ≤ b) (u v : Value) : Rdr ((w.setCell ⟨b, 0, none⟩ u).setCell ⟨b, 1, none⟩ v) B g p := by
  have k : Below b w ((w.setCell ⟨b, 0, none⟩ u).setCell ⟨b, 1, none⟩ v) := ((Below.refl b w).setCell (p := ⟨b, 0, none⟩) (Nat.le_refl _) u).setCell (p := ⟨b, 1, none⟩) (Nat.le_refl _) v
  obtain ⟨h1, A, m, c, zs, hg, hr, hm, hz⟩ := h
  refine ⟨h1, A, m, c, zs, ?_, hr.below (k.mono hB), hm, hz⟩
  rw [Below.heap_setCell _ _ _ _ (fun e => hb e.symm), Below.heap_setCell _ _ _ _ (fun e => hb e.symm)]
  exact hg
theorem Code.kept {w w' : World} {B n c : Nat} {A : Option Addr} (h : Code w B A n c) (k : Below B w w') : Code w' B A n c := by
  obtain ⟨h1, h2, zs, hr, hz⟩ := h
  exact ⟨h1, h2, zs, hr.below k, hz⟩
theorem bw {l h x : Int} (q : decide (l ≤ x ∧ x ≤ h) = true) : l ≤ x ∧ x ≤ h := of_decide_eq_true q
theorem kept1 (w : World) (o : Obj) : K.Kept w (w.alloc o) := (Below.refl _ _).alloc (Nat.le_refl _) _
/-- A span has been drawn: some two numbers. -/
def SpanD (k : Nat) (w : World) (B g p : Nat) (e : Ending) (w' : World) : Prop := ∃ (x y : Int) (q : Nat), e = .returned (.agg #[.int .i64 x, .int .i64 y]) ∧ (-1 ≤ x ∧ x ≤ 2000000 ∧ -1 ≤ y ∧ y ≤ 2000000) ∧ Rdr w' B g q ∧ q ≤ p + k ∧ K.But g w w'
theorem someSpan_c (w : World) (B g p : Nat) (hp : p ≤ 900000) (h0 : Rdr w B g p) : Calls Try.prog 58 #[.pointer (some ⟨g, 0, none⟩)] w (SpanD 2 w B g p) := by
  have hg := h0.lt
  have b0 := Box2.new w (.int .i64 0) (.int .i64 0) 25
  have hr0 := h0.kept (kept1 w (.cells #[.int .i64 0, .int .i64 0] 25))
  have hk0 : K.But g w (w.alloc (.cells #[.int .i64 0, .int .i64 0] 25)) := K.But.of_kept (kept1 w _)
  generalize hw0 : w.alloc (.cells #[.int .i64 0, .int .i64 0] 25) = w0 at b0 hr0 hk0
  go_enter Try.func58, Try.ntmps58
  go_wp2_with fail
  refine (one_new (fun x => decide (0 ≤ x ∧ x ≤ 1000)) w0 B g p 7 _ (by omega) hr0 (by omega) rfl rfl).mono ?_
  rintro e w1 ⟨x, rfl, hx, hr1, hb1⟩
  obtain ⟨c0, c1, f0, f1, n0⟩ := b0.but hb1 (by omega)
  have hx' := bw hx
  have n1 : w1.heap.size ≠ w.heap.size := by omega
  go_wp2_with fail
  refine (one_new (fun x => decide (0 ≤ x ∧ x ≤ 20000)) w1 B g _ 6 _ (by omega) hr1 (by omega) rfl rfl).mono ?_
  rintro e w2 ⟨y, rfl, hy, hr2, hb2⟩
  obtain ⟨d0, d1, g0, g1, m0⟩ := (show Box2 w1 _ _ _ from ⟨c0, c1, f0, f1, n0⟩).but hb2 (by omega)
  have hy' := bw hy
  have bb := (show Box2 w2 _ _ _ from ⟨d0, d1, g0, g1, m0⟩)
  have r0 := bb.put0
  have r1 := bb.put1
  go_wp2
  refine bodyPost_ret (by simp [results, Try.results58, go_sem, r0, r1]; try rfl) rfl ?_
  exact ⟨_, _, _, rfl, by omega, rdr_put hr2 (by omega) (by have := h0.1; omega) _ _, by omega, but_put (hk0.trans (hb1.trans hb2)) (Nat.le_refl _) _ _⟩
theorem anySpan_c (w : World) (B g p : Nat) (hp : p ≤ 800000) (h0 : Rdr w B g p) : Calls Try.prog 52 #[.pointer (some ⟨g, 0, none⟩)] w (SpanD 3 w B g p) := by
  have hg := h0.lt
  have b0 := Box2.new w (.int .i64 0) (.int .i64 0) 25
  have hr0 := h0.kept (kept1 w (.cells #[.int .i64 0, .int .i64 0] 25))
  have hk0 : K.But g w (w.alloc (.cells #[.int .i64 0, .int .i64 0] 25)) := K.But.of_kept (kept1 w _)
  generalize hw0 : w.alloc (.cells #[.int .i64 0, .int .i64 0] 25) = w0 at b0 hr0 hk0
  go_enter Try.func52, Try.ntmps52
  go_wp2_with fail
  refine (pick_c _ _ B g p (by omega) hr0).mono ?_
  rintro e w1 ⟨z, rfl, hz, hr1, hb1⟩
  have b1 := b0.but hb1 (by omega)
  obtain ⟨c0, c1, f0, f1, n0⟩ := b1
  have n1 : w1.heap.size ≠ w.heap.size := by omega
  go_wp2_with fail
  · refine (one_new (fun x => decide (-1 ≤ x ∧ x ≤ 1000000)) w1 B g _ 3 _ (by omega) hr1 (by omega) rfl rfl).mono ?_
    rintro e w2 ⟨x, rfl, hx, hr2, hb2⟩
    obtain ⟨d0, d1, g0, g1, m0⟩ := (show Box2 w1 _ _ _ from ⟨c0, c1, f0, f1, n0⟩).but hb2 (by omega)
    have hx' := bw hx
    have n2 : w2.heap.size ≠ w.heap.size := by omega
    go_wp2_with fail
    refine (one_new (fun x => decide (0 ≤ x ∧ x ≤ 1000001)) w2 B g _ 3 _ (by omega) hr2 (by omega) rfl rfl).mono ?_
    rintro e w3 ⟨y, rfl, hy, hr3, hb3⟩
    have bb := (show Box2 w2 _ _ _ from ⟨d0, d1, g0, g1, m0⟩).but hb3 (by omega)
    have r0 := bb.put0
    have r1 := bb.put1
    obtain ⟨i0, i1, j0, j1, l0⟩ := bb
    have hy' := bw hy
    go_wp2
    refine bodyPost_ret (by simp [results, Try.results52, go_sem, r0, r1]; try rfl) rfl ?_
    exact ⟨_, _, _, rfl, by omega, rdr_put hr3 (by omega) (by have := h0.1; omega) _ _, by omega, but_put (hk0.trans (hb1.trans (hb2.trans hb3))) (Nat.le_refl _) _ _⟩
  · refine (someSpan_c w1 B g _ (by omega) hr1).mono ?_
    rintro e w2 ⟨x, y, q, rfl, hxy, hr2, hq, hb2⟩
    have bb := (show Box2 w1 _ _ _ from ⟨c0, c1, f0, f1, n0⟩).but hb2 (by omega)
    have r0 := bb.put0
    have r1 := bb.put1
    obtain ⟨i0, i1, j0, j1, l0⟩ := bb
    go_wp2
    refine bodyPost_ret (by simp [results, Try.results52, go_sem, r0, r1]; try rfl) rfl ?_
    exact ⟨_, _, _, rfl, hxy, rdr_put hr2 (by omega) (by have := h0.1; omega) _ _, by omega, but_put (hk0.trans (hb1.trans hb2)) (Nat.le_refl _) _ _⟩
/-- A span has been drawn; what was there is as it was. -/
theorem drawValidSpan_c (w : World) (n c : Nat) (A : Option Addr) (h : Code w w.heap.size A n c) :
    Calls Try.prog 28 #[.slice A n c] w fun e w' => (∃ x y : Int, e = .returned (.agg #[.int .i64 x, .int .i64 y]) ∧ (-1 ≤ x ∧ x ≤ 2000000 ∧ -1 ≤ y ∧ y ≤ 2000000)) ∧ K.Kept w w' := by
  have b0 := Box2.new w (.int .i64 0) (.int .i64 0) 25
  have hc0 := h.kept (kept1 w (.cells #[.int .i64 0, .int .i64 0] 25))
  have hk0 := kept1 w (.cells #[.int .i64 0, .int .i64 0] 25)
  generalize hw0 : w.alloc (.cells #[.int .i64 0, .int .i64 0] 25) = w0 at b0 hc0 hk0
  go_enter Try.func28, Try.ntmps28
  go_wp2_with fail
  refine (newReader_c w0 w.heap.size n c A hk0.size hc0).mono ?_
  rintro e w1 ⟨rfl, hr1, hk1⟩
  obtain ⟨c0, c1, f0, f1, n0⟩ := b0.kept hk1
  go_wp2_with fail
  refine (anySpan_c w1 _ _ 0 (by omega) hr1).mono ?_
  rintro e w2 ⟨x, y, q, rfl, hxy, hr2, hq, hb2⟩
  have s0 := b0.2.2.2.2
  have bb := (show Box2 w1 _ _ _ from ⟨c0, c1, f0, f1, n0⟩).but hb2 (by omega)
  have r0 := bb.put0
  have r1 := bb.put1
  obtain ⟨i0, i1, j0, j1, l0⟩ := bb
  have hk2 := K.But.below (K.Kept.below hk0 hk1 hk0.size) hb2 (by have := hk1.size; have := hk0.size; omega) (by have := hk0.size; omega)
  go_wp2
  refine bodyPost_ret (by simp [results, Try.results28, go_sem, r0, r1]; try rfl) rfl ?_
  exact ⟨⟨x, y, rfl, hxy⟩, (hk2.setCell (p := ⟨w.heap.size, 0, none⟩) (Nat.le_refl _) _).setCell (p := ⟨w.heap.size, 1, none⟩) (Nat.le_refl _) _⟩
end C
end Go.Proofs.Ytgekfmbdfimbfaa

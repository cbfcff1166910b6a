/-
  Contracts of the generators of spans. Conditions: a position below some hundred thousands.
-/
import Derived.Test.YtapjlbcpfemeiaaBox
namespace Go.Proofs.Ytapjlbcpfemeiaa
open Go.RowKit
namespace C

theorem Code.kept {w w' : World} {B n c : Nat} {A : Option Addr} (h : Code w B A n c) (k : Below B w w') : Code w' B A n c := by
  obtain ⟨h1, h2, zs, hr, hz⟩ := h
  exact ⟨h1, h2, zs, hr.below k, hz⟩
theorem bw {l h x : Int} (q : decide (l ≤ x ∧ x ≤ h) = true) : l ≤ x ∧ x ≤ h := of_decide_eq_true q
/-- A span has been drawn: some two numbers. -/
def SpanD (k : Nat) (w : World) (B g p : Nat) (e : Ending) (w' : World) : Prop := ∃ (x y : Int) (q : Nat), e = .returned (.agg #[.int .i64 x, .int .i64 y]) ∧ (-1 ≤ x ∧ x ≤ 2000000 ∧ -1 ≤ y ∧ y ≤ 2000000) ∧ Rdr w' B g q ∧ q ≤ p + k ∧ K.But g w w'
theorem someSpan_c (w : World) (B g p : Nat) (hp : p ≤ 900000) (h0 : Rdr w B g p) : Calls Try.prog 94 #[.pointer (some ⟨g, 0, none⟩)] w (SpanD 2 w B g p) := by
  have hg := h0.lt
  have b0 := Box2.new w (.int .i64 0) (.int .i64 0) 24
  have hr0 := h0.kept (kept1 w (.cells #[.int .i64 0, .int .i64 0] 24))
  have hk0 : K.But g w (w.alloc (.cells #[.int .i64 0, .int .i64 0] 24)) := K.But.of_kept (kept1 w _)
  generalize hw0 : w.alloc (.cells #[.int .i64 0, .int .i64 0] 24) = w0 at b0 hr0 hk0
  go_enter Try.func94, Try.ntmps94
  go_wp2_with fail
  refine (one_new (fun x => decide (0 ≤ x ∧ x ≤ 1000)) w0 B g p 7 _ (by omega) hr0 (by omega) rfl rfl).mono ?_
  rintro e w1 ⟨x, rfl, hx, hr1, hb1⟩
  obtain ⟨c0, c1, f0, f1, n0⟩ := b0.but hb1 (by omega)
  have hx' := bw hx
  have n1 : w1.heap.size ≠ w.heap.size := by omega
  go_wp2_with fail
  refine (one_new (fun x => decide (0 ≤ x ∧ x ≤ 20000)) w1 B g _ 6 _ (by omega) hr1 (by omega) rfl rfl).mono ?_
  rintro e w2 ⟨y, rfl, hy, hr2, hb2⟩
  obtain ⟨d0, d1, g0, g1, m0⟩ := (show Box2 w1 _ _ _ from ⟨c0, c1, f0, f1, n0⟩).but hb2 (by omega)
  have hy' := bw hy
  have bb := (show Box2 w2 _ _ _ from ⟨d0, d1, g0, g1, m0⟩)
  have r0 := bb.put0
  have r1 := bb.put1
  go_wp2
  refine bodyPost_ret (by simp [results, Try.results94, go_sem, r0, r1]; try rfl) rfl ?_
  exact ⟨_, _, _, rfl, by omega, rdr_put hr2 (by omega) (by have := h0.1; omega) _ _, by omega, but_put (hk0.trans (hb1.trans hb2)) (Nat.le_refl _) _ _⟩
theorem anySpan_c (w : World) (B g p : Nat) (hp : p ≤ 800000) (h0 : Rdr w B g p) : Calls Try.prog 81 #[.pointer (some ⟨g, 0, none⟩)] w (SpanD 3 w B g p) := by
  have hg := h0.lt
  have b0 := Box2.new w (.int .i64 0) (.int .i64 0) 24
  have hr0 := h0.kept (kept1 w (.cells #[.int .i64 0, .int .i64 0] 24))
  have hk0 : K.But g w (w.alloc (.cells #[.int .i64 0, .int .i64 0] 24)) := K.But.of_kept (kept1 w _)
  generalize hw0 : w.alloc (.cells #[.int .i64 0, .int .i64 0] 24) = w0 at b0 hr0 hk0
  go_enter Try.func81, Try.ntmps81
  go_wp2_with fail
  refine (pick_c _ _ B g p (by omega) hr0).mono ?_
  rintro e w1 ⟨z, rfl, hz, hr1, hb1⟩
  have b1 := b0.but hb1 (by omega)
  obtain ⟨c0, c1, f0, f1, n0⟩ := b1
  have n1 : w1.heap.size ≠ w.heap.size := by omega
  go_wp2_with fail
  · refine (one_new (fun x => decide (-1 ≤ x ∧ x ≤ 1000000)) w1 B g _ 3 _ (by omega) hr1 (by omega) rfl rfl).mono ?_
    rintro e w2 ⟨x, rfl, hx, hr2, hb2⟩
    obtain ⟨d0, d1, g0, g1, m0⟩ := (show Box2 w1 _ _ _ from ⟨c0, c1, f0, f1, n0⟩).but hb2 (by omega)
    have hx' := bw hx
    have n2 : w2.heap.size ≠ w.heap.size := by omega
    go_wp2_with fail
    refine (one_new (fun x => decide (0 ≤ x ∧ x ≤ 1000001)) w2 B g _ 3 _ (by omega) hr2 (by omega) rfl rfl).mono ?_
    rintro e w3 ⟨y, rfl, hy, hr3, hb3⟩
    have bb := (show Box2 w2 _ _ _ from ⟨d0, d1, g0, g1, m0⟩).but hb3 (by omega)
    have r0 := bb.put0
    have r1 := bb.put1
    obtain ⟨i0, i1, j0, j1, l0⟩ := bb
    have hy' := bw hy
    go_wp2
    refine bodyPost_ret (by simp [results, Try.results81, go_sem, r0, r1]; try rfl) rfl ?_
    exact ⟨_, _, _, rfl, by omega, rdr_put hr3 (by omega) (by have := h0.1; omega) _ _, by omega, but_put (hk0.trans (hb1.trans (hb2.trans hb3))) (Nat.le_refl _) _ _⟩
  · refine (someSpan_c w1 B g _ (by omega) hr1).mono ?_
    rintro e w2 ⟨x, y, q, rfl, hxy, hr2, hq, hb2⟩
    have bb := (show Box2 w1 _ _ _ from ⟨c0, c1, f0, f1, n0⟩).but hb2 (by omega)
    have r0 := bb.put0
    have r1 := bb.put1
    obtain ⟨i0, i1, j0, j1, l0⟩ := bb
    go_wp2
    refine bodyPost_ret (by simp [results, Try.results81, go_sem, r0, r1]; try rfl) rfl ?_
    exact ⟨_, _, _, rfl, hxy, rdr_put hr2 (by omega) (by have := h0.1; omega) _ _, by omega, but_put (hk0.trans (hb1.trans hb2)) (Nat.le_refl _) _ _⟩
end C
end Go.Proofs.Ytapjlbcpfemeiaa

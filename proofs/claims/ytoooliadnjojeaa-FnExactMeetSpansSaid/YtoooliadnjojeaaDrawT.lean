/-
  Contracts of the generators of a span and a number, and of two spans. Conditions: none.
-/
import Derived.Test.YtoooliadnjojeaaDrawS
namespace Go.Proofs.Ytoooliadnjojeaa
open Go.RowKit
namespace C

/-- Two spans have been drawn; what was there is as it was. -/
theorem drawMeetSpans_c (w : World) (n c : Nat) (A : Option Addr) (h : Code w w.heap.size A n c) :
    Calls Try.prog 24 #[.slice A n c] w fun e w' => (∃ x y u v : Int, e = .returned (.tuple #[.agg #[.int .i64 x, .int .i64 y], .agg #[.int .i64 u, .int .i64 v]]) ∧ (-1 ≤ x ∧ x ≤ 2000000 ∧ -1 ≤ y ∧ y ≤ 2000000) ∧ (-1 ≤ u ∧ u ≤ 2000000 ∧ -1 ≤ v ∧ v ≤ 2000000)) ∧ K.Kept w w' := by
  have b2 := (Box2.new w (.int .i64 0) (.int .i64 0) 24).kept (kept1 _ (.cells #[.int .i64 0, .int .i64 0] 24))
  have b3 := Box2.new (w.alloc (.cells #[.int .i64 0, .int .i64 0] 24)) (.int .i64 0) (.int .i64 0) 24
  rw [show (w.alloc (.cells #[.int .i64 0, .int .i64 0] 24)).heap.size = w.heap.size + 1 by simp] at b3
  have hk0 : K.Kept w ((w.alloc (.cells #[.int .i64 0, .int .i64 0] 24)).alloc (.cells #[.int .i64 0, .int .i64 0] 24)) := K.Kept.trans (kept1 _ _) (kept1 _ _)
  have hc0 := h.kept hk0
  generalize hw0 : (w.alloc (.cells #[.int .i64 0, .int .i64 0] 24)).alloc (.cells #[.int .i64 0, .int .i64 0] 24) = w0 at b2 b3 hc0 hk0
  have s3 := b3.2.2.2.2
  go_enter Try.func24, Try.ntmps24
  go_wp2_with fail
  refine (newReader_c w0 w.heap.size n c A hk0.size hc0).mono ?_
  rintro e w1 ⟨rfl, hr1, hk1⟩
  have hg1 := hr1.lt
  go_wp2_with fail
  refine (anySpan_c w1 _ _ 0 (by omega) hr1).mono ?_
  rintro e w2 ⟨x, y, q, rfl, hxy, hr2, hq, hb2⟩
  have c2 := (b2.kept hk1).but hb2 (by omega)
  have c3 := (b3.kept hk1).but hb2 (by omega)
  have hg2 := hr2.lt
  have hk2 := K.But.below (K.Kept.below hk0 hk1 hk0.size) hb2 (by omega) (by omega)
  have c5 := Box2.new w2 (.int .i64 x) (.int .i64 y) 24
  have hr3 := hr2.kept (kept1 w2 (.cells #[.int .i64 x, .int .i64 y] 24))
  have c2 := c2.kept (kept1 w2 (.cells #[.int .i64 x, .int .i64 y] 24))
  have c3 := c3.kept (kept1 w2 (.cells #[.int .i64 x, .int .i64 y] 24))
  have hk3 := K.Kept.below hk2 (kept1 w2 (.cells #[.int .i64 x, .int .i64 y] 24)) (by omega)
  generalize hw3 : w2.alloc (.cells #[.int .i64 x, .int .i64 y] 24) = w3 at c2 c3 c5 hr3 hk3
  have j2 := c2
  have j3 := c3
  have j5 := c5
  obtain ⟨j20, j21, j22, j23, j24⟩ := j2
  obtain ⟨j30, j31, j32, j33, j34⟩ := j3
  obtain ⟨j50, j51, j52, j53, j54⟩ := j5
  go_wp2_with fail
  go_region_with (first | (go_at_call 42; refine (anySpan_c _ _ _ q (by omega) (hr3.kept (kdrew _))).mono ?_; rintro e w4 ⟨u, v, q', rfl, huv, hr4, hq4, hb4⟩; have t0 : w3.drew.heap.size = w3.heap.size := rfl; have d2 := (c2.kept (kdrew _)).but hb4 (by omega); have d3 := (c3.kept (kdrew _)).but hb4 (by omega); have d5 := (c5.kept (kdrew _)).but hb4 (by omega); have hk4 := K.But.below (K.Kept.below hk3 (kdrew _) (by omega)) hb4 (by omega) (by omega); have i2 := d2; have i3 := d3; have i5 := d5; obtain ⟨i20, i21, i22, i23, i24⟩ := i2; obtain ⟨i30, i31, i32, i33, i34⟩ := i3; obtain ⟨i50, i51, i52, i53, i54⟩ := i5))
  all_goals go_wp2
  all_goals
    have r0 := d2.put0
    have r1 := d2.put1
    have r2 := fun u v => (d3.far (b' := w.heap.size) (by omega) u v).put0
    have r3 := fun u v => (d3.far (b' := w.heap.size) (by omega) u v).put1
    refine bodyPost_ret (by simp [results, Try.results24, go_sem, r0, r1, r2, r3]; try rfl) rfl ?_
    exact ⟨⟨x, y, u, v, rfl, hxy, huv⟩, (((hk4.setCell (p := ⟨w.heap.size, 0, none⟩) (Nat.le_refl _) _).setCell (p := ⟨w.heap.size, 1, none⟩) (Nat.le_refl _) _).setCell (p := ⟨w.heap.size + 1, 0, none⟩) (Nat.le_succ _) _).setCell (p := ⟨w.heap.size + 1, 1, none⟩) (Nat.le_succ _) _⟩
end C
end Go.Proofs.Ytoooliadnjojeaa

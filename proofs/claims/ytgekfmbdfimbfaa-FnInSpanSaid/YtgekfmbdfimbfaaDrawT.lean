/-
  Contracts of the generators of a span and a number, and of two spans. Conditions: none.
-/
import Derived.Test.YtgekfmbdfimbfaaDrawS
namespace Go.Proofs.Ytgekfmbdfimbfaa
open Go.RowKit
namespace C

theorem kdrew (w : World) : K.Kept w w.drew := (Below.refl _ _).drew
theorem Box2.far {w : World} {b b' : Nat} {x y : Value} (h : Box2 w b x y) (hne : b ≠ b') (u v : Value) : Box2 ((w.setCell ⟨b', 0, none⟩ u).setCell ⟨b', 1, none⟩ v) b x y := by
  obtain ⟨h1, h2, h3, h4, h5⟩ := h
  have e : ((w.setCell ⟨b', 0, none⟩ u).setCell ⟨b', 1, none⟩ v).heap[b]? = w.heap[b]? := by
    rw [Below.heap_setCell _ _ _ _ hne, Below.heap_setCell _ _ _ _ hne]
  refine ⟨by rw [World.cell?_of_block (w := w) e]; exact h1, by rw [World.cell?_of_block (w := w) e]; exact h2, by rw [World.frozen?_of_block (w := w) e]; exact h3, by rw [World.frozen?_of_block (w := w) e]; exact h4, ?_⟩
  simpa using h5
/-- Two spans have been drawn; what was there is as it was. -/
theorem drawMeetSpans_c (w : World) (n c : Nat) (A : Option Addr) (h : Code w w.heap.size A n c) :
    Calls Try.prog 30 #[.slice A n c] w fun e w' => (∃ x y u v : Int, e = .returned (.tuple #[.agg #[.int .i64 x, .int .i64 y], .agg #[.int .i64 u, .int .i64 v]]) ∧ (-1 ≤ x ∧ x ≤ 2000000 ∧ -1 ≤ y ∧ y ≤ 2000000) ∧ (-1 ≤ u ∧ u ≤ 2000000 ∧ -1 ≤ v ∧ v ≤ 2000000)) ∧ K.Kept w w' := by
  have b2 := (Box2.new w (.int .i64 0) (.int .i64 0) 25).kept (kept1 _ (.cells #[.int .i64 0, .int .i64 0] 25))
  have b3 := Box2.new (w.alloc (.cells #[.int .i64 0, .int .i64 0] 25)) (.int .i64 0) (.int .i64 0) 25
  rw [show (w.alloc (.cells #[.int .i64 0, .int .i64 0] 25)).heap.size = w.heap.size + 1 by simp] at b3
  have hk0 : K.Kept w ((w.alloc (.cells #[.int .i64 0, .int .i64 0] 25)).alloc (.cells #[.int .i64 0, .int .i64 0] 25)) := K.Kept.trans (kept1 _ _) (kept1 _ _)
  have hc0 := h.kept hk0
  generalize hw0 : (w.alloc (.cells #[.int .i64 0, .int .i64 0] 25)).alloc (.cells #[.int .i64 0, .int .i64 0] 25) = w0 at b2 b3 hc0 hk0
  have s3 := b3.2.2.2.2
  go_enter Try.func30, Try.ntmps30
  go_wp2_with fail
  refine (newReader_c w0 w.heap.size n c A hk0.size hc0).mono ?_
  rintro e w1 ⟨rfl, hr1, hk1⟩
  have hg1 := hr1.lt
  go_wp2_with fail
  refine (anySpan_c w1 _ _ 0 (by omega) hr1).mono ?_
  rintro e w2 ⟨x, y, q, rfl, hxy, hr2, hq, hb2⟩
  have c2 := (b2.kept hk1).but hb2 (by omega)
  have c3 := (b3.kept hk1).but hb2 (by omega)
  have hg2 := hr2.lt
  have hk2 := K.But.below (K.Kept.below hk0 hk1 hk0.size) hb2 (by omega) (by omega)
  have c5 := Box2.new w2 (.int .i64 x) (.int .i64 y) 25
  have hr3 := hr2.kept (kept1 w2 (.cells #[.int .i64 x, .int .i64 y] 25))
  have c2 := c2.kept (kept1 w2 (.cells #[.int .i64 x, .int .i64 y] 25))
  have c3 := c3.kept (kept1 w2 (.cells #[.int .i64 x, .int .i64 y] 25))
  have hk3 := K.Kept.below hk2 (kept1 w2 (.cells #[.int .i64 x, .int .i64 y] 25)) (by omega)
  generalize hw3 : w2.alloc (.cells #[.int .i64 x, .int .i64 y] 25) = w3 at c2 c3 c5 hr3 hk3
  have j2 := c2
  have j3 := c3
  have j5 := c5
  obtain ⟨j20, j21, j22, j23, j24⟩ := j2
  obtain ⟨j30, j31, j32, j33, j34⟩ := j3
  obtain ⟨j50, j51, j52, j53, j54⟩ := j5
  go_wp2_with fail
  go_region_with (first | (go_at_call 52; refine (anySpan_c _ _ _ q (by omega) (hr3.kept (kdrew _))).mono ?_; rintro e w4 ⟨u, v, q', rfl, huv, hr4, hq4, hb4⟩; have t0 : w3.drew.heap.size = w3.heap.size := rfl; have d2 := (c2.kept (kdrew _)).but hb4 (by omega); have d3 := (c3.kept (kdrew _)).but hb4 (by omega); have d5 := (c5.kept (kdrew _)).but hb4 (by omega); have hk4 := K.But.below (K.Kept.below hk3 (kdrew _) (by omega)) hb4 (by omega) (by omega); have i2 := d2; have i3 := d3; have i5 := d5; obtain ⟨i20, i21, i22, i23, i24⟩ := i2; obtain ⟨i30, i31, i32, i33, i34⟩ := i3; obtain ⟨i50, i51, i52, i53, i54⟩ := i5))
  all_goals go_wp2
  all_goals
    have r0 := d2.put0
    have r1 := d2.put1
    have r2 := fun u v => (d3.far (b' := w.heap.size) (by omega) u v).put0
    have r3 := fun u v => (d3.far (b' := w.heap.size) (by omega) u v).put1
    refine bodyPost_ret (by simp [results, Try.results30, go_sem, r0, r1, r2, r3]; try rfl) rfl ?_
    exact ⟨⟨x, y, u, v, rfl, hxy, huv⟩, (((hk4.setCell (p := ⟨w.heap.size, 0, none⟩) (Nat.le_refl _) _).setCell (p := ⟨w.heap.size, 1, none⟩) (Nat.le_refl _) _).setCell (p := ⟨w.heap.size + 1, 0, none⟩) (Nat.le_succ _) _).setCell (p := ⟨w.heap.size + 1, 1, none⟩) (Nat.le_succ _) _⟩
/-- A span and a number have been drawn; what was there is as it was. -/
theorem drawInSpan_c (w : World) (n c : Nat) (A : Option Addr) (h : Code w w.heap.size A n c) :
    Calls Try.prog 29 #[.slice A n c] w fun e w' => (∃ x y z : Int, e = .returned (.tuple #[.agg #[.int .i64 x, .int .i64 y], .int .i64 z])) ∧ K.Kept w w' := by
  have b2 := Box2.new w (.int .i64 0) (.int .i64 0) 25
  have hk0 := kept1 w (.cells #[.int .i64 0, .int .i64 0] 25)
  have hc0 := h.kept hk0
  generalize hw0 : w.alloc (.cells #[.int .i64 0, .int .i64 0] 25) = w0 at b2 hc0 hk0
  go_enter Try.func29, Try.ntmps29
  go_wp2_with fail
  refine (newReader_c w0 w.heap.size n c A hk0.size hc0).mono ?_
  rintro e w1 ⟨rfl, hr1, hk1⟩
  have hg1 := hr1.lt
  go_wp2_with fail
  refine (anySpan_c w1 _ _ 0 (by omega) hr1).mono ?_
  rintro e w2 ⟨x, y, q, rfl, hxy, hr2, hq, hb2⟩
  have s2 := b2.2.2.2.2
  have c2 := (b2.kept hk1).but hb2 (by omega)
  have hg2 := hr2.lt
  have hk2 := K.But.below (K.Kept.below hk0 hk1 hk0.size) hb2 (by have := hk1.size; omega) (by omega)
  have c5 := Box2.new w2 (.int .i64 x) (.int .i64 y) 25
  have hr3 := hr2.kept (kept1 w2 (.cells #[.int .i64 x, .int .i64 y] 25))
  have c2 := c2.kept (kept1 w2 (.cells #[.int .i64 x, .int .i64 y] 25))
  have hk3 := K.Kept.below hk2 (kept1 w2 (.cells #[.int .i64 x, .int .i64 y] 25)) (by omega)
  generalize hw3 : w2.alloc (.cells #[.int .i64 x, .int .i64 y] 25) = w3 at c2 c5 hr3 hk3
  have j2 := c2
  have j5 := c5
  obtain ⟨j20, j21, j22, j23, j24⟩ := j2
  obtain ⟨j50, j51, j52, j53, j54⟩ := j5
  have hs1 : IntKind.i64.wrap (x - 1) = x - 1 := by rw [IntKind.wrap_i64]; omega
  have hs2 : IntKind.i64.wrap (y + 1) = y + 1 := by rw [IntKind.wrap_i64]; omega
  go_wp2_with fail
  have n2 : w2.heap.size ≠ w.heap.size := by omega
  have n3 : w.heap.size ≠ w2.heap.size := by omega
  go_region_held3 (fun w' => w'.cell? ⟨w2.heap.size, 0, none⟩ = some (.int .i64 x) ∧ w'.cell? ⟨w2.heap.size, 1, none⟩ = some (.int .i64 y)) (first | exact ⟨j50, j51⟩ | exact ⟨i50, i51⟩ | go_keep) (first | (go_at_call 54; refine (one_new' (fun _ => true) w3.drew _ _ q 5 _ _ (by omega) (hr3.kept (kdrew _)) (by omega) rfl rfl rfl).mono ?_; rintro e w4 ⟨z, rfl, _, hr4, hb4⟩; have t0 : w3.drew.heap.size = w3.heap.size := rfl; have d2 := (c2.kept (kdrew _)).but hb4 (by omega); have d5 := (c5.kept (kdrew _)).but hb4 (by omega); have hk4 := K.But.below (K.Kept.below hk3 (kdrew _) (by omega)) hb4 (by omega) (by omega); have i2 := d2; have i5 := d5; obtain ⟨i20, i21, i22, i23, i24⟩ := i2; obtain ⟨i50, i51, i52, i53, i54⟩ := i5))
  all_goals go_wp2
  all_goals
    have r0 := d2.put0
    have r1 := d2.put1
    refine bodyPost_ret (by simp [results, Try.results29, go_sem, r0, r1]; try rfl) rfl ?_
    exact ⟨⟨x, y, z, rfl⟩, ((hk4.setCell (p := ⟨w.heap.size, 0, none⟩) (Nat.le_refl _) _).setCell (p := ⟨w.heap.size, 1, none⟩) (Nat.le_refl _) _)⟩
end C
end Go.Proofs.Ytgekfmbdfimbfaa

/-
  MeetSpans returns what the reference returns. Conditions: none.
-/
import Derived.Test.YtoooliadnjojeaaDrawT
import Derived.Test.YtoooliadnjojeaaMeetLaws
namespace Go.Proofs.Ytoooliadnjojeaa
open Go.RowKit
namespace C

/-- Behind a statement that lays a variable: where it lies, what it holds, and what else has stayed. -/
def Laid (w : World) (x y u v l k : Int) (wx : World) (b : Nat) : Prop := Box2 wx b (.int .i64 l) (.int .i64 k) ∧ Box2 wx w.heap.size (.int .i64 x) (.int .i64 y) ∧ Box2 wx (w.heap.size + 1) (.int .i64 u) (.int .i64 v) ∧ K.Kept w wx
theorem Laid.put {w wx : World} {x y u v l k : Int} {b : Nat} {p q : Value} (h0 : Box2 wx b p q) (ha : Box2 wx w.heap.size (.int .i64 x) (.int .i64 y)) (hb : Box2 wx (w.heap.size + 1) (.int .i64 u) (.int .i64 v)) (kw : K.Kept w wx) (_h1 : w.heap.size < b) (h2 : w.heap.size + 1 < b) :
    Laid w x y u v l k ((wx.setCell ⟨b, 0, none⟩ (.int .i64 l)).setCell ⟨b, 1, none⟩ (.int .i64 k)) b :=
  ⟨h0.put _ _, ha.far (by omega) _ _, hb.far (by omega) _ _, (kw.setCell (p := ⟨b, 0, none⟩) (by show w.heap.size ≤ b; omega) _).setCell (p := ⟨b, 1, none⟩) (by show w.heap.size ≤ b; omega) _⟩
theorem Laid.new {w wx : World} {x y u v l k : Int} {T : TypeId} (ha : Box2 wx w.heap.size (.int .i64 x) (.int .i64 y)) (hb : Box2 wx (w.heap.size + 1) (.int .i64 u) (.int .i64 v)) (kw : K.Kept w wx) : Laid w x y u v l k (wx.alloc (.cells #[.int .i64 l, .int .i64 k] T)) wx.heap.size :=
  ⟨Box2.new _ _ _ _, ha.kept (kp1 _ _), hb.kept (kp1 _ _), K.Kept.trans kw (kp1 _ _)⟩
theorem Laid.cells {w wx : World} {x y u v l k : Int} {b : Nat} (h : Laid w x y u v l k wx b) : wx.cell? ⟨w.heap.size, 0, none⟩ = some (.int .i64 x) ∧ wx.cell? ⟨w.heap.size, 1, none⟩ = some (.int .i64 y) ∧ wx.cell? ⟨w.heap.size + 1, 0, none⟩ = some (.int .i64 u) ∧ wx.cell? ⟨w.heap.size + 1, 1, none⟩ = some (.int .i64 v) :=
  ⟨h.2.1.1, h.2.1.2.1, h.2.2.1.1, h.2.2.1.2.1⟩
set_option maxHeartbeats 8000000 in
theorem exactMeetSpans (x y u v : Int) (w : World) : Calls Try.prog 3 #[.agg #[.int .i64 x, .int .i64 y], .agg #[.int .i64 u, .int .i64 v]] w fun e w' => e = .returned (.bool true) ∧ Below w.heap.size w w' := by
  generalize hm : mt x y u v = b
  generalize g1 : mlo x y u v = l
  generalize g2 : mhi x y u v = k
  have bx_a := (Box2.new w (.int .i64 x) (.int .i64 y) 23).kept (kp1 _ (.cells #[.int .i64 u, .int .i64 v] 23))
  have bx_b := Box2.new (w.alloc (.cells #[.int .i64 x, .int .i64 y] 23)) (.int .i64 u) (.int .i64 v) 23
  rw [show (w.alloc (.cells #[.int .i64 x, .int .i64 y] 23)).heap.size = w.heap.size + 1 by simp] at bx_b
  have kw : K.Kept w ((w.alloc (.cells #[.int .i64 x, .int .i64 y] 23)).alloc (.cells #[.int .i64 u, .int .i64 v] 23)) := K.Kept.trans (kp1 _ _) (kp1 _ _)
  generalize hw0 : (w.alloc (.cells #[.int .i64 x, .int .i64 y] 23)).alloc (.cells #[.int .i64 u, .int .i64 v] 23) = w0 at bx_a bx_b kw
  go_enter Try.func3, Try.ntmps3
  go_upto_region 1 with fail
  go_cut [5, 6] (fun p q wx => ∃ d : Nat, p = .pointer (some ⟨d, 0, none⟩) ∧ q = .bool b ∧ Laid w x y u v l k wx d)
  case first =>
    replace kw := K.Kept.trans kw (kdrew _)
    replace bx_a := Box2.drew bx_a
    replace bx_b := Box2.drew bx_b
    obtain ⟨a0, a1, a2, a3, a4⟩ := id bx_a
    obtain ⟨b0, b1, b2, b3, b4⟩ := id bx_b
    go_region_held3 (fun w' => w'.cell? ⟨w.heap.size, 0, none⟩ = some (.int .i64 x) ∧ w'.cell? ⟨w.heap.size, 1, none⟩ = some (.int .i64 y) ∧ w'.cell? ⟨w.heap.size + 1, 0, none⟩ = some (.int .i64 u) ∧ w'.cell? ⟨w.heap.size + 1, 1, none⟩ = some (.int .i64 v)) (first | exact ⟨a0, a1, b0, b1⟩ | exact Laid.cells (Laid.put y0 bx_a bx_b kw ya yb) | exact Laid.cells (Laid.new bx_a bx_b kw) | go_keep) (first | (go_at_call 16; refine (toSpan_k _ _ _).mono ?_; rintro e wv ⟨rfl, kk⟩; (try replace kk : K.Kept ((World.drew w0).alloc (.cells #[.int .i64 0, .int .i64 0] 24)) _ := kk); (first | (replace y0 := Box2.kept y0 kk; replace bx_a := Box2.kept bx_a kk; replace bx_b := Box2.kept bx_b kk; replace kw := K.Kept.trans kw kk) | (have y0 := Box2.kept (Box2.new _ _ _ _) kk; (try replace y0 : Box2 _ w0.heap.size _ _ := y0); have ya := bx_a.2.2.2.2; have yb := bx_b.2.2.2.2; have yk := kw.size; replace bx_a := Box2.kept (Box2.kept bx_a (kp1 _ _)) kk; replace bx_b := Box2.kept (Box2.kept bx_b (kp1 _ _)) kk; replace kw := K.Kept.trans kw (K.Kept.trans (kp1 _ _) kk)) | (replace bx_a := Box2.kept bx_a kk; replace bx_b := Box2.kept bx_b kk; replace kw := K.Kept.trans kw kk)); clear kk a0 a1 a2 a3 a4 b0 b1 b2 b3 b4; obtain ⟨a0, a1, a2, a3, a4⟩ := id bx_a; obtain ⟨b0, b1, b2, b3, b4⟩ := id bx_b; (try obtain ⟨y1, y2, y3, y4, y5⟩ := id y0)) | (go_at_call 15; refine (meetS x y u v l k b _ hm g1 g2).mono ?_; rintro e wv ⟨rfl, kk⟩; (try replace kk : K.Kept ((World.drew w0).alloc (.cells #[.int .i64 0, .int .i64 0] 24)) _ := kk); (first | (replace y0 := Box2.kept y0 kk; replace bx_a := Box2.kept bx_a kk; replace bx_b := Box2.kept bx_b kk; replace kw := K.Kept.trans kw kk) | (have y0 := Box2.kept (Box2.new _ _ _ _) kk; (try replace y0 : Box2 _ w0.heap.size _ _ := y0); have ya := bx_a.2.2.2.2; have yb := bx_b.2.2.2.2; have yk := kw.size; replace bx_a := Box2.kept (Box2.kept bx_a (kp1 _ _)) kk; replace bx_b := Box2.kept (Box2.kept bx_b (kp1 _ _)) kk; replace kw := K.Kept.trans kw (K.Kept.trans (kp1 _ _) kk)) | (replace bx_a := Box2.kept bx_a kk; replace bx_b := Box2.kept bx_b kk; replace kw := K.Kept.trans kw kk)); clear kk a0 a1 a2 a3 a4 b0 b1 b2 b3 b4; obtain ⟨a0, a1, a2, a3, a4⟩ := id bx_a; obtain ⟨b0, b1, b2, b3, b4⟩ := id bx_b; (try obtain ⟨y1, y2, y3, y4, y5⟩ := id y0)))
    all_goals go_wp2
    all_goals go_meet
    all_goals first | exact ⟨_, rfl, rfl, Laid.put y0 bx_a bx_b kw ya yb⟩ | exact ⟨_, rfl, rfl, Laid.new bx_a bx_b kw⟩
  case rest =>
    clear hw0 bx_a bx_b kw
    obtain ⟨br, rfl, rfl, bx_r, bx_a, bx_b, kw⟩ := hcut
    go_upto_region 2 with fail
    go_cut [7, 8] (fun p q wx => ∃ d : Nat, p = .pointer (some ⟨d, 0, none⟩) ∧ q = .bool b ∧ Laid w x y u v l k wx d ∧ Box2 wx br (.int .i64 l) (.int .i64 k))
    case first =>
      obtain ⟨wd, hwd⟩ : ∃ wd, wd = wc := ⟨_, rfl⟩
      subst hwd
      have nr := bx_r.2.2.2.2
      replace kw := K.Kept.trans kw (kdrew _)
      replace bx_a := Box2.drew bx_a
      replace bx_b := Box2.drew bx_b
      replace bx_r := Box2.drew bx_r
      obtain ⟨a0, a1, a2, a3, a4⟩ := id bx_a
      obtain ⟨b0, b1, b2, b3, b4⟩ := id bx_b
      go_region_held3 (fun w' => w'.cell? ⟨w.heap.size, 0, none⟩ = some (.int .i64 x) ∧ w'.cell? ⟨w.heap.size, 1, none⟩ = some (.int .i64 y) ∧ w'.cell? ⟨w.heap.size + 1, 0, none⟩ = some (.int .i64 u) ∧ w'.cell? ⟨w.heap.size + 1, 1, none⟩ = some (.int .i64 v)) (first | exact ⟨a0, a1, b0, b1⟩ | exact Laid.cells (Laid.put y0 bx_a bx_b kw ya yb) | exact Laid.cells (Laid.new bx_a bx_b kw) | go_keep) (first | (go_at_call 16; refine (toSpan_k _ _ _).mono ?_; rintro e wv ⟨rfl, kk⟩; (try replace kk : K.Kept ((World.drew wd).alloc (.cells #[.int .i64 0, .int .i64 0] 24)) _ := kk); (first | (replace y0 := Box2.kept y0 kk; replace bx_a := Box2.kept bx_a kk; replace bx_b := Box2.kept bx_b kk; replace bx_r := Box2.kept bx_r kk; replace kw := K.Kept.trans kw kk) | (have y0 := Box2.kept (Box2.new _ _ _ _) kk; (try replace y0 : Box2 _ wd.heap.size _ _ := y0); have ya := bx_a.2.2.2.2; have yb := bx_b.2.2.2.2; have yr := bx_r.2.2.2.2; have yk := kw.size; replace bx_a := Box2.kept (Box2.kept bx_a (kp1 _ _)) kk; replace bx_b := Box2.kept (Box2.kept bx_b (kp1 _ _)) kk; replace bx_r := Box2.kept (Box2.kept bx_r (kp1 _ _)) kk; replace kw := K.Kept.trans kw (K.Kept.trans (kp1 _ _) kk)) | (replace bx_a := Box2.kept bx_a kk; replace bx_b := Box2.kept bx_b kk; replace bx_r := Box2.kept bx_r kk; replace kw := K.Kept.trans kw kk)); clear kk a0 a1 a2 a3 a4 b0 b1 b2 b3 b4; obtain ⟨a0, a1, a2, a3, a4⟩ := id bx_a; obtain ⟨b0, b1, b2, b3, b4⟩ := id bx_b; (try obtain ⟨y1, y2, y3, y4, y5⟩ := id y0)) | (go_at_call 17; refine (meetI x y u v l k b _ hm g1 g2).mono ?_; rintro e wv ⟨rfl, kk⟩; (try replace kk : K.Kept ((World.drew wd).alloc (.cells #[.int .i64 0, .int .i64 0] 24)) _ := kk); (first | (replace y0 := Box2.kept y0 kk; replace bx_a := Box2.kept bx_a kk; replace bx_b := Box2.kept bx_b kk; replace bx_r := Box2.kept bx_r kk; replace kw := K.Kept.trans kw kk) | (have y0 := Box2.kept (Box2.new _ _ _ _) kk; (try replace y0 : Box2 _ wd.heap.size _ _ := y0); have ya := bx_a.2.2.2.2; have yb := bx_b.2.2.2.2; have yr := bx_r.2.2.2.2; have yk := kw.size; replace bx_a := Box2.kept (Box2.kept bx_a (kp1 _ _)) kk; replace bx_b := Box2.kept (Box2.kept bx_b (kp1 _ _)) kk; replace bx_r := Box2.kept (Box2.kept bx_r (kp1 _ _)) kk; replace kw := K.Kept.trans kw (K.Kept.trans (kp1 _ _) kk)) | (replace bx_a := Box2.kept bx_a kk; replace bx_b := Box2.kept bx_b kk; replace bx_r := Box2.kept bx_r kk; replace kw := K.Kept.trans kw kk)); clear kk a0 a1 a2 a3 a4 b0 b1 b2 b3 b4; obtain ⟨a0, a1, a2, a3, a4⟩ := id bx_a; obtain ⟨b0, b1, b2, b3, b4⟩ := id bx_b; (try obtain ⟨y1, y2, y3, y4, y5⟩ := id y0)))
      all_goals go_wp2
      all_goals go_meet
      all_goals first | exact ⟨_, rfl, rfl, Laid.put y0 bx_a bx_b kw ya yb, Box2.far bx_r (by omega) _ _⟩ | exact ⟨_, rfl, rfl, Laid.new bx_a bx_b kw, Box2.kept bx_r (kp1 _ _)⟩
    case rest =>
      clear bx_a bx_b bx_r kw
      obtain ⟨bg, rfl, rfl, ⟨bx_g, bx_a, bx_b, kw⟩, bx_r⟩ := hcut
      obtain ⟨r0, r1, r2, r3, r4⟩ := id bx_r
      obtain ⟨q0, q1, q2, q3, q4⟩ := id bx_g
      go_wp2_with (go_at_call 18; refine (eqSpan_c _ _ _ _ _).mono ?_; rintro e w' ⟨rfl, rfl⟩)
      all_goals go_ret
      all_goals exact ⟨rfl, K.Kept.trans kw (by go_grown)⟩
end C
end Go.Proofs.Ytoooliadnjojeaa

/-
  The laws of MeetSpans, for every code. Conditions: none.
-/
import Derived.Test.YtgekfmbdfimbfaaDrawT
namespace Go.Proofs.Ytgekfmbdfimbfaa
open Go.RowKit
namespace C

theorem meetI (x y u v p q : Int) (b : Bool) (w : World) (hb : mt x y u v = b) (hp : mlo x y u v = p) (hq : mhi x y u v = q) : Calls Try.prog 26 #[.agg #[.int .i64 x, .int .i64 y], .agg #[.int .i64 u, .int .i64 v]] w fun e w' => e = .returned (.tuple #[.agg #[.int .i64 p, .int .i64 q], .bool b]) ∧ K.Kept w w' := by
  subst hb hp hq
  exact meetSpans_i x y u v w
theorem meetS (x y u v p q : Int) (b : Bool) (w : World) (hb : mt x y u v = b) (hp : mlo x y u v = p) (hq : mhi x y u v = q) : Calls Try.prog 25 #[.agg #[.int .i64 x, .int .i64 y], .agg #[.int .i64 u, .int .i64 v]] w fun e w' => e = .returned (.tuple #[.agg #[.int .i64 p, .int .i64 q], .bool b]) ∧ K.Kept w w' := by
  subst hb hp hq
  exact meetSpans_s x y u v w
theorem mt_true {x y u v : Int} (h : mt x y u v = true) : vsp x y = true ∧ vsp u v = true ∧ max x u ≤ min y v := by
  unfold mt at h; simp only [Bool.and_eq_true, decide_eq_true_eq] at h; exact ⟨h.1.1, h.1.2, h.2⟩
theorem mt_self {x y : Int} (h : vsp x y = true) : mt x y x y = true ∧ mlo x y x y = x ∧ mhi x y x y = y := by
  have v := vsp_true.1 h
  have hm : mt x y x y = true := mt_of h h (decide_eq_true (by omega))
  have := mt_yes hm
  exact ⟨hm, by rw [this.1]; omega, by rw [this.2]; omega⟩
theorem mt_part {x y u v : Int} (h : mt x y u v = true) : vsp (max x u) (min y v) = true ∧ mt x y (max x u) (min y v) = true ∧ mlo x y (max x u) (min y v) = max x u ∧ mhi x y (max x u) (min y v) = min y v := by
  obtain ⟨h1, h2, h3⟩ := mt_true h
  have v1 := vsp_true.1 h1
  have v2 := vsp_true.1 h2
  have hs : vsp (max x u) (min y v) = true := vsp_true.2 (by omega)
  have hm : mt x y (max x u) (min y v) = true := mt_of h1 hs (decide_eq_true (by omega))
  have := mt_yes hm
  exact ⟨hs, hm, by rw [this.1]; omega, by rw [this.2]; omega⟩
theorem meetSpansSelfLaw (w : World) (n c : Nat) (A : Option Addr) (h : Code w w.heap.size A n c) : Calls Try.prog 8 #[.slice A n c] w fun e w' => e = .returned (.bool true) ∧ Below w.heap.size w w' := by
  by_cases hn : 1048576 < n
  · go_enter Try.func8, Try.ntmps8
    go_wp2
    go_ret
    exact ⟨rfl, Below.refl _ _⟩
  have hc := h
  unfold Code maxLen at hc
  have hn' : n ≤ 1048576 := by omega
  clear hc hn
  go_enter Try.func8, Try.ntmps8
  go_wp2_with fail
  refine (drawMeetSpans_c w n c A h).mono ?_
  rintro e w1 ⟨⟨x, y, u, v, rfl, hxy, huv⟩, hk⟩
  clear h hn' hxy huv
  cases hm : mt x y u v
  · generalize g1 : mlo x y u v = l
    generalize g2 : mhi x y u v = k
    have kx : K.Kept w1 ((w1.alloc (.cells #[.int .i64 x, .int .i64 y] 25)).alloc (.cells #[.int .i64 u, .int .i64 v] 25)) := (K.Kept.trans (kept1 _ _) (kept1 _ _))
    have ba := Box2.new w1 (.int .i64 x) (.int .i64 y) 25
    have ba := ba.kept (kept1 _ (.cells #[.int .i64 u, .int .i64 v] 25))
    have bb := Box2.new (w1.alloc (.cells #[.int .i64 x, .int .i64 y] 25)) (.int .i64 u) (.int .i64 v) 25
    rw [show (w1.alloc (.cells #[.int .i64 x, .int .i64 y] 25)).heap.size = w1.heap.size + 1 by simp] at bb
    have hk := K.Kept.below hk kx hk.size
    clear kx
    generalize hy1 : ((w1.alloc (.cells #[.int .i64 x, .int .i64 y] 25)).alloc (.cells #[.int .i64 u, .int .i64 v] 25)) = y1 at ba bb hk
    obtain ⟨ba0, ba1, ba2, ba3, ba4⟩ := id ba
    obtain ⟨bb0, bb1, bb2, bb3, bb4⟩ := id bb
    go_wp2_with fail
    refine (meetI x y u v l k false _ hm g1 g2).mono ?_
    rintro e y2 ⟨rfl, kx⟩
    clear ba0 ba1 ba2 ba3 ba4
    clear bb0 bb1 bb2 bb3 bb4
    have ba := ba.kept kx
    have bb := bb.kept kx
    have hk := K.Kept.below hk kx hk.size
    clear kx
    have kx : K.Kept y2 (y2.alloc (.cells #[.int .i64 l, .int .i64 k] 25)) := (kept1 _ _)
    have ba := ba.kept kx
    have bb := bb.kept kx
    have bs := Box2.new y2 (.int .i64 l) (.int .i64 k) 25
    have hk := K.Kept.below hk kx hk.size
    clear kx
    generalize hy3 : (y2.alloc (.cells #[.int .i64 l, .int .i64 k] 25)) = y3 at ba bb bs hk
    obtain ⟨ba0, ba1, ba2, ba3, ba4⟩ := id ba
    obtain ⟨bb0, bb1, bb2, bb3, bb4⟩ := id bb
    obtain ⟨bs0, bs1, bs2, bs3, bs4⟩ := id bs
    go_wp2_with fail
    refine (meetS x y u v l k false _ hm g1 g2).mono ?_
    rintro e y4 ⟨rfl, kx⟩
    clear ba0 ba1 ba2 ba3 ba4
    clear bb0 bb1 bb2 bb3 bb4
    clear bs0 bs1 bs2 bs3 bs4
    have ba := ba.kept kx
    have bb := bb.kept kx
    have bs := bs.kept kx
    have hk := K.Kept.below hk kx hk.size
    clear kx
    have kx : K.Kept y4 (y4.alloc (.cells #[.int .i64 l, .int .i64 k] 25)) := (kept1 _ _)
    have ba := ba.kept kx
    have bb := bb.kept kx
    have bs := bs.kept kx
    have bt := Box2.new y4 (.int .i64 l) (.int .i64 k) 25
    have hk := K.Kept.below hk kx hk.size
    clear kx
    generalize hy5 : (y4.alloc (.cells #[.int .i64 l, .int .i64 k] 25)) = y5 at ba bb bs bt hk
    obtain ⟨ba0, ba1, ba2, ba3, ba4⟩ := id ba
    obtain ⟨bb0, bb1, bb2, bb3, bb4⟩ := id bb
    obtain ⟨bs0, bs1, bs2, bs3, bs4⟩ := id bs
    obtain ⟨bt0, bt1, bt2, bt3, bt4⟩ := id bt
    go_wp2
    go_ret
    exact ⟨rfl, K.Kept.below hk (by go_grown) hk.size⟩
  · obtain ⟨g1, g2⟩ := mt_yes hm
    obtain ⟨v1, v2, v3⟩ := mt_true hm
    obtain ⟨p1, p2, p3, p4⟩ := mt_part hm
    obtain ⟨q1, q2, q3⟩ := mt_self v1
    generalize max x u = l at *
    generalize min y v = k at *
    clear v3
    have kx : K.Kept w1 ((w1.alloc (.cells #[.int .i64 x, .int .i64 y] 25)).alloc (.cells #[.int .i64 u, .int .i64 v] 25)) := (K.Kept.trans (kept1 _ _) (kept1 _ _))
    have ba := Box2.new w1 (.int .i64 x) (.int .i64 y) 25
    have ba := ba.kept (kept1 _ (.cells #[.int .i64 u, .int .i64 v] 25))
    have bb := Box2.new (w1.alloc (.cells #[.int .i64 x, .int .i64 y] 25)) (.int .i64 u) (.int .i64 v) 25
    rw [show (w1.alloc (.cells #[.int .i64 x, .int .i64 y] 25)).heap.size = w1.heap.size + 1 by simp] at bb
    have hk := K.Kept.below hk kx hk.size
    clear kx
    generalize hy1 : ((w1.alloc (.cells #[.int .i64 x, .int .i64 y] 25)).alloc (.cells #[.int .i64 u, .int .i64 v] 25)) = y1 at ba bb hk
    obtain ⟨ba0, ba1, ba2, ba3, ba4⟩ := id ba
    obtain ⟨bb0, bb1, bb2, bb3, bb4⟩ := id bb
    go_wp2_with fail
    refine (meetI x y u v l k true _ hm g1 g2).mono ?_
    rintro e y2 ⟨rfl, kx⟩
    clear ba0 ba1 ba2 ba3 ba4
    clear bb0 bb1 bb2 bb3 bb4
    have ba := ba.kept kx
    have bb := bb.kept kx
    have hk := K.Kept.below hk kx hk.size
    clear kx
    have kx : K.Kept y2 (y2.alloc (.cells #[.int .i64 l, .int .i64 k] 25)) := (kept1 _ _)
    have ba := ba.kept kx
    have bb := bb.kept kx
    have bs := Box2.new y2 (.int .i64 l) (.int .i64 k) 25
    have hk := K.Kept.below hk kx hk.size
    clear kx
    generalize hy3 : (y2.alloc (.cells #[.int .i64 l, .int .i64 k] 25)) = y3 at ba bb bs hk
    obtain ⟨ba0, ba1, ba2, ba3, ba4⟩ := id ba
    obtain ⟨bb0, bb1, bb2, bb3, bb4⟩ := id bb
    obtain ⟨bs0, bs1, bs2, bs3, bs4⟩ := id bs
    go_wp2_with fail
    refine (meetS x y u v l k true _ hm g1 g2).mono ?_
    rintro e y4 ⟨rfl, kx⟩
    clear ba0 ba1 ba2 ba3 ba4
    clear bb0 bb1 bb2 bb3 bb4
    clear bs0 bs1 bs2 bs3 bs4
    have ba := ba.kept kx
    have bb := bb.kept kx
    have bs := bs.kept kx
    have hk := K.Kept.below hk kx hk.size
    clear kx
    have kx : K.Kept y4 (y4.alloc (.cells #[.int .i64 l, .int .i64 k] 25)) := (kept1 _ _)
    have ba := ba.kept kx
    have bb := bb.kept kx
    have bs := bs.kept kx
    have bt := Box2.new y4 (.int .i64 l) (.int .i64 k) 25
    have hk := K.Kept.below hk kx hk.size
    clear kx
    generalize hy5 : (y4.alloc (.cells #[.int .i64 l, .int .i64 k] 25)) = y5 at ba bb bs bt hk
    obtain ⟨ba0, ba1, ba2, ba3, ba4⟩ := id ba
    obtain ⟨bb0, bb1, bb2, bb3, bb4⟩ := id bb
    obtain ⟨bs0, bs1, bs2, bs3, bs4⟩ := id bs
    obtain ⟨bt0, bt1, bt2, bt3, bt4⟩ := id bt
    go_wp2_with fail
    refine (meetI x y x y x y true _ q1 q2 q3).mono ?_
    rintro e y6 ⟨rfl, kx⟩
    clear ba0 ba1 ba2 ba3 ba4
    clear bb0 bb1 bb2 bb3 bb4
    clear bs0 bs1 bs2 bs3 bs4
    clear bt0 bt1 bt2 bt3 bt4
    have ba := ba.kept kx
    have bb := bb.kept kx
    have bs := bs.kept kx
    have bt := bt.kept kx
    have hk := K.Kept.below hk kx hk.size
    clear kx
    have kx : K.Kept y6 (y6.alloc (.cells #[.int .i64 x, .int .i64 y] 25)) := (kept1 _ _)
    have ba := ba.kept kx
    have bb := bb.kept kx
    have bs := bs.kept kx
    have bt := bt.kept kx
    have bx := Box2.new y6 (.int .i64 x) (.int .i64 y) 25
    have hk := K.Kept.below hk kx hk.size
    clear kx
    generalize hy7 : (y6.alloc (.cells #[.int .i64 x, .int .i64 y] 25)) = y7 at ba bb bs bt bx hk
    obtain ⟨ba0, ba1, ba2, ba3, ba4⟩ := id ba
    obtain ⟨bb0, bb1, bb2, bb3, bb4⟩ := id bb
    obtain ⟨bs0, bs1, bs2, bs3, bs4⟩ := id bs
    obtain ⟨bt0, bt1, bt2, bt3, bt4⟩ := id bt
    obtain ⟨bx0, bx1, bx2, bx3, bx4⟩ := id bx
    go_wp2_with fail
    refine (meetI x y l k l k true _ p2 p3 p4).mono ?_
    rintro e y8 ⟨rfl, kx⟩
    clear ba0 ba1 ba2 ba3 ba4
    clear bb0 bb1 bb2 bb3 bb4
    clear bs0 bs1 bs2 bs3 bs4
    clear bt0 bt1 bt2 bt3 bt4
    clear bx0 bx1 bx2 bx3 bx4
    have ba := ba.kept kx
    have bb := bb.kept kx
    have bs := bs.kept kx
    have bt := bt.kept kx
    have bx := bx.kept kx
    have hk := K.Kept.below hk kx hk.size
    clear kx
    have kx : K.Kept y8 (y8.alloc (.cells #[.int .i64 l, .int .i64 k] 25)) := (kept1 _ _)
    have ba := ba.kept kx
    have bb := bb.kept kx
    have bs := bs.kept kx
    have bt := bt.kept kx
    have bx := bx.kept kx
    have bz := Box2.new y8 (.int .i64 l) (.int .i64 k) 25
    have hk := K.Kept.below hk kx hk.size
    clear kx
    generalize hy9 : (y8.alloc (.cells #[.int .i64 l, .int .i64 k] 25)) = y9 at ba bb bs bt bx bz hk
    obtain ⟨ba0, ba1, ba2, ba3, ba4⟩ := id ba
    obtain ⟨bb0, bb1, bb2, bb3, bb4⟩ := id bb
    obtain ⟨bs0, bs1, bs2, bs3, bs4⟩ := id bs
    obtain ⟨bt0, bt1, bt2, bt3, bt4⟩ := id bt
    obtain ⟨bx0, bx1, bx2, bx3, bx4⟩ := id bx
    obtain ⟨bz0, bz1, bz2, bz3, bz4⟩ := id bz
    go_wp2_with (first | (go_at_call 22; refine (validSpan_i _ _ _).mono ?_; rintro e w' ⟨rfl, rfl⟩))
    go_ret
    exact ⟨rfl, K.Kept.below hk (by go_grown) hk.size⟩
end C
end Go.Proofs.Ytgekfmbdfimbfaa

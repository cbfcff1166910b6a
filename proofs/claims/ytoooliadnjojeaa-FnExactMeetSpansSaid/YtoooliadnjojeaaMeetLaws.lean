/-
  The laws of MeetSpans, for every code. Conditions: none.
-/
import Derived.Test.YtoooliadnjojeaaDrawT
namespace Go.Proofs.Ytoooliadnjojeaa
open Go.RowKit
namespace C

theorem meetI (x y u v p q : Int) (b : Bool) (w : World) (hb : mt x y u v = b) (hp : mlo x y u v = p) (hq : mhi x y u v = q) : Calls Try.prog 17 #[.agg #[.int .i64 x, .int .i64 y], .agg #[.int .i64 u, .int .i64 v]] w fun e w' => e = .returned (.tuple #[.agg #[.int .i64 p, .int .i64 q], .bool b]) ∧ K.Kept w w' := by
  subst hb hp hq
  exact meetSpans_i x y u v w
theorem meetS (x y u v p q : Int) (b : Bool) (w : World) (hb : mt x y u v = b) (hp : mlo x y u v = p) (hq : mhi x y u v = q) : Calls Try.prog 15 #[.agg #[.int .i64 x, .int .i64 y], .agg #[.int .i64 u, .int .i64 v]] w fun e w' => e = .returned (.tuple #[.agg #[.int .i64 p, .int .i64 q], .bool b]) ∧ K.Kept w w' := by
  subst hb hp hq
  exact meetSpans_s x y u v w
theorem mt_true {x y u v : Int} (h : mt x y u v = true) : vsp x y = true ∧ vsp u v = true ∧ max x u ≤ min y v := by
  unfold mt at h; simp only [Bool.and_eq_true, decide_eq_true_eq] at h; exact ⟨h.1.1, h.1.2, h.2⟩
theorem mt_self {x y : Int} (h : vsp x y = true) : mt x y x y = true ∧ mlo x y x y = x ∧ mhi x y x y = y := by
  have v := vsp_true.1 h
  have hm : mt x y x y = true := mt_of h h (decide_eq_true (by omega))
  have := mt_yes hm
  exact ⟨hm, by rw [this.1]; omega, by rw [this.2]; omega⟩
theorem mt_part {x y u v : Int} (h : mt x y u v = true) : vsp (max x u) (min y v) = true ∧ mt x y (max x u) (min y v) = true ∧ mlo x y (max x u) (min y v) = max x u ∧ mhi x y (max x u) (min y v) = min y v := by
  obtain ⟨h1, h2, h3⟩ := mt_true h
  have v1 := vsp_true.1 h1
  have v2 := vsp_true.1 h2
  have hs : vsp (max x u) (min y v) = true := vsp_true.2 (by omega)
  have hm : mt x y (max x u) (min y v) = true := mt_of h1 hs (decide_eq_true (by omega))
  have := mt_yes hm
  exact ⟨hs, hm, by rw [this.1]; omega, by rw [this.2]; omega⟩
end C
end Go.Proofs.Ytoooliadnjojeaa

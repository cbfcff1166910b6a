/-
  Contracts of the functions on one span and on two. Conditions: none.
-/
import Derived.Test.YtdhecblljcdpdaaNum
namespace Go.Proofs.Ytdhecblljcdpdaa
open Go.RowKit
namespace C

/-- A span is valid. -/
def vsp (x y : Int) : Bool := decide (0 ≤ x ∧ x ≤ 1000000 ∧ x ≤ y ∧ y ≤ 1000000)
theorem vsp_true {x y : Int} : vsp x y = true ↔ 0 ≤ x ∧ x ≤ 1000000 ∧ x ≤ y ∧ y ≤ 1000000 := by simp [vsp]
theorem vsp_wi (x y : Int) : vsp x y = (wi x 0 1000000 && wi y x 1000000) := by
  unfold vsp wi; rw [Bool.eq_iff_iff]; simp; omega
/-- What MeetSpans returns: the span, and whether there is one. -/
def mt (x y u v : Int) : Bool := vsp x y && vsp u v && decide (max x u ≤ min y v)
def mlo (x y u v : Int) : Int := if mt x y u v = true then max x u else 0
def mhi (x y u v : Int) : Int := if mt x y u v = true then min y v else 0
def MeetPost (x y u v : Int) (w : World) (e : Ending) (w' : World) : Prop := e = .returned (.tuple #[.agg #[.int .i64 (mlo x y u v), .int .i64 (mhi x y u v)], .bool (mt x y u v)]) ∧ K.Kept w w'
theorem mt_no {x y u v : Int} (h : mt x y u v = false) : mlo x y u v = 0 ∧ mhi x y u v = 0 := by simp [mlo, mhi, h]
theorem mt_yes {x y u v : Int} (h : mt x y u v = true) : mlo x y u v = max x u ∧ mhi x y u v = min y v := by simp [mlo, mhi, h]
theorem mt_of {x y u v : Int} {b : Bool} (h1 : vsp x y = true) (h2 : vsp u v = true) (h3 : decide (max x u ≤ min y v) = b) : mt x y u v = b := by rw [mt, h1, h2, h3]; rfl
end C
end Go.Proofs.Ytdhecblljcdpdaa

/-
  The statements on one span and two, whole: MeetSpans and its kind return what the reference returns. Conditions: none.
-/
import Derived.Test.YtgekfmbdfimbfaaSpanB
namespace Go.Proofs.Ytgekfmbdfimbfaa
open Go.RowKit
namespace C

theorem exactValidSpan (x y : Int) (w : World) : Calls Try.prog 3 #[.agg #[.int .i64 x, .int .i64 y]] w fun e w' => e = .returned (.bool true) ∧ Below w.heap.size w w' := by
  go_enter Try.func3, Try.ntmps3
  go_wp2_with (first | (go_at_call 21; refine (toSpan_c _ _ _).mono ?_; rintro e w' ⟨rfl, rfl⟩) | (go_at_call 22; refine (validSpan_i _ _ _).mono ?_; rintro e w' ⟨rfl, rfl⟩) | (go_at_call 20; refine (ValidSpan_s _ _ _).mono ?_; rintro e w' ⟨rfl, rfl⟩))
  go_ret
  exact ⟨rfl, by go_grown⟩
theorem exactInSpan (x y n : Int) (w : World) : Calls Try.prog 4 #[.agg #[.int .i64 x, .int .i64 y], .int .i64 n] w fun e w' => e = .returned (.bool true) ∧ Below w.heap.size w w' := by
  go_enter Try.func4, Try.ntmps4
  go_wp2_with (first | (go_at_call 21; refine (toSpan_c _ _ _).mono ?_; rintro e w' ⟨rfl, rfl⟩) | (go_at_call 24; refine (inSpan_i _ _ _ _).mono ?_; rintro e w' ⟨rfl, rfl⟩) | (go_at_call 23; refine (inSpan_s _ _ _ _).mono ?_; rintro e w' ⟨rfl, rfl⟩))
  go_ret
  exact ⟨rfl, by go_grown⟩
end C
end Go.Proofs.Ytgekfmbdfimbfaa

/-
  Contracts of the functions on plain numbers: ranges, per mille, rounding. Conditions: none.
-/
import Derived.Test.YtapjlbcpfemeiaaKit
import Derived.Test.YtapjlbcpfemeiaaProg
namespace Go.Proofs.Ytapjlbcpfemeiaa
open Go.RowKit
namespace C

/-- A number is in a range. -/
def wi (n l h : Int) : Bool := decide (l ≤ n ∧ n ≤ h)
theorem wi_true {n l h : Int} : wi n l h = true ↔ l ≤ n ∧ n ≤ h := by simp [wi]
theorem wi_false {n l h : Int} : wi n l h = false ↔ n < l ∨ h < n := by simp [wi]; omega
theorem within_c (n l h : Int) (w : World) :
    Calls Try.prog 55 #[.int .i64 n, .int .i64 l, .int .i64 h] w fun e w' => e = .returned (.bool (wi n l h)) ∧ w = w' := by
  go_enter Try.func55, Try.ntmps55
  go_wp2
  all_goals go_ret
  all_goals exact ⟨K.rb (by unfold wi; rw [Bool.eq_iff_iff]; simp; omega), rfl⟩
theorem inRange_c (n l h : Int) (w : World) :
    Calls Try.prog 84 #[.int .i64 n, .int .i64 l, .int .i64 h] w fun e w' => e = .returned (.bool (wi n l h)) ∧ w = w' := by
  go_enter Try.func84, Try.ntmps84
  go_wp2
  all_goals go_ret
  all_goals exact ⟨K.rb (by unfold wi; rw [Bool.eq_iff_iff]; simp; omega), rfl⟩
theorem money_c (n : Int) (w : World) :
    Calls Try.prog 82 #[.int .i64 n] w fun e w' => e = .returned (.bool (wi n 0 1000000)) ∧ w = w' := by
  go_enter Try.func82, Try.ntmps82
  go_wp2_with (go_at_call 55; refine (within_c _ _ _ _).mono ?_; rintro e w' ⟨rfl, rfl⟩)
  go_ret
  exact ⟨rfl, rfl⟩
end C
end Go.Proofs.Ytapjlbcpfemeiaa

/-
  Contracts of the functions on plain numbers: ranges, per mille, rounding. Conditions: none.
-/
import Derived.Test.YtdhecblljcdpdaaKit
import Derived.Test.YtdhecblljcdpdaaProg
namespace Go.Proofs.Ytdhecblljcdpdaa
open Go.RowKit
namespace C

/-- A number is in a range. -/
def wi (n l h : Int) : Bool := decide (l ≤ n ∧ n ≤ h)
theorem wi_true {n l h : Int} : wi n l h = true ↔ l ≤ n ∧ n ≤ h := by simp [wi]
theorem wi_false {n l h : Int} : wi n l h = false ↔ n < l ∨ h < n := by simp [wi]; omega
theorem within_c (n l h : Int) (w : World) :
    Calls Try.prog 41 #[.int .i64 n, .int .i64 l, .int .i64 h] w fun e w' => e = .returned (.bool (wi n l h)) ∧ w = w' := by
  go_enter Try.func41, Try.ntmps41
  go_wp2
  all_goals go_ret
  all_goals exact ⟨K.rb (by unfold wi; rw [Bool.eq_iff_iff]; simp; omega), rfl⟩
theorem inRange_c (n l h : Int) (w : World) :
    Calls Try.prog 52 #[.int .i64 n, .int .i64 l, .int .i64 h] w fun e w' => e = .returned (.bool (wi n l h)) ∧ w = w' := by
  go_enter Try.func52, Try.ntmps52
  go_wp2
  all_goals go_ret
  all_goals exact ⟨K.rb (by unfold wi; rw [Bool.eq_iff_iff]; simp; omega), rfl⟩
end C
end Go.Proofs.Ytdhecblljcdpdaa

/-
  Contracts of PerMille and RoundTo, of the program and of the reference: each returns the same plain function. Conditions: none.
-/
import Derived.Test.YtcgaffhoggkbkaaNum
namespace Go.Proofs.Ytcgaffhoggkbkaa
open Go.RowKit
namespace C

def pm (a r : Int) : Int := if wi a 0 1000000 = true ∧ wi r 0 1000 = true then a * r / 1000 else -1
def rt (a s : Int) : Int := if wi a 0 1000000 = true ∧ wi s 1 1000000 = true then (2 * a + s) / (2 * s) * s else -1
theorem mul_bd {a r A B : Int} (h0 : 0 ≤ a) (h1 : a ≤ A) (h2 : 0 ≤ r) (h3 : r ≤ B) : 0 ≤ a * r ∧ a * r ≤ A * B :=
  ⟨Int.mul_nonneg h0 h2, Int.mul_le_mul h1 h3 h2 (by omega)⟩
theorem rt_bd {a s : Int} (h0 : 0 ≤ a) (h1 : a ≤ 1000000) (h2 : 1 ≤ s) (h3 : s ≤ 1000000) : 0 ≤ (2 * a + s) / (2 * s) ∧ (2 * a + s) / (2 * s) ≤ 3000000 ∧ 0 ≤ (2 * a + s) / (2 * s) * s ∧ (2 * a + s) / (2 * s) * s ≤ 3000000000000 := by
  have e0 : 0 ≤ (2 * a + s) / (2 * s) := Int.ediv_nonneg (by omega) (by omega)
  have e1 : (2 * a + s) / (2 * s) ≤ 2 * a + s := Int.ediv_le_self _ (by omega)
  have e2 := mul_bd e0 (show (2 * a + s) / (2 * s) ≤ 3000000 by omega) (show 0 ≤ s by omega) h3
  exact ⟨e0, by omega, e2.1, by omega⟩
theorem pm_impl (a r : Int) (w : World) :
    Calls Try.prog 19 #[.int .i64 a, .int .i64 r] w fun e w' => e = .returned (.int .i64 (pm a r)) ∧ w = w' := by
  cases h1 : wi a 0 1000000 <;> cases h2 : wi r 0 1000
  case true.true =>
    have b1 := wi_true.1 h1
    have b2 := wi_true.1 h2
    have b3 := mul_bd b1.1 b1.2 b2.1 b2.2
    go_enter Try.func19, Try.ntmps19
    go_wp2_with (first | (go_at_call 38; refine (within_c _ _ _ _).mono ?_; rintro e w' ⟨rfl, rfl⟩) | (go_at_call 37; refine (money_c _ _).mono ?_; rintro e w' ⟨rfl, rfl⟩))
    go_ret
    exact ⟨K.ri (by rw [pm, if_pos ⟨h1, h2⟩]), rfl⟩
  all_goals
    go_enter Try.func19, Try.ntmps19
    go_wp2_with (first | (go_at_call 38; refine (within_c _ _ _ _).mono ?_; rintro e w' ⟨rfl, rfl⟩) | (go_at_call 37; refine (money_c _ _).mono ?_; rintro e w' ⟨rfl, rfl⟩))
    go_ret
    exact ⟨K.ri (by rw [pm, h1, h2]; rfl), rfl⟩
theorem pm_spec (a r : Int) (w : World) :
    Calls Try.prog 18 #[.int .i64 a, .int .i64 r] w fun e w' => e = .returned (.int .i64 (pm a r)) ∧ w = w' := by
  cases h1 : wi a 0 1000000 <;> cases h2 : wi r 0 1000
  case true.true =>
    have b1 := wi_true.1 h1
    have b2 := wi_true.1 h2
    have b3 := mul_bd b1.1 b1.2 b2.1 b2.2
    go_enter Try.func18, Try.ntmps18
    go_wp2_with ((go_at_call 36; refine (inRange_c _ _ _ _).mono ?_; rintro e w' ⟨rfl, rfl⟩))
    go_ret
    exact ⟨K.ri (by rw [pm, if_pos ⟨h1, h2⟩]), rfl⟩
  all_goals
    go_enter Try.func18, Try.ntmps18
    go_wp2_with ((go_at_call 36; refine (inRange_c _ _ _ _).mono ?_; rintro e w' ⟨rfl, rfl⟩))
    go_ret
    exact ⟨K.ri (by rw [pm, h1, h2]; rfl), rfl⟩
theorem rt_impl (a s : Int) (w : World) :
    Calls Try.prog 21 #[.int .i64 a, .int .i64 s] w fun e w' => e = .returned (.int .i64 (rt a s)) ∧ w = w' := by
  cases h1 : wi a 0 1000000 <;> cases h2 : wi s 1 1000000
  case true.true =>
    have b1 := wi_true.1 h1
    have b2 := wi_true.1 h2
    have b3 := rt_bd b1.1 b1.2 b2.1 b2.2
    go_enter Try.func21, Try.ntmps21
    go_wp2_with (first | (go_at_call 38; refine (within_c _ _ _ _).mono ?_; rintro e w' ⟨rfl, rfl⟩) | (go_at_call 37; refine (money_c _ _).mono ?_; rintro e w' ⟨rfl, rfl⟩))
    go_ret
    exact ⟨K.ri (by rw [rt, if_pos ⟨h1, h2⟩]), rfl⟩
  all_goals
    go_enter Try.func21, Try.ntmps21
    go_wp2_with (first | (go_at_call 38; refine (within_c _ _ _ _).mono ?_; rintro e w' ⟨rfl, rfl⟩) | (go_at_call 37; refine (money_c _ _).mono ?_; rintro e w' ⟨rfl, rfl⟩))
    go_ret
    exact ⟨K.ri (by rw [rt, h1, h2]; rfl), rfl⟩
theorem rt_spec (a s : Int) (w : World) :
    Calls Try.prog 20 #[.int .i64 a, .int .i64 s] w fun e w' => e = .returned (.int .i64 (rt a s)) ∧ w = w' := by
  cases h1 : wi a 0 1000000 <;> cases h2 : wi s 1 1000000
  case true.true =>
    have b1 := wi_true.1 h1
    have b2 := wi_true.1 h2
    have b3 := rt_bd b1.1 b1.2 b2.1 b2.2
    go_enter Try.func20, Try.ntmps20
    go_wp2_with ((go_at_call 36; refine (inRange_c _ _ _ _).mono ?_; rintro e w' ⟨rfl, rfl⟩))
    go_ret
    exact ⟨K.ri (by rw [rt, if_pos ⟨h1, h2⟩]), rfl⟩
  all_goals
    go_enter Try.func20, Try.ntmps20
    go_wp2_with ((go_at_call 36; refine (inRange_c _ _ _ _).mono ?_; rintro e w' ⟨rfl, rfl⟩))
    go_ret
    exact ⟨K.ri (by rw [rt, h1, h2]; rfl), rfl⟩
theorem exactConstants (w : World) : Calls Try.prog 3 #[] w fun e w' => e = .returned (.bool true) ∧ w = w' := by
  go_enter Try.func3, Try.ntmps3
  go_wp2
  go_ret
  exact ⟨rfl, rfl⟩
theorem exactPerMille (a r : Int) (w : World) : Calls Try.prog 4 #[.int .i64 a, .int .i64 r] w fun e w' => e = .returned (.bool true) ∧ w = w' := by
  go_enter Try.func4, Try.ntmps4
  go_wp2_with (first | (go_at_call 19; refine (pm_impl _ _ _).mono ?_; rintro e w' ⟨rfl, rfl⟩) | (go_at_call 18; refine (pm_spec _ _ _).mono ?_; rintro e w' ⟨rfl, rfl⟩))
  go_ret
  exact ⟨rfl, rfl⟩
theorem exactRoundTo (a r : Int) (w : World) : Calls Try.prog 5 #[.int .i64 a, .int .i64 r] w fun e w' => e = .returned (.bool true) ∧ w = w' := by
  go_enter Try.func5, Try.ntmps5
  go_wp2_with (first | (go_at_call 21; refine (rt_impl _ _ _).mono ?_; rintro e w' ⟨rfl, rfl⟩) | (go_at_call 20; refine (rt_spec _ _ _).mono ?_; rintro e w' ⟨rfl, rfl⟩))
  go_ret
  exact ⟨rfl, rfl⟩
end C
end Go.Proofs.Ytcgaffhoggkbkaa

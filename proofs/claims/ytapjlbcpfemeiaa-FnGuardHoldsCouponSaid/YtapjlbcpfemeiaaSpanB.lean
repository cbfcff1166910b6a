/-
  Contracts of the functions on one span and on two. Conditions: none.
-/
import Derived.Test.YtapjlbcpfemeiaaNum
namespace Go.Proofs.Ytapjlbcpfemeiaa
open Go.RowKit
namespace C

/-- A span is valid. -/
def vsp (x y : Int) : Bool := decide (0 ≤ x ∧ x ≤ 1000000 ∧ x ≤ y ∧ y ≤ 1000000)
theorem vsp_true {x y : Int} : vsp x y = true ↔ 0 ≤ x ∧ x ≤ 1000000 ∧ x ≤ y ∧ y ≤ 1000000 := by simp [vsp]
theorem vsp_wi (x y : Int) : vsp x y = (wi x 0 1000000 && wi y x 1000000) := by
  unfold vsp wi; rw [Bool.eq_iff_iff]; simp; omega
theorem validSpan_s (x y : Int) (w : World) : Calls Try.prog 83 #[.agg #[.int .i64 x, .int .i64 y]] w fun e w' => e = .returned (.bool (vsp x y)) ∧ w.alloc (.cells #[.int .i64 x, .int .i64 y] 24) = w' := by
  cases h1 : wi x 0 1000000 <;> cases h2 : wi y x 1000000
  all_goals
    go_enter Try.func83, Try.ntmps83
    go_wp2_with ((go_at_call 84; refine (inRange_c _ _ _ _).mono ?_; rintro e w' ⟨rfl, rfl⟩))
    go_ret
    exact ⟨K.rb (by rw [vsp_wi, h1, h2]; rfl), rfl⟩
theorem validSpan_i (x y : Int) (w : World) : Calls Try.prog 54 #[.agg #[.int .i64 x, .int .i64 y]] w fun e w' => e = .returned (.bool (vsp x y)) ∧ w.alloc (.cells #[.int .i64 x, .int .i64 y] 24) = w' := by
  cases h1 : wi x 0 1000000 <;> cases h2 : wi y x 1000000
  all_goals
    go_enter Try.func54, Try.ntmps54
    go_wp2_with (first | (go_at_call 55; refine (within_c _ _ _ _).mono ?_; rintro e w' ⟨rfl, rfl⟩) | (go_at_call 82; refine (money_c _ _).mono ?_; rintro e w' ⟨rfl, rfl⟩))
    go_ret
    exact ⟨K.rb (by rw [vsp_wi, h1, h2]; rfl), rfl⟩
theorem inSpan_i (x y n : Int) (w : World) : Calls Try.prog 17 #[.agg #[.int .i64 x, .int .i64 y], .int .i64 n] w fun e w' => e = .returned (.bool (vsp x y && wi n x y)) ∧ (w.alloc (.cells #[.int .i64 x, .int .i64 y] 24)).alloc (.cells #[.int .i64 x, .int .i64 y] 24) = w' := by
  cases h1 : vsp x y
  all_goals
    go_enter Try.func17, Try.ntmps17
    go_wp2_with (first | (go_at_call 55; refine (within_c _ _ _ _).mono ?_; rintro e w' ⟨rfl, rfl⟩) | (go_at_call 82; refine (money_c _ _).mono ?_; rintro e w' ⟨rfl, rfl⟩) | (go_at_call 54; refine (validSpan_i _ _ _).mono ?_; rintro e w' ⟨rfl, rfl⟩))
    go_ret
    exact ⟨rfl, rfl⟩
theorem toSpan_c (x y : Int) (w : World) : Calls Try.prog 68 #[.agg #[.int .i64 x, .int .i64 y]] w fun e w' => e = .returned (.agg #[.int .i64 x, .int .i64 y]) ∧ ((w.alloc (.cells #[.int .i64 x, .int .i64 y] 48)).alloc (.cells #[.int .i64 x, .int .i64 y] 24)).alloc (.cells #[.int .i64 x, .int .i64 y] 24) = w' := by
  go_enter Try.func68, Try.ntmps68
  go_wp2
  go_returns
  exact ⟨rfl, rfl⟩
theorem eqSpan_c (x y u v : Int) (w : World) : Calls Try.prog 70 #[.agg #[.int .i64 x, .int .i64 y], .agg #[.int .i64 u, .int .i64 v]] w fun e w' => e = .returned (.bool (decide (x = u ∧ y = v))) ∧ (w.alloc (.cells #[.int .i64 x, .int .i64 y] 24)).alloc (.cells #[.int .i64 u, .int .i64 v] 24) = w' := by
  by_cases h1 : x = u
  · by_cases h2 : y = v
    · subst h1 h2
      have e1 : (x != x) = false := by simp
      have e2 : (y != y) = false := by simp
      go_enter Try.func70, Try.ntmps70
      go_wp2
      go_ret
      exact ⟨K.rb (by simp), rfl⟩
    · subst h1
      have e1 : (x != x) = false := by simp
      have e2 : (y != v) = true := by simp [h2]
      have hd : decide (x = x ∧ y = v) = false := decide_eq_false (fun h => h2 h.2)
      clear h2
      go_enter Try.func70, Try.ntmps70
      go_wp2
      go_ret
      exact ⟨K.rb (Eq.symm (by simpa using hd)), rfl⟩
  · have e1 : (x != u) = true := by simp [h1]
    have hd : decide (x = u ∧ y = v) = false := decide_eq_false (fun h => h1 h.1)
    clear h1
    go_enter Try.func70, Try.ntmps70
    go_wp2
    go_ret
    exact ⟨K.rb hd.symm, rfl⟩
/-- What MeetSpans returns: the span, and whether there is one. -/
def mt (x y u v : Int) : Bool := vsp x y && vsp u v && decide (max x u ≤ min y v)
def mlo (x y u v : Int) : Int := if mt x y u v = true then max x u else 0
def mhi (x y u v : Int) : Int := if mt x y u v = true then min y v else 0
def MeetPost (x y u v : Int) (w : World) (e : Ending) (w' : World) : Prop := e = .returned (.tuple #[.agg #[.int .i64 (mlo x y u v), .int .i64 (mhi x y u v)], .bool (mt x y u v)]) ∧ K.Kept w w'
theorem mt_no {x y u v : Int} (h : mt x y u v = false) : mlo x y u v = 0 ∧ mhi x y u v = 0 := by simp [mlo, mhi, h]
theorem mt_yes {x y u v : Int} (h : mt x y u v = true) : mlo x y u v = max x u ∧ mhi x y u v = min y v := by simp [mlo, mhi, h]
theorem meet_c (x y u v : Int) (w : World) : Calls Try.prog 92 #[.agg #[.int .i64 x, .int .i64 y], .agg #[.int .i64 u, .int .i64 v]] w fun e w' => e = .returned (.tuple #[.agg #[.int .i64 (max x u), .int .i64 (min y v)], .bool (decide (max x u ≤ min y v))]) ∧ K.Kept w w' := by
  go_enter Try.func92, Try.ntmps92
  go_wp2
  all_goals go_region
  all_goals (try go_wp2)
  all_goals go_returns
  all_goals exact ⟨K.rsb (by omega) (by omega) (decide_eq_decide.2 (by omega)), by go_grown⟩
theorem mt_of {x y u v : Int} {b : Bool} (h1 : vsp x y = true) (h2 : vsp u v = true) (h3 : decide (max x u ≤ min y v) = b) : mt x y u v = b := by rw [mt, h1, h2, h3]; rfl
set_option maxHeartbeats 1000000 in
theorem meetSpans_i (x y u v : Int) (w : World) : Calls Try.prog 72 #[.agg #[.int .i64 x, .int .i64 y], .agg #[.int .i64 u, .int .i64 v]] w (MeetPost x y u v w) := by
  cases h1 : vsp x y <;> cases h2 : vsp u v
  case true.true =>
    go_enter Try.func72, Try.ntmps72
    go_wp2_with (go_at_call 54; refine (validSpan_i _ _ _).mono ?_; rintro e w' ⟨rfl, rfl⟩)
    all_goals go_ways
    all_goals go_returns
    all_goals first
      | (have hm : mt x y u v = false := mt_of h1 h2 (decide_eq_false (by omega)); have h0 := mt_no hm; exact ⟨K.rsb h0.1.symm h0.2.symm hm.symm, by go_grown⟩)
      | (have hm : mt x y u v = true := mt_of h1 h2 (decide_eq_true (by omega)); have h0 := mt_yes hm; exact ⟨K.rsb (by rw [h0.1]; omega) (by rw [h0.2]; omega) hm.symm, by go_grown⟩)
  all_goals
    have hm : mt x y u v = false := by rw [mt, h1, h2]; rfl
    have h0 := mt_no hm
    go_enter Try.func72, Try.ntmps72
    go_wp2_with (go_at_call 54; refine (validSpan_i _ _ _).mono ?_; rintro e w' ⟨rfl, rfl⟩)
    all_goals go_returns
    all_goals exact ⟨K.rsb h0.1.symm h0.2.symm hm.symm, by go_grown⟩
end C
end Go.Proofs.Ytapjlbcpfemeiaa

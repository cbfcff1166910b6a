/-
  The laws of PerMille and RoundTo, for every code. Conditions: none.
-/
import Derived.Test.YtcgaffhoggkbkaaMoney
import Derived.Test.YtcgaffhoggkbkaaDraw0
namespace Go.Proofs.Ytcgaffhoggkbkaa
open Go.RowKit
namespace C

theorem pm_facts {a r : Int} (h1 : wi a 0 1000000 = true) (h2 : wi r 0 1000 = true) : 0 ≤ pm a r ∧ 1000 * pm a r ≤ a * r ∧ a * r < 1000 * (pm a r + 1) ∧ pm a r ≤ 1000000 ∧ 0 ≤ a * r ∧ a * r ≤ 1000000000 := by
  have b := mul_bd (wi_true.1 h1).1 (wi_true.1 h1).2 (wi_true.1 h2).1 (wi_true.1 h2).2
  rw [pm, if_pos ⟨h1, h2⟩]
  omega
theorem pm_bad {a r : Int} (h : ¬ (wi a 0 1000000 = true ∧ wi r 0 1000 = true)) : pm a r = -1 := by rw [pm, if_neg h]
theorem pm_1000 {a : Int} (h1 : wi a 0 1000000 = true) : pm a 1000 = a := by
  rw [pm, if_pos ⟨h1, by decide⟩]; omega
theorem pm_more {a r : Int} (h1 : wi a 0 1000000 = true) (h2 : wi r 0 1000 = true) : (r + 1 ≤ 1000 → pm a r ≤ pm a (r + 1)) ∧ pm a r ≤ pm a 1000 ∧ pm a r + pm a (1000 - r) ≤ a ∧ a - 1 ≤ pm a r + pm a (1000 - r) := by
  have b1 := wi_true.1 h1
  have b2 := wi_true.1 h2
  have f1 := pm_facts h1 h2
  have f2 := pm_facts (r := 1000 - r) h1 (wi_true.2 (by omega))
  have f3 := pm_1000 h1
  rw [Int.mul_sub] at f2
  refine ⟨fun hr => ?_, by omega, by omega, by omega⟩
  have f4 := pm_facts (r := r + 1) h1 (wi_true.2 (by omega))
  have e : a * r ≤ a * (r + 1) := Int.mul_le_mul_of_nonneg_left (by omega) b1.1
  omega
theorem perMille (w : World) (n c : Nat) (A : Option Addr) (h : Code w w.heap.size A n c) : Calls Try.prog 8 #[.slice A n c] w fun e w' => e = .returned (.bool true) ∧ Below w.heap.size w w' := by
  by_cases hn : 1048576 < n
  · go_enter Try.func8, Try.ntmps8
    go_wp2
    go_ret
    exact ⟨rfl, Below.refl _ _⟩
  have hc := h
  unfold Code maxLen at hc
  have hn' : n ≤ 1048576 := by omega
  clear hc hn
  go_enter Try.func8, Try.ntmps8
  go_wp2_with fail
  refine (drawPerMille_c w n c A h).mono ?_
  rintro e w1 ⟨⟨x, y, rfl⟩, hk⟩
  by_cases hv : wi x 0 1000000 = true ∧ wi y 0 1000 = true
  · obtain ⟨h1, h2⟩ := hv
    have b1 := wi_true.1 h1
    have b2 := wi_true.1 h2
    obtain ⟨f1, f2, f3, f4, f5, f6⟩ := pm_facts h1 h2
    have f7 := pm_1000 h1
    clear h1 h2 h
    go_wp2_with (first | (go_at_call 19; refine (pm_impl _ _ _).mono ?_; rintro e w' ⟨rfl, rfl⟩) | (go_at_call 18; refine (pm_spec _ _ _).mono ?_; rintro e w' ⟨rfl, rfl⟩))
    go_ret
    exact ⟨rfl, hk⟩
  · have f1 := pm_bad hv
    clear hv h
    go_wp2_with (first | (go_at_call 19; refine (pm_impl _ _ _).mono ?_; rintro e w' ⟨rfl, rfl⟩) | (go_at_call 18; refine (pm_spec _ _ _).mono ?_; rintro e w' ⟨rfl, rfl⟩))
    go_ret
    exact ⟨rfl, hk⟩
theorem perMilleMore (w : World) (n c : Nat) (A : Option Addr) (h : Code w w.heap.size A n c) : Calls Try.prog 9 #[.slice A n c] w fun e w' => e = .returned (.bool true) ∧ Below w.heap.size w w' := by
  by_cases hn : 1048576 < n
  · go_enter Try.func9, Try.ntmps9
    go_wp2
    go_ret
    exact ⟨rfl, Below.refl _ _⟩
  have hc := h
  unfold Code maxLen at hc
  have hn' : n ≤ 1048576 := by omega
  clear hc hn
  go_enter Try.func9, Try.ntmps9
  go_wp2_with fail
  refine (drawPerMille_c w n c A h).mono ?_
  rintro e w1 ⟨⟨x, y, rfl⟩, hk⟩
  by_cases hv : wi x 0 1000000 = true ∧ wi y 0 1000 = true
  · obtain ⟨h1, h2⟩ := hv
    have b1 := wi_true.1 h1
    have b2 := wi_true.1 h2
    obtain ⟨f1, f2, f3, f4, f5, f6⟩ := pm_facts h1 h2
    obtain ⟨f6', f7, f8, f9⟩ := pm_more h1 h2
    obtain ⟨g1, _, _, g4, _, _⟩ := pm_facts (r := 1000 - y) h1 (wi_true.2 (by omega))
    clear h1 h2 h f2 f3 f5 f6
    by_cases hy : y + 1 ≤ 1000
    · have f10 := f6' hy
      clear f6'
      go_wp2_with (first | (go_at_call 19; refine (pm_impl _ _ _).mono ?_; rintro e w' ⟨rfl, rfl⟩) | (go_at_call 18; refine (pm_spec _ _ _).mono ?_; rintro e w' ⟨rfl, rfl⟩))
      go_ret
      exact ⟨rfl, hk⟩
    · clear f6'
      go_wp2_with (first | (go_at_call 19; refine (pm_impl _ _ _).mono ?_; rintro e w' ⟨rfl, rfl⟩) | (go_at_call 18; refine (pm_spec _ _ _).mono ?_; rintro e w' ⟨rfl, rfl⟩))
      go_ret
      exact ⟨rfl, hk⟩
  · have f1 := pm_bad hv
    clear hv h
    go_wp2_with (first | (go_at_call 19; refine (pm_impl _ _ _).mono ?_; rintro e w' ⟨rfl, rfl⟩) | (go_at_call 18; refine (pm_spec _ _ _).mono ?_; rintro e w' ⟨rfl, rfl⟩))
    go_ret
    exact ⟨rfl, hk⟩
theorem rt_bad {a s : Int} (h : ¬ (wi a 0 1000000 = true ∧ wi s 1 1000000 = true)) : rt a s = -1 := by rw [rt, if_neg h]
theorem rt_facts {a s : Int} (h1 : wi a 0 1000000 = true) (h2 : wi s 1 1000000 = true) :
    0 ≤ rt a s ∧ rt a s ≤ 3000000 ∧ rt a s % s = 0 ∧ 2 * (rt a s - a) ≤ s ∧ -2 * (rt a s - a) < s ∧ (rt a s ≤ 1000000 → rt (rt a s) s = rt a s) ∧ rt a 1 = a := by
  have b1 := wi_true.1 h1
  have b2 := wi_true.1 h2
  have e : rt a s = (2 * a + s) / (2 * s) * s := by rw [rt, if_pos ⟨h1, h2⟩]
  have d := Int.mul_ediv_add_emod (2 * a + s) (2 * s)
  have m0 := Int.emod_nonneg (2 * a + s) (show 2 * s ≠ 0 by omega)
  have m1 := Int.emod_lt_of_pos (2 * a + s) (show 0 < 2 * s by omega)
  have k0 : 0 ≤ (2 * a + s) / (2 * s) := Int.ediv_nonneg (by omega) (by omega)
  generalize (2 * a + s) / (2 * s) = k at *
  have e2 : 2 * s * k = 2 * (k * s) := by rw [Int.mul_assoc, Int.mul_comm s k]
  have p0 : 0 ≤ k * s := Int.mul_nonneg k0 (by omega)
  rw [e]
  refine ⟨p0, by omega, Int.mul_emod_left k s, by omega, by omega, fun hm => ?_, ?_⟩
  · rw [rt, if_pos ⟨wi_true.2 ⟨p0, hm⟩, h2⟩]
    have : (2 * (k * s) + s) / (2 * s) = k := by
      rw [← e2, Int.add_comm, Int.add_mul_ediv_left _ _ (show 2 * s ≠ 0 by omega), Int.ediv_eq_zero_of_lt (by omega) (by omega)]
      omega
    rw [this]
  · rw [rt, if_pos ⟨h1, by decide⟩]
    omega
theorem roundTo (w : World) (n c : Nat) (A : Option Addr) (h : Code w w.heap.size A n c) : Calls Try.prog 10 #[.slice A n c] w fun e w' => e = .returned (.bool true) ∧ Below w.heap.size w w' := by
  by_cases hn : 1048576 < n
  · go_enter Try.func10, Try.ntmps10
    go_wp2
    go_ret
    exact ⟨rfl, Below.refl _ _⟩
  have hc := h
  unfold Code maxLen at hc
  have hn' : n ≤ 1048576 := by omega
  clear hc hn
  go_enter Try.func10, Try.ntmps10
  go_wp2_with fail
  refine (drawRoundTo_c w n c A h).mono ?_
  rintro e w1 ⟨⟨x, y, rfl⟩, hk⟩
  by_cases hv : wi x 0 1000000 = true ∧ wi y 1 1000000 = true
  · obtain ⟨h1, h2⟩ := hv
    have b1 := wi_true.1 h1
    have b2 := wi_true.1 h2
    obtain ⟨f1, f2, f3, f4, f5, f6, f7⟩ := rt_facts h1 h2
    clear h1 h2 h f6 f7
    go_wp2_with (first | (go_at_call 21; refine (rt_impl _ _ _).mono ?_; rintro e w' ⟨rfl, rfl⟩) | (go_at_call 20; refine (rt_spec _ _ _).mono ?_; rintro e w' ⟨rfl, rfl⟩))
    go_ret
    exact ⟨rfl, hk⟩
  · have f1 := rt_bad hv
    clear hv h
    go_wp2_with (first | (go_at_call 21; refine (rt_impl _ _ _).mono ?_; rintro e w' ⟨rfl, rfl⟩) | (go_at_call 20; refine (rt_spec _ _ _).mono ?_; rintro e w' ⟨rfl, rfl⟩))
    go_ret
    exact ⟨rfl, hk⟩
theorem roundToAgain (w : World) (n c : Nat) (A : Option Addr) (h : Code w w.heap.size A n c) : Calls Try.prog 11 #[.slice A n c] w fun e w' => e = .returned (.bool true) ∧ Below w.heap.size w w' := by
  by_cases hn : 1048576 < n
  · go_enter Try.func11, Try.ntmps11
    go_wp2
    go_ret
    exact ⟨rfl, Below.refl _ _⟩
  have hc := h
  unfold Code maxLen at hc
  have hn' : n ≤ 1048576 := by omega
  clear hc hn
  go_enter Try.func11, Try.ntmps11
  go_wp2_with fail
  refine (drawRoundTo_c w n c A h).mono ?_
  rintro e w1 ⟨⟨x, y, rfl⟩, hk⟩
  by_cases hv : wi x 0 1000000 = true ∧ wi y 1 1000000 = true
  · obtain ⟨h1, h2⟩ := hv
    have b1 := wi_true.1 h1
    have b2 := wi_true.1 h2
    obtain ⟨f1, f2, f3, f4, f5, f6, f7⟩ := rt_facts h1 h2
    clear h1 h2 h f3 f4 f5
    by_cases hm : rt x y ≤ 1000000
    · have f8 := f6 hm
      clear f6
      go_wp2_with (first | (go_at_call 21; refine (rt_impl _ _ _).mono ?_; rintro e w' ⟨rfl, rfl⟩) | (go_at_call 20; refine (rt_spec _ _ _).mono ?_; rintro e w' ⟨rfl, rfl⟩))
      go_ret
      exact ⟨rfl, hk⟩
    · clear f6
      go_wp2_with (first | (go_at_call 21; refine (rt_impl _ _ _).mono ?_; rintro e w' ⟨rfl, rfl⟩) | (go_at_call 20; refine (rt_spec _ _ _).mono ?_; rintro e w' ⟨rfl, rfl⟩))
      go_ret
      exact ⟨rfl, hk⟩
  · have f1 := rt_bad hv
    clear hv h
    go_wp2_with (first | (go_at_call 21; refine (rt_impl _ _ _).mono ?_; rintro e w' ⟨rfl, rfl⟩) | (go_at_call 20; refine (rt_spec _ _ _).mono ?_; rintro e w' ⟨rfl, rfl⟩))
    go_ret
    exact ⟨rfl, hk⟩
end C
end Go.Proofs.Ytcgaffhoggkbkaa

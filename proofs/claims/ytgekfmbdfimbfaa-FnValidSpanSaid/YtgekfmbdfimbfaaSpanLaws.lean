/-
  The laws of ValidSpan and InSpan, for every code. Conditions: none.
-/
import Derived.Test.YtgekfmbdfimbfaaDrawS
import Derived.Test.YtgekfmbdfimbfaaSpanL
namespace Go.Proofs.Ytgekfmbdfimbfaa
open Go.RowKit
namespace C

theorem wi_ends {x y : Int} (h : vsp x y = true) : wi x x y = true ∧ wi y x y = true ∧ wi (x - 1) x y = false ∧ wi (y + 1) x y = false := by
  have := vsp_true.1 h
  simp [wi]; omega
theorem validSpanLaw (w : World) (n c : Nat) (A : Option Addr) (h : Code w w.heap.size A n c) : Calls Try.prog 6 #[.slice A n c] w fun e w' => e = .returned (.bool true) ∧ Below w.heap.size w w' := by
  by_cases hn : 1048576 < n
  · go_enter Try.func6, Try.ntmps6
    go_wp2
    go_ret
    exact ⟨rfl, Below.refl _ _⟩
  have hc := h
  unfold Code maxLen at hc
  have hn' : n ≤ 1048576 := by omega
  clear hc hn
  go_enter Try.func6, Try.ntmps6
  go_wp2_with fail
  refine (drawValidSpan_c w n c A h).mono ?_
  rintro e w1 ⟨⟨x, y, rfl, hxy⟩, hk⟩
  cases h1 : vsp x y
  · clear h hn'
    go_wp2_with (first | (go_at_call 22; refine (validSpan_i _ _ _).mono ?_; rintro e w' ⟨rfl, rfl⟩) | (go_at_call 20; refine (ValidSpan_s _ _ _).mono ?_; rintro e w' ⟨rfl, rfl⟩))
    all_goals go_ret
    all_goals exact ⟨rfl, hk.trans (by go_grown)⟩
  · obtain ⟨e1, e2, e3, e4⟩ := wi_ends h1
    clear h hn'
    go_wp2_with (first | (go_at_call 22; refine (validSpan_i _ _ _).mono ?_; rintro e w' ⟨rfl, rfl⟩) | (go_at_call 20; refine (ValidSpan_s _ _ _).mono ?_; rintro e w' ⟨rfl, rfl⟩) | (go_at_call 24; refine (inSpan_i _ _ _ _).mono ?_; rintro e w' ⟨rfl, rfl⟩))
    all_goals go_ret
    all_goals exact ⟨rfl, hk.trans (by go_grown)⟩
end C
end Go.Proofs.Ytgekfmbdfimbfaa

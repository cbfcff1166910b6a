/-
  The law of InSpan, for every code. Conditions: none.
-/
import Derived.Test.YtgekfmbdfimbfaaDrawT
namespace Go.Proofs.Ytgekfmbdfimbfaa
open Go.RowKit
namespace C

theorem inSpanLaw (w : World) (n c : Nat) (A : Option Addr) (h : Code w w.heap.size A n c) : Calls Try.prog 7 #[.slice A n c] w fun e w' => e = .returned (.bool true) ∧ Below w.heap.size w w' := by
  by_cases hn : 1048576 < n
  · go_enter Try.func7, Try.ntmps7
    go_wp2
    go_ret
    exact ⟨rfl, Below.refl _ _⟩
  have hc := h
  unfold Code maxLen at hc
  have hn' : n ≤ 1048576 := by omega
  clear hc hn
  go_enter Try.func7, Try.ntmps7
  go_wp2_with fail
  refine (drawInSpan_c w n c A h).mono ?_
  rintro e w1 ⟨⟨x, y, z, rfl⟩, hk⟩
  clear h hn'
  cases h1 : vsp x y
  · go_wp2_with (first | (go_at_call 22; refine (validSpan_i _ _ _).mono ?_; rintro e w' ⟨rfl, rfl⟩) | (go_at_call 24; refine (inSpan_i _ _ _ _).mono ?_; rintro e w' ⟨rfl, rfl⟩) | (go_at_call 23; refine (inSpan_s _ _ _ _).mono ?_; rintro e w' ⟨rfl, rfl⟩))
    all_goals go_ret
    all_goals exact ⟨(by first | rfl | exact K.rb (by simp; omega) | exact K.rb (by simp [h3])), hk.trans (by go_grown)⟩
  · by_cases h2 : x ≤ z
    · by_cases h3 : z ≤ y
      · have h4 : wi z x y = true := by simp [wi]; omega
        go_wp2_with (first | (go_at_call 22; refine (validSpan_i _ _ _).mono ?_; rintro e w' ⟨rfl, rfl⟩) | (go_at_call 24; refine (inSpan_i _ _ _ _).mono ?_; rintro e w' ⟨rfl, rfl⟩) | (go_at_call 23; refine (inSpan_s _ _ _ _).mono ?_; rintro e w' ⟨rfl, rfl⟩))
        all_goals go_ret
        all_goals exact ⟨(by first | rfl | exact K.rb (by simp; omega) | exact K.rb (by simp [h3])), hk.trans (by go_grown)⟩
      · have h4 : wi z x y = false := by simp [wi]; omega
        go_wp2_with (first | (go_at_call 22; refine (validSpan_i _ _ _).mono ?_; rintro e w' ⟨rfl, rfl⟩) | (go_at_call 24; refine (inSpan_i _ _ _ _).mono ?_; rintro e w' ⟨rfl, rfl⟩) | (go_at_call 23; refine (inSpan_s _ _ _ _).mono ?_; rintro e w' ⟨rfl, rfl⟩))
        all_goals go_ret
        all_goals exact ⟨(by first | rfl | exact K.rb (by simp; omega) | exact K.rb (by simp [h3])), hk.trans (by go_grown)⟩
    · have h4 : wi z x y = false := by simp [wi]; omega
      go_wp2_with (first | (go_at_call 22; refine (validSpan_i _ _ _).mono ?_; rintro e w' ⟨rfl, rfl⟩) | (go_at_call 24; refine (inSpan_i _ _ _ _).mono ?_; rintro e w' ⟨rfl, rfl⟩) | (go_at_call 23; refine (inSpan_s _ _ _ _).mono ?_; rintro e w' ⟨rfl, rfl⟩))
      all_goals go_ret
      all_goals exact ⟨(by first | rfl | exact K.rb (by simp; omega) | exact K.rb (by simp [h3])), hk.trans (by go_grown)⟩
end C
end Go.Proofs.Ytgekfmbdfimbfaa

/-
  The law of ValidGuard, for every code. Conditions: none.
-/
import Derived.Test.YtapjlbcpfemeiaaPointLaws
import Derived.Test.YtapjlbcpfemeiaaDrawG2
namespace Go.Proofs.Ytapjlbcpfemeiaa
open Go.RowKit
namespace C

set_option maxRecDepth 100000 in
set_option maxHeartbeats 4000000 in
theorem validGuardLaw (w : World) (n c : Nat) (A : Option Addr) (h : Code w w.heap.size A n c) : Calls Try.prog 7 #[.slice A n c] w fun e w' => e = .returned (.bool true) ∧ Below w.heap.size w w' := by
  by_cases hn : 1048576 < n
  · go_enter Try.func7, Try.ntmps7
    go_wp2
    go_ret
    exact ⟨rfl, Below.refl _ _⟩
  have hc := h
  unfold Code maxLen at hc
  have hn' : n ≤ 1048576 := by omega
  clear hc hn
  go_enter Try.func7, Try.ntmps7
  go_wp2_with fail
  refine (drawValidGuard_c w n c A h).mono ?_
  rintro e w1 ⟨x, y, u, Ag, ng, cg, l, rfl, hng, owng, k0⟩
  clear h
  have LL := Lib.hid (show l.length = ng by have := owng.1; rw [K.prs_len] at this; omega)
  have kw := K.Kept.refl w1
  have bx_v : BoxN (w1.alloc (.cells #[.int .i64 x, .int .i64 y, .slice Ag ng cg, .int .i64 u] 27)) w1.heap.size (#[.int .i64 x, .int .i64 y, .slice Ag ng cg, .int .i64 u] : Array Value).toList := BoxN.new w1 _ _
  have kk := kp1 w1 (.cells #[.int .i64 x, .int .i64 y, .slice Ag ng cg, .int .i64 u] 27)
  replace owng := K.own_kept owng kk
  replace kw := K.Kept.trans kw kk
  generalize hww2 : w1.alloc (.cells #[.int .i64 x, .int .i64 y, .slice Ag ng cg, .int .i64 u] 27) = w2 at owng bx_v kw kk
  clear kk
  cases hB : vG x y l u
  case false =>
    obtain ⟨v0, v1, v2, v3, v4, v5, v6, v7, v8⟩ := BoxN.at4 bx_v
    go_wp2_with fail
    refine (validGuard_i _ x y u Ag ng cg l false hB (K.rd_own owng) (by omega)).mono ?_
    rintro e w3 ⟨rfl, kk⟩
    replace owng := K.own_kept owng kk
    replace bx_v := BoxN.kept bx_v kk
    replace kw := K.Kept.trans kw kk
    clear kk
    clear v0 v1 v2 v3 v4 v5 v6 v7 v8
    obtain ⟨v0, v1, v2, v3, v4, v5, v6, v7, v8⟩ := BoxN.at4 bx_v
    go_wp2_with fail
    refine (ValidGuard_s _ x y u Ag ng cg l false hB (K.rd_own owng) (by omega)).mono ?_
    rintro e w4 ⟨rfl, kk⟩
    replace owng := K.own_kept owng kk
    replace bx_v := BoxN.kept bx_v kk
    replace kw := K.Kept.trans kw kk
    clear kk
    clear v0 v1 v2 v3 v4 v5 v6 v7 v8
    obtain ⟨v0, v1, v2, v3, v4, v5, v6, v7, v8⟩ := BoxN.at4 bx_v
    go_wp2_with fail
    refine (ValidGuard_s _ x y u Ag ng cg l false hB (K.rd_own owng) (by omega)).mono ?_
    rintro e w5 ⟨rfl, kk⟩
    replace owng := K.own_kept owng kk
    replace bx_v := BoxN.kept bx_v kk
    replace kw := K.Kept.trans kw kk
    clear kk
    clear v0 v1 v2 v3 v4 v5 v6 v7 v8
    go_wp2
    go_ret
    exact ⟨rfl, K.Kept.trans k0 kw⟩
  obtain ⟨v0, v1, v2, v3, v4, v5, v6, v7, v8⟩ := BoxN.at4 bx_v
  go_wp2_with fail
  refine (validGuard_i _ x y u Ag ng cg l true hB (K.rd_own owng) (by omega)).mono ?_
  rintro e w3 ⟨rfl, kk⟩
  replace owng := K.own_kept owng kk
  replace bx_v := BoxN.kept bx_v kk
  replace kw := K.Kept.trans kw kk
  clear kk
  clear v0 v1 v2 v3 v4 v5 v6 v7 v8
  obtain ⟨v0, v1, v2, v3, v4, v5, v6, v7, v8⟩ := BoxN.at4 bx_v
  go_wp2_with fail
  refine (ValidGuard_s _ x y u Ag ng cg l true hB (K.rd_own owng) (by omega)).mono ?_
  rintro e w4 ⟨rfl, kk⟩
  replace owng := K.own_kept owng kk
  replace bx_v := BoxN.kept bx_v kk
  replace kw := K.Kept.trans kw kk
  clear kk
  clear v0 v1 v2 v3 v4 v5 v6 v7 v8
  have hB0 : vG x y l 0 = true := by have := hB; unfold vG at this ⊢; simp only [Bool.and_eq_true] at this; rw [this.1.1.1, this.1.1.2, this.1.2]; rfl
  have hB1 : vG x y [] 0 = false := by unfold vG; simp
  obtain ⟨v0, v1, v2, v3, v4, v5, v6, v7, v8⟩ := BoxN.at4 bx_v
  go_wp2_with fail
  refine (validGuard_i _ x y 0 Ag ng cg l true hB0 (K.rd_own owng) (by omega)).mono ?_
  rintro e w5 ⟨rfl, kk⟩
  replace owng := K.own_kept owng kk
  replace bx_v := BoxN.kept bx_v kk
  replace kw := K.Kept.trans kw kk
  clear kk
  clear v0 v1 v2 v3 v4 v5 v6 v7 v8
  obtain ⟨v0, v1, v2, v3, v4, v5, v6, v7, v8⟩ := BoxN.at4 bx_v
  go_wp2_with fail
  refine (validGuard_i _ x y 0 none 0 0 [] false hB1 (K.Rd.nil _ _ _ _) (by omega)).mono ?_
  rintro e w6 ⟨rfl, kk⟩
  replace owng := K.own_kept owng kk
  replace bx_v := BoxN.kept bx_v kk
  replace kw := K.Kept.trans kw kk
  clear kk
  clear v0 v1 v2 v3 v4 v5 v6 v7 v8
  obtain ⟨v0, v1, v2, v3, v4, v5, v6, v7, v8⟩ := BoxN.at4 bx_v
  go_wp2_with fail
  refine (always_c _).mono ?_
  rintro e w7 ⟨Aa, na, ca, rfl, hla, owna, kk⟩
  replace owng := K.own_kept owng kk
  replace bx_v := BoxN.kept bx_v kk
  replace kw := K.Kept.trans kw kk
  clear kk
  clear v0 v1 v2 v3 v4 v5 v6 v7 v8
  have hna : na ≤ 1099511627776 := by have : alw.length = 3 := rfl; omega
  obtain ⟨v0, v1, v2, v3, v4, v5, v6, v7, v8⟩ := BoxN.at4 bx_v
  go_wp2_with fail
  refine (validGuard_i _ 0 1000000 0 Aa na ca alw true vG_alw (K.rd_own owna) hna).mono ?_
  rintro e w8 ⟨rfl, kk⟩
  replace owng := K.own_kept owng kk
  replace owna := K.own_kept owna kk
  replace bx_v := BoxN.kept bx_v kk
  replace kw := K.Kept.trans kw kk
  clear kk
  clear v0 v1 v2 v3 v4 v5 v6 v7 v8
  go_wp2
  go_ret
  exact ⟨rfl, K.Kept.trans k0 kw⟩
end C
end Go.Proofs.Ytapjlbcpfemeiaa

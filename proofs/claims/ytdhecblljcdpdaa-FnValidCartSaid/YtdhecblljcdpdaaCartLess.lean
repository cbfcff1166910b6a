/-
  A valid cart without any one of its lines is valid, for every code. Conditions: none.
-/
import Derived.Test.YtdhecblljcdpdaaCartLaws
namespace Go.Proofs.Ytdhecblljcdpdaa
open Go.RowKit
namespace C

set_option maxHeartbeats 4000000 in
theorem validCartLaw (w : World) (n c : Nat) (A : Option Addr) (h : Code w w.heap.size A n c) : Calls Try.prog 4 #[.slice A n c] w fun e w' => e = .returned (.bool true) ∧ Below w.heap.size w w' := by
  by_cases hn : 1048576 < n
  · go_enter Try.func4, Try.ntmps4
    go_wp2
    go_ret
    exact ⟨rfl, Below.refl _ _⟩
  have hc := h
  unfold Code maxLen at hc
  have hn' : n ≤ 1048576 := by omega
  clear hc hn
  obtain ⟨i0, hi, hz0, hz1, hz2⟩ := info_parts infoLineC
  go_enter Try.func4, Try.ntmps4
  go_wp2_with fail
  refine (drawValidCart_c w n c A h).mono ?_
  rintro e w1 ⟨S, sn, sc, sh, Al, nl, cl, l, rfl, hsn, hnl, owns, ownl, kw⟩
  clear h
  obtain ⟨hlc, hcm⟩ : nl ≤ cl ∧ cl ≤ maxLen := by
    obtain ⟨A0, c0, hv0, hlc, hcm⟩ := K.own_slice ownl
    cases hv0
    exact ⟨hlc, hcm⟩
  unfold maxLen at hcm
  cases hB : vCart sh l
  case false =>
    go_wp2_with fail
    refine (validCart_i w1 S sn sc sh Al nl cl l false hB (K.rd_own owns) (by omega) (K.rd_own ownl) (by omega)).mono ?_
    rintro e w2 ⟨rfl, kk⟩
    replace ownl := K.own_kept ownl kk
    replace owns := K.own_kept owns kk
    replace kw := K.Kept.trans kw kk
    go_wp2_with fail
    refine (validCart_s w2 S sn sc sh Al nl cl l false hB (K.rd_own owns) (by omega) (K.rd_own ownl) (by omega)).mono ?_
    rintro e w3 ⟨rfl, kk⟩
    replace ownl := K.own_kept ownl kk
    replace owns := K.own_kept owns kk
    replace kw := K.Kept.trans kw kk
    go_wp2_with fail
    refine (validCart_s w3 S sn sc sh Al nl cl l false hB (K.rd_own owns) (by omega) (K.rd_own ownl) (by omega)).mono ?_
    rintro e w4 ⟨rfl, kk⟩
    replace kw := K.Kept.trans kw kk
    go_wp2
    go_ret
    exact ⟨rfl, kw⟩
  have HB := Lib.hid hB
  go_wp2_with fail
  refine (validCart_i w1 S sn sc sh Al nl cl l true hB (K.rd_own owns) (by omega) (K.rd_own ownl) (by omega)).mono ?_
  rintro e w2 ⟨rfl, kk⟩
  replace ownl := K.own_kept ownl kk
  replace owns := K.own_kept owns kk
  replace kw := K.Kept.trans kw kk
  clear kk
  by_cases h0 : nl = 0
  · subst h0
    go_wp2_with fail
    refine (validCart_s w2 S sn sc sh Al 0 cl l true hB (K.rd_own owns) (by omega) (K.rd_own ownl) (by omega)).mono ?_
    rintro e w3 ⟨rfl, kk⟩
    replace ownl := K.own_kept ownl kk
    replace owns := K.own_kept owns kk
    replace kw := K.Kept.trans kw kk
    go_wp2_with fail
    refine (validCart_s w3 S sn sc sh Al 0 cl l true hB (K.rd_own owns) (by omega) (K.rd_own ownl) (by omega)).mono ?_
    rintro e w4 ⟨rfl, kk⟩
    replace kw := K.Kept.trans kw kk
    go_wp2
    go_ret
    exact ⟨rfl, kw⟩
  have hnl0 : ((nl : Int) == 0) = false := by rw [beq_eq_false_iff_ne]; omega
  have hnl1 : (1 : Int) ≤ (nl : Int) := by omega
  go_wp2_with fail
  refine (validCart_s w2 S sn sc sh Al nl cl l true hB (K.rd_own owns) (by omega) (K.rd_own ownl) (by omega)).mono ?_
  rintro e w3 ⟨rfl, kk⟩
  replace ownl := K.own_kept ownl kk
  replace owns := K.own_kept owns kk
  replace kw := K.Kept.trans kw kk
  clear kk
  obtain ⟨k, hkm⟩ : ∃ k : Nat, (n : Int) % (nl : Int) = (k : Int) := ⟨n % nl, by omega⟩
  have hk : k < nl := by have := Int.emod_lt_of_pos (n : Int) (show (0 : Int) < nl by omega); omega
  obtain ⟨b, off, rfl, hb, _⟩ := (K.rd_own ownl).2 (by omega)
  have HR := Lib.hid (K.rd_own ownl)
  have W1 : IntKind.i64.wrap ((k : Int) + 1) = (k : Int) + 1 := by rw [IntKind.wrap_i64]; omega
  have j1 : (k : Int) ≤ (cl : Int) := by omega
  have j2 : (k : Int) + 1 ≤ (nl : Int) := by omega
  have j3 : (nl : Int) ≤ (cl : Int) := by omega
  have j0 : (0 : Int) ≤ (k : Int) + 1 := by omega
  have j4 : ((k : Int) + 1).toNat = k + 1 := by omega
  have hkw := Lib.hid kw
  have VL := Lib.hid (cart_less hB k)
  have k1 : K.Kept w3 (w3.drew.alloc (.cells #[] 37)) := K.Kept.trans (kdrew _) (kp1 _ _)
  have OB := Lib.hid (World.ownsRow_lit (base := w3.heap.size) (size := 2) (e := 37) w3.drew #[] 0 (Nat.le_refl _) (by unfold maxLen; omega) rfl)
  have R1 := Lib.hid ((pr_take (k := k) HR.out (by omega)).kept k1 (Nat.le_refl _))
  have HS := Lib.hid (K.rd_own owns)
  clear ownl kw hB owns
  by_cases hkc : cl = k + 1
  · have hnk : nl = k + 1 := by omega
    have ll := K.PR.len HR.out
    have VL2 := Lib.hid (show vCart sh (l.take k) = true by have := VL.out; rw [List.drop_eq_nil_of_le (by omega), List.append_nil] at this; exact this)
    clear ll
    have hke : k + 1 = cl := hkc.symm
    have hki : (k : Int) + 1 = (cl : Int) := by omega
    have hcn : cl ≤ nl := by omega
    clear hnk hkc W1 j0 j2 j4
    have W1 : IntKind.i64.wrap (cl : Int) = (cl : Int) := by rw [IntKind.wrap_i64]; omega
    have j6 : (0 : Int) ≤ (cl : Int) := by omega
    have j7 : (cl : Int) ≤ (nl : Int) := by omega
    go_wp2_with fail
    go_region_held3 (fun w' => True) (trivial) (first | ((refine step_appAny rfl _ _ 28 rfl w3.heap.size 37 2 16 i0 (.agg #[.int .i64 0, .int .i64 0]) Try.underlying28 hi hz0 hz1 hz2 rfl (by decide) _ _ 0 [] (by rfl) OB.out w3.heap.size _ k _ _ (by rfl) R1.out (K.prs_one _) (by unfold maxLen; omega) (by omega) (by first | exact Nat.le_refl _ | (simp; done)) ?_; intro A4 c4 w4 own4 hg4; rw [Nat.zero_add] at own4 ⊢; rw [List.nil_append] at own4; have kk4 : K.Kept w3 w4 := K.kept_own k1 OB.out hg4 k1.size; clear hg4)) | ((refine step_appAny rfl _ _ 28 rfl w3.heap.size 37 2 16 i0 (.agg #[.int .i64 0, .int .i64 0]) Try.underlying28 hi hz0 hz1 hz2 rfl (by decide) w4 _ k _ (by rfl) own4 w3.heap.size _ _ _ [] (by rfl) (rd_zeroC (by omega)) (by simp) (by unfold maxLen; omega) (by omega) kk4.size ?_; intro A5 c5 w5 own5 hg5; rw [Nat.add_zero] at own5 ⊢; rw [List.append_nil] at own5; have kk5 : K.Kept w3 w5 := K.kept_own kk4 own4 hg5 kk4.size; clear own4 hg5)) | ((go_at_call 18; refine (validCart_i _ S sn sc sh A5 k c5 (l.take k) true VL2.out (rdk HS.out kk5) (by omega) (K.rd_own own5) (by omega)).mono ?_; rintro e w6 ⟨rfl, k6⟩; have kk6 := K.Kept.trans kk5 k6; clear own5 kk5 k6)))
    all_goals
      go_wp2
      go_ret
      exact ⟨rfl, K.Kept.trans hkw.out kk6⟩
  · have R2 := Lib.hid (pr_drop (k := k + 1) HR.out (by omega))
    go_wp2_with fail
    go_region_held3 (fun w' => True) (trivial) (first | ((refine step_appAny rfl _ _ 28 rfl w3.heap.size 37 2 16 i0 (.agg #[.int .i64 0, .int .i64 0]) Try.underlying28 hi hz0 hz1 hz2 rfl (by decide) _ _ 0 [] (by rfl) OB.out w3.heap.size _ k _ _ (by rfl) R1.out (K.prs_one _) (by unfold maxLen; omega) (by omega) (by first | exact Nat.le_refl _ | (simp; done)) ?_; intro A4 c4 w4 own4 hg4; rw [Nat.zero_add] at own4 ⊢; rw [List.nil_append] at own4; have kk4 : K.Kept w3 w4 := K.kept_own k1 OB.out hg4 k1.size; clear hg4)) | ((refine step_appAny rfl _ _ 28 rfl w3.heap.size 37 2 16 i0 (.agg #[.int .i64 0, .int .i64 0]) Try.underlying28 hi hz0 hz1 hz2 rfl (by decide) w4 _ k _ (by rfl) own4 w3.heap.size _ (nl - (k + 1)) _ _ (by rfl) (R2.out.kept kk4 (Nat.le_refl _)) (K.prs_one _) (by unfold maxLen; omega) (by omega) kk4.size ?_; intro A5 c5 w5 own5 hg5; have kk5 : K.Kept w3 w5 := K.kept_own kk4 own4 hg5 kk4.size; rw [← K.prs_append] at own5; clear own4 hg5)) | ((go_at_call 18; refine (validCart_i _ S sn sc sh A5 (k + (nl - (k + 1))) c5 (l.take k ++ l.drop (k + 1)) true VL.out (rdk HS.out kk5) (by omega) (K.rd_own own5) (by omega)).mono ?_; rintro e w6 ⟨rfl, k6⟩; have kk6 := K.Kept.trans kk5 k6; clear own5 kk5 k6)))
    all_goals
      go_wp2
      go_ret
      exact ⟨rfl, K.Kept.trans hkw.out kk6⟩
end C
end Go.Proofs.Ytdhecblljcdpdaa

/-
  The laws of lists of spans, for every code. Conditions: none.
-/
import Derived.Test.YtoooliadnjojeaaSpansW
import Derived.Test.YtoooliadnjojeaaDrawP
namespace Go.Proofs.Ytoooliadnjojeaa
open Go.RowKit
namespace C

theorem unionSpan_iv (w : World) (A : Option Addr) (n c : Nat) (l : List (Int × Int)) (x y : Int) (L : List (Int × Int)) (b : Bool) (hL : uL l (x, y) = L) (hb : uOk l (x, y) = b) (h : K.PR w w.heap.size A n l) (hn : n ≤ 1099511627776) : Calls Try.prog 35 #[.slice A n c, .agg #[.int .i64 x, .int .i64 y]] w (LB 24 w L b) :=
  (unionSpan_i w A n c l x y h hn).mono fun _ _ h => h.of hL hb
theorem unionSpan_sv (w : World) (A : Option Addr) (n c : Nat) (l : List (Int × Int)) (x y : Int) (L : List (Int × Int)) (b : Bool) (hL : uL l (x, y) = L) (hb : uOk l (x, y) = b) (h : K.PR w w.heap.size A n l) (hn : n ≤ 1099511627776) : Calls Try.prog 34 #[.slice A n c, .agg #[.int .i64 x, .int .i64 y]] w (LB 24 w L b) :=
  (unionSpan_s w A n c l x y h hn).mono fun _ _ h => h.of hL hb
theorem withoutSpan_iv (w : World) (A : Option Addr) (n c : Nat) (l : List (Int × Int)) (x y : Int) (L : List (Int × Int)) (b : Bool) (hL : wL l (x, y) = L) (hb : wOk l (x, y) = b) (h : K.PR w w.heap.size A n l) (hn : n ≤ 1099511627776) : Calls Try.prog 29 #[.slice A n c, .agg #[.int .i64 x, .int .i64 y]] w (LB 24 w L b) :=
  (withoutSpan_i w A n c l x y h hn).mono fun _ _ h => h.of hL hb
theorem withoutSpan_sv (w : World) (A : Option Addr) (n c : Nat) (l : List (Int × Int)) (x y : Int) (L : List (Int × Int)) (b : Bool) (hL : wL l (x, y) = L) (hb : wOk l (x, y) = b) (h : K.PR w w.heap.size A n l) (hn : n ≤ 1099511627776) : Calls Try.prog 28 #[.slice A n c, .agg #[.int .i64 x, .int .i64 y]] w (LB 24 w L b) :=
  (withoutSpan_s w A n c l x y h hn).mono fun _ _ h => h.of hL hb
theorem inS_iff (l : List (Int × Int)) (z : Int) : inS l z = true ↔ Plain.mem l z := by
  unfold inS Plain.mem
  rw [List.any_eq_true]
  simp only [decide_eq_true_eq]
theorem uOk_parts {l : List (Int × Int)} {x y : Int} (h : uOk l (x, y) = true) : Plain.Ch l ∧ vsp x y = true ∧ Plain.V (x, y) ∧ (Plain.uni l (x, y)).length ≤ 6 ∧ Plain.Ch (Plain.uni l (x, y)) := by
  unfold uOk at h
  simp only [Bool.and_eq_true, decide_eq_true_eq] at h
  have c := ch_of h.1.1
  exact ⟨c.1, h.1.2, v_iff.2 h.1.2, h.2, Plain.ch_uni c.1 (v_iff.2 h.1.2)⟩
theorem wOk_parts {l : List (Int × Int)} {x y : Int} (h : wOk l (x, y) = true) : Plain.Ch l ∧ vsp x y = true ∧ Plain.V (x, y) ∧ (Plain.wout l (x, y)).length ≤ 6 ∧ Plain.Ch (Plain.wout l (x, y)) := by
  unfold wOk at h
  simp only [Bool.and_eq_true, decide_eq_true_eq] at h
  have c := ch_of h.1.1
  exact ⟨c.1, h.1.2, v_iff.2 h.1.2, h.2, Plain.ch_wout c.1 (v_iff.2 h.1.2)⟩
theorem uOk_of {l : List (Int × Int)} {x y : Int} (h : Plain.Ch l) (h6 : l.length ≤ 6) (hv : vsp x y = true) : uOk l (x, y) = decide ((Plain.uni l (x, y)).length ≤ 6) := by
  unfold uOk; rw [(Plain.vSpans_iff l).2 ⟨h, h6⟩, hv]; rfl
theorem wOk_of {l : List (Int × Int)} {x y : Int} (h : Plain.Ch l) (h6 : l.length ≤ 6) (hv : vsp x y = true) : wOk l (x, y) = decide ((Plain.wout l (x, y)).length ≤ 6) := by
  unfold wOk; rw [(Plain.vSpans_iff l).2 ⟨h, h6⟩, hv]; rfl
theorem in_uni {l : List (Int × Int)} {x y : Int} (hc : Plain.Ch l) (hv : vsp x y = true) (z : Int) : inS (Plain.uni l (x, y)) z = (inS l z || (vsp x y && wi z x y)) := by
  rw [Bool.eq_iff_iff, inS_iff, Plain.mem_uni hc (v_iff.2 hv), hv, Bool.or_eq_true, inS_iff, Bool.true_and, wi_true]
theorem in_wout {l : List (Int × Int)} {x y : Int} (hc : Plain.Ch l) (hv : vsp x y = true) (z : Int) : inS (Plain.wout l (x, y)) z = (inS l z && !(vsp x y && wi z x y)) := by
  rw [Bool.eq_iff_iff, inS_iff, Plain.mem_wout hc (v_iff.2 hv), hv, Bool.and_eq_true, inS_iff, Bool.true_and, Bool.not_eq_true', ← Bool.not_eq_true, wi_true]
theorem inSpan_ik (x y n : Int) (b : Bool) (w : World) (h : (vsp x y && wi n x y) = b) : Calls Try.prog 26 #[.agg #[.int .i64 x, .int .i64 y], .int .i64 n] w fun e w' => e = .returned (.bool b) ∧ K.Kept w w' := by
  subst h
  exact (inSpan_i x y n w).mono fun _ _ h => ⟨h.1, h.2 ▸ K.Kept.trans (kp1 _ _) (kp1 _ _)⟩
theorem inSpans_cb (w : World) (A : Option Addr) (n c : Nat) (l : List (Int × Int)) (q : Int) (b : Bool) (hb : inS l q = b) (h : K.PR w w.heap.size A n l) (hn : n ≤ 1099511627776) :
    Calls Try.prog 37 #[.slice A n c, .int .i64 q] w fun e w' => e = .returned (.bool b) ∧ w = w' := by
  subst hb
  exact inSpans_c w A n c l q h hn
set_option maxHeartbeats 4000000 in
theorem unionSpanLaw (w : World) (n c : Nat) (A : Option Addr) (h : Code w w.heap.size A n c) : Calls Try.prog 13 #[.slice A n c] w fun e w' => e = .returned (.bool true) ∧ Below w.heap.size w w' := by
  by_cases hn : 1048576 < n
  · go_enter Try.func13, Try.ntmps13
    go_wp2
    go_ret
    exact ⟨rfl, Below.refl _ _⟩
  have hc := h
  unfold Code maxLen at hc
  have hn' : n ≤ 1048576 := by omega
  clear hc hn
  go_enter Try.func13, Try.ntmps13
  go_wp2_with fail
  refine (drawUnionSpan_c w n c A h).mono ?_
  rintro e w1 ⟨Al, nl, cl, l, x, y, rfl, hnl, ownl, hxy, kw⟩
  clear h hxy
  cases hB : uOk l (x, y)
  case false =>
    have hU : uL l (x, y) = [] := uL_no hB
    have h6 : ([] : List (Int × Int)).length ≤ 6 := by simp
    have bx_s := Box2.new w1 (.int .i64 x) (.int .i64 y) 24
    have kk := kp1 w1 (.cells #[.int .i64 x, .int .i64 y] 24)
    replace ownl := K.own_kept ownl kk
    replace kw := K.Kept.trans kw kk
    generalize hw2 : w1.alloc (.cells #[.int .i64 x, .int .i64 y] 24) = w2 at ownl bx_s kw kk
    clear kk
    obtain ⟨qs0, qs1, qs2, qs3, qs4⟩ := id bx_s
    go_wp2_with fail
    refine (unionSpan_iv _ Al nl cl l x y [] false hU hB (K.rd_own ownl) (by omega)).mono ?_
    rintro e w3 ⟨Ao, no, co, rfl, hlo, owno, kk⟩
    replace ownl := K.own_kept ownl kk
    replace bx_s := Box2.kept bx_s kk
    replace kw := K.Kept.trans kw kk
    clear kk
    clear qs0 qs1 qs2 qs3 qs4
    obtain ⟨qs0, qs1, qs2, qs3, qs4⟩ := id bx_s
    go_wp2_with fail
    refine (unionSpan_sv _ Al nl cl l x y [] false hU hB (K.rd_own ownl) (by omega)).mono ?_
    rintro e w4 ⟨Av, nv, cv, rfl, hlv, ownv, kk⟩
    replace ownl := K.own_kept ownl kk
    replace owno := K.own_kept owno kk
    replace bx_s := Box2.kept bx_s kk
    replace kw := K.Kept.trans kw kk
    clear kk
    clear qs0 qs1 qs2 qs3 qs4
    obtain ⟨qs0, qs1, qs2, qs3, qs4⟩ := id bx_s
    go_wp2_with fail
    refine (equalSpans_c _ _ _ _ _ _ _ [] [] (K.rd_own owno) (K.rd_own ownv) (by omega) (by omega)).mono ?_
    rintro e w5 ⟨rfl, kk⟩
    replace ownl := K.own_kept ownl kk
    replace owno := K.own_kept owno kk
    replace ownv := K.own_kept ownv kk
    replace bx_s := Box2.kept bx_s kk
    replace kw := K.Kept.trans kw kk
    clear kk
    clear qs0 qs1 qs2 qs3 qs4
    obtain ⟨qs0, qs1, qs2, qs3, qs4⟩ := id bx_s
    go_wp2_with fail
    refine (equalSpans_c _ _ _ _ _ _ _ [] [] (K.rd_own owno) (K.rd_own ownv) (by omega) (by omega)).mono ?_
    rintro e w6 ⟨rfl, kk⟩
    replace ownl := K.own_kept ownl kk
    replace owno := K.own_kept owno kk
    replace ownv := K.own_kept ownv kk
    replace bx_s := Box2.kept bx_s kk
    replace kw := K.Kept.trans kw kk
    clear kk
    clear qs0 qs1 qs2 qs3 qs4
    go_wp2
    go_ret
    exact ⟨rfl, kw⟩
  have hU0 : uL l (x, y) = Plain.uni l (x, y) := uL_yes hB
  obtain ⟨U, hU⟩ : ∃ U, U = Plain.uni l (x, y) := ⟨_, rfl⟩
  obtain ⟨hc, hv, hV, h6, hcU⟩ := uOk_parts hB
  rw [← hU] at hU0 h6 hcU
  have HM := Lib.hid (fun z => (congrArg (fun u => inS u z) hU).trans (in_uni hc hv z))
  have HV := Lib.hid ((Plain.vSpans_iff U).2 ⟨hcU, h6⟩)
  clear hU hc hV hcU
  have hU := hU0
  clear hU0
  have bx_s := Box2.new w1 (.int .i64 x) (.int .i64 y) 24
  have kk := kp1 w1 (.cells #[.int .i64 x, .int .i64 y] 24)
  replace ownl := K.own_kept ownl kk
  replace kw := K.Kept.trans kw kk
  generalize hw2 : w1.alloc (.cells #[.int .i64 x, .int .i64 y] 24) = w2 at ownl bx_s kw kk
  clear kk
  obtain ⟨qs0, qs1, qs2, qs3, qs4⟩ := id bx_s
  go_wp2_with fail
  refine (unionSpan_iv _ Al nl cl l x y U true hU hB (K.rd_own ownl) (by omega)).mono ?_
  rintro e w3 ⟨Ao, no, co, rfl, hlo, owno, kk⟩
  replace ownl := K.own_kept ownl kk
  replace bx_s := Box2.kept bx_s kk
  replace kw := K.Kept.trans kw kk
  clear kk
  clear qs0 qs1 qs2 qs3 qs4
  obtain ⟨qs0, qs1, qs2, qs3, qs4⟩ := id bx_s
  go_wp2_with fail
  refine (unionSpan_sv _ Al nl cl l x y U true hU hB (K.rd_own ownl) (by omega)).mono ?_
  rintro e w4 ⟨Av, nv, cv, rfl, hlv, ownv, kk⟩
  replace ownl := K.own_kept ownl kk
  replace owno := K.own_kept owno kk
  replace bx_s := Box2.kept bx_s kk
  replace kw := K.Kept.trans kw kk
  clear kk
  clear qs0 qs1 qs2 qs3 qs4
  obtain ⟨qs0, qs1, qs2, qs3, qs4⟩ := id bx_s
  go_wp2_with fail
  refine (equalSpans_c _ _ _ _ _ _ _ U U (K.rd_own owno) (K.rd_own ownv) (by omega) (by omega)).mono ?_
  rintro e w5 ⟨rfl, kk⟩
  replace ownl := K.own_kept ownl kk
  replace owno := K.own_kept owno kk
  replace ownv := K.own_kept ownv kk
  replace bx_s := Box2.kept bx_s kk
  replace kw := K.Kept.trans kw kk
  clear kk
  clear qs0 qs1 qs2 qs3 qs4
  clear hB hU
  clear ownv
  clear hlv
  have Hl := Lib.hid ownl
  have Ho := Lib.hid owno
  clear ownl owno
  clear hv
  have OL := Lib.hid hlo
  have hno : no ≤ 6 := by omega
  clear hlo h6
  obtain ⟨qs0, qs1, qs2, qs3, qs4⟩ := id bx_s
  go_wp2_with fail
  clear qs0 qs1 qs2 qs3 qs4
  go_loopw [9] (fun i wr => ∃ z : Int, -1 ≤ z ∧ z ≤ 60 ∧ i = .int .i64 z ∧ K.Kept w5 wr) (fun i _ => (60 - intOf i).toNat)
  case atStart => exact ⟨-1, by omega, by omega, rfl, Below.refl _ _⟩
  case round =>
    obtain ⟨z, hz0, hz1, rfl, kr⟩ := hrel
    have bx := bx_s.kept kr
    have ro := K.own_kept Ho.out kr
    have rl := K.own_kept Hl.out kr
    by_cases hlt : z < 60
    · have hm := HM.out z
      cases hl : inS l z
      · cases hi : (vsp x y && wi z x y)
        · rw [hl, hi] at hm
          have hm : inS U z = false := hm
          go_wp2_with fail
          refine (inSpans_cb _ Ao no co U z false hm (K.rd_own ro) (by omega)).mono ?_
          rintro e w ⟨rfl, rfl⟩
          go_wp2_with fail
          refine (inSpans_cb _ Al nl cl l z false hl (K.rd_own rl) (by omega)).mono ?_
          rintro e w ⟨rfl, rfl⟩
          obtain ⟨q0, q1, q2, q3, q4⟩ := bx
          go_wp2_with fail
          refine (inSpan_ik x y z false _ hi).mono ?_
          rintro e w5' ⟨rfl, k5⟩
          go_wp2
          go_roundw
          case rel => exact ⟨z + 1, by omega, by omega, rfl, K.Kept.trans kr k5⟩
          case measure => simp [intOf]; omega
        · rw [hl, hi] at hm
          have hm : inS U z = true := hm
          go_wp2_with fail
          refine (inSpans_cb _ Ao no co U z true hm (K.rd_own ro) (by omega)).mono ?_
          rintro e w ⟨rfl, rfl⟩
          go_wp2_with fail
          refine (inSpans_cb _ Al nl cl l z false hl (K.rd_own rl) (by omega)).mono ?_
          rintro e w ⟨rfl, rfl⟩
          obtain ⟨q0, q1, q2, q3, q4⟩ := bx
          go_wp2_with fail
          refine (inSpan_ik x y z true _ hi).mono ?_
          rintro e w5' ⟨rfl, k5⟩
          go_wp2
          go_roundw
          case rel => exact ⟨z + 1, by omega, by omega, rfl, K.Kept.trans kr k5⟩
          case measure => simp [intOf]; omega
      · rw [hl, Bool.true_or] at hm
        go_wp2_with fail
        refine (inSpans_cb _ Ao no co U z true hm (K.rd_own ro) (by omega)).mono ?_
        rintro e w ⟨rfl, rfl⟩
        go_wp2_with fail
        refine (inSpans_cb _ Al nl cl l z true hl (K.rd_own rl) (by omega)).mono ?_
        rintro e w ⟨rfl, rfl⟩
        go_wp2
        go_roundw
        case rel => exact ⟨z + 1, by omega, by omega, rfl, kr⟩
        case measure => simp [intOf]; omega
    · have hz : z = 60 := by omega
      subst hz
      go_wp2_with fail
      refine (validSpans_i _ Ao no co U (K.rd_own ro) (by omega)).mono ?_
      rintro e w9 ⟨rfl, k9⟩
      rw [HV.out]
      go_wp2
      go_ret
      exact ⟨rfl, K.Kept.trans kw (K.Kept.trans kr k9)⟩
set_option maxHeartbeats 4000000 in
theorem withoutSpanLaw (w : World) (n c : Nat) (A : Option Addr) (h : Code w w.heap.size A n c) : Calls Try.prog 12 #[.slice A n c] w fun e w' => e = .returned (.bool true) ∧ Below w.heap.size w w' := by
  by_cases hn : 1048576 < n
  · go_enter Try.func12, Try.ntmps12
    go_wp2
    go_ret
    exact ⟨rfl, Below.refl _ _⟩
  have hc := h
  unfold Code maxLen at hc
  have hn' : n ≤ 1048576 := by omega
  clear hc hn
  go_enter Try.func12, Try.ntmps12
  go_wp2_with fail
  refine (drawWithoutSpan_c w n c A h).mono ?_
  rintro e w1 ⟨Al, nl, cl, l, x, y, rfl, hnl, ownl, hxy, kw⟩
  clear h hxy
  cases hB : wOk l (x, y)
  case false =>
    have hU : wL l (x, y) = [] := wL_no hB
    have h6 : ([] : List (Int × Int)).length ≤ 6 := by simp
    have bx_s := Box2.new w1 (.int .i64 x) (.int .i64 y) 24
    have kk := kp1 w1 (.cells #[.int .i64 x, .int .i64 y] 24)
    replace ownl := K.own_kept ownl kk
    replace kw := K.Kept.trans kw kk
    generalize hw2 : w1.alloc (.cells #[.int .i64 x, .int .i64 y] 24) = w2 at ownl bx_s kw kk
    clear kk
    obtain ⟨qs0, qs1, qs2, qs3, qs4⟩ := id bx_s
    go_wp2_with fail
    refine (withoutSpan_iv _ Al nl cl l x y [] false hU hB (K.rd_own ownl) (by omega)).mono ?_
    rintro e w3 ⟨Ao, no, co, rfl, hlo, owno, kk⟩
    replace ownl := K.own_kept ownl kk
    replace bx_s := Box2.kept bx_s kk
    replace kw := K.Kept.trans kw kk
    clear kk
    clear qs0 qs1 qs2 qs3 qs4
    obtain ⟨qs0, qs1, qs2, qs3, qs4⟩ := id bx_s
    go_wp2_with fail
    refine (withoutSpan_sv _ Al nl cl l x y [] false hU hB (K.rd_own ownl) (by omega)).mono ?_
    rintro e w4 ⟨Av, nv, cv, rfl, hlv, ownv, kk⟩
    replace ownl := K.own_kept ownl kk
    replace owno := K.own_kept owno kk
    replace bx_s := Box2.kept bx_s kk
    replace kw := K.Kept.trans kw kk
    clear kk
    clear qs0 qs1 qs2 qs3 qs4
    obtain ⟨qs0, qs1, qs2, qs3, qs4⟩ := id bx_s
    go_wp2_with fail
    refine (equalSpans_c _ _ _ _ _ _ _ [] [] (K.rd_own owno) (K.rd_own ownv) (by omega) (by omega)).mono ?_
    rintro e w5 ⟨rfl, kk⟩
    replace ownl := K.own_kept ownl kk
    replace owno := K.own_kept owno kk
    replace ownv := K.own_kept ownv kk
    replace bx_s := Box2.kept bx_s kk
    replace kw := K.Kept.trans kw kk
    clear kk
    clear qs0 qs1 qs2 qs3 qs4
    obtain ⟨qs0, qs1, qs2, qs3, qs4⟩ := id bx_s
    go_wp2_with fail
    refine (equalSpans_c _ _ _ _ _ _ _ [] [] (K.rd_own owno) (K.rd_own ownv) (by omega) (by omega)).mono ?_
    rintro e w6 ⟨rfl, kk⟩
    replace ownl := K.own_kept ownl kk
    replace owno := K.own_kept owno kk
    replace ownv := K.own_kept ownv kk
    replace bx_s := Box2.kept bx_s kk
    replace kw := K.Kept.trans kw kk
    clear kk
    clear qs0 qs1 qs2 qs3 qs4
    go_wp2
    go_ret
    exact ⟨rfl, kw⟩
  have hU0 : wL l (x, y) = Plain.wout l (x, y) := wL_yes hB
  obtain ⟨U, hU⟩ : ∃ U, U = Plain.wout l (x, y) := ⟨_, rfl⟩
  obtain ⟨hc, hv, hV, h6, hcU⟩ := wOk_parts hB
  rw [← hU] at hU0 h6 hcU
  have HM := Lib.hid (fun z => (congrArg (fun u => inS u z) hU).trans (in_wout hc hv z))
  have HV := Lib.hid ((Plain.vSpans_iff U).2 ⟨hcU, h6⟩)
  clear hU hc hV hcU
  have hU := hU0
  clear hU0
  have bx_s := Box2.new w1 (.int .i64 x) (.int .i64 y) 24
  have kk := kp1 w1 (.cells #[.int .i64 x, .int .i64 y] 24)
  replace ownl := K.own_kept ownl kk
  replace kw := K.Kept.trans kw kk
  generalize hw2 : w1.alloc (.cells #[.int .i64 x, .int .i64 y] 24) = w2 at ownl bx_s kw kk
  clear kk
  obtain ⟨qs0, qs1, qs2, qs3, qs4⟩ := id bx_s
  go_wp2_with fail
  refine (withoutSpan_iv _ Al nl cl l x y U true hU hB (K.rd_own ownl) (by omega)).mono ?_
  rintro e w3 ⟨Ao, no, co, rfl, hlo, owno, kk⟩
  replace ownl := K.own_kept ownl kk
  replace bx_s := Box2.kept bx_s kk
  replace kw := K.Kept.trans kw kk
  clear kk
  clear qs0 qs1 qs2 qs3 qs4
  obtain ⟨qs0, qs1, qs2, qs3, qs4⟩ := id bx_s
  go_wp2_with fail
  refine (withoutSpan_sv _ Al nl cl l x y U true hU hB (K.rd_own ownl) (by omega)).mono ?_
  rintro e w4 ⟨Av, nv, cv, rfl, hlv, ownv, kk⟩
  replace ownl := K.own_kept ownl kk
  replace owno := K.own_kept owno kk
  replace bx_s := Box2.kept bx_s kk
  replace kw := K.Kept.trans kw kk
  clear kk
  clear qs0 qs1 qs2 qs3 qs4
  obtain ⟨qs0, qs1, qs2, qs3, qs4⟩ := id bx_s
  go_wp2_with fail
  refine (equalSpans_c _ _ _ _ _ _ _ U U (K.rd_own owno) (K.rd_own ownv) (by omega) (by omega)).mono ?_
  rintro e w5 ⟨rfl, kk⟩
  replace ownl := K.own_kept ownl kk
  replace owno := K.own_kept owno kk
  replace ownv := K.own_kept ownv kk
  replace bx_s := Box2.kept bx_s kk
  replace kw := K.Kept.trans kw kk
  clear kk
  clear qs0 qs1 qs2 qs3 qs4
  clear hB hU
  clear ownv
  clear hlv
  have Hl := Lib.hid ownl
  have Ho := Lib.hid owno
  clear ownl owno
  clear hv
  have OL := Lib.hid hlo
  have hno : no ≤ 6 := by omega
  clear hlo h6
  obtain ⟨qs0, qs1, qs2, qs3, qs4⟩ := id bx_s
  go_wp2_with fail
  clear qs0 qs1 qs2 qs3 qs4
  go_loopw [9] (fun i wr => ∃ z : Int, -1 ≤ z ∧ z ≤ 60 ∧ i = .int .i64 z ∧ K.Kept w5 wr) (fun i _ => (60 - intOf i).toNat)
  case atStart => exact ⟨-1, by omega, by omega, rfl, Below.refl _ _⟩
  case round =>
    obtain ⟨z, hz0, hz1, rfl, kr⟩ := hrel
    have bx := bx_s.kept kr
    have ro := K.own_kept Ho.out kr
    have rl := K.own_kept Hl.out kr
    by_cases hlt : z < 60
    · have hm := HM.out z
      cases hl : inS l z
      · rw [hl, Bool.false_and] at hm
        go_wp2_with fail
        refine (inSpans_cb _ Ao no co U z false hm (K.rd_own ro) (by omega)).mono ?_
        rintro e w ⟨rfl, rfl⟩
        go_wp2_with fail
        refine (inSpans_cb _ Al nl cl l z false hl (K.rd_own rl) (by omega)).mono ?_
        rintro e w ⟨rfl, rfl⟩
        go_wp2
        go_roundw
        case rel => exact ⟨z + 1, by omega, by omega, rfl, kr⟩
        case measure => simp [intOf]; omega
      · cases hi : (vsp x y && wi z x y)
        · rw [hl, hi] at hm
          have hm : inS U z = true := hm
          go_wp2_with fail
          refine (inSpans_cb _ Ao no co U z true hm (K.rd_own ro) (by omega)).mono ?_
          rintro e w ⟨rfl, rfl⟩
          go_wp2_with fail
          refine (inSpans_cb _ Al nl cl l z true hl (K.rd_own rl) (by omega)).mono ?_
          rintro e w ⟨rfl, rfl⟩
          obtain ⟨q0, q1, q2, q3, q4⟩ := bx
          go_wp2_with fail
          refine (inSpan_ik x y z false _ hi).mono ?_
          rintro e w5' ⟨rfl, k5⟩
          go_wp2
          go_roundw
          case rel => exact ⟨z + 1, by omega, by omega, rfl, K.Kept.trans kr k5⟩
          case measure => simp [intOf]; omega
        · rw [hl, hi] at hm
          have hm : inS U z = false := hm
          go_wp2_with fail
          refine (inSpans_cb _ Ao no co U z false hm (K.rd_own ro) (by omega)).mono ?_
          rintro e w ⟨rfl, rfl⟩
          go_wp2_with fail
          refine (inSpans_cb _ Al nl cl l z true hl (K.rd_own rl) (by omega)).mono ?_
          rintro e w ⟨rfl, rfl⟩
          obtain ⟨q0, q1, q2, q3, q4⟩ := bx
          go_wp2_with fail
          refine (inSpan_ik x y z true _ hi).mono ?_
          rintro e w5' ⟨rfl, k5⟩
          go_wp2
          go_roundw
          case rel => exact ⟨z + 1, by omega, by omega, rfl, K.Kept.trans kr k5⟩
          case measure => simp [intOf]; omega
    · have hz : z = 60 := by omega
      subst hz
      go_wp2_with fail
      refine (validSpans_i _ Ao no co U (K.rd_own ro) (by omega)).mono ?_
      rintro e w9 ⟨rfl, k9⟩
      rw [HV.out]
      go_wp2
      go_ret
      exact ⟨rfl, K.Kept.trans kw (K.Kept.trans kr k9)⟩
theorem uL_len6 (l : List (Int × Int)) (s : Int × Int) : (uL l s).length ≤ 6 := by
  cases h : uOk l s
  · rw [uL_no h]; simp
  · rw [uL_yes h]
    unfold uOk at h
    simp only [Bool.and_eq_true, decide_eq_true_eq] at h
    exact h.2
theorem again_uni {l U : List (Int × Int)} {x y p q : Int} (hU : U = Plain.uni l (x, y)) (hc : Plain.Ch l) (hV : Plain.V (x, y)) (h6 : U.length ≤ 6) (hcU : Plain.Ch U) (hp : vsp p q = true) (hm : (p, q) = (x, y) ∨ (p, q) ∈ l) : uL U (p, q) = U ∧ uOk U (p, q) = true := by
  have e : Plain.uni U (p, q) = U := by
    rcases hm with h | h
    · rw [h, hU]; exact Plain.uni_twice hc hV
    · rw [hU]; exact Plain.uni_elem hc hV h
  have o : uOk U (p, q) = true := by rw [uOk_of hcU h6 hp, e]; exact decide_eq_true h6
  exact ⟨(uL_yes o).trans e, o⟩
theorem order_uni {l U P Q : List (Int × Int)} {x y a b : Int} (hU : U = Plain.uni l (x, y)) (hc : Plain.Ch l) (hv : vsp x y = true) (h1 : uOk U (a, b) = true) (hP : uL U (a, b) = P) (h2 : uOk l (a, b) = true) (hQ : uL l (a, b) = Q) : uL Q (x, y) = P ∧ uOk Q (x, y) = true := by
  obtain ⟨c1, v1, V1, l1, d1⟩ := uOk_parts h1
  obtain ⟨c2, v2, V2, l2, d2⟩ := uOk_parts h2
  rw [uL_yes h1] at hP
  rw [uL_yes h2] at hQ
  have e : Plain.uni Q (x, y) = P := by rw [← hQ, ← hP, hU]; exact Plain.uni_order hc V2 (v_iff.2 hv)
  have o : uOk Q (x, y) = true := by
    rw [uOk_of (by rw [← hQ]; exact d2) (by rw [← hQ]; exact l2) hv, e, ← hP]
    exact decide_eq_true l1
  exact ⟨(uL_yes o).trans e, o⟩
theorem again_wout {l U : List (Int × Int)} {x y : Int} (hU : U = Plain.wout l (x, y)) (hc : Plain.Ch l) (hv : vsp x y = true) (h6 : U.length ≤ 6) (hcU : Plain.Ch U) : wL U (x, y) = U ∧ wOk U (x, y) = true := by
  have e : Plain.wout U (x, y) = U := by rw [hU]; exact Plain.wout_twice hc (v_iff.2 hv)
  have o : wOk U (x, y) = true := by rw [wOk_of hcU h6 hv, e]; exact decide_eq_true h6
  exact ⟨(wL_yes o).trans e, o⟩
theorem all_wout {l : List (Int × Int)} (hc : Plain.Ch l) (h6 : l.length ≤ 6) : wL l (0, 1000000) = [] ∧ wOk l (0, 1000000) = true := by
  have e : Plain.wout l (0, 1000000) = [] := Plain.wout_all hc
  have o : wOk l (0, 1000000) = true := by rw [wOk_of hc h6 (by decide), e]; rfl
  exact ⟨(wL_yes o).trans e, o⟩
theorem back_wout {l U : List (Int × Int)} {x y : Int} (hU : U = Plain.wout l (x, y)) (hc : Plain.Ch l) (hl6 : l.length ≤ 6) (hv : vsp x y = true) (h6 : U.length ≤ 6) (hcU : Plain.Ch U) : uL U (x, y) = uL l (x, y) ∧ uOk U (x, y) = uOk l (x, y) := by
  have e : Plain.uni U (x, y) = Plain.uni l (x, y) := by rw [hU]; exact Plain.wout_uni hc (v_iff.2 hv)
  have o : uOk U (x, y) = uOk l (x, y) := by rw [uOk_of hcU h6 hv, uOk_of hc hl6 hv, e]
  refine ⟨?_, o⟩
  unfold uL; rw [o, e]
theorem wOk_len {l : List (Int × Int)} {x y : Int} (h : wOk l (x, y) = true) : l.length ≤ 6 := by
  unfold wOk at h
  simp only [Bool.and_eq_true] at h
  exact (ch_of h.1.1).2
set_option maxHeartbeats 4000000 in
theorem unionSpanOrder (w : World) (n c : Nat) (A : Option Addr) (h : Code w w.heap.size A n c) : Calls Try.prog 10 #[.slice A n c] w fun e w' => e = .returned (.bool true) ∧ Below w.heap.size w w' := by
  by_cases hn : 1048576 < n
  · go_enter Try.func10, Try.ntmps10
    go_wp2
    go_ret
    exact ⟨rfl, Below.refl _ _⟩
  have hc := h
  unfold Code maxLen at hc
  have hn' : n ≤ 1048576 := by omega
  clear hc hn
  go_enter Try.func10, Try.ntmps10
  go_wp2_with fail
  refine (drawUnionSpan_c w n c A h).mono ?_
  rintro e w1 ⟨Al, nl, cl, l, x, y, rfl, hnl, ownl, hxy, kw⟩
  clear h hxy
  cases hB : uOk l (x, y)
  case false =>
    have hU : uL l (x, y) = [] := uL_no hB
    have h6 : ([] : List (Int × Int)).length ≤ 6 := by simp
    have bx_s := Box2.new w1 (.int .i64 x) (.int .i64 y) 24
    have kk := kp1 w1 (.cells #[.int .i64 x, .int .i64 y] 24)
    replace ownl := K.own_kept ownl kk
    replace kw := K.Kept.trans kw kk
    generalize hw2 : w1.alloc (.cells #[.int .i64 x, .int .i64 y] 24) = w2 at ownl bx_s kw kk
    clear kk
    obtain ⟨qs0, qs1, qs2, qs3, qs4⟩ := id bx_s
    go_wp2_with fail
    refine (unionSpan_iv _ Al nl cl l x y [] false hU hB (K.rd_own ownl) (by omega)).mono ?_
    rintro e w3 ⟨Ao, no, co, rfl, hlo, owno, kk⟩
    replace ownl := K.own_kept ownl kk
    replace bx_s := Box2.kept bx_s kk
    replace kw := K.Kept.trans kw kk
    clear kk
    clear qs0 qs1 qs2 qs3 qs4
    obtain ⟨qs0, qs1, qs2, qs3, qs4⟩ := id bx_s
    go_wp2_with fail
    refine (unionSpan_sv _ Al nl cl l x y [] false hU hB (K.rd_own ownl) (by omega)).mono ?_
    rintro e w4 ⟨Av, nv, cv, rfl, hlv, ownv, kk⟩
    replace ownl := K.own_kept ownl kk
    replace owno := K.own_kept owno kk
    replace bx_s := Box2.kept bx_s kk
    replace kw := K.Kept.trans kw kk
    clear kk
    clear qs0 qs1 qs2 qs3 qs4
    obtain ⟨qs0, qs1, qs2, qs3, qs4⟩ := id bx_s
    go_wp2_with fail
    refine (equalSpans_c _ _ _ _ _ _ _ [] [] (K.rd_own owno) (K.rd_own ownv) (by omega) (by omega)).mono ?_
    rintro e w5 ⟨rfl, kk⟩
    replace ownl := K.own_kept ownl kk
    replace owno := K.own_kept owno kk
    replace ownv := K.own_kept ownv kk
    replace bx_s := Box2.kept bx_s kk
    replace kw := K.Kept.trans kw kk
    clear kk
    clear qs0 qs1 qs2 qs3 qs4
    obtain ⟨qs0, qs1, qs2, qs3, qs4⟩ := id bx_s
    go_wp2_with fail
    refine (equalSpans_c _ _ _ _ _ _ _ [] [] (K.rd_own owno) (K.rd_own ownv) (by omega) (by omega)).mono ?_
    rintro e w6 ⟨rfl, kk⟩
    replace ownl := K.own_kept ownl kk
    replace owno := K.own_kept owno kk
    replace ownv := K.own_kept ownv kk
    replace bx_s := Box2.kept bx_s kk
    replace kw := K.Kept.trans kw kk
    clear kk
    clear qs0 qs1 qs2 qs3 qs4
    go_wp2
    go_ret
    exact ⟨rfl, kw⟩
  have hU0 : uL l (x, y) = Plain.uni l (x, y) := uL_yes hB
  obtain ⟨U, hU⟩ : ∃ U, U = Plain.uni l (x, y) := ⟨_, rfl⟩
  obtain ⟨hc, hv, hV, h6, hcU⟩ := uOk_parts hB
  rw [← hU] at hU0 h6 hcU
  have HO := Lib.hid (fun P Q (a b : Int) => order_uni (P := P) (Q := Q) (a := a) (b := b) hU hc hv)
  clear hU hc hV hcU hv
  have hU := hU0
  clear hU0
  have bx_s := Box2.new w1 (.int .i64 x) (.int .i64 y) 24
  have kk := kp1 w1 (.cells #[.int .i64 x, .int .i64 y] 24)
  replace ownl := K.own_kept ownl kk
  replace kw := K.Kept.trans kw kk
  generalize hw2 : w1.alloc (.cells #[.int .i64 x, .int .i64 y] 24) = w2 at ownl bx_s kw kk
  clear kk
  obtain ⟨qs0, qs1, qs2, qs3, qs4⟩ := id bx_s
  go_wp2_with fail
  refine (unionSpan_iv _ Al nl cl l x y U true hU hB (K.rd_own ownl) (by omega)).mono ?_
  rintro e w3 ⟨Ao, no, co, rfl, hlo, owno, kk⟩
  replace ownl := K.own_kept ownl kk
  replace bx_s := Box2.kept bx_s kk
  replace kw := K.Kept.trans kw kk
  clear kk
  clear qs0 qs1 qs2 qs3 qs4
  obtain ⟨qs0, qs1, qs2, qs3, qs4⟩ := id bx_s
  go_wp2_with fail
  refine (unionSpan_sv _ Al nl cl l x y U true hU hB (K.rd_own ownl) (by omega)).mono ?_
  rintro e w4 ⟨Av, nv, cv, rfl, hlv, ownv, kk⟩
  replace ownl := K.own_kept ownl kk
  replace owno := K.own_kept owno kk
  replace bx_s := Box2.kept bx_s kk
  replace kw := K.Kept.trans kw kk
  clear kk
  clear qs0 qs1 qs2 qs3 qs4
  obtain ⟨qs0, qs1, qs2, qs3, qs4⟩ := id bx_s
  go_wp2_with fail
  refine (equalSpans_c _ _ _ _ _ _ _ U U (K.rd_own owno) (K.rd_own ownv) (by omega) (by omega)).mono ?_
  rintro e w5 ⟨rfl, kk⟩
  replace ownl := K.own_kept ownl kk
  replace owno := K.own_kept owno kk
  replace ownv := K.own_kept ownv kk
  replace bx_s := Box2.kept bx_s kk
  replace kw := K.Kept.trans kw kk
  clear kk
  clear qs0 qs1 qs2 qs3 qs4
  clear hB hU
  clear ownv
  clear hlv
  have bx_t := Box2.new w5 (.int .i64 12) (.int .i64 17) 24
  have kk := kp1 w5 (.cells #[.int .i64 12, .int .i64 17] 24)
  replace ownl := K.own_kept ownl kk
  replace owno := K.own_kept owno kk
  replace bx_s := Box2.kept bx_s kk
  replace kw := K.Kept.trans kw kk
  generalize hwt : w5.alloc (.cells #[.int .i64 12, .int .i64 17] 24) = wt at ownl owno bx_s bx_t kw kk
  clear kk
  obtain ⟨P, hP⟩ : ∃ P, uL U (12, 17) = P := ⟨_, rfl⟩
  obtain ⟨Q, hQ⟩ : ∃ Q, uL l (12, 17) = Q := ⟨_, rfl⟩
  have hP6 : P.length ≤ 6 := hP ▸ uL_len6 _ _
  have hQ6 : Q.length ≤ 6 := hQ ▸ uL_len6 _ _
  cases hb1 : uOk U (12, 17) <;> cases hb2 : uOk l (12, 17)
  case false.false =>
    obtain ⟨R, hR⟩ : ∃ R, uL Q (x, y) = R := ⟨_, rfl⟩
    obtain ⟨b3, hb3⟩ : ∃ b, uOk Q (x, y) = b := ⟨_, rfl⟩
    obtain ⟨qs0, qs1, qs2, qs3, qs4⟩ := id bx_s
    obtain ⟨qt0, qt1, qt2, qt3, qt4⟩ := id bx_t
    go_wp2_with fail
    refine (unionSpan_iv _ Ao no co U 12 17 P false hP hb1 (K.rd_own owno) (by omega)).mono ?_
    rintro e w6 ⟨Aa, na, ca, rfl, hla, owna, kk⟩
    replace ownl := K.own_kept ownl kk
    replace owno := K.own_kept owno kk
    replace bx_s := Box2.kept bx_s kk
    replace bx_t := Box2.kept bx_t kk
    replace kw := K.Kept.trans kw kk
    clear kk
    clear qs0 qs1 qs2 qs3 qs4
    clear qt0 qt1 qt2 qt3 qt4
    obtain ⟨qs0, qs1, qs2, qs3, qs4⟩ := id bx_s
    obtain ⟨qt0, qt1, qt2, qt3, qt4⟩ := id bx_t
    go_wp2_with fail
    refine (unionSpan_iv _ Al nl cl l 12 17 Q false hQ hb2 (K.rd_own ownl) (by omega)).mono ?_
    rintro e w7 ⟨Ab, nb, cb, rfl, hlb, ownb, kk⟩
    replace ownl := K.own_kept ownl kk
    replace owno := K.own_kept owno kk
    replace owna := K.own_kept owna kk
    replace bx_s := Box2.kept bx_s kk
    replace bx_t := Box2.kept bx_t kk
    replace kw := K.Kept.trans kw kk
    clear kk
    clear qs0 qs1 qs2 qs3 qs4
    clear qt0 qt1 qt2 qt3 qt4
    obtain ⟨qs0, qs1, qs2, qs3, qs4⟩ := id bx_s
    obtain ⟨qt0, qt1, qt2, qt3, qt4⟩ := id bx_t
    go_wp2_with fail
    refine (unionSpan_iv _ Ab nb cb Q x y R b3 hR hb3 (K.rd_own ownb) (by omega)).mono ?_
    rintro e w8 ⟨Ac, nc, cc, rfl, hlc, ownc, kk⟩
    replace ownl := K.own_kept ownl kk
    replace owno := K.own_kept owno kk
    replace owna := K.own_kept owna kk
    replace ownb := K.own_kept ownb kk
    replace bx_s := Box2.kept bx_s kk
    replace bx_t := Box2.kept bx_t kk
    replace kw := K.Kept.trans kw kk
    clear kk
    clear qs0 qs1 qs2 qs3 qs4
    clear qt0 qt1 qt2 qt3 qt4
    go_wp2
    go_ret
    exact ⟨rfl, kw⟩
  case false.true =>
    obtain ⟨R, hR⟩ : ∃ R, uL Q (x, y) = R := ⟨_, rfl⟩
    obtain ⟨b3, hb3⟩ : ∃ b, uOk Q (x, y) = b := ⟨_, rfl⟩
    obtain ⟨qs0, qs1, qs2, qs3, qs4⟩ := id bx_s
    obtain ⟨qt0, qt1, qt2, qt3, qt4⟩ := id bx_t
    go_wp2_with fail
    refine (unionSpan_iv _ Ao no co U 12 17 P false hP hb1 (K.rd_own owno) (by omega)).mono ?_
    rintro e w6 ⟨Aa, na, ca, rfl, hla, owna, kk⟩
    replace ownl := K.own_kept ownl kk
    replace owno := K.own_kept owno kk
    replace bx_s := Box2.kept bx_s kk
    replace bx_t := Box2.kept bx_t kk
    replace kw := K.Kept.trans kw kk
    clear kk
    clear qs0 qs1 qs2 qs3 qs4
    clear qt0 qt1 qt2 qt3 qt4
    obtain ⟨qs0, qs1, qs2, qs3, qs4⟩ := id bx_s
    obtain ⟨qt0, qt1, qt2, qt3, qt4⟩ := id bx_t
    go_wp2_with fail
    refine (unionSpan_iv _ Al nl cl l 12 17 Q true hQ hb2 (K.rd_own ownl) (by omega)).mono ?_
    rintro e w7 ⟨Ab, nb, cb, rfl, hlb, ownb, kk⟩
    replace ownl := K.own_kept ownl kk
    replace owno := K.own_kept owno kk
    replace owna := K.own_kept owna kk
    replace bx_s := Box2.kept bx_s kk
    replace bx_t := Box2.kept bx_t kk
    replace kw := K.Kept.trans kw kk
    clear kk
    clear qs0 qs1 qs2 qs3 qs4
    clear qt0 qt1 qt2 qt3 qt4
    obtain ⟨qs0, qs1, qs2, qs3, qs4⟩ := id bx_s
    obtain ⟨qt0, qt1, qt2, qt3, qt4⟩ := id bx_t
    go_wp2_with fail
    refine (unionSpan_iv _ Ab nb cb Q x y R b3 hR hb3 (K.rd_own ownb) (by omega)).mono ?_
    rintro e w8 ⟨Ac, nc, cc, rfl, hlc, ownc, kk⟩
    replace ownl := K.own_kept ownl kk
    replace owno := K.own_kept owno kk
    replace owna := K.own_kept owna kk
    replace ownb := K.own_kept ownb kk
    replace bx_s := Box2.kept bx_s kk
    replace bx_t := Box2.kept bx_t kk
    replace kw := K.Kept.trans kw kk
    clear kk
    clear qs0 qs1 qs2 qs3 qs4
    clear qt0 qt1 qt2 qt3 qt4
    go_wp2
    go_ret
    exact ⟨rfl, kw⟩
  case true.false =>
    obtain ⟨R, hR⟩ : ∃ R, uL Q (x, y) = R := ⟨_, rfl⟩
    obtain ⟨b3, hb3⟩ : ∃ b, uOk Q (x, y) = b := ⟨_, rfl⟩
    obtain ⟨qs0, qs1, qs2, qs3, qs4⟩ := id bx_s
    obtain ⟨qt0, qt1, qt2, qt3, qt4⟩ := id bx_t
    go_wp2_with fail
    refine (unionSpan_iv _ Ao no co U 12 17 P true hP hb1 (K.rd_own owno) (by omega)).mono ?_
    rintro e w6 ⟨Aa, na, ca, rfl, hla, owna, kk⟩
    replace ownl := K.own_kept ownl kk
    replace owno := K.own_kept owno kk
    replace bx_s := Box2.kept bx_s kk
    replace bx_t := Box2.kept bx_t kk
    replace kw := K.Kept.trans kw kk
    clear kk
    clear qs0 qs1 qs2 qs3 qs4
    clear qt0 qt1 qt2 qt3 qt4
    obtain ⟨qs0, qs1, qs2, qs3, qs4⟩ := id bx_s
    obtain ⟨qt0, qt1, qt2, qt3, qt4⟩ := id bx_t
    go_wp2_with fail
    refine (unionSpan_iv _ Al nl cl l 12 17 Q false hQ hb2 (K.rd_own ownl) (by omega)).mono ?_
    rintro e w7 ⟨Ab, nb, cb, rfl, hlb, ownb, kk⟩
    replace ownl := K.own_kept ownl kk
    replace owno := K.own_kept owno kk
    replace owna := K.own_kept owna kk
    replace bx_s := Box2.kept bx_s kk
    replace bx_t := Box2.kept bx_t kk
    replace kw := K.Kept.trans kw kk
    clear kk
    clear qs0 qs1 qs2 qs3 qs4
    clear qt0 qt1 qt2 qt3 qt4
    obtain ⟨qs0, qs1, qs2, qs3, qs4⟩ := id bx_s
    obtain ⟨qt0, qt1, qt2, qt3, qt4⟩ := id bx_t
    go_wp2_with fail
    refine (unionSpan_iv _ Ab nb cb Q x y R b3 hR hb3 (K.rd_own ownb) (by omega)).mono ?_
    rintro e w8 ⟨Ac, nc, cc, rfl, hlc, ownc, kk⟩
    replace ownl := K.own_kept ownl kk
    replace owno := K.own_kept owno kk
    replace owna := K.own_kept owna kk
    replace ownb := K.own_kept ownb kk
    replace bx_s := Box2.kept bx_s kk
    replace bx_t := Box2.kept bx_t kk
    replace kw := K.Kept.trans kw kk
    clear kk
    clear qs0 qs1 qs2 qs3 qs4
    clear qt0 qt1 qt2 qt3 qt4
    go_wp2
    go_ret
    exact ⟨rfl, kw⟩
  case true.true =>
    obtain ⟨hR, hb3⟩ := HO.out P Q 12 17 hb1 hP hb2 hQ
    obtain ⟨qs0, qs1, qs2, qs3, qs4⟩ := id bx_s
    obtain ⟨qt0, qt1, qt2, qt3, qt4⟩ := id bx_t
    go_wp2_with fail
    refine (unionSpan_iv _ Ao no co U 12 17 P true hP hb1 (K.rd_own owno) (by omega)).mono ?_
    rintro e w6 ⟨Aa, na, ca, rfl, hla, owna, kk⟩
    replace ownl := K.own_kept ownl kk
    replace owno := K.own_kept owno kk
    replace bx_s := Box2.kept bx_s kk
    replace bx_t := Box2.kept bx_t kk
    replace kw := K.Kept.trans kw kk
    clear kk
    clear qs0 qs1 qs2 qs3 qs4
    clear qt0 qt1 qt2 qt3 qt4
    obtain ⟨qs0, qs1, qs2, qs3, qs4⟩ := id bx_s
    obtain ⟨qt0, qt1, qt2, qt3, qt4⟩ := id bx_t
    go_wp2_with fail
    refine (unionSpan_iv _ Al nl cl l 12 17 Q true hQ hb2 (K.rd_own ownl) (by omega)).mono ?_
    rintro e w7 ⟨Ab, nb, cb, rfl, hlb, ownb, kk⟩
    replace ownl := K.own_kept ownl kk
    replace owno := K.own_kept owno kk
    replace owna := K.own_kept owna kk
    replace bx_s := Box2.kept bx_s kk
    replace bx_t := Box2.kept bx_t kk
    replace kw := K.Kept.trans kw kk
    clear kk
    clear qs0 qs1 qs2 qs3 qs4
    clear qt0 qt1 qt2 qt3 qt4
    obtain ⟨qs0, qs1, qs2, qs3, qs4⟩ := id bx_s
    obtain ⟨qt0, qt1, qt2, qt3, qt4⟩ := id bx_t
    go_wp2_with fail
    refine (unionSpan_iv _ Ab nb cb Q x y P true hR hb3 (K.rd_own ownb) (by omega)).mono ?_
    rintro e w8 ⟨Ac, nc, cc, rfl, hlc, ownc, kk⟩
    replace ownl := K.own_kept ownl kk
    replace owno := K.own_kept owno kk
    replace owna := K.own_kept owna kk
    replace ownb := K.own_kept ownb kk
    replace bx_s := Box2.kept bx_s kk
    replace bx_t := Box2.kept bx_t kk
    replace kw := K.Kept.trans kw kk
    clear kk
    clear qs0 qs1 qs2 qs3 qs4
    clear qt0 qt1 qt2 qt3 qt4
    obtain ⟨qs0, qs1, qs2, qs3, qs4⟩ := id bx_s
    obtain ⟨qt0, qt1, qt2, qt3, qt4⟩ := id bx_t
    go_wp2_with fail
    refine (equalSpans_c _ _ _ _ _ _ _ P P (K.rd_own owna) (K.rd_own ownc) (by omega) (by omega)).mono ?_
    rintro e w9 ⟨rfl, kk⟩
    replace ownl := K.own_kept ownl kk
    replace owno := K.own_kept owno kk
    replace owna := K.own_kept owna kk
    replace ownb := K.own_kept ownb kk
    replace ownc := K.own_kept ownc kk
    replace bx_s := Box2.kept bx_s kk
    replace bx_t := Box2.kept bx_t kk
    replace kw := K.Kept.trans kw kk
    clear kk
    clear qs0 qs1 qs2 qs3 qs4
    clear qt0 qt1 qt2 qt3 qt4
    go_wp2
    go_ret
    exact ⟨rfl, kw⟩
set_option maxHeartbeats 4000000 in
theorem withoutSpanTwice (w : World) (n c : Nat) (A : Option Addr) (h : Code w w.heap.size A n c) : Calls Try.prog 8 #[.slice A n c] w fun e w' => e = .returned (.bool true) ∧ Below w.heap.size w w' := by
  by_cases hn : 1048576 < n
  · go_enter Try.func8, Try.ntmps8
    go_wp2
    go_ret
    exact ⟨rfl, Below.refl _ _⟩
  have hc := h
  unfold Code maxLen at hc
  have hn' : n ≤ 1048576 := by omega
  clear hc hn
  go_enter Try.func8, Try.ntmps8
  go_wp2_with fail
  refine (drawWithoutSpan_c w n c A h).mono ?_
  rintro e w1 ⟨Al, nl, cl, l, x, y, rfl, hnl, ownl, hxy, kw⟩
  clear h hxy
  cases hB : wOk l (x, y)
  case false =>
    have hU : wL l (x, y) = [] := wL_no hB
    have h6 : ([] : List (Int × Int)).length ≤ 6 := by simp
    have bx_s := Box2.new w1 (.int .i64 x) (.int .i64 y) 24
    have kk := kp1 w1 (.cells #[.int .i64 x, .int .i64 y] 24)
    replace ownl := K.own_kept ownl kk
    replace kw := K.Kept.trans kw kk
    generalize hw2 : w1.alloc (.cells #[.int .i64 x, .int .i64 y] 24) = w2 at ownl bx_s kw kk
    clear kk
    obtain ⟨qs0, qs1, qs2, qs3, qs4⟩ := id bx_s
    go_wp2_with fail
    refine (withoutSpan_iv _ Al nl cl l x y [] false hU hB (K.rd_own ownl) (by omega)).mono ?_
    rintro e w3 ⟨Ao, no, co, rfl, hlo, owno, kk⟩
    replace ownl := K.own_kept ownl kk
    replace bx_s := Box2.kept bx_s kk
    replace kw := K.Kept.trans kw kk
    clear kk
    clear qs0 qs1 qs2 qs3 qs4
    obtain ⟨qs0, qs1, qs2, qs3, qs4⟩ := id bx_s
    go_wp2_with fail
    refine (withoutSpan_sv _ Al nl cl l x y [] false hU hB (K.rd_own ownl) (by omega)).mono ?_
    rintro e w4 ⟨Av, nv, cv, rfl, hlv, ownv, kk⟩
    replace ownl := K.own_kept ownl kk
    replace owno := K.own_kept owno kk
    replace bx_s := Box2.kept bx_s kk
    replace kw := K.Kept.trans kw kk
    clear kk
    clear qs0 qs1 qs2 qs3 qs4
    obtain ⟨qs0, qs1, qs2, qs3, qs4⟩ := id bx_s
    go_wp2_with fail
    refine (equalSpans_c _ _ _ _ _ _ _ [] [] (K.rd_own owno) (K.rd_own ownv) (by omega) (by omega)).mono ?_
    rintro e w5 ⟨rfl, kk⟩
    replace ownl := K.own_kept ownl kk
    replace owno := K.own_kept owno kk
    replace ownv := K.own_kept ownv kk
    replace bx_s := Box2.kept bx_s kk
    replace kw := K.Kept.trans kw kk
    clear kk
    clear qs0 qs1 qs2 qs3 qs4
    obtain ⟨qs0, qs1, qs2, qs3, qs4⟩ := id bx_s
    go_wp2_with fail
    refine (equalSpans_c _ _ _ _ _ _ _ [] [] (K.rd_own owno) (K.rd_own ownv) (by omega) (by omega)).mono ?_
    rintro e w6 ⟨rfl, kk⟩
    replace ownl := K.own_kept ownl kk
    replace owno := K.own_kept owno kk
    replace ownv := K.own_kept ownv kk
    replace bx_s := Box2.kept bx_s kk
    replace kw := K.Kept.trans kw kk
    clear kk
    clear qs0 qs1 qs2 qs3 qs4
    go_wp2
    go_ret
    exact ⟨rfl, kw⟩
  have hU0 : wL l (x, y) = Plain.wout l (x, y) := wL_yes hB
  obtain ⟨U, hU⟩ : ∃ U, U = Plain.wout l (x, y) := ⟨_, rfl⟩
  have hl6 := wOk_len hB
  obtain ⟨hc, hv, hV, h6, hcU⟩ := wOk_parts hB
  rw [← hU] at hU0 h6 hcU
  obtain ⟨hR, hb3⟩ := again_wout hU hc hv h6 hcU
  obtain ⟨hE, hb4⟩ := all_wout hc hl6
  clear hU hc hV hcU hv hl6
  have hU := hU0
  clear hU0
  have bx_s := Box2.new w1 (.int .i64 x) (.int .i64 y) 24
  have kk := kp1 w1 (.cells #[.int .i64 x, .int .i64 y] 24)
  replace ownl := K.own_kept ownl kk
  replace kw := K.Kept.trans kw kk
  generalize hw2 : w1.alloc (.cells #[.int .i64 x, .int .i64 y] 24) = w2 at ownl bx_s kw kk
  clear kk
  obtain ⟨qs0, qs1, qs2, qs3, qs4⟩ := id bx_s
  go_wp2_with fail
  refine (withoutSpan_iv _ Al nl cl l x y U true hU hB (K.rd_own ownl) (by omega)).mono ?_
  rintro e w3 ⟨Ao, no, co, rfl, hlo, owno, kk⟩
  replace ownl := K.own_kept ownl kk
  replace bx_s := Box2.kept bx_s kk
  replace kw := K.Kept.trans kw kk
  clear kk
  clear qs0 qs1 qs2 qs3 qs4
  obtain ⟨qs0, qs1, qs2, qs3, qs4⟩ := id bx_s
  go_wp2_with fail
  refine (withoutSpan_sv _ Al nl cl l x y U true hU hB (K.rd_own ownl) (by omega)).mono ?_
  rintro e w4 ⟨Av, nv, cv, rfl, hlv, ownv, kk⟩
  replace ownl := K.own_kept ownl kk
  replace owno := K.own_kept owno kk
  replace bx_s := Box2.kept bx_s kk
  replace kw := K.Kept.trans kw kk
  clear kk
  clear qs0 qs1 qs2 qs3 qs4
  obtain ⟨qs0, qs1, qs2, qs3, qs4⟩ := id bx_s
  go_wp2_with fail
  refine (equalSpans_c _ _ _ _ _ _ _ U U (K.rd_own owno) (K.rd_own ownv) (by omega) (by omega)).mono ?_
  rintro e w5 ⟨rfl, kk⟩
  replace ownl := K.own_kept ownl kk
  replace owno := K.own_kept owno kk
  replace ownv := K.own_kept ownv kk
  replace bx_s := Box2.kept bx_s kk
  replace kw := K.Kept.trans kw kk
  clear kk
  clear qs0 qs1 qs2 qs3 qs4
  clear hB hU
  clear ownv
  clear hlv
  obtain ⟨qs0, qs1, qs2, qs3, qs4⟩ := id bx_s
  go_wp2_with fail
  refine (withoutSpan_iv _ Ao no co U x y U true hR hb3 (K.rd_own owno) (by omega)).mono ?_
  rintro e w6 ⟨Aa, na, ca, rfl, hla, owna, kk⟩
  replace ownl := K.own_kept ownl kk
  replace owno := K.own_kept owno kk
  replace bx_s := Box2.kept bx_s kk
  replace kw := K.Kept.trans kw kk
  clear kk
  clear qs0 qs1 qs2 qs3 qs4
  obtain ⟨qs0, qs1, qs2, qs3, qs4⟩ := id bx_s
  go_wp2_with fail
  refine (withoutSpan_iv _ Al nl cl l 0 1000000 [] true hE hb4 (K.rd_own ownl) (by omega)).mono ?_
  rintro e w7 ⟨Ae, ne, ce, rfl, hle, owne, kk⟩
  replace ownl := K.own_kept ownl kk
  replace owno := K.own_kept owno kk
  replace owna := K.own_kept owna kk
  replace bx_s := Box2.kept bx_s kk
  replace kw := K.Kept.trans kw kk
  clear kk
  clear qs0 qs1 qs2 qs3 qs4
  have he0 : ne = 0 := by simpa using hle.symm
  subst he0
  clear hle hR hb3 hE hb4
  obtain ⟨qs0, qs1, qs2, qs3, qs4⟩ := id bx_s
  go_wp2_with fail
  refine (equalSpans_c _ _ _ _ _ _ _ U U (K.rd_own owna) (K.rd_own owno) (by omega) (by omega)).mono ?_
  rintro e w8 ⟨rfl, kk⟩
  replace ownl := K.own_kept ownl kk
  replace owno := K.own_kept owno kk
  replace owna := K.own_kept owna kk
  replace owne := K.own_kept owne kk
  replace bx_s := Box2.kept bx_s kk
  replace kw := K.Kept.trans kw kk
  clear kk
  clear qs0 qs1 qs2 qs3 qs4
  go_wp2
  go_ret
  exact ⟨rfl, kw⟩
set_option maxHeartbeats 4000000 in
theorem withoutSpanUnion (w : World) (n c : Nat) (A : Option Addr) (h : Code w w.heap.size A n c) : Calls Try.prog 14 #[.slice A n c] w fun e w' => e = .returned (.bool true) ∧ Below w.heap.size w w' := by
  by_cases hn : 1048576 < n
  · go_enter Try.func14, Try.ntmps14
    go_wp2
    go_ret
    exact ⟨rfl, Below.refl _ _⟩
  have hc := h
  unfold Code maxLen at hc
  have hn' : n ≤ 1048576 := by omega
  clear hc hn
  go_enter Try.func14, Try.ntmps14
  go_wp2_with fail
  refine (drawWithoutSpan_c w n c A h).mono ?_
  rintro e w1 ⟨Al, nl, cl, l, x, y, rfl, hnl, ownl, hxy, kw⟩
  clear h hxy
  cases hB : wOk l (x, y)
  case false =>
    have hU : wL l (x, y) = [] := wL_no hB
    have h6 : ([] : List (Int × Int)).length ≤ 6 := by simp
    have bx_s := Box2.new w1 (.int .i64 x) (.int .i64 y) 24
    have kk := kp1 w1 (.cells #[.int .i64 x, .int .i64 y] 24)
    replace ownl := K.own_kept ownl kk
    replace kw := K.Kept.trans kw kk
    generalize hw2 : w1.alloc (.cells #[.int .i64 x, .int .i64 y] 24) = w2 at ownl bx_s kw kk
    clear kk
    obtain ⟨qs0, qs1, qs2, qs3, qs4⟩ := id bx_s
    go_wp2_with fail
    refine (withoutSpan_iv _ Al nl cl l x y [] false hU hB (K.rd_own ownl) (by omega)).mono ?_
    rintro e w3 ⟨Ao, no, co, rfl, hlo, owno, kk⟩
    replace ownl := K.own_kept ownl kk
    replace bx_s := Box2.kept bx_s kk
    replace kw := K.Kept.trans kw kk
    clear kk
    clear qs0 qs1 qs2 qs3 qs4
    obtain ⟨qs0, qs1, qs2, qs3, qs4⟩ := id bx_s
    go_wp2_with fail
    refine (withoutSpan_sv _ Al nl cl l x y [] false hU hB (K.rd_own ownl) (by omega)).mono ?_
    rintro e w4 ⟨Av, nv, cv, rfl, hlv, ownv, kk⟩
    replace ownl := K.own_kept ownl kk
    replace owno := K.own_kept owno kk
    replace bx_s := Box2.kept bx_s kk
    replace kw := K.Kept.trans kw kk
    clear kk
    clear qs0 qs1 qs2 qs3 qs4
    obtain ⟨qs0, qs1, qs2, qs3, qs4⟩ := id bx_s
    go_wp2_with fail
    refine (equalSpans_c _ _ _ _ _ _ _ [] [] (K.rd_own owno) (K.rd_own ownv) (by omega) (by omega)).mono ?_
    rintro e w5 ⟨rfl, kk⟩
    replace ownl := K.own_kept ownl kk
    replace owno := K.own_kept owno kk
    replace ownv := K.own_kept ownv kk
    replace bx_s := Box2.kept bx_s kk
    replace kw := K.Kept.trans kw kk
    clear kk
    clear qs0 qs1 qs2 qs3 qs4
    obtain ⟨qs0, qs1, qs2, qs3, qs4⟩ := id bx_s
    go_wp2_with fail
    refine (equalSpans_c _ _ _ _ _ _ _ [] [] (K.rd_own owno) (K.rd_own ownv) (by omega) (by omega)).mono ?_
    rintro e w6 ⟨rfl, kk⟩
    replace ownl := K.own_kept ownl kk
    replace owno := K.own_kept owno kk
    replace ownv := K.own_kept ownv kk
    replace bx_s := Box2.kept bx_s kk
    replace kw := K.Kept.trans kw kk
    clear kk
    clear qs0 qs1 qs2 qs3 qs4
    go_wp2
    go_ret
    exact ⟨rfl, kw⟩
  have hU0 : wL l (x, y) = Plain.wout l (x, y) := wL_yes hB
  obtain ⟨U, hU⟩ : ∃ U, U = Plain.wout l (x, y) := ⟨_, rfl⟩
  have hl6 := wOk_len hB
  obtain ⟨hc, hv, hV, h6, hcU⟩ := wOk_parts hB
  rw [← hU] at hU0 h6 hcU
  obtain ⟨hR, hb3⟩ := back_wout hU hc hl6 hv h6 hcU
  clear hU hc hV hcU hv hl6
  have hU := hU0
  clear hU0
  obtain ⟨P, hP⟩ : ∃ P, uL l (x, y) = P := ⟨_, rfl⟩
  obtain ⟨bb, hbb⟩ : ∃ b, uOk l (x, y) = b := ⟨_, rfl⟩
  rw [hP] at hR
  rw [hbb] at hb3
  have hP6 : P.length ≤ 6 := hP ▸ uL_len6 _ _
  have bx_s := Box2.new w1 (.int .i64 x) (.int .i64 y) 24
  have kk := kp1 w1 (.cells #[.int .i64 x, .int .i64 y] 24)
  replace ownl := K.own_kept ownl kk
  replace kw := K.Kept.trans kw kk
  generalize hw2 : w1.alloc (.cells #[.int .i64 x, .int .i64 y] 24) = w2 at ownl bx_s kw kk
  clear kk
  obtain ⟨qs0, qs1, qs2, qs3, qs4⟩ := id bx_s
  go_wp2_with fail
  refine (withoutSpan_iv _ Al nl cl l x y U true hU hB (K.rd_own ownl) (by omega)).mono ?_
  rintro e w3 ⟨Ao, no, co, rfl, hlo, owno, kk⟩
  replace ownl := K.own_kept ownl kk
  replace bx_s := Box2.kept bx_s kk
  replace kw := K.Kept.trans kw kk
  clear kk
  clear qs0 qs1 qs2 qs3 qs4
  obtain ⟨qs0, qs1, qs2, qs3, qs4⟩ := id bx_s
  go_wp2_with fail
  refine (withoutSpan_sv _ Al nl cl l x y U true hU hB (K.rd_own ownl) (by omega)).mono ?_
  rintro e w4 ⟨Av, nv, cv, rfl, hlv, ownv, kk⟩
  replace ownl := K.own_kept ownl kk
  replace owno := K.own_kept owno kk
  replace bx_s := Box2.kept bx_s kk
  replace kw := K.Kept.trans kw kk
  clear kk
  clear qs0 qs1 qs2 qs3 qs4
  obtain ⟨qs0, qs1, qs2, qs3, qs4⟩ := id bx_s
  go_wp2_with fail
  refine (equalSpans_c _ _ _ _ _ _ _ U U (K.rd_own owno) (K.rd_own ownv) (by omega) (by omega)).mono ?_
  rintro e w5 ⟨rfl, kk⟩
  replace ownl := K.own_kept ownl kk
  replace owno := K.own_kept owno kk
  replace ownv := K.own_kept ownv kk
  replace bx_s := Box2.kept bx_s kk
  replace kw := K.Kept.trans kw kk
  clear kk
  clear qs0 qs1 qs2 qs3 qs4
  clear hB hU
  clear ownv
  clear hlv
  obtain ⟨qs0, qs1, qs2, qs3, qs4⟩ := id bx_s
  go_wp2_with fail
  refine (unionSpan_iv _ Ao no co U x y P bb hR hb3 (K.rd_own owno) (by omega)).mono ?_
  rintro e w6 ⟨Aa, na, ca, rfl, hla, owna, kk⟩
  replace ownl := K.own_kept ownl kk
  replace owno := K.own_kept owno kk
  replace bx_s := Box2.kept bx_s kk
  replace kw := K.Kept.trans kw kk
  clear kk
  clear qs0 qs1 qs2 qs3 qs4
  obtain ⟨qs0, qs1, qs2, qs3, qs4⟩ := id bx_s
  go_wp2_with fail
  refine (unionSpan_iv _ Al nl cl l x y P bb hP hbb (K.rd_own ownl) (by omega)).mono ?_
  rintro e w7 ⟨Ab, nb, cb, rfl, hlb, ownb, kk⟩
  replace ownl := K.own_kept ownl kk
  replace owno := K.own_kept owno kk
  replace owna := K.own_kept owna kk
  replace bx_s := Box2.kept bx_s kk
  replace kw := K.Kept.trans kw kk
  clear kk
  clear qs0 qs1 qs2 qs3 qs4
  obtain ⟨qs0, qs1, qs2, qs3, qs4⟩ := id bx_s
  go_wp2_with fail
  refine (equalSpans_c _ _ _ _ _ _ _ P P (K.rd_own owna) (K.rd_own ownb) (by omega) (by omega)).mono ?_
  rintro e w8 ⟨rfl, kk⟩
  replace ownl := K.own_kept ownl kk
  replace owno := K.own_kept owno kk
  replace owna := K.own_kept owna kk
  replace ownb := K.own_kept ownb kk
  replace bx_s := Box2.kept bx_s kk
  replace kw := K.Kept.trans kw kk
  clear kk
  clear qs0 qs1 qs2 qs3 qs4
  go_wp2
  go_ret
  exact ⟨rfl, kw⟩
set_option maxHeartbeats 4000000 in
theorem unionSpanTwice (w : World) (n c : Nat) (A : Option Addr) (h : Code w w.heap.size A n c) : Calls Try.prog 11 #[.slice A n c] w fun e w' => e = .returned (.bool true) ∧ Below w.heap.size w w' := by
  by_cases hn : 1048576 < n
  · go_enter Try.func11, Try.ntmps11
    go_wp2
    go_ret
    exact ⟨rfl, Below.refl _ _⟩
  have hc := h
  unfold Code maxLen at hc
  have hn' : n ≤ 1048576 := by omega
  clear hc hn
  go_enter Try.func11, Try.ntmps11
  go_wp2_with fail
  refine (drawUnionSpan_c w n c A h).mono ?_
  rintro e w1 ⟨Al, nl, cl, l, x, y, rfl, hnl, ownl, hxy, kw⟩
  clear h hxy
  cases hB : uOk l (x, y)
  case false =>
    have hU : uL l (x, y) = [] := uL_no hB
    have h6 : ([] : List (Int × Int)).length ≤ 6 := by simp
    have bx_s := Box2.new w1 (.int .i64 x) (.int .i64 y) 24
    have kk := kp1 w1 (.cells #[.int .i64 x, .int .i64 y] 24)
    replace ownl := K.own_kept ownl kk
    replace kw := K.Kept.trans kw kk
    generalize hw2 : w1.alloc (.cells #[.int .i64 x, .int .i64 y] 24) = w2 at ownl bx_s kw kk
    clear kk
    obtain ⟨qs0, qs1, qs2, qs3, qs4⟩ := id bx_s
    go_wp2_with fail
    refine (unionSpan_iv _ Al nl cl l x y [] false hU hB (K.rd_own ownl) (by omega)).mono ?_
    rintro e w3 ⟨Ao, no, co, rfl, hlo, owno, kk⟩
    replace ownl := K.own_kept ownl kk
    replace bx_s := Box2.kept bx_s kk
    replace kw := K.Kept.trans kw kk
    clear kk
    clear qs0 qs1 qs2 qs3 qs4
    obtain ⟨qs0, qs1, qs2, qs3, qs4⟩ := id bx_s
    go_wp2_with fail
    refine (unionSpan_sv _ Al nl cl l x y [] false hU hB (K.rd_own ownl) (by omega)).mono ?_
    rintro e w4 ⟨Av, nv, cv, rfl, hlv, ownv, kk⟩
    replace ownl := K.own_kept ownl kk
    replace owno := K.own_kept owno kk
    replace bx_s := Box2.kept bx_s kk
    replace kw := K.Kept.trans kw kk
    clear kk
    clear qs0 qs1 qs2 qs3 qs4
    obtain ⟨qs0, qs1, qs2, qs3, qs4⟩ := id bx_s
    go_wp2_with fail
    refine (equalSpans_c _ _ _ _ _ _ _ [] [] (K.rd_own owno) (K.rd_own ownv) (by omega) (by omega)).mono ?_
    rintro e w5 ⟨rfl, kk⟩
    replace ownl := K.own_kept ownl kk
    replace owno := K.own_kept owno kk
    replace ownv := K.own_kept ownv kk
    replace bx_s := Box2.kept bx_s kk
    replace kw := K.Kept.trans kw kk
    clear kk
    clear qs0 qs1 qs2 qs3 qs4
    obtain ⟨qs0, qs1, qs2, qs3, qs4⟩ := id bx_s
    go_wp2_with fail
    refine (equalSpans_c _ _ _ _ _ _ _ [] [] (K.rd_own owno) (K.rd_own ownv) (by omega) (by omega)).mono ?_
    rintro e w6 ⟨rfl, kk⟩
    replace ownl := K.own_kept ownl kk
    replace owno := K.own_kept owno kk
    replace ownv := K.own_kept ownv kk
    replace bx_s := Box2.kept bx_s kk
    replace kw := K.Kept.trans kw kk
    clear kk
    clear qs0 qs1 qs2 qs3 qs4
    go_wp2
    go_ret
    exact ⟨rfl, kw⟩
  have hU0 : uL l (x, y) = Plain.uni l (x, y) := uL_yes hB
  obtain ⟨U, hU⟩ : ∃ U, U = Plain.uni l (x, y) := ⟨_, rfl⟩
  obtain ⟨hc, hv, hV, h6, hcU⟩ := uOk_parts hB
  rw [← hU] at hU0 h6 hcU
  obtain ⟨hR, hb3⟩ := again_uni hU hc hV h6 hcU hv (Or.inl rfl)
  have HE := Lib.hid (fun (p q : Int) (hm : (p, q) ∈ l) => again_uni hU hc hV h6 hcU (v_iff.1 (hc.1 _ hm)) (Or.inr hm))
  clear hU hc hV hcU hv
  have hU := hU0
  clear hU0
  have bx_s := Box2.new w1 (.int .i64 x) (.int .i64 y) 24
  have kk := kp1 w1 (.cells #[.int .i64 x, .int .i64 y] 24)
  replace ownl := K.own_kept ownl kk
  replace kw := K.Kept.trans kw kk
  generalize hw2 : w1.alloc (.cells #[.int .i64 x, .int .i64 y] 24) = w2 at ownl bx_s kw kk
  clear kk
  obtain ⟨qs0, qs1, qs2, qs3, qs4⟩ := id bx_s
  go_wp2_with fail
  refine (unionSpan_iv _ Al nl cl l x y U true hU hB (K.rd_own ownl) (by omega)).mono ?_
  rintro e w3 ⟨Ao, no, co, rfl, hlo, owno, kk⟩
  replace ownl := K.own_kept ownl kk
  replace bx_s := Box2.kept bx_s kk
  replace kw := K.Kept.trans kw kk
  clear kk
  clear qs0 qs1 qs2 qs3 qs4
  obtain ⟨qs0, qs1, qs2, qs3, qs4⟩ := id bx_s
  go_wp2_with fail
  refine (unionSpan_sv _ Al nl cl l x y U true hU hB (K.rd_own ownl) (by omega)).mono ?_
  rintro e w4 ⟨Av, nv, cv, rfl, hlv, ownv, kk⟩
  replace ownl := K.own_kept ownl kk
  replace owno := K.own_kept owno kk
  replace bx_s := Box2.kept bx_s kk
  replace kw := K.Kept.trans kw kk
  clear kk
  clear qs0 qs1 qs2 qs3 qs4
  obtain ⟨qs0, qs1, qs2, qs3, qs4⟩ := id bx_s
  go_wp2_with fail
  refine (equalSpans_c _ _ _ _ _ _ _ U U (K.rd_own owno) (K.rd_own ownv) (by omega) (by omega)).mono ?_
  rintro e w5 ⟨rfl, kk⟩
  replace ownl := K.own_kept ownl kk
  replace owno := K.own_kept owno kk
  replace ownv := K.own_kept ownv kk
  replace bx_s := Box2.kept bx_s kk
  replace kw := K.Kept.trans kw kk
  clear kk
  clear qs0 qs1 qs2 qs3 qs4
  clear hB hU
  clear ownv
  clear hlv
  obtain ⟨qs0, qs1, qs2, qs3, qs4⟩ := id bx_s
  go_wp2_with fail
  refine (unionSpan_iv _ Ao no co U x y U true hR hb3 (K.rd_own owno) (by omega)).mono ?_
  rintro e w6 ⟨Aa, na, ca, rfl, hla, owna, kk⟩
  replace ownl := K.own_kept ownl kk
  replace owno := K.own_kept owno kk
  replace bx_s := Box2.kept bx_s kk
  replace kw := K.Kept.trans kw kk
  clear kk
  clear qs0 qs1 qs2 qs3 qs4
  have Hl := Lib.hid ownl
  have Ho := Lib.hid owno
  have Ha := Lib.hid owna
  clear ownl owno owna hR hb3
  have hno : no ≤ 6 := by omega
  have hna : na ≤ 6 := by omega
  clear hlo hla h6 bx_s
  go_wp2_with fail
  go_loopw [11] (fun i wr => ∃ k : Nat, k ≤ nl ∧ i = .int .i64 k ∧ K.Kept w6 wr) (fun i _ => nl - (intOf i).toNat)
  case atStart => exact ⟨0, Nat.zero_le _, rfl, Below.refl _ _⟩
  case round =>
    obtain ⟨k, hk, rfl, kr⟩ := hrel
    have ro := K.own_kept Ho.out kr
    by_cases hlt : k < nl
    · obtain ⟨b', o', p, q, rfl, hb', c1, c2, hx⟩ := K.PR.cell (K.rd_own (K.own_kept Hl.out kr)) hlt
      obtain ⟨hR, hb3⟩ := HE.out p q (List.mem_of_getElem? hx.out)
      go_wp2_with fail
      refine (unionSpan_iv _ Ao no co U p q U true hR hb3 (K.rd_own ro) (by omega)).mono ?_
      rintro e w7 ⟨Ap, np, cp, rfl, hlp, ownp, k7⟩
      have ro7 := K.own_kept ro k7
      have hnp : np ≤ 6 := by have := Ho.out.1; rw [K.prs_len] at this; omega
      clear hlp hR hb3
      go_wp2_with fail
      refine (equalSpans_c _ _ _ _ _ _ _ U U (K.rd_own ownp) (K.rd_own ro7) (by omega) (by omega)).mono ?_
      rintro e w8 ⟨rfl, k8⟩
      go_wp2
      go_roundw
      case rel => exact ⟨k + 1, by omega, by go_num, K.Kept.trans kr (K.Kept.trans k7 k8)⟩
      case measure => simp [intOf]; omega
    · have hkn : nl = k := by omega
      subst hkn
      have ra := K.own_kept Ha.out kr
      go_wp2_with fail
      refine (equalSpans_c _ _ _ _ _ _ _ U U (K.rd_own ra) (K.rd_own ro) (by omega) (by omega)).mono ?_
      rintro e w8 ⟨rfl, k8⟩
      go_wp2
      go_ret
      exact ⟨rfl, K.Kept.trans kw (K.Kept.trans kr k8)⟩
end C
end Go.Proofs.Ytoooliadnjojeaa

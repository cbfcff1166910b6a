/-
  Contracts of ValidSpans, of the program and of the reference. Conditions: lengths below 2^40.
-/
import Derived.Test.YtoooliadnjojeaaBox
import Derived.Test.YtoooliadnjojeaaPSpan
namespace Go.Proofs.Ytoooliadnjojeaa
open Go.RowKit
namespace C

theorem v_iff {x y : Int} : Plain.V (x, y) ↔ vsp x y = true := by rw [vsp_true]; rfl
theorem getD_pr {l : List (Int × Int)} {k : Nat} {x : Int × Int} (h : l[k]? = some x) : l.getD k (0, 0) = x := by rw [List.getD_eq_getElem?_getD, h]; rfl
theorem good_of {l : List (Int × Int)} {k : Nat} {x y : Int} (hx : l[k]? = some (x, y)) (hv : vsp x y = true) (hp : 0 < k → ∃ u v, l[k - 1]? = some (u, v) ∧ v + 2 ≤ x) : Plain.goodAt l k := by
  refine ⟨by rw [getD_pr hx]; exact v_iff.2 hv, fun h0 => ?_⟩
  obtain ⟨u, v, e, h⟩ := hp h0
  rw [getD_pr hx, getD_pr e]
  exact h
theorem good_snoc {l : List (Int × Int)} {k : Nat} (h : ∀ i, i < k → Plain.goodAt l i) (g : Plain.goodAt l k) : ∀ i, i < k + 1 → Plain.goodAt l i := fun i hi => by
  rcases Nat.lt_or_ge i k with q | q
  · exact h i q
  · obtain rfl : i = k := by omega
    exact g
theorem lt_of_get {l : List (Int × Int)} {k : Nat} {x : Int × Int} (h : l[k]? = some x) : k < l.length := (List.getElem?_eq_some_iff.1 h).1
theorem bad_1 {l : List (Int × Int)} {k : Nat} {x y : Int} (hx : l[k]? = some (x, y)) (hv : vsp x y = false) : Plain.vSpans l = false := by
  unfold Plain.vSpans
  refine decide_eq_false fun h => ?_
  have := (h.1 k (lt_of_get hx)).1
  rw [getD_pr hx, v_iff, hv] at this
  cases this
theorem bad_2 {l : List (Int × Int)} {k : Nat} {x y u v : Int} (hx : l[k]? = some (x, y)) (h0 : 0 < k) (hu : l[k - 1]? = some (u, v)) (hlt : x < v + 2) : Plain.vSpans l = false := by
  unfold Plain.vSpans
  refine decide_eq_false fun h => ?_
  have := (h.1 k (lt_of_get hx)).2 h0
  rw [getD_pr hx, getD_pr hu] at this
  simp only at this
  omega
theorem good_all {l : List (Int × Int)} {n : Nat} (h : ∀ i, i < n → Plain.goodAt l i) (hl : l.length = n) : Plain.vSpans l = decide ((n : Int) ≤ 6) := by
  subst hl
  unfold Plain.vSpans
  rw [decide_eq_decide]
  exact ⟨fun q => by omega, fun q => ⟨h, by omega⟩⟩
theorem good_bd {l : List (Int × Int)} {k i : Nat} {x y : Int} (h : ∀ i, i < k → Plain.goodAt l i) (hi : i < k) (hx : l[i]? = some (x, y)) : 0 ≤ x ∧ x ≤ 1000000 ∧ x ≤ y ∧ y ≤ 1000000 := by
  have := (h i hi).1
  rw [getD_pr hx] at this
  exact this
theorem validSpan_ib (x y : Int) (b : Bool) (w : World) (h : vsp x y = b) : Calls Try.prog 25 #[.agg #[.int .i64 x, .int .i64 y]] w fun e w' => e = .returned (.bool b) ∧ w.alloc (.cells #[.int .i64 x, .int .i64 y] 24) = w' := by
  subst h
  exact validSpan_i x y w
theorem validSpan_ik (x y : Int) (b : Bool) (w : World) (h : vsp x y = b) : Calls Try.prog 25 #[.agg #[.int .i64 x, .int .i64 y]] w fun e w' => e = .returned (.bool b) ∧ K.Kept w w' :=
  (validSpan_ib x y b w h).mono fun _ _ h => ⟨h.1, h.2 ▸ kp1 _ _⟩
theorem validSpan_sb (x y : Int) (b : Bool) (w : World) (h : vsp x y = b) : Calls Try.prog 38 #[.agg #[.int .i64 x, .int .i64 y]] w fun e w' => e = .returned (.bool b) ∧ w.alloc (.cells #[.int .i64 x, .int .i64 y] 24) = w' := by
  subst h
  exact validSpan_s x y w
theorem validSpan_sk (x y : Int) (b : Bool) (w : World) (h : vsp x y = b) : Calls Try.prog 38 #[.agg #[.int .i64 x, .int .i64 y]] w fun e w' => e = .returned (.bool b) ∧ K.Kept w w' :=
  (validSpan_sb x y b w h).mono fun _ _ h => ⟨h.1, h.2 ▸ kp1 _ _⟩
def VPost (l : List (Int × Int)) (w : World) (e : Ending) (w' : World) : Prop := e = .returned (.bool (Plain.vSpans l)) ∧ K.Kept w w'
set_option maxHeartbeats 1000000 in
theorem validSpans_i (w : World) (A : Option Addr) (n c : Nat) (l : List (Int × Int)) (h : K.PR w w.heap.size A n l) (hn : n ≤ 1099511627776) : Calls Try.prog 22 #[.slice A n c] w (VPost l w) := by
  have L := Lib.hid (K.PR.len h)
  go_enter Try.func22, Try.ntmps22
  go_wp2
  go_loopw [7] (fun i wr => ∃ k : Nat, k ≤ n ∧ i = .int .i64 k ∧ K.Kept w wr ∧ Hid (∀ i, i < k → Plain.goodAt l i)) (fun i _ => n - (intOf i).toNat)
  case atStart => exact ⟨0, Nat.zero_le _, rfl, Below.refl _ _, fun i hi => by omega⟩
  case round =>
    obtain ⟨k, hk, rfl, hkw, hg⟩ := hrel
    by_cases hlt : k < n
    · obtain ⟨b, o, x, y, rfl, hb, c1, c2, hx⟩ := K.PR.cell (K.Rd.below h hkw) hlt
      have HK := Lib.hid hkw
      have H0 := Lib.hid h
      have x0 := Box2.new wr (.int .i64 x) (.int .i64 y) 24
      have kx := kp1 wr (.cells #[.int .i64 x, .int .i64 y] 24)
      cases hv : vsp x y
      · have HB := Lib.hid (bad_1 hx.out hv)
        clear hkw h
        generalize hwx : wr.alloc (.cells #[.int .i64 x, .int .i64 y] 24) = wx at x0 kx
        obtain ⟨x1, x2, x3, x4, x5⟩ := id x0
        go_wp2_with fail
        (have rg0 := cell_regrown x1; have rg1 := cell_regrown x2; refine wp_region_quiet_below (by kernel_rfl) (by kernel_rfl) ?_; (repeat (go_big_quiet_step ((first | (go_at_call 25; exact Calls.regrown_of (validSpan_ik _ _ false _ hv)))))); refine wpQuiet_nil ?_; intro w2 hw2; have kw2 := K.of_regrown hw2; clear hw2 rg0 rg1)
        go_wp2
        go_ret
        exact ⟨K.rb HB.out.symm, K.Kept.trans HK.out (K.Kept.trans kx kw2)⟩
      · by_cases hk0 : k = 0
        · have HG := Lib.hid (good_snoc hg.out (good_of hx.out hv (by omega)))
          have g1 : decide (0 < k) = false := by simp; omega
          clear hkw h
          generalize hwx : wr.alloc (.cells #[.int .i64 x, .int .i64 y] 24) = wx at x0 kx
          obtain ⟨x1, x2, x3, x4, x5⟩ := id x0
          have hk0' := Lib.hid hk0
          clear hk0
          go_wp2_with fail
          (have rg0 := cell_regrown x1; have rg1 := cell_regrown x2; refine wp_region_quiet_below (by kernel_rfl) (by kernel_rfl) ?_; (repeat (go_big_quiet_step ((first | (go_at_call 25; exact Calls.regrown_of (validSpan_ik _ _ true _ hv)))))); refine wpQuiet_nil ?_; intro w2 hw2; have kw2 := K.of_regrown hw2; clear hw2 rg0 rg1)
          go_wp2
          go_roundw
          case rel => exact ⟨k + 1, by omega, by go_num, K.Kept.trans HK.out (K.Kept.trans kx kw2), HG⟩
          case measure => simp [intOf]; omega
        · have hk1 : 0 < k := by omega
          obtain ⟨b', o', u, v, e', _, d1, d2, hu⟩ := K.PR.cell (k := k - 1) ((K.Rd.below h hkw).more hkw.size |>.kept kx (Nat.le_refl _)) (by omega)
          injection e' with e'
          injection e' with e1 e2
          subst e1 e2
          have hb2 := good_bd hg.out (by omega) hu.out
          have i0 : (k : Int) - 1 = ((k - 1 : Nat) : Int) := by omega
          have i1 : (0 : Int) ≤ ((k - 1 : Nat) : Int) := by omega
          have i2 : ((k - 1 : Nat) : Int) < (n : Int) := by omega
          have g1 : decide (0 < k) = true := by simp; omega
          clear hkw h
          generalize hwx : wr.alloc (.cells #[.int .i64 x, .int .i64 y] 24) = wx at x0 kx d1 d2
          obtain ⟨x1, x2, x3, x4, x5⟩ := id x0
          by_cases hc : x < v + 2
          · have HB := Lib.hid (bad_2 hx.out hk1 hu.out hc)
            go_wp2_with fail
            (have rg0 := cell_regrown x1; have rg1 := cell_regrown x2; have rg2 := cell_regrown d2; refine wp_region_quiet_below (by kernel_rfl) (by kernel_rfl) ?_; (repeat (go_big_quiet_step ((first | (go_at_call 25; exact Calls.regrown_of (validSpan_ik _ _ true _ hv)))))); refine wpQuiet_nil ?_; intro w2 hw2; have kw2 := K.of_regrown hw2; clear hw2 rg0 rg1 rg2)
            go_wp2
            go_ret
            exact ⟨K.rb HB.out.symm, K.Kept.trans HK.out (K.Kept.trans kx kw2)⟩
          · have HG := Lib.hid (good_snoc hg.out (good_of hx.out hv (fun _ => ⟨u, v, hu.out, by omega⟩)))
            go_wp2_with fail
            (have rg0 := cell_regrown x1; have rg1 := cell_regrown x2; have rg2 := cell_regrown d2; refine wp_region_quiet_below (by kernel_rfl) (by kernel_rfl) ?_; (repeat (go_big_quiet_step ((first | (go_at_call 25; exact Calls.regrown_of (validSpan_ik _ _ true _ hv)))))); refine wpQuiet_nil ?_; intro w2 hw2; have kw2 := K.of_regrown hw2; clear hw2 rg0 rg1 rg2)
            go_wp2
            go_roundw
            case rel => exact ⟨k + 1, by omega, by go_num, K.Kept.trans HK.out (K.Kept.trans kx kw2), HG⟩
            case measure => simp [intOf]; omega
    · have hkn : n = k := by omega
      subst hkn
      go_wp2
      go_ret
      exact ⟨K.rb (good_all hg.out L.out).symm, hkw⟩
set_option maxHeartbeats 1000000 in
theorem validSpans_s (w : World) (A : Option Addr) (n c : Nat) (l : List (Int × Int)) (h : K.PR w w.heap.size A n l) (hn : n ≤ 1099511627776) : Calls Try.prog 40 #[.slice A n c] w (VPost l w) := by
  have L := Lib.hid (K.PR.len h)
  go_enter Try.func40, Try.ntmps40
  go_wp2
  go_loopw [3] (fun i wr => ∃ k : Nat, k ≤ n ∧ i = .int .i64 k ∧ K.Kept w wr ∧ Hid (∀ i, i < k → Plain.goodAt l i)) (fun i _ => n - (intOf i).toNat)
  case atStart => exact ⟨0, Nat.zero_le _, rfl, Below.refl _ _, fun i hi => by omega⟩
  case round =>
    obtain ⟨k, hk, rfl, hkw, hg⟩ := hrel
    by_cases hlt : k < n
    · obtain ⟨b, o, x, y, rfl, hb, c1, c2, hx⟩ := K.PR.cell (K.Rd.below h hkw) hlt
      have HK := Lib.hid hkw
      have H0 := Lib.hid h
      cases hv : vsp x y
      · have HB := Lib.hid (bad_1 hx.out hv)
        clear hkw h
        go_wp2_with fail
        (have rg0 := cell_regrown c1; have rg1 := cell_regrown c2; refine wp_region_quiet_below (by kernel_rfl) (by kernel_rfl) ?_; (repeat (go_big_quiet_step ((first | (go_at_call 38; exact Calls.regrown_of (validSpan_sk _ _ false _ hv)))))); refine wpQuiet_nil ?_; intro w2 hw2; have kw2 := K.of_regrown hw2; clear hw2 rg0 rg1)
        go_wp2
        go_ret
        exact ⟨K.rb HB.out.symm, K.Kept.trans HK.out kw2⟩
      · by_cases hk0 : k = 0
        · have HG := Lib.hid (good_snoc hg.out (good_of hx.out hv (by omega)))
          have g1 : decide (0 < k) = false := by simp; omega
          clear hkw h
          have hk0' := Lib.hid hk0
          clear hk0
          go_wp2_with fail
          (have rg0 := cell_regrown c1; have rg1 := cell_regrown c2; refine wp_region_quiet_below (by kernel_rfl) (by kernel_rfl) ?_; (repeat (go_big_quiet_step ((first | (go_at_call 38; exact Calls.regrown_of (validSpan_sk _ _ true _ hv)))))); refine wpQuiet_nil ?_; intro w2 hw2; have kw2 := K.of_regrown hw2; clear hw2 rg0 rg1)
          go_wp2
          go_roundw
          case rel => exact ⟨k + 1, by omega, by go_num, K.Kept.trans HK.out kw2, HG⟩
          case measure => simp [intOf]; omega
        · have hk1 : 0 < k := by omega
          obtain ⟨b', o', u, v, e', _, d1, d2, hu⟩ := K.PR.cell (k := k - 1) ((K.Rd.below h hkw).more hkw.size) (by omega)
          injection e' with e'
          injection e' with e1 e2
          subst e1 e2
          have hb2 := good_bd hg.out (by omega) hu.out
          have i0 : (k : Int) - 1 = ((k - 1 : Nat) : Int) := by omega
          have i1 : (0 : Int) ≤ ((k - 1 : Nat) : Int) := by omega
          have i2 : ((k - 1 : Nat) : Int) < (n : Int) := by omega
          have g1 : decide (0 < k) = true := by simp; omega
          clear hkw h
          by_cases hc : x ≤ v + 1
          · have HB := Lib.hid (bad_2 hx.out hk1 hu.out (by omega))
            go_wp2_with fail
            (have rg0 := cell_regrown c1; have rg1 := cell_regrown c2; have rg2 := cell_regrown d2; refine wp_region_quiet_below (by kernel_rfl) (by kernel_rfl) ?_; (repeat (go_big_quiet_step ((first | (go_at_call 38; exact Calls.regrown_of (validSpan_sk _ _ true _ hv)))))); refine wpQuiet_nil ?_; intro w2 hw2; have kw2 := K.of_regrown hw2; clear hw2 rg0 rg1 rg2)
            go_wp2
            go_ret
            exact ⟨K.rb HB.out.symm, K.Kept.trans HK.out kw2⟩
          · have HG := Lib.hid (good_snoc hg.out (good_of hx.out hv (fun _ => ⟨u, v, hu.out, by omega⟩)))
            go_wp2_with fail
            (have rg0 := cell_regrown c1; have rg1 := cell_regrown c2; have rg2 := cell_regrown d2; refine wp_region_quiet_below (by kernel_rfl) (by kernel_rfl) ?_; (repeat (go_big_quiet_step ((first | (go_at_call 38; exact Calls.regrown_of (validSpan_sk _ _ true _ hv)))))); refine wpQuiet_nil ?_; intro w2 hw2; have kw2 := K.of_regrown hw2; clear hw2 rg0 rg1 rg2)
            go_wp2
            go_roundw
            case rel => exact ⟨k + 1, by omega, by go_num, K.Kept.trans HK.out kw2, HG⟩
            case measure => simp [intOf]; omega
    · have hkn : n = k := by omega
      subst hkn
      go_wp2
      go_ret
      exact ⟨K.rb (good_all hg.out L.out).symm, hkw⟩
theorem ValidSpans_s (w : World) (A : Option Addr) (n c : Nat) (l : List (Int × Int)) (h : K.PR w w.heap.size A n l) (hn : n ≤ 1099511627776) : Calls Try.prog 20 #[.slice A n c] w (VPost l w) := by
  go_enter Try.func20, Try.ntmps20
  go_wp2_with fail
  refine (validSpans_s w A n c l h hn).mono ?_
  rintro e w1 ⟨rfl, k1⟩
  go_wp2
  go_ret
  exact ⟨rfl, k1⟩
theorem exactValidSpans (w : World) (A : Option Addr) (n c : Nat) (l : List (Int × Int)) (hc : n ≤ c ∧ c ≤ maxLen) (h : K.PR w w.heap.size A n l) : Calls Try.prog 4 #[.slice A n c] w fun e w' => e = .returned (.bool true) ∧ Below w.heap.size w w' := by
  by_cases hn : (n : Int) ≤ 1048576
  · go_enter Try.func4, Try.ntmps4
    go_wp2_with fail
    refine (szSpanS_yes w A n c 1048576 (by omega) hn).mono ?_
    rintro e w0 ⟨rfl, rfl⟩
    go_wp2_with fail
    refine (toSpanS_c w A n c l h (by omega)).mono ?_
    rintro e w1 ⟨A1, n1, c1, rfl, hl1, own1, k1⟩
    have h1 := h.kept k1 (Nat.le_refl _) |>.more k1.size
    go_wp2_with fail
    refine (ValidSpans_s w1 A1 n1 c1 l (K.rd_own own1) (by have := K.PR.len h; omega)).mono ?_
    rintro e w2 ⟨rfl, k2⟩
    have h2 := h1.kept k2 (Nat.le_refl _) |>.more k2.size
    have k2 := K.Kept.trans k1 k2
    clear h1 k1 own1 hl1
    go_wp2_with fail
    refine (toSpanS_c w2 A n c l h2 (by omega)).mono ?_
    rintro e w3 ⟨A3, n3, c3, rfl, hl3, own3, k3⟩
    have h3 := h2.kept k3 (Nat.le_refl _) |>.more k3.size
    have kw3 := K.Kept.trans k2 k3
    clear h2 k2 k3
    go_wp2_with fail
    refine (validSpans_i w3 A3 n3 c3 l (K.rd_own own3) (by have := K.PR.len h; omega)).mono ?_
    rintro e w4 ⟨rfl, k4⟩
    have h4 := h3.kept k4 (Nat.le_refl _) |>.more k4.size
    have own4 := K.own_kept own3 k4
    have kw4 := K.Kept.trans kw3 k4
    clear h3 own3 kw3 k4
    go_wp2_with fail
    refine (toSpanS_c w4 A n c l h4 (by omega)).mono ?_
    rintro e w5 ⟨A5, n5, c5, rfl, hl5, own5, k5⟩
    have own4 := K.own_kept own4 k5
    have kw5 := K.Kept.trans kw4 k5
    clear h4 kw4 k5
    go_wp2_with fail
    refine (eqSpanS_c w5 A3 A5 n3 n5 c3 c5 l l (K.rd_own own4) (K.rd_own own5) (by have := K.PR.len h; omega) (by have := K.PR.len h; omega)).mono ?_
    rintro e w6 ⟨rfl, k6⟩
    go_wp2
    go_ret
    exact ⟨rfl, K.Kept.trans kw5 k6⟩
  · go_enter Try.func4, Try.ntmps4
    go_wp2_with fail
    refine (szSpanS_no w A n c 1048576 (by omega) hc (by omega)).mono ?_
    rintro e w0 ⟨rfl, rfl⟩
    go_wp2
    go_ret
    exact ⟨rfl, Below.refl _ _⟩
end C
end Go.Proofs.Ytoooliadnjojeaa

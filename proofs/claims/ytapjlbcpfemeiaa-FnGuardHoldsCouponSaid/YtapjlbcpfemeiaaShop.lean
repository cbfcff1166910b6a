/-
  Contracts of ValidShop and ValidCart, of the program and of the reference. Conditions: lengths below 2^40.
-/
import Derived.Test.YtapjlbcpfemeiaaQuads
import Derived.Test.YtapjlbcpfemeiaaBox
import Derived.Test.YtapjlbcpfemeiaaPCart
namespace Go.Proofs.Ytapjlbcpfemeiaa
open Go.RowKit
namespace C

theorem within_cb (n l h : Int) (b : Bool) (w : World) (hb : wi n l h = b) : Calls Try.prog 55 #[.int .i64 n, .int .i64 l, .int .i64 h] w fun e w' => e = .returned (.bool b) ∧ w = w' := by subst hb; exact within_c n l h w
theorem inRange_cb (n l h : Int) (b : Bool) (w : World) (hb : wi n l h = b) : Calls Try.prog 84 #[.int .i64 n, .int .i64 l, .int .i64 h] w fun e w' => e = .returned (.bool b) ∧ w = w' := by subst hb; exact inRange_c n l h w
theorem getD_q {l : List K.Q4} {k : Nat} {x : K.Q4} (h : l[k]? = some x) : l.getD k (0, 0, 0, 0) = x := by rw [List.getD_eq_getElem?_getD, h]; rfl
/-- An article is as it should be. -/
def vA (p g r t : Int) : Bool := wi p 1 5000 && wi g 0 2 && wi r 0 300 && wi t 0 5000
theorem vA_iff {p g r t : Int} : vA p g r t = true ↔ Plain.vArt (p, g, r, t) := by
  unfold vA Plain.vArt
  simp only [Bool.and_eq_true, wi_true, and_assoc]
theorem shop_bad {l : List K.Q4} {k : Nat} {p g r t : Int} (hx : l[k]? = some (p, g, r, t)) (h : vA p g r t = false) : Plain.vShop l = false := by
  unfold Plain.vShop
  refine decide_eq_false fun q => ?_
  have := q.1 k (List.getElem?_eq_some_iff.1 hx).1
  rw [getD_q hx, ← vA_iff, h] at this
  cases this
theorem shop_snoc {l : List K.Q4} {k : Nat} {p g r t : Int} (h : ∀ i, i < k → Plain.vArt (l.getD i (0, 0, 0, 0))) (hx : l[k]? = some (p, g, r, t)) (hv : vA p g r t = true) : ∀ i, i < k + 1 → Plain.vArt (l.getD i (0, 0, 0, 0)) := fun i hi => by
  rcases Nat.lt_or_ge i k with q | q
  · exact h i q
  · obtain rfl : i = k := by omega
    rw [getD_q hx]; exact vA_iff.1 hv
theorem shop_all {l : List K.Q4} {n : Nat} (h : ∀ i, i < n → Plain.vArt (l.getD i (0, 0, 0, 0))) (hl : l.length = n) : Plain.vShop l = wi (n : Int) 1 10 := by
  subst hl
  unfold Plain.vShop wi
  rw [decide_eq_decide]
  exact ⟨fun q => by omega, fun q => ⟨h, by omega, by omega⟩⟩
def SPost (l : List K.Q4) (w : World) (e : Ending) (w' : World) : Prop := e = .returned (.bool (Plain.vShop l)) ∧ K.Kept w w'
set_option maxHeartbeats 1600000 in
theorem validShop_i (w : World) (A : Option Addr) (n c : Nat) (l : List K.Q4) (h : K.QR w w.heap.size A n l) (hn : n ≤ 1099511627776) : Calls Try.prog 90 #[.slice A n c] w (SPost l w) := by
  have L := Lib.hid (K.QR.len h)
  go_enter Try.func90, Try.ntmps90
  go_wp2
  go_loopw [7] (fun i wr => ∃ k : Nat, k ≤ n ∧ i = .int .i64 k ∧ K.Kept w wr ∧ Hid (∀ i, i < k → Plain.vArt (l.getD i (0, 0, 0, 0)))) (fun i _ => n - (intOf i).toNat)
  case atStart => exact ⟨0, Nat.zero_le _, rfl, Below.refl _ _, fun i hi => by omega⟩
  case round =>
    obtain ⟨k, hk, rfl, hkw, hg⟩ := hrel
    by_cases hlt : k < n
    · obtain ⟨b, o, p, g, r, t, rfl, hb, c1, c2, c3, c4, hx⟩ := K.QR.cell (K.Rd.below h hkw) hlt
      have kx := kp1 wr (.cells #[.int .i64 p, .int .i64 g, .int .i64 r, .int .i64 t] 88)
      cases h1 : wi p 1 5000
      · have HB := Lib.hid (shop_bad hx.out (by unfold vA; rw [h1]; rfl))
        go_wp2_with (go_at_call 55; refine (within_c _ _ _ _).mono ?_; rintro e w' ⟨rfl, rfl⟩)
        go_ret
        exact ⟨K.rb HB.out.symm, K.Kept.trans hkw (by go_grown)⟩
      · cases h2 : wi g 0 2
        · have HB := Lib.hid (shop_bad hx.out (by unfold vA; rw [h1, h2]; rfl))
          go_wp2_with (go_at_call 55; refine (within_c _ _ _ _).mono ?_; rintro e w' ⟨rfl, rfl⟩)
          go_ret
          exact ⟨K.rb HB.out.symm, K.Kept.trans hkw (by go_grown)⟩
        · cases h3 : wi r 0 300
          · have HB := Lib.hid (shop_bad hx.out (by unfold vA; rw [h1, h2, h3]; rfl))
            go_wp2_with (go_at_call 55; refine (within_c _ _ _ _).mono ?_; rintro e w' ⟨rfl, rfl⟩)
            go_ret
            exact ⟨K.rb HB.out.symm, K.Kept.trans hkw (by go_grown)⟩
          · cases h4 : wi t 0 5000
            · have HB := Lib.hid (shop_bad hx.out (by unfold vA; rw [h1, h2, h3, h4]; rfl))
              go_wp2_with (go_at_call 55; refine (within_c _ _ _ _).mono ?_; rintro e w' ⟨rfl, rfl⟩)
              go_ret
              exact ⟨K.rb HB.out.symm, K.Kept.trans hkw (by go_grown)⟩
            · have HG := Lib.hid (shop_snoc hg.out hx.out (by unfold vA; rw [h1, h2, h3, h4]; rfl))
              go_wp2_with (go_at_call 55; refine (within_c _ _ _ _).mono ?_; rintro e w' ⟨rfl, rfl⟩)
              go_roundw
              case rel => exact ⟨k + 1, by omega, by go_num, K.Kept.trans hkw (by go_grown), HG⟩
              case measure => simp [intOf]; omega
    · have hkn : n = k := by omega
      subst hkn
      go_wp2_with (go_at_call 55; refine (within_c _ _ _ _).mono ?_; rintro e w' ⟨rfl, rfl⟩)
      go_ret
      exact ⟨K.rb (shop_all hg.out L.out).symm, hkw⟩
set_option maxHeartbeats 1600000 in
theorem validShop_s (w : World) (A : Option Addr) (n c : Nat) (l : List K.Q4) (h : K.QR w w.heap.size A n l) (hn : n ≤ 1099511627776) : Calls Try.prog 59 #[.slice A n c] w (SPost l w) := by
  have L := Lib.hid (K.QR.len h)
  go_enter Try.func59, Try.ntmps59
  go_wp2
  go_loopw [3] (fun i wr => ∃ k : Nat, k ≤ n ∧ i = .int .i64 k ∧ K.Kept w wr ∧ Hid (∀ i, i < k → Plain.vArt (l.getD i (0, 0, 0, 0)))) (fun i _ => n - (intOf i).toNat)
  case atStart => exact ⟨0, Nat.zero_le _, rfl, Below.refl _ _, fun i hi => by omega⟩
  case round =>
    obtain ⟨k, hk, rfl, hkw, hg⟩ := hrel
    by_cases hlt : k < n
    · obtain ⟨b, o, p, g, r, t, rfl, hb, c1, c2, c3, c4, hx⟩ := K.QR.cell (K.Rd.below h hkw) hlt
      have kx := kp1 wr (.cells #[.int .i64 p, .int .i64 g, .int .i64 r, .int .i64 t] 88)
      cases h1 : wi p 1 5000
      · have HB := Lib.hid (shop_bad hx.out (by unfold vA; rw [h1]; rfl))
        go_wp2_with (go_at_call 84; refine (inRange_c _ _ _ _).mono ?_; rintro e w' ⟨rfl, rfl⟩)
        go_ret
        exact ⟨K.rb HB.out.symm, K.Kept.trans hkw (by go_grown)⟩
      · cases h2 : wi g 0 2
        · have HB := Lib.hid (shop_bad hx.out (by unfold vA; rw [h1, h2]; rfl))
          go_wp2_with (go_at_call 84; refine (inRange_c _ _ _ _).mono ?_; rintro e w' ⟨rfl, rfl⟩)
          go_ret
          exact ⟨K.rb HB.out.symm, K.Kept.trans hkw (by go_grown)⟩
        · cases h3 : wi r 0 300
          · have HB := Lib.hid (shop_bad hx.out (by unfold vA; rw [h1, h2, h3]; rfl))
            go_wp2_with (go_at_call 84; refine (inRange_c _ _ _ _).mono ?_; rintro e w' ⟨rfl, rfl⟩)
            go_ret
            exact ⟨K.rb HB.out.symm, K.Kept.trans hkw (by go_grown)⟩
          · cases h4 : wi t 0 5000
            · have HB := Lib.hid (shop_bad hx.out (by unfold vA; rw [h1, h2, h3, h4]; rfl))
              go_wp2_with (go_at_call 84; refine (inRange_c _ _ _ _).mono ?_; rintro e w' ⟨rfl, rfl⟩)
              go_ret
              exact ⟨K.rb HB.out.symm, K.Kept.trans hkw (by go_grown)⟩
            · have HG := Lib.hid (shop_snoc hg.out hx.out (by unfold vA; rw [h1, h2, h3, h4]; rfl))
              go_wp2_with (go_at_call 84; refine (inRange_c _ _ _ _).mono ?_; rintro e w' ⟨rfl, rfl⟩)
              go_roundw
              case rel => exact ⟨k + 1, by omega, by go_num, K.Kept.trans hkw (by go_grown), HG⟩
              case measure => simp [intOf]; omega
    · have hkn : n = k := by omega
      subst hkn
      go_wp2_with (go_at_call 84; refine (inRange_c _ _ _ _).mono ?_; rintro e w' ⟨rfl, rfl⟩)
      go_ret
      exact ⟨K.rb (shop_all hg.out L.out).symm, hkw⟩
/-! ### lines -/
theorem getD_l {l : List (Int × Int)} {k : Nat} {x : Int × Int} (h : l[k]? = some x) : l.getD k (0, 0) = x := by rw [List.getD_eq_getElem?_getD, h]; rfl
theorem line_bad {c : List (Int × Int)} {m : Int} {k : Nat} {x y : Int} (hx : c[k]? = some (x, y)) (h : wi x 0 (m - 1) = false ∨ wi y 1 20 = false) : Plain.vLines m c = false := by
  unfold Plain.vLines
  refine decide_eq_false fun q => ?_
  have := q.1 k (List.getElem?_eq_some_iff.1 hx).1
  unfold Plain.lineAt at this
  rw [getD_l hx] at this
  rcases h with h | h
  · rw [wi_false] at h; simp only at this; omega
  · rw [wi_false] at h; simp only at this; omega
theorem line_bad2 {c : List (Int × Int)} {m : Int} {k : Nat} {x y u v : Int} (hx : c[k]? = some (x, y)) (h0 : 0 < k) (hu : c[k - 1]? = some (u, v)) (hle : x ≤ u) : Plain.vLines m c = false := by
  unfold Plain.vLines
  refine decide_eq_false fun q => ?_
  have := (q.1 k (List.getElem?_eq_some_iff.1 hx).1).2.2 h0
  rw [getD_l hx, getD_l hu] at this
  simp only at this
  omega
theorem line_snoc {c : List (Int × Int)} {m : Int} {k : Nat} {x y : Int} (h : ∀ i, i < k → Plain.lineAt m c i) (hx : c[k]? = some (x, y)) (h1 : wi x 0 (m - 1) = true) (h2 : wi y 1 20 = true) (hp : 0 < k → ∃ u v, c[k - 1]? = some (u, v) ∧ u < x) : ∀ i, i < k + 1 → Plain.lineAt m c i := fun i hi => by
  rcases Nat.lt_or_ge i k with q | q
  · exact h i q
  · obtain rfl : i = k := by omega
    unfold Plain.lineAt
    rw [getD_l hx]
    refine ⟨wi_true.1 h1, wi_true.1 h2, fun h0 => ?_⟩
    obtain ⟨u, v, e, hlt⟩ := hp h0
    rw [getD_l e]
    exact hlt
theorem lines_all {c : List (Int × Int)} {m : Int} {n : Nat} (h : ∀ i, i < n → Plain.lineAt m c i) (hl : c.length = n) : Plain.vLines m c = decide ((n : Int) ≤ 8) := by
  subst hl
  unfold Plain.vLines
  rw [decide_eq_decide]
  exact ⟨fun q => by omega, fun q => ⟨h, by omega⟩⟩
def LPost (m : Int) (l : List (Int × Int)) (w : World) (e : Ending) (w' : World) : Prop := e = .returned (.bool (Plain.vLines m l)) ∧ K.Kept w w'
theorem within_ck (n l h : Int) (b : Bool) (w : World) (hb : wi n l h = b) : Calls Try.prog 55 #[.int .i64 n, .int .i64 l, .int .i64 h] w fun e w' => e = .returned (.bool b) ∧ K.Kept w w' := (within_cb n l h b w hb).mono fun _ _ h => ⟨h.1, h.2 ▸ K.Kept.refl _⟩
theorem inRange_ck (n l h : Int) (b : Bool) (w : World) (hb : wi n l h = b) : Calls Try.prog 84 #[.int .i64 n, .int .i64 l, .int .i64 h] w fun e w' => e = .returned (.bool b) ∧ K.Kept w w' := (inRange_cb n l h b w hb).mono fun _ _ h => ⟨h.1, h.2 ▸ K.Kept.refl _⟩
set_option maxHeartbeats 1600000 in
theorem lines_i (w : World) (m : Int) (hm : 0 ≤ m ∧ m ≤ 1099511627776) (A : Option Addr) (n c : Nat) (l : List (Int × Int)) (h : K.PR w w.heap.size A n l) (hn : n ≤ 1099511627776) : Calls Try.prog 91 #[.int .i64 m, .slice A n c] w (LPost m l w) := by
  have L := Lib.hid (K.PR.len h)
  go_enter Try.func91, Try.ntmps91
  go_wp2
  go_loopw [9] (fun i wr => ∃ k : Nat, k ≤ n ∧ i = .int .i64 k ∧ K.Kept w wr ∧ Hid (∀ i, i < k → Plain.lineAt m l i)) (fun i _ => n - (intOf i).toNat)
  case atStart => exact ⟨0, Nat.zero_le _, rfl, Below.refl _ _, fun i hi => by omega⟩
  case round =>
    obtain ⟨k, hk, rfl, hkw, hg⟩ := hrel
    by_cases hlt : k < n
    · obtain ⟨b, o, x, y, rfl, hb, c1, c2, hx⟩ := K.PR.cell (K.Rd.below h hkw) hlt
      have HK := Lib.hid hkw
      have H0 := Lib.hid h
      have x0 := Box2.new wr (.int .i64 x) (.int .i64 y) 86; have kx := kp1 wr (.cells #[.int .i64 x, .int .i64 y] 86)
      cases h1 : wi x 0 (m - 1)
      · have HB := Lib.hid (line_bad hx.out (Or.inl h1))
        clear hkw h
        generalize hwx : wr.alloc (.cells #[.int .i64 x, .int .i64 y] 86) = wx at x0 kx; obtain ⟨x1, x2, x3, x4, x5⟩ := id x0
        go_wp2_with fail
        (have rg0 := cell_regrown x1; have rg1 := cell_regrown x2; refine wp_region_quiet_below (by kernel_rfl) (by kernel_rfl) ?_; (repeat (go_big_quiet_step ((first | (go_at_call_of 55 (x); exact Calls.regrown_of (within_ck x _ _ false _ h1)))))); refine wpQuiet_nil ?_; intro w2 hw2; have kw2 := K.of_regrown hw2; clear hw2 rg0 rg1)
        go_wp2
        go_ret
        exact ⟨K.rb HB.out.symm, K.Kept.trans HK.out (K.Kept.trans kx kw2)⟩
      · cases h2 : wi y 1 20
        · have HB := Lib.hid (line_bad hx.out (Or.inr h2) (m := m))
          clear hkw h
          generalize hwx : wr.alloc (.cells #[.int .i64 x, .int .i64 y] 86) = wx at x0 kx; obtain ⟨x1, x2, x3, x4, x5⟩ := id x0
          go_wp2_with fail
          (have rg0 := cell_regrown x1; have rg1 := cell_regrown x2; refine wp_region_quiet_below (by kernel_rfl) (by kernel_rfl) ?_; (repeat (go_big_quiet_step ((first | (go_at_call_of 55 (x); exact Calls.regrown_of (within_ck x _ _ true _ h1)) | (go_at_call_of 55 (y); exact Calls.regrown_of (within_ck y _ _ false _ h2)))))); refine wpQuiet_nil ?_; intro w2 hw2; have kw2 := K.of_regrown hw2; clear hw2 rg0 rg1)
          go_wp2
          go_ret
          exact ⟨K.rb HB.out.symm, K.Kept.trans HK.out (K.Kept.trans kx kw2)⟩
        · by_cases hk0 : k = 0
          · have HG := Lib.hid (line_snoc hg.out hx.out h1 h2 (by omega))
            have g1 : decide (0 < k) = false := by simp; omega
            clear hkw h
            generalize hwx : wr.alloc (.cells #[.int .i64 x, .int .i64 y] 86) = wx at x0 kx; obtain ⟨x1, x2, x3, x4, x5⟩ := id x0
            have hk0' := Lib.hid hk0
            clear hk0
            go_wp2_with fail
            (have rg0 := cell_regrown x1; have rg1 := cell_regrown x2; refine wp_region_quiet_below (by kernel_rfl) (by kernel_rfl) ?_; (repeat (go_big_quiet_step ((first | (go_at_call_of 55 (x); exact Calls.regrown_of (within_ck x _ _ true _ h1)) | (go_at_call_of 55 (y); exact Calls.regrown_of (within_ck y _ _ true _ h2)))))); refine wpQuiet_nil ?_; intro w2 hw2; have kw2 := K.of_regrown hw2; clear hw2 rg0 rg1)
            go_wp2
            go_roundw
            case rel => exact ⟨k + 1, by omega, by go_num, K.Kept.trans HK.out (K.Kept.trans kx kw2), HG⟩
            case measure => simp [intOf]; omega
          · have hk1 : 0 < k := by omega
            obtain ⟨b', o', u, v, e', _, d1, d2, hu⟩ := K.PR.cell (k := k - 1) ((K.Rd.below h hkw).more hkw.size |>.kept kx (Nat.le_refl _)) (by omega)
            injection e' with e'
            injection e' with e1 e2
            subst e1 e2
            have i0 : (k : Int) - 1 = ((k - 1 : Nat) : Int) := by omega
            have i1 : (0 : Int) ≤ ((k - 1 : Nat) : Int) := by omega
            have i2 : ((k - 1 : Nat) : Int) < (n : Int) := by omega
            have g1 : decide (0 < k) = true := by simp; omega
            clear hkw h
            generalize hwx : wr.alloc (.cells #[.int .i64 x, .int .i64 y] 86) = wx at x0 kx d1 d2; obtain ⟨x1, x2, x3, x4, x5⟩ := id x0
            by_cases hc : x ≤ u
            · have HB := Lib.hid (line_bad2 (m := m) hx.out hk1 hu.out hc)
              go_wp2_with fail
              (have rg0 := cell_regrown x1; have rg1 := cell_regrown x2; have rg2 := cell_regrown d1; refine wp_region_quiet_below (by kernel_rfl) (by kernel_rfl) ?_; (repeat (go_big_quiet_step ((first | (go_at_call_of 55 (x); exact Calls.regrown_of (within_ck x _ _ true _ h1)) | (go_at_call_of 55 (y); exact Calls.regrown_of (within_ck y _ _ true _ h2)))))); refine wpQuiet_nil ?_; intro w2 hw2; have kw2 := K.of_regrown hw2; clear hw2 rg0 rg1 rg2)
              go_wp2
              go_ret
              exact ⟨K.rb HB.out.symm, K.Kept.trans HK.out (K.Kept.trans kx kw2)⟩
            · have HG := Lib.hid (line_snoc hg.out hx.out h1 h2 (fun _ => ⟨u, v, hu.out, by omega⟩))
              go_wp2_with fail
              (have rg0 := cell_regrown x1; have rg1 := cell_regrown x2; have rg2 := cell_regrown d1; refine wp_region_quiet_below (by kernel_rfl) (by kernel_rfl) ?_; (repeat (go_big_quiet_step ((first | (go_at_call_of 55 (x); exact Calls.regrown_of (within_ck x _ _ true _ h1)) | (go_at_call_of 55 (y); exact Calls.regrown_of (within_ck y _ _ true _ h2)))))); refine wpQuiet_nil ?_; intro w2 hw2; have kw2 := K.of_regrown hw2; clear hw2 rg0 rg1 rg2)
              go_wp2
              go_roundw
              case rel => exact ⟨k + 1, by omega, by go_num, K.Kept.trans HK.out (K.Kept.trans kx kw2), HG⟩
              case measure => simp [intOf]; omega
    · have hkn : n = k := by omega
      subst hkn
      go_wp2
      go_ret
      exact ⟨K.rb (lines_all hg.out L.out).symm, hkw⟩
set_option maxHeartbeats 1600000 in
theorem lines_s (w : World) (S : Option Addr) (sn sc : Nat) (hsn : sn ≤ 1099511627776) (A : Option Addr) (n c : Nat) (l : List (Int × Int)) (h : K.PR w w.heap.size A n l) (hn : n ≤ 1099511627776) : Calls Try.prog 60 #[.slice S sn sc, .slice A n c] w (LPost (sn : Int) l w) := by
  have L := Lib.hid (K.PR.len h)
  go_enter Try.func60, Try.ntmps60
  go_wp2
  go_loopw [5] (fun i wr => ∃ k : Nat, k ≤ n ∧ i = .int .i64 k ∧ K.Kept w wr ∧ Hid (∀ i, i < k → Plain.lineAt (sn : Int) l i)) (fun i _ => n - (intOf i).toNat)
  case atStart => exact ⟨0, Nat.zero_le _, rfl, Below.refl _ _, fun i hi => by omega⟩
  case round =>
    obtain ⟨k, hk, rfl, hkw, hg⟩ := hrel
    by_cases hlt : k < n
    · obtain ⟨b, o, x, y, rfl, hb, c1, c2, hx⟩ := K.PR.cell (K.Rd.below h hkw) hlt
      have HK := Lib.hid hkw
      have H0 := Lib.hid h
      have kx := K.Kept.refl wr
      cases h1 : wi x 0 ((sn : Int) - 1)
      · have HB := Lib.hid (line_bad hx.out (Or.inl h1))
        clear hkw h
        skip
        go_wp2_with fail
        (have rg0 := cell_regrown c1; have rg1 := cell_regrown c2; refine wp_region_quiet_below (by kernel_rfl) (by kernel_rfl) ?_; (repeat (go_big_quiet_step ((first | (go_at_call_of 84 (x); exact Calls.regrown_of (inRange_ck x _ _ false _ h1)))))); refine wpQuiet_nil ?_; intro w2 hw2; have kw2 := K.of_regrown hw2; clear hw2 rg0 rg1)
        go_wp2
        go_ret
        exact ⟨K.rb HB.out.symm, K.Kept.trans HK.out (id kw2)⟩
      · cases h2 : wi y 1 20
        · have HB := Lib.hid (line_bad hx.out (Or.inr h2) (m := (sn : Int)))
          clear hkw h
          skip
          go_wp2_with fail
          (have rg0 := cell_regrown c1; have rg1 := cell_regrown c2; refine wp_region_quiet_below (by kernel_rfl) (by kernel_rfl) ?_; (repeat (go_big_quiet_step ((first | (go_at_call_of 84 (x); exact Calls.regrown_of (inRange_ck x _ _ true _ h1)) | (go_at_call_of 84 (y); exact Calls.regrown_of (inRange_ck y _ _ false _ h2)))))); refine wpQuiet_nil ?_; intro w2 hw2; have kw2 := K.of_regrown hw2; clear hw2 rg0 rg1)
          go_wp2
          go_ret
          exact ⟨K.rb HB.out.symm, K.Kept.trans HK.out (id kw2)⟩
        · by_cases hk0 : k = 0
          · have HG := Lib.hid (line_snoc hg.out hx.out h1 h2 (by omega))
            have g1 : decide (0 < k) = false := by simp; omega
            clear hkw h
            skip
            have hk0' := Lib.hid hk0
            clear hk0
            go_wp2_with fail
            (have rg0 := cell_regrown c1; have rg1 := cell_regrown c2; refine wp_region_quiet_below (by kernel_rfl) (by kernel_rfl) ?_; (repeat (go_big_quiet_step ((first | (go_at_call_of 84 (x); exact Calls.regrown_of (inRange_ck x _ _ true _ h1)) | (go_at_call_of 84 (y); exact Calls.regrown_of (inRange_ck y _ _ true _ h2)))))); refine wpQuiet_nil ?_; intro w2 hw2; have kw2 := K.of_regrown hw2; clear hw2 rg0 rg1)
            go_wp2
            go_roundw
            case rel => exact ⟨k + 1, by omega, by go_num, K.Kept.trans HK.out (id kw2), HG⟩
            case measure => simp [intOf]; omega
          · have hk1 : 0 < k := by omega
            obtain ⟨b', o', u, v, e', _, d1, d2, hu⟩ := K.PR.cell (k := k - 1) ((K.Rd.below h hkw).more hkw.size |>.kept (K.Kept.refl wr) (Nat.le_refl _)) (by omega)
            injection e' with e'
            injection e' with e1 e2
            subst e1 e2
            have i0 : (k : Int) - 1 = ((k - 1 : Nat) : Int) := by omega
            have i1 : (0 : Int) ≤ ((k - 1 : Nat) : Int) := by omega
            have i2 : ((k - 1 : Nat) : Int) < (n : Int) := by omega
            have g1 : decide (0 < k) = true := by simp; omega
            clear hkw h
            skip
            by_cases hc : x ≤ u
            · have HB := Lib.hid (line_bad2 (m := (sn : Int)) hx.out hk1 hu.out hc)
              go_wp2_with fail
              (have rg0 := cell_regrown c1; have rg1 := cell_regrown c2; have rg2 := cell_regrown d1; refine wp_region_quiet_below (by kernel_rfl) (by kernel_rfl) ?_; (repeat (go_big_quiet_step ((first | (go_at_call_of 84 (x); exact Calls.regrown_of (inRange_ck x _ _ true _ h1)) | (go_at_call_of 84 (y); exact Calls.regrown_of (inRange_ck y _ _ true _ h2)))))); refine wpQuiet_nil ?_; intro w2 hw2; have kw2 := K.of_regrown hw2; clear hw2 rg0 rg1 rg2)
              go_wp2
              go_ret
              exact ⟨K.rb HB.out.symm, K.Kept.trans HK.out (id kw2)⟩
            · have HG := Lib.hid (line_snoc hg.out hx.out h1 h2 (fun _ => ⟨u, v, hu.out, by omega⟩))
              go_wp2_with fail
              (have rg0 := cell_regrown c1; have rg1 := cell_regrown c2; have rg2 := cell_regrown d1; refine wp_region_quiet_below (by kernel_rfl) (by kernel_rfl) ?_; (repeat (go_big_quiet_step ((first | (go_at_call_of 84 (x); exact Calls.regrown_of (inRange_ck x _ _ true _ h1)) | (go_at_call_of 84 (y); exact Calls.regrown_of (inRange_ck y _ _ true _ h2)))))); refine wpQuiet_nil ?_; intro w2 hw2; have kw2 := K.of_regrown hw2; clear hw2 rg0 rg1 rg2)
              go_wp2
              go_roundw
              case rel => exact ⟨k + 1, by omega, by go_num, K.Kept.trans HK.out (id kw2), HG⟩
              case measure => simp [intOf]; omega
    · have hkn : n = k := by omega
      subst hkn
      go_wp2
      go_ret
      exact ⟨K.rb (lines_all hg.out L.out).symm, hkw⟩
/-- A cart is valid for a valid shop. -/
def vCart (sh : List K.Q4) (c : List (Int × Int)) : Bool := Plain.vShop sh && Plain.vLines sh.length c
theorem validCart_i (w : World) (A : Option Addr) (n c : Nat) (l : List K.Q4) (B : Option Addr) (m d : Nat) (ls : List (Int × Int)) (b : Bool) (hb : vCart l ls = b) (h : K.QR w w.heap.size A n l) (hn : n ≤ 1099511627776) (h2 : K.PR w w.heap.size B m ls) (hm : m ≤ 1099511627776) :
    Calls Try.prog 57 #[.slice A n c, .slice B m d] w fun e w' => e = .returned (.bool b) ∧ K.Kept w w' := by
  have e := K.QR.len h
  subst hb
  unfold vCart
  rw [e]
  cases hs : Plain.vShop l
  · go_enter Try.func57, Try.ntmps57
    go_wp2_with fail
    refine (validShop_i w A n c l h hn).mono ?_
    rintro e w1 ⟨rfl, k1⟩
    go_wp2
    go_ret
    exact ⟨rfl, k1⟩
  · have e' := Lib.hid e
    clear e
    go_enter Try.func57, Try.ntmps57
    go_wp2_with fail
    refine (validShop_i w A n c l h hn).mono ?_
    rintro e w1 ⟨rfl, k1⟩
    have h2' := (K.Rd.below h2 k1).more k1.size
    go_wp2_with fail
    refine (lines_i w1 (n : Int) (by omega) B m d ls h2' hm).mono ?_
    rintro e w2 ⟨rfl, k2⟩
    go_wp2
    go_ret
    exact ⟨rfl, K.Kept.trans k1 k2⟩
end C
end Go.Proofs.Ytapjlbcpfemeiaa

/-
  Contracts of the functions of guards and points, of the program and of the reference. Conditions: lengths below 2^40.
-/
import Derived.Test.YtapjlbcpfemeiaaBoxN
import Derived.Test.YtapjlbcpfemeiaaShop
import Derived.Test.YtapjlbcpfemeiaaIntsW
namespace Go.Proofs.Ytapjlbcpfemeiaa
open Go.RowKit
namespace C

theorem getD_i {l : List Int} {k : Nat} {x : Int} (h : l[k]? = some x) : l.getD k 0 = x := by rw [List.getD_eq_getElem?_getD, h]; rfl
/-- The numbers ascend. -/
def asc (l : List Int) : Bool := decide (∀ i, i < l.length - 1 → l.getD i 0 < l.getD (i + 1) 0)
def cpOk (l : List Int) : Bool := allB l 1 9 && asc l && decide (l.length ≤ 3)
def vCs (l : List (Int × Int)) : Bool := l.all fun s => vsp s.1 s.2
def vG (x y : Int) (l : List (Int × Int)) (u : Int) : Bool := vsp x y && decide (l.length = 3) && vCs l && wi u 0 9
def vP (t : Int) (cs co : List Int) : Bool := wi t 0 1000000 && decide (cs.length = 3) && allB cs 0 1000000 && cpOk co
def ins (l : List (Int × Int)) (cs : List Int) : Bool := decide (∀ i, i < l.length → wi (cs.getD i 0) (l.getD i (0, 0)).1 (l.getD i (0, 0)).2 = true)
def gH (x y : Int) (l : List (Int × Int)) (u t : Int) (cs co : List Int) : Bool := vG x y l u && vP t cs co && wi t x y && ins l cs && (u == 0 || decide (u ∈ co))
theorem asc_no {l : List Int} {k : Nat} {x y : Int} (hx : l[k]? = some x) (hy : l[k + 1]? = some y) (h : ¬ x < y) : asc l = false := by
  refine decide_eq_false fun q => h ?_
  have := q k (by have := (List.getElem?_eq_some_iff.1 hy).1; omega)
  rwa [getD_i hx, getD_i hy] at this
def ascT (l : List Int) (k : Nat) : Prop := ∀ i, i + 1 < k → l.getD i 0 < l.getD (i + 1) 0
theorem ascT_snoc {l : List Int} {k : Nat} {x y : Int} (h : ascT l (k + 1)) (hx : l[k]? = some x) (hy : l[k + 1]? = some y) (hlt : x < y) : ascT l (k + 2) := fun i hi => by
  by_cases e : i = k
  · subst e; rw [getD_i hx, getD_i hy]; exact hlt
  · exact h i (by omega)
theorem asc_yes {l : List Int} {n : Nat} (hn : l.length = n) (h : ascT l n) : asc l = true := decide_eq_true (by subst hn; exact fun i hi => h i (by omega))
theorem allB_snoc {l : List Int} {k : Nat} {x lo hi : Int} (h : allB (l.take k) lo hi = true) (hx : l[k]? = some x) (hw : wi x lo hi = true) : allB (l.take (k + 1)) lo hi = true := by
  rw [K.take_snoc hx]; unfold allB at h ⊢; rw [List.all_append, h]; simp [hw]
theorem allB_no {l : List Int} {k : Nat} {x lo hi : Int} (hx : l[k]? = some x) (hw : wi x lo hi = false) : allB l lo hi = false := by
  unfold allB; rw [List.all_eq_false]; exact ⟨x, List.mem_of_getElem? hx, by rw [hw]; simp⟩
theorem vCs_snoc {l : List (Int × Int)} {k : Nat} {x y : Int} (h : vCs (l.take k) = true) (hx : l[k]? = some (x, y)) (hw : vsp x y = true) : vCs (l.take (k + 1)) = true := by
  rw [K.take_snoc hx]; unfold vCs at h ⊢; rw [List.all_append, h]; simp [hw]
theorem vCs_no {l : List (Int × Int)} {k : Nat} {x y : Int} (hx : l[k]? = some (x, y)) (hw : vsp x y = false) : vCs l = false := by
  unfold vCs; rw [List.all_eq_false]; exact ⟨(x, y), List.mem_of_getElem? hx, by rw [hw]; simp⟩
theorem cpOk_no1 {l : List Int} (h : allB l 1 9 = false) : cpOk l = false := by unfold cpOk; rw [h]; rfl
theorem cpOk_no2 {l : List Int} (h : asc l = false) : cpOk l = false := by unfold cpOk; rw [h]; simp
theorem ins_no {l : List (Int × Int)} {cs : List Int} {k : Nat} {x y q : Int} (hx : l[k]? = some (x, y)) (hq : cs[k]? = some q) (h : wi q x y = false) : ins l cs = false := by
  refine decide_eq_false fun a => ?_
  have := a k (List.getElem?_eq_some_iff.1 hx).1
  rw [getD_l hx, getD_i hq] at this
  rw [h] at this
  cases this
def insT (l : List (Int × Int)) (cs : List Int) (k : Nat) : Prop := ∀ i, i < k → wi (cs.getD i 0) (l.getD i (0, 0)).1 (l.getD i (0, 0)).2 = true
theorem insT_snoc {l : List (Int × Int)} {cs : List Int} {k : Nat} {x y q : Int} (h : insT l cs k) (hx : l[k]? = some (x, y)) (hq : cs[k]? = some q) (hw : wi q x y = true) : insT l cs (k + 1) := fun i hi => by
  by_cases e : i = k
  · subst e; rw [getD_l hx, getD_i hq]; exact hw
  · exact h i (by omega)
theorem ins_yes {l : List (Int × Int)} {cs : List Int} {n : Nat} (hn : l.length = n) (h : insT l cs n) : ins l cs = true := decide_eq_true (by subst hn; exact h)
/-- A number is kept: what a call with a bool leaves. -/
def BK (w : World) (b : Bool) (e : Ending) (w' : World) : Prop := e = .returned (.bool b) ∧ K.Kept w w'
theorem BK.of {w w' : World} {e : Ending} {b b' : Bool} (h : BK w b e w') (hb : b = b') : BK w b' e w' := hb ▸ h
theorem validSpan_ig (x y : Int) (b : Bool) (w : World) (h : vsp x y = b) : Calls Try.prog 54 #[.agg #[.int .i64 x, .int .i64 y]] w fun e w' => e = .returned (.bool b) ∧ K.Kept w w' := by
  subst h
  exact (validSpan_i x y w).mono fun _ _ h => ⟨h.1, h.2 ▸ kp1 _ _⟩
theorem validSpan_sg (x y : Int) (b : Bool) (w : World) (h : vsp x y = b) : Calls Try.prog 83 #[.agg #[.int .i64 x, .int .i64 y]] w fun e w' => e = .returned (.bool b) ∧ K.Kept w w' := by
  subst h
  exact (validSpan_s x y w).mono fun _ _ h => ⟨h.1, h.2 ▸ kp1 _ _⟩
theorem inSpan_ig (x y n : Int) (b : Bool) (w : World) (h : (vsp x y && wi n x y) = b) : Calls Try.prog 17 #[.agg #[.int .i64 x, .int .i64 y], .int .i64 n] w fun e w' => e = .returned (.bool b) ∧ K.Kept w w' := by
  subst h
  exact (inSpan_i x y n w).mono fun _ _ h => ⟨h.1, h.2 ▸ K.Kept.trans (kp1 _ _) (kp1 _ _)⟩
theorem money_cb (n : Int) (b : Bool) (w : World) (hb : wi n 0 1000000 = b) : Calls Try.prog 82 #[.int .i64 n] w fun e w' => e = .returned (.bool b) ∧ w = w' := by subst hb; exact money_c n w
theorem allIn_cb (w : World) (A : Option Addr) (n c : Nat) (l : List Int) (lo hi : Int) (b : Bool) (hb : allB l lo hi = b) (h : K.IR w w.heap.size A n l) (hn : n ≤ 1099511627776) : Calls Try.prog 85 #[.slice A n c, .int .i64 lo, .int .i64 hi] w (BK w b) := by
  subst hb
  exact (allIn_c w A n c l lo hi h hn).mono fun _ _ h => ⟨h.1, h.2 ▸ K.Kept.refl _⟩
theorem hasNumber_i (w : World) (A : Option Addr) (n c : Nat) (l : List Int) (q : Int) (b : Bool) (hb : decide (q ∈ l) = b) (h : K.IR w w.heap.size A n l) (hn : n ≤ 1099511627776) : Calls Try.prog 50 #[.slice A n c, .int .i64 q] w (BK w b) := by
  subst hb
  have L := Lib.hid (K.IR.len h)
  go_enter Try.func50, Try.ntmps50
  go_wp2
  go_loopw [9] (fun i wr => ∃ k : Nat, k ≤ n ∧ i = .int .i64 k ∧ K.Kept w wr ∧ Hid (q ∉ l.take k)) (fun i _ => n - (intOf i).toNat)
  case atStart => exact ⟨0, Nat.zero_le _, rfl, Below.refl _ _, by unfold Hid; simp⟩
  case round =>
    obtain ⟨k, hk, rfl, hkw, hq⟩ := hrel
    by_cases hlt : k < n
    · obtain ⟨b, o, x, rfl, hb, c1, hx⟩ := K.IR.cell (K.Rd.below h hkw) hlt
      by_cases hxq : x = q
      · subst hxq
        have e1 : (x == x) = true := by simp
        have hm := Lib.hid (List.mem_of_getElem? hx.out)
        go_wp2
        go_ret
        exact ⟨K.rb (decide_eq_true hm.out).symm, hkw⟩
      · have e1 : (x == q) = false := by simp [hxq]
        have hm := Lib.hid (show q ∉ l.take (k + 1) by rw [K.take_snoc hx.out]; have := hq.out; simp [this]; exact fun e => hxq e.symm)
        clear hxq hq
        go_wp2
        go_roundw
        case rel => exact ⟨k + 1, by omega, by go_num, hkw, hm⟩
        case measure => simp [intOf]; omega
    · have hkn : n = k := by omega
      subst hkn
      rw [K.take_all L.out] at hq
      have HQ := Lib.hid hq
      clear hq
      go_wp2
      go_ret
      exact ⟨K.rb (decide_eq_false HQ.out.out).symm, hkw⟩
theorem isIn_s (w : World) (A : Option Addr) (n c : Nat) (l : List Int) (q : Int) (b : Bool) (hb : decide (q ∈ l) = b) (h : K.IR w w.heap.size A n l) (hn : n ≤ 1099511627776) : Calls Try.prog 87 #[.slice A n c, .int .i64 q] w (BK w b) := by
  subst hb
  have L := Lib.hid (K.IR.len h)
  go_enter Try.func87, Try.ntmps87
  go_wp2
  go_loopw [5] (fun i wr => ∃ k : Nat, k ≤ n ∧ i = .int .i64 k ∧ K.Kept w wr ∧ Hid (q ∉ l.take k)) (fun i _ => n - (intOf i).toNat)
  case atStart => exact ⟨0, Nat.zero_le _, rfl, Below.refl _ _, by unfold Hid; simp⟩
  case round =>
    obtain ⟨k, hk, rfl, hkw, hq⟩ := hrel
    by_cases hlt : k < n
    · obtain ⟨b, o, x, rfl, hb, c1, hx⟩ := K.IR.cell (K.Rd.below h hkw) hlt
      by_cases hxq : x = q
      · subst hxq
        have e1 : (x == x) = true := by simp
        have hm := Lib.hid (List.mem_of_getElem? hx.out)
        go_wp2
        go_ret
        exact ⟨K.rb (decide_eq_true hm.out).symm, hkw⟩
      · have e1 : (x == q) = false := by simp [hxq]
        have hm := Lib.hid (show q ∉ l.take (k + 1) by rw [K.take_snoc hx.out]; have := hq.out; simp [this]; exact fun e => hxq e.symm)
        clear hxq hq
        go_wp2
        go_roundw
        case rel => exact ⟨k + 1, by omega, by go_num, hkw, hm⟩
        case measure => simp [intOf]; omega
    · have hkn : n = k := by omega
      subst hkn
      rw [K.take_all L.out] at hq
      have HQ := Lib.hid hq
      clear hq
      go_wp2
      go_ret
      exact ⟨K.rb (decide_eq_false HQ.out.out).symm, hkw⟩
theorem isIn_l (w : World) (A : Option Addr) (n c : Nat) (l : List Int) (q : Int) (b : Bool) (hb : decide (q ∈ l) = b) (h : K.IR w w.heap.size A n l) (hn : n ≤ 1099511627776) : Calls Try.prog 18 #[.slice A n c, .int .i64 q] w (BK w b) := by
  subst hb
  have L := Lib.hid (K.IR.len h)
  go_enter Try.func18, Try.ntmps18
  go_wp2
  go_loopw [5] (fun i wr => ∃ k : Nat, k ≤ n ∧ i = .int .i64 k ∧ K.Kept w wr ∧ Hid (q ∉ l.take k)) (fun i _ => n - (intOf i).toNat)
  case atStart => exact ⟨0, Nat.zero_le _, rfl, Below.refl _ _, by unfold Hid; simp⟩
  case round =>
    obtain ⟨k, hk, rfl, hkw, hq⟩ := hrel
    by_cases hlt : k < n
    · obtain ⟨b, o, x, rfl, hb, c1, hx⟩ := K.IR.cell (K.Rd.below h hkw) hlt
      by_cases hxq : x = q
      · subst hxq
        have e1 : (x == x) = true := by simp
        have hm := Lib.hid (List.mem_of_getElem? hx.out)
        go_wp2
        go_ret
        exact ⟨K.rb (decide_eq_true hm.out).symm, hkw⟩
      · have e1 : (x == q) = false := by simp [hxq]
        have hm := Lib.hid (show q ∉ l.take (k + 1) by rw [K.take_snoc hx.out]; have := hq.out; simp [this]; exact fun e => hxq e.symm)
        clear hxq hq
        go_wp2
        go_roundw
        case rel => exact ⟨k + 1, by omega, by go_num, hkw, hm⟩
        case measure => simp [intOf]; omega
    · have hkn : n = k := by omega
      subst hkn
      rw [K.take_all L.out] at hq
      have HQ := Lib.hid hq
      clear hq
      go_wp2
      go_ret
      exact ⟨K.rb (decide_eq_false HQ.out.out).symm, hkw⟩
set_option maxRecDepth 100000 in
set_option maxHeartbeats 1000000 in
theorem couponsOk_i (w : World) (A : Option Addr) (n c : Nat) (l : List Int) (b : Bool) (hb : cpOk l = b) (h : K.IR w w.heap.size A n l) (hn : n ≤ 1099511627776) : Calls Try.prog 58 #[.slice A n c] w (BK w b) := by
  subst hb
  have L := Lib.hid (K.IR.len h)
  go_enter Try.func58, Try.ntmps58
  go_wp2
  go_loopw [7] (fun i wr => ∃ k : Nat, k ≤ n ∧ i = .int .i64 k ∧ K.Kept w wr ∧ Hid (allB (l.take k) 1 9 = true ∧ ascT l k)) (fun i _ => n - (intOf i).toNat)
  case atStart => exact ⟨0, Nat.zero_le _, rfl, Below.refl _ _, by simp [allB], fun i hi => by omega⟩
  case round =>
    obtain ⟨k, hk, rfl, hkw, hg⟩ := hrel
    by_cases hlt : k < n
    · obtain ⟨b, o, x, rfl, hb, c1, hx⟩ := K.IR.cell (K.Rd.below h hkw) hlt
      cases hv : wi x 1 9
      · have HB := Lib.hid (cpOk_no1 (allB_no hx.out hv))
        go_wp2_with (go_at_call 55; refine (within_cb _ _ _ false _ hv).mono ?_; rintro e w' ⟨rfl, rfl⟩)
        go_ret
        exact ⟨K.rb HB.out.symm, hkw⟩
      · by_cases hk0 : k = 0
        · have HG := Lib.hid (show allB (l.take (k + 1)) 1 9 = true ∧ ascT l (k + 1) from ⟨allB_snoc hg.out.1 hx.out hv, fun i hi => by omega⟩)
          have g1 : decide (0 < k) = false := by simp; omega
          have hk0' := Lib.hid hk0
          clear hk0
          go_wp2_with (go_at_call 55; refine (within_cb _ _ _ true _ hv).mono ?_; rintro e w' ⟨rfl, rfl⟩)
          go_roundw
          case rel => exact ⟨k + 1, by omega, by go_num, hkw, HG⟩
          case measure => simp [intOf]; omega
        · have hk1 : 0 < k := by omega
          obtain ⟨b', o', u, e', _, d1, hu⟩ := K.IR.cell (k := k - 1) (K.Rd.below h hkw) (by omega)
          injection e' with e'
          injection e' with e1 e2
          subst e1 e2
          have i0 : (k : Int) - 1 = ((k - 1 : Nat) : Int) := by omega
          have i1 : (0 : Int) ≤ ((k - 1 : Nat) : Int) := by omega
          have i2 : ((k - 1 : Nat) : Int) < (n : Int) := by omega
          have g1 : decide (0 < k) = true := by simp; omega
          obtain ⟨k', hk'⟩ : ∃ k', k = k' + 1 := ⟨k - 1, by omega⟩
          have hu' : l[k']? = some u := by have := hu.out; rwa [hk', Nat.add_sub_cancel] at this
          have hx' : l[k' + 1]? = some x := by have := hx.out; rwa [hk'] at this
          have hg' : ascT l (k' + 1) := by have := hg.out.2; rwa [hk'] at this
          by_cases hc : u < x
          · have HG := Lib.hid (show allB (l.take (k + 1)) 1 9 = true ∧ ascT l (k + 1) from ⟨allB_snoc hg.out.1 hx.out hv, by rw [hk']; exact ascT_snoc hg' hu' hx' hc⟩)
            have hc' : ¬ x ≤ u := by omega
            clear hu' hx' hg' hk' hg
            go_wp2_with (go_at_call 55; refine (within_cb _ _ _ true _ hv).mono ?_; rintro e w' ⟨rfl, rfl⟩)
            go_roundw
            case rel => exact ⟨k + 1, by omega, by go_num, hkw, HG⟩
            case measure => simp [intOf]; omega
          · have HB := Lib.hid (cpOk_no2 (asc_no hu' hx' hc))
            have hc' : x ≤ u := by omega
            clear hu' hx' hg' hk' hg
            go_wp2_with (go_at_call 55; refine (within_cb _ _ _ true _ hv).mono ?_; rintro e w' ⟨rfl, rfl⟩)
            go_ret
            exact ⟨K.rb HB.out.symm, hkw⟩
    · have hkn : n = k := by omega
      subst hkn
      have e : cpOk l = decide ((n : Int) ≤ 3) := by
        have a1 := hg.out.1
        rw [K.take_all L.out] at a1
        have a2 := asc_yes L.out hg.out.2
        unfold cpOk
        rw [a1, a2, L.out, Bool.true_and, Bool.true_and, decide_eq_decide]
        omega
      have E := Lib.hid e
      clear e hg
      go_wp2
      go_ret
      exact ⟨K.rb E.out.symm, hkw⟩
set_option maxRecDepth 100000 in
set_option maxHeartbeats 1000000 in
theorem ascends_s (w : World) (A : Option Addr) (n c : Nat) (l : List Int) (b : Bool) (hb : asc l = b) (h : K.IR w w.heap.size A n l) (hn : n ≤ 1099511627776) : Calls Try.prog 86 #[.slice A n c] w (BK w b) := by
  subst hb
  have L := Lib.hid (K.IR.len h)
  go_enter Try.func86, Try.ntmps86
  go_wp2
  go_loopw [3] (fun i wr => ∃ k : Nat, (k + 1 ≤ n ∨ k = 0) ∧ i = .int .i64 ((k : Int) + 1) ∧ K.Kept w wr ∧ Hid (ascT l (k + 1))) (fun i _ => n + 1 - (intOf i).toNat)
  case atStart => exact ⟨0, .inr rfl, rfl, Below.refl _ _, fun i hi => by omega⟩
  case round =>
    obtain ⟨k, hk, rfl, hkw, hg⟩ := hrel
    by_cases hlt : k + 1 < n
    · obtain ⟨b, o, x, rfl, hb, c1, hx⟩ := K.IR.cell (K.Rd.below h hkw) hlt
      obtain ⟨b', o', u, e', _, d1, hu⟩ := K.IR.cell (k := k) (K.Rd.below h hkw) (by omega)
      injection e' with e'
      injection e' with e1 e2
      subst e1 e2
      have i0 : (k : Int) + 1 - 1 = (k : Int) := by omega
      have i1 : (k : Int) + 1 < (n : Int) := by omega
      have W1 : IntKind.i64.wrap ((k : Int) + 1 - 1) = (k : Int) := by rw [IntKind.wrap_i64]; omega
      have W2 : IntKind.i64.wrap (k : Int) = (k : Int) := by rw [IntKind.wrap_i64]; omega
      have t1 : ((k : Int) + 1).toNat = k + 1 := by omega
      have HK := Lib.hid hkw
      clear hkw
      by_cases hc : u < x
      · have HG := Lib.hid (ascT_snoc hg.out hu.out hx.out hc)
        have hc' : decide (x ≤ u) = false := by simp; omega
        clear hg
        go_wp2_with fail
        go_quiet (fail)
        go_wp2
        go_roundw
        case rel => exact ⟨k + 1, by omega, by go_num, K.below_drewN HK.out _, HG⟩
        case measure => simp [intOf]; omega
      · have HB := Lib.hid (asc_no hu.out hx.out hc)
        have hc' : decide (x ≤ u) = true := by simp; omega
        clear hg
        go_wp2_with fail
        go_quiet (fail)
        go_wp2
        go_ret
        exact ⟨K.rb HB.out.symm, K.below_drewN HK.out _⟩
    · have e : asc l = true := asc_yes L.out (fun i hi => hg.out i (by omega))
      have E := Lib.hid e
      clear e hg
      go_wp2
      go_ret
      exact ⟨K.rb E.out.symm, hkw⟩
set_option maxRecDepth 100000 in
set_option maxHeartbeats 1000000 in
theorem validGuard_i (w : World) (x y u : Int) (A : Option Addr) (n c : Nat) (l : List (Int × Int)) (b : Bool) (hb : vG x y l u = b) (h : K.PR w w.heap.size A n l) (hn : n ≤ 1099511627776) : Calls Try.prog 30 #[.agg #[.int .i64 x, .int .i64 y, .slice A n c, .int .i64 u]] w (BK w b) := by
  subst hb
  have L := Lib.hid (K.PR.len h)
  have bx_g : BoxN (w.alloc (.cells #[.int .i64 x, .int .i64 y, .slice A n c, .int .i64 u] 27)) w.heap.size (#[.int .i64 x, .int .i64 y, .slice A n c, .int .i64 u] : Array Value).toList := BoxN.new w _ _
  have kw0 := kp1 w (.cells #[.int .i64 x, .int .i64 y, .slice A n c, .int .i64 u] 27)
  generalize hww0 : w.alloc (.cells #[.int .i64 x, .int .i64 y, .slice A n c, .int .i64 u] 27) = w0 at bx_g kw0 
  obtain ⟨g0, g1, g2, g3, g4, g5, g6, g7, g8⟩ := BoxN.at4 bx_g
  go_enter Try.func30, Try.ntmps30
  go_wp2
  clear hww0 g0 g1 g2 g3 g4 g5 g6 g7 g8
  go_loopw [8] (fun i wr => ∃ k : Nat, k ≤ n ∧ i = .int .i64 k ∧ K.Kept w0 wr ∧ Hid (vCs (l.take k) = true)) (fun i _ => n - (intOf i).toNat)
  case atStart => exact ⟨0, Nat.zero_le _, rfl, Below.refl _ _, by unfold Hid; simp [vCs]⟩
  case round =>
    obtain ⟨k, hk, rfl, hkw, hg⟩ := hrel
    have HW := Lib.hid hkw
    have HK := Lib.hid (K.Kept.trans kw0 hkw)
    have bx_g := bx_g.kept hkw
    have HR := Lib.hid (K.Rd.below h HK.out)
    clear hkw h kw0
    by_cases hlt : k < n
    · obtain ⟨b, o, p, q, rfl, hb, c1, c2, hx⟩ := K.PR.cell HR.out hlt
      have x0 := Box2.new wr (.int .i64 p) (.int .i64 q) 24
      have kx := kp1 wr (.cells #[.int .i64 p, .int .i64 q] 24)
      generalize hwx : wr.alloc (.cells #[.int .i64 p, .int .i64 q] 24) = wx at x0 kx
      obtain ⟨x1, x2, x3, x4, x5⟩ := id x0
      cases hv : vsp p q
      · have HB := Lib.hid (vCs_no hx.out hv)
        go_wp2_with fail
        refine (validSpan_ig p q false _ hv).mono ?_
        rintro e w2 ⟨rfl, k2⟩
        go_wp2
        go_ret
        exact ⟨K.rb (by unfold vG; rw [HB.out]; simp), K.Kept.trans HK.out (K.Kept.trans kx k2)⟩
      · have HG := Lib.hid (vCs_snoc hg.out hx.out hv)
        go_wp2_with fail
        refine (validSpan_ig p q true _ hv).mono ?_
        rintro e w2 ⟨rfl, k2⟩
        go_wp2
        go_roundw
        case rel => exact ⟨k + 1, by omega, by go_num, K.Kept.trans HW.out (K.Kept.trans kx k2), HG⟩
        case measure => simp [intOf]; omega
    · have hkn : n = k := by omega
      subst hkn
      rw [K.take_all L.out] at hg
      have HV := Lib.hid hg
      clear hg
      obtain ⟨g0, g1, g2, g3, g4, g5, g6, g7, g8⟩ := BoxN.at4 bx_g
      cases h1 : vsp x y
      · go_wp2_with fail
        refine (validSpan_ig x y false _ h1).mono ?_
        rintro e w2 ⟨rfl, k2⟩
        go_wp2
        go_ret
        exact ⟨K.rb (by unfold vG; rw [h1]; rfl), K.Kept.trans HK.out k2⟩
      · by_cases h3 : n = 3
        · subst h3
          cases h4 : wi u 0 9
          all_goals
            go_wp2_with fail
            refine (validSpan_ig x y true _ h1).mono ?_
            rintro e w2 ⟨rfl, k2⟩
            have bx_g := bx_g.kept k2
            clear g0 g1 g2 g3 g4 g5 g6 g7 g8
            obtain ⟨g0, g1, g2, g3, g4, g5, g6, g7, g8⟩ := BoxN.at4 bx_g
            go_wp2_with (go_at_call 55; refine (within_cb _ _ _ _ _ h4).mono ?_; rintro e w' ⟨rfl, rfl⟩)
            go_ret
            exact ⟨K.rb (by unfold vG; rw [h1, HV.out.out, h4, L.out]; rfl), K.Kept.trans HK.out k2⟩
        · have h3' : ((n : Int) == 3) = false := by simp; omega
          go_wp2_with fail
          refine (validSpan_ig x y true _ h1).mono ?_
          rintro e w2 ⟨rfl, k2⟩
          have bx_g := bx_g.kept k2
          clear g0 g1 g2 g3 g4 g5 g6 g7 g8
          obtain ⟨g0, g1, g2, g3, g4, g5, g6, g7, g8⟩ := BoxN.at4 bx_g
          go_wp2
          go_ret
          exact ⟨K.rb (by unfold vG; rw [L.out, decide_eq_false h3]; simp), K.Kept.trans HK.out k2⟩
set_option maxRecDepth 100000 in
set_option maxHeartbeats 1000000 in
theorem validGuard_s (w : World) (x y u : Int) (A : Option Addr) (n c : Nat) (l : List (Int × Int)) (b : Bool) (hb : vG x y l u = b) (h : K.PR w w.heap.size A n l) (hn : n ≤ 1099511627776) : Calls Try.prog 51 #[.agg #[.int .i64 x, .int .i64 y, .slice A n c, .int .i64 u]] w (BK w b) := by
  subst hb
  have L := Lib.hid (K.PR.len h)
  have bx_g : BoxN (w.alloc (.cells #[.int .i64 x, .int .i64 y, .slice A n c, .int .i64 u] 27)) w.heap.size (#[.int .i64 x, .int .i64 y, .slice A n c, .int .i64 u] : Array Value).toList := BoxN.new w _ _
  have kw0 := kp1 w (.cells #[.int .i64 x, .int .i64 y, .slice A n c, .int .i64 u] 27)
  generalize hww0 : w.alloc (.cells #[.int .i64 x, .int .i64 y, .slice A n c, .int .i64 u] 27) = w0 at bx_g kw0 
  obtain ⟨g0, g1, g2, g3, g4, g5, g6, g7, g8⟩ := BoxN.at4 bx_g
  by_cases h3 : n = 3
  case neg =>
    have h3' : ((n : Int) != 3) = true := by simp; omega
    have E : Hid (vG x y l u = false) := by unfold Hid vG; rw [L.out, decide_eq_false h3]; simp
    go_enter Try.func51, Try.ntmps51
    go_wp2
    go_ret
    exact ⟨K.rb E.out.symm, kw0⟩
  subst h3
  cases h1 : vsp x y
  · have E : Hid (vG x y l u = false) := by unfold Hid vG; rw [h1]; rfl
    go_enter Try.func51, Try.ntmps51
    go_wp2_with fail
    refine (validSpan_sg x y false _ h1).mono ?_
    rintro e w2 ⟨rfl, k2⟩
    go_wp2
    go_ret
    exact ⟨K.rb E.out.symm, K.Kept.trans kw0 k2⟩
  cases h4 : wi u 0 9
  · have E : Hid (vG x y l u = false) := by unfold Hid vG; rw [h4]; simp
    go_enter Try.func51, Try.ntmps51
    go_wp2_with fail
    refine (validSpan_sg x y true _ h1).mono ?_
    rintro e w2 ⟨rfl, k2⟩
    have bx_g := bx_g.kept k2
    clear g0 g1 g2 g3 g4 g5 g6 g7 g8
    obtain ⟨g0, g1, g2, g3, g4, g5, g6, g7, g8⟩ := BoxN.at4 bx_g
    go_wp2_with (go_at_call 84; refine (inRange_cb _ _ _ _ _ h4).mono ?_; rintro e w' ⟨rfl, rfl⟩)
    go_ret
    exact ⟨K.rb E.out.symm, K.Kept.trans kw0 k2⟩
  have HE := Lib.hid (show vG x y l u = vCs l by unfold vG; rw [h1, h4, L.out]; simp)
  go_enter Try.func51, Try.ntmps51
  go_wp2_with fail
  refine (validSpan_sg x y true _ h1).mono ?_
  rintro e w2 ⟨rfl, k2⟩
  have bx_g := bx_g.kept k2
  have kw2 := K.Kept.trans kw0 k2
  clear g0 g1 g2 g3 g4 g5 g6 g7 g8 hww0 kw0 k2
  obtain ⟨g0, g1, g2, g3, g4, g5, g6, g7, g8⟩ := BoxN.at4 bx_g
  go_wp2_with (go_at_call 84; refine (inRange_cb _ _ _ _ _ h4).mono ?_; rintro e w' ⟨rfl, rfl⟩)
  clear g0 g1 g2 g3 g4 g5 g6 g7 g8
  go_loopw [3] (fun i wr => ∃ k : Nat, k ≤ 3 ∧ i = .int .i64 k ∧ K.Kept w2 wr ∧ Hid (vCs (l.take k) = true)) (fun i _ => 3 - (intOf i).toNat)
  case atStart => exact ⟨0, Nat.zero_le _, rfl, Below.refl _ _, by unfold Hid; simp [vCs]⟩
  case round =>
    obtain ⟨k, hk, rfl, hkw, hg⟩ := hrel
    have HW := Lib.hid hkw
    have HK := Lib.hid (K.Kept.trans kw2 hkw)
    have bx_g := bx_g.kept hkw
    have HR := Lib.hid (K.Rd.below h HK.out)
    clear hkw h kw2
    by_cases hlt : k < 3
    · obtain ⟨b, o, p, q, rfl, hb, c1, c2, hx⟩ := K.PR.cell HR.out hlt
      obtain ⟨g0, g1, g2, g3, g4, g5, g6, g7, g8⟩ := BoxN.at4 bx_g
      cases hv : vsp p q
      · have HB := Lib.hid (vCs_no hx.out hv)
        go_wp2_with fail
        refine (validSpan_sg p q false _ hv).mono ?_
        rintro e w3 ⟨rfl, k3⟩
        go_wp2
        go_ret
        exact ⟨K.rb (by rw [HE.out, HB.out]), K.Kept.trans HK.out k3⟩
      · have HG := Lib.hid (vCs_snoc hg.out hx.out hv)
        go_wp2_with fail
        refine (validSpan_sg p q true _ hv).mono ?_
        rintro e w3 ⟨rfl, k3⟩
        go_wp2
        go_roundw
        case rel => exact ⟨k + 1, by omega, by go_num, K.Kept.trans HW.out k3, HG⟩
        case measure => simp [intOf]; omega
    · have hkn : k = 3 := by omega
      subst hkn
      rw [K.take_all L.out] at hg
      have HV := Lib.hid hg
      clear hg
      obtain ⟨g0, g1, g2, g3, g4, g5, g6, g7, g8⟩ := BoxN.at4 bx_g
      go_wp2
      go_ret
      exact ⟨K.rb (by rw [HE.out]; exact HV.out.out.symm), HK.out⟩
set_option maxRecDepth 100000 in
set_option maxHeartbeats 1000000 in
theorem ValidGuard_s (w : World) (x y u : Int) (A : Option Addr) (n c : Nat) (l : List (Int × Int)) (b : Bool) (hb : vG x y l u = b) (h : K.PR w w.heap.size A n l) (hn : n ≤ 1099511627776) : Calls Try.prog 28 #[.agg #[.int .i64 x, .int .i64 y, .slice A n c, .int .i64 u]] w (BK w b) := by
  have bx_g : BoxN (w.alloc (.cells #[.int .i64 x, .int .i64 y, .slice A n c, .int .i64 u] 27)) w.heap.size (#[.int .i64 x, .int .i64 y, .slice A n c, .int .i64 u] : Array Value).toList := BoxN.new w _ _
  have kw0 := kp1 w (.cells #[.int .i64 x, .int .i64 y, .slice A n c, .int .i64 u] 27)
  generalize hww0 : w.alloc (.cells #[.int .i64 x, .int .i64 y, .slice A n c, .int .i64 u] 27) = w0 at bx_g kw0 
  obtain ⟨g0, g1, g2, g3, g4, g5, g6, g7, g8⟩ := BoxN.at4 bx_g
  go_enter Try.func28, Try.ntmps28
  go_wp2_with fail
  refine (validGuard_s w0 x y u A n c l b hb ((K.Rd.below h kw0).more kw0.size) hn).mono ?_
  rintro e w2 ⟨rfl, k2⟩
  go_wp2
  go_ret
  exact ⟨rfl, K.Kept.trans kw0 k2⟩
theorem vP_no1 {t : Int} {cs co : List Int} (h : wi t 0 1000000 = false) : vP t cs co = false := by unfold vP; rw [h]; rfl
theorem vP_no2 {t : Int} {cs co : List Int} {n : Nat} (hn : cs.length = n) (h : ¬ n = 3) : vP t cs co = false := by unfold vP; rw [hn, decide_eq_false h]; simp
theorem vP_no3 {t : Int} {cs co : List Int} (h : allB cs 0 1000000 = false) : vP t cs co = false := by unfold vP; rw [h]; simp
theorem vP_no4 {t : Int} {cs co : List Int} (h : cpOk co = false) : vP t cs co = false := by unfold vP; rw [h]; simp
theorem vP_yes {t : Int} {cs co : List Int} {n : Nat} (hn : cs.length = n) (h1 : wi t 0 1000000 = true) (h2 : n = 3) (h3 : allB cs 0 1000000 = true) (h4 : cpOk co = true) : vP t cs co = true := by unfold vP; rw [h1, hn, decide_eq_true h2, h3, h4]; rfl
set_option maxRecDepth 100000 in
set_option maxHeartbeats 1000000 in
theorem pointOk_i (w : World) (t : Int) (D : Option Addr) (nd cd : Nat) (cs : List Int) (E : Option Addr) (ne ce : Nat) (co : List Int) (b : Bool) (hb : vP t cs co = b) (h1 : K.IR w w.heap.size D nd cs) (hd : nd ≤ 1099511627776) (h2 : K.IR w w.heap.size E ne co) (he : ne ≤ 1099511627776) : Calls Try.prog 49 #[.agg #[.int .i64 t, .slice D nd cd, .slice E ne ce]] w (BK w b) := by
  subst hb
  have L := Lib.hid (K.IR.len h1)
  have bx_p : BoxN (w.alloc (.cells #[.int .i64 t, .slice D nd cd, .slice E ne ce] 30)) w.heap.size (#[.int .i64 t, .slice D nd cd, .slice E ne ce] : Array Value).toList := BoxN.new w _ _
  have kw0 := kp1 w (.cells #[.int .i64 t, .slice D nd cd, .slice E ne ce] 30)
  generalize hww0 : w.alloc (.cells #[.int .i64 t, .slice D nd cd, .slice E ne ce] 30) = w0 at bx_p kw0 
  obtain ⟨p0, p1, p2, p3, p4, p5, p6⟩ := BoxN.at3 bx_p
  go_enter Try.func49, Try.ntmps49
  go_wp2
  clear hww0 p0 p1 p2 p3 p4 p5 p6
  go_loopw [8] (fun i wr => ∃ k : Nat, k ≤ nd ∧ i = .int .i64 k ∧ K.Kept w0 wr ∧ Hid (allB (cs.take k) 0 1000000 = true)) (fun i _ => nd - (intOf i).toNat)
  case atStart => exact ⟨0, Nat.zero_le _, rfl, Below.refl _ _, by unfold Hid; simp [allB]⟩
  case round =>
    obtain ⟨k, hk, rfl, hkw, hg⟩ := hrel
    have HW := Lib.hid hkw
    have HK := Lib.hid (K.Kept.trans kw0 hkw)
    have bx_p := bx_p.kept hkw
    have R1 := Lib.hid (K.Rd.below h1 HK.out)
    have R2 := Lib.hid ((K.Rd.below h2 HK.out).more HK.out.size)
    clear hkw h1 h2 kw0
    by_cases hlt : k < nd
    · obtain ⟨b, o, x, rfl, hb, c1, hx⟩ := K.IR.cell R1.out hlt
      cases hv : wi x 0 1000000
      · have HB := Lib.hid (allB_no hx.out hv)
        go_wp2_with (go_at_call 82; refine (money_cb _ _ _ hv).mono ?_; rintro e w' ⟨rfl, rfl⟩)
        go_ret
        exact ⟨K.rb (vP_no3 HB.out).symm, HK.out⟩
      · have HG := Lib.hid (allB_snoc hg.out hx.out hv)
        go_wp2_with (go_at_call 82; refine (money_cb _ _ _ hv).mono ?_; rintro e w' ⟨rfl, rfl⟩)
        go_roundw
        case rel => exact ⟨k + 1, by omega, by go_num, HW.out, HG⟩
        case measure => simp [intOf]; omega
    · have hkn : nd = k := by omega
      subst hkn
      rw [K.take_all L.out] at hg
      have HV := Lib.hid hg
      clear hg
      obtain ⟨p0, p1, p2, p3, p4, p5, p6⟩ := BoxN.at3 bx_p
      cases q1 : wi t 0 1000000
      · go_wp2_with (go_at_call 82; refine (money_cb _ _ _ q1).mono ?_; rintro e w' ⟨rfl, rfl⟩)
        go_ret
        exact ⟨K.rb (vP_no1 q1).symm, HK.out⟩
      by_cases h3 : nd = 3
      · subst h3
        obtain ⟨bc, q4⟩ : ∃ b, cpOk co = b := ⟨_, rfl⟩
        go_wp2_with (go_at_call 82; refine (money_cb _ _ _ q1).mono ?_; rintro e w' ⟨rfl, rfl⟩)
        refine (couponsOk_i _ E ne ce co bc q4 R2.out he).mono ?_
        rintro e w2 ⟨rfl, k2⟩
        go_wp2
        go_ret
        refine ⟨K.rb ?_, K.Kept.trans HK.out k2⟩
        cases bc
        · exact (vP_no4 q4).symm
        · exact (vP_yes L.out q1 rfl HV.out.out q4).symm
      · have h3' : ((nd : Int) == 3) = false := by simp; omega
        go_wp2_with (go_at_call 82; refine (money_cb _ _ _ q1).mono ?_; rintro e w' ⟨rfl, rfl⟩)
        go_ret
        exact ⟨K.rb (vP_no2 L.out h3).symm, HK.out⟩
set_option maxRecDepth 100000 in
set_option maxHeartbeats 2000000 in
theorem validPoint_s (w : World) (t : Int) (D : Option Addr) (nd cd : Nat) (cs : List Int) (E : Option Addr) (ne ce : Nat) (co : List Int) (b : Bool) (hb : vP t cs co = b) (h1 : K.IR w w.heap.size D nd cs) (hd : nd ≤ 1099511627776) (h2 : K.IR w w.heap.size E ne co) (he : ne ≤ 1099511627776) : Calls Try.prog 52 #[.agg #[.int .i64 t, .slice D nd cd, .slice E ne ce]] w (BK w b) := by
  subst hb
  have L := Lib.hid (K.IR.len h1)
  have L2 := Lib.hid (K.IR.len h2)
  have bx_p : BoxN (w.alloc (.cells #[.int .i64 t, .slice D nd cd, .slice E ne ce] 30)) w.heap.size (#[.int .i64 t, .slice D nd cd, .slice E ne ce] : Array Value).toList := BoxN.new w _ _
  have kw0 := kp1 w (.cells #[.int .i64 t, .slice D nd cd, .slice E ne ce] 30)
  generalize hww0 : w.alloc (.cells #[.int .i64 t, .slice D nd cd, .slice E ne ce] 30) = w0 at bx_p kw0 
  obtain ⟨p0, p1, p2, p3, p4, p5, p6⟩ := BoxN.at3 bx_p
  have R1 := Lib.hid ((K.Rd.below h1 kw0).more kw0.size)
  have R2 := Lib.hid ((K.Rd.below h2 kw0).more kw0.size)
  clear h1 h2
  cases q1 : wi t 0 1000000
  · go_enter Try.func52, Try.ntmps52
    go_wp2_with (go_at_call 84; refine (inRange_cb _ _ _ _ _ q1).mono ?_; rintro e w' ⟨rfl, rfl⟩)
    go_ret
    exact ⟨K.rb (vP_no1 q1).symm, kw0⟩
  by_cases h3 : nd = 3
  case neg =>
    have h3' : ((nd : Int) == 3) = false := by simp; omega
    go_enter Try.func52, Try.ntmps52
    go_wp2_with (go_at_call 84; refine (inRange_cb _ _ _ _ _ q1).mono ?_; rintro e w' ⟨rfl, rfl⟩)
    go_ret
    exact ⟨K.rb (vP_no2 L.out h3).symm, kw0⟩
  subst h3
  cases q3 : allB cs 0 1000000
  · go_enter Try.func52, Try.ntmps52
    go_wp2_with (go_at_call 84; refine (inRange_cb _ _ _ _ _ q1).mono ?_; rintro e w' ⟨rfl, rfl⟩)
    refine (allIn_cb w0 D 3 cd cs 0 1000000 false q3 R1.out (by omega)).mono ?_
    rintro e w2 ⟨rfl, k2⟩
    go_wp2
    go_ret
    exact ⟨K.rb (vP_no3 q3).symm, K.Kept.trans kw0 k2⟩
  have HV := Lib.hid (show vP t cs co = cpOk co by unfold vP; rw [q1, L.out, q3]; rfl)
  go_enter Try.func52, Try.ntmps52
  go_wp2_with (go_at_call 84; refine (inRange_cb _ _ _ _ _ q1).mono ?_; rintro e w' ⟨rfl, rfl⟩)
  refine (allIn_cb w0 D 3 cd cs 0 1000000 true q3 R1.out (by omega)).mono ?_
  rintro e w2 ⟨rfl, k2⟩
  have bx_p := bx_p.kept k2
  have kw2 := K.Kept.trans kw0 k2
  have R2' := Lib.hid ((K.Rd.below R2.out k2).more k2.size)
  clear p0 p1 p2 p3 p4 p5 p6 hww0 kw0 k2
  obtain ⟨p0, p1, p2, p3, p4, p5, p6⟩ := BoxN.at3 bx_p
  by_cases h4 : ne ≤ 3
  case neg =>
    have h4' : decide ((ne : Int) ≤ 3) = false := by simp; omega
    go_wp2
    go_ret
    exact ⟨K.rb (by rw [HV.out]; unfold cpOk; rw [L2.out, decide_eq_false h4]; simp), kw2⟩
  have h4' : decide ((ne : Int) ≤ 3) = true := by simp; omega
  obtain ⟨ba, qa⟩ : ∃ b, asc co = b := ⟨_, rfl⟩
  obtain ⟨bb, qb⟩ : ∃ b, allB co 1 9 = b := ⟨_, rfl⟩
  go_wp2_with fail
  refine (ascends_s w2 E ne ce co ba qa R2'.out he).mono ?_
  rintro e w3 ⟨rfl, k3⟩
  have bx_p := bx_p.kept k3
  have kw3 := K.Kept.trans kw2 k3
  have R3 := Lib.hid ((K.Rd.below R2'.out k3).more k3.size)
  clear p0 p1 p2 p3 p4 p5 p6 kw2 k3
  obtain ⟨p0, p1, p2, p3, p4, p5, p6⟩ := BoxN.at3 bx_p
  cases ba
  · go_wp2
    go_ret
    exact ⟨K.rb (by rw [HV.out]; exact (cpOk_no2 qa).symm), kw3⟩
  · go_wp2_with fail
    refine (allIn_cb w3 E ne ce co 1 9 bb qb R3.out he).mono ?_
    rintro e w4 ⟨rfl, k4⟩
    go_wp2
    go_ret
    exact ⟨K.rb (by rw [HV.out]; unfold cpOk; rw [qa, qb, L2.out, decide_eq_true h4]; simp), K.Kept.trans kw3 k4⟩
theorem gH_no1 {x y u t : Int} {l : List (Int × Int)} {cs co : List Int} (h : vG x y l u = false) : gH x y l u t cs co = false := by unfold gH; rw [h]; rfl
theorem gH_no2 {x y u t : Int} {l : List (Int × Int)} {cs co : List Int} (h : vP t cs co = false) : gH x y l u t cs co = false := by unfold gH; rw [h]; simp
theorem gH_no3 {x y u t : Int} {l : List (Int × Int)} {cs co : List Int} (h : wi t x y = false) : gH x y l u t cs co = false := by unfold gH; rw [h]; simp
theorem gH_no4 {x y u t : Int} {l : List (Int × Int)} {cs co : List Int} (h : ins l cs = false) : gH x y l u t cs co = false := by unfold gH; rw [h]; simp
theorem gH_eq {x y u t : Int} {l : List (Int × Int)} {cs co : List Int} (h1 : vG x y l u = true) (h2 : vP t cs co = true) (h3 : wi t x y = true) (h4 : ins l cs = true) : gH x y l u t cs co = (u == 0 || decide (u ∈ co)) := by unfold gH; rw [h1, h2, h3, h4]; rfl
theorem vG_len {x y u : Int} {l : List (Int × Int)} (h : vG x y l u = true) : l.length = 3 := by unfold vG at h; simp only [Bool.and_eq_true, decide_eq_true_eq] at h; exact h.1.1.2
theorem vG_vsp {x y u : Int} {l : List (Int × Int)} (h : vG x y l u = true) : vsp x y = true := by unfold vG at h; simp only [Bool.and_eq_true] at h; exact h.1.1.1
theorem vG_at {x y u : Int} {l : List (Int × Int)} (h : vG x y l u = true) {k : Nat} {p q : Int} (hx : l[k]? = some (p, q)) : vsp p q = true := by
  unfold vG at h; simp only [Bool.and_eq_true] at h
  have := h.1.2
  unfold vCs at this
  exact List.all_eq_true.1 this (p, q) (List.mem_of_getElem? hx)
theorem vP_len {t : Int} {cs co : List Int} (h : vP t cs co = true) : cs.length = 3 := by unfold vP at h; simp only [Bool.and_eq_true, decide_eq_true_eq] at h; exact h.1.1.2
set_option maxRecDepth 100000 in
set_option maxHeartbeats 2000000 in
theorem guardHolds_i (w : World) (x y u : Int) (A : Option Addr) (n c : Nat) (l : List (Int × Int)) (t : Int) (D : Option Addr) (nd cd : Nat) (cs : List Int) (E : Option Addr) (ne ce : Nat) (co : List Int) (b : Bool) (hb : gH x y l u t cs co = b) (h : K.PR w w.heap.size A n l) (hn : n ≤ 1099511627776) (h1 : K.IR w w.heap.size D nd cs) (hd : nd ≤ 1099511627776) (h2 : K.IR w w.heap.size E ne co) (he : ne ≤ 1099511627776) : Calls Try.prog 15 #[.agg #[.int .i64 x, .int .i64 y, .slice A n c, .int .i64 u], .agg #[.int .i64 t, .slice D nd cd, .slice E ne ce]] w (BK w b) := by
  subst hb
  have L := Lib.hid (K.PR.len h)
  have L1 := Lib.hid (K.IR.len h1)
  have bx_g : BoxN ((w.alloc (.cells #[.int .i64 x, .int .i64 y, .slice A n c, .int .i64 u] 27)).alloc (.cells #[.int .i64 t, .slice D nd cd, .slice E ne ce] 30)) w.heap.size (#[.int .i64 x, .int .i64 y, .slice A n c, .int .i64 u] : Array Value).toList := (BoxN.new w _ _).kept (kp1 _ _)
  have bx_p : BoxN ((w.alloc (.cells #[.int .i64 x, .int .i64 y, .slice A n c, .int .i64 u] 27)).alloc (.cells #[.int .i64 t, .slice D nd cd, .slice E ne ce] 30)) (w.heap.size + 1) (#[.int .i64 t, .slice D nd cd, .slice E ne ce] : Array Value).toList := by have q := BoxN.new (w.alloc (.cells #[.int .i64 x, .int .i64 y, .slice A n c, .int .i64 u] 27)) #[.int .i64 t, .slice D nd cd, .slice E ne ce] 30; rwa [show (w.alloc (.cells #[.int .i64 x, .int .i64 y, .slice A n c, .int .i64 u] 27)).heap.size = w.heap.size + 1 by simp] at q
  have kw0 : K.Kept w ((w.alloc (.cells #[.int .i64 x, .int .i64 y, .slice A n c, .int .i64 u] 27)).alloc (.cells #[.int .i64 t, .slice D nd cd, .slice E ne ce] 30)) := K.Kept.trans (kp1 _ _) (kp1 _ _)
  generalize hww0 : (w.alloc (.cells #[.int .i64 x, .int .i64 y, .slice A n c, .int .i64 u] 27)).alloc (.cells #[.int .i64 t, .slice D nd cd, .slice E ne ce] 30) = w0 at bx_g bx_p kw0
  obtain ⟨g0, g1, g2, g3, g4, g5, g6, g7, g8⟩ := BoxN.at4 bx_g
  obtain ⟨p0, p1, p2, p3, p4, p5, p6⟩ := BoxN.at3 bx_p
  have R0 := Lib.hid ((K.Rd.below h kw0).more kw0.size)
  have R1 := Lib.hid ((K.Rd.below h1 kw0).more kw0.size)
  have R2 := Lib.hid ((K.Rd.below h2 kw0).more kw0.size)
  clear h h1 h2
  cases q1 : vG x y l u
  · go_enter Try.func15, Try.ntmps15
    go_wp2_with fail
    refine (validGuard_i w0 x y u A n c l false q1 R0.out hn).mono ?_
    rintro e w2 ⟨rfl, k2⟩
    go_wp2
    go_ret
    exact ⟨K.rb (gH_no1 q1).symm, K.Kept.trans kw0 k2⟩
  cases q2 : vP t cs co
  · go_enter Try.func15, Try.ntmps15
    go_wp2_with fail
    refine (validGuard_i w0 x y u A n c l true q1 R0.out hn).mono ?_
    rintro e w2 ⟨rfl, k2⟩
    have bx_p := bx_p.kept k2
    clear p0 p1 p2 p3 p4 p5 p6
    obtain ⟨p0, p1, p2, p3, p4, p5, p6⟩ := BoxN.at3 bx_p
    go_wp2_with fail
    refine (pointOk_i w2 t D nd cd cs E ne ce co false q2 ((K.Rd.below R1.out k2).more k2.size) hd ((K.Rd.below R2.out k2).more k2.size) he).mono ?_
    rintro e w3 ⟨rfl, k3⟩
    go_wp2
    go_ret
    exact ⟨K.rb (gH_no2 q2).symm, K.Kept.trans kw0 (K.Kept.trans k2 k3)⟩
  have n3 : n = 3 := by have := vG_len q1; have := L.out; omega
  have d3 : nd = 3 := by have := vP_len q2; have := L1.out; omega
  subst n3 d3
  go_enter Try.func15, Try.ntmps15
  go_wp2_with fail
  refine (validGuard_i w0 x y u A 3 c l true q1 R0.out hn).mono ?_
  rintro e w2 ⟨rfl, k2⟩
  replace bx_p := bx_p.kept k2
  replace bx_g := bx_g.kept k2
  have kw2 := K.Kept.trans kw0 k2
  replace R0 := Lib.hid ((K.Rd.below R0.out k2).more k2.size)
  replace R1 := Lib.hid ((K.Rd.below R1.out k2).more k2.size)
  replace R2 := Lib.hid ((K.Rd.below R2.out k2).more k2.size)
  clear p0 p1 p2 p3 p4 p5 p6 g0 g1 g2 g3 g4 g5 g6 g7 g8 hww0 kw0 k2
  obtain ⟨p0, p1, p2, p3, p4, p5, p6⟩ := BoxN.at3 bx_p
  go_wp2_with fail
  refine (pointOk_i w2 t D 3 cd cs E ne ce co true q2 R1.out hd R2.out he).mono ?_
  rintro e w3 ⟨rfl, k3⟩
  replace bx_p := bx_p.kept k3
  replace bx_g := bx_g.kept k3
  have kw3 := K.Kept.trans kw2 k3
  replace R0 := Lib.hid ((K.Rd.below R0.out k3).more k3.size)
  replace R1 := Lib.hid ((K.Rd.below R1.out k3).more k3.size)
  replace R2 := Lib.hid ((K.Rd.below R2.out k3).more k3.size)
  clear p0 p1 p2 p3 p4 p5 p6 kw2 k3
  obtain ⟨p0, p1, p2, p3, p4, p5, p6⟩ := BoxN.at3 bx_p
  obtain ⟨g0, g1, g2, g3, g4, g5, g6, g7, g8⟩ := BoxN.at4 bx_g
  cases q3 : wi t x y
  · go_wp2_with fail
    refine (inSpan_ig x y t false _ (by rw [vG_vsp q1, q3]; rfl)).mono ?_
    rintro e w4 ⟨rfl, k4⟩
    go_wp2
    go_ret
    exact ⟨K.rb (gH_no3 q3).symm, K.Kept.trans kw3 k4⟩
  go_wp2_with fail
  refine (inSpan_ig x y t true _ (by rw [vG_vsp q1, q3]; rfl)).mono ?_
  rintro e w4 ⟨rfl, k4⟩
  replace bx_p := bx_p.kept k4
  replace bx_g := bx_g.kept k4
  have kw4 := K.Kept.trans kw3 k4
  replace R0 := Lib.hid ((K.Rd.below R0.out k4).more k4.size)
  replace R1 := Lib.hid ((K.Rd.below R1.out k4).more k4.size)
  replace R2 := Lib.hid ((K.Rd.below R2.out k4).more k4.size)
  clear p0 p1 p2 p3 p4 p5 p6 g0 g1 g2 g3 g4 g5 g6 g7 g8 kw3 k4
  obtain ⟨g0, g1, g2, g3, g4, g5, g6, g7, g8⟩ := BoxN.at4 bx_g
  go_wp2
  clear g0 g1 g2 g3 g4 g5 g6 g7 g8
  go_loopw [26] (fun i wr => ∃ k : Nat, k ≤ 3 ∧ i = .int .i64 k ∧ K.Kept w4 wr ∧ Hid (insT l cs k)) (fun i _ => 3 - (intOf i).toNat)
  case atStart => exact ⟨0, Nat.zero_le _, rfl, Below.refl _ _, fun i hi => by omega⟩
  case round =>
    obtain ⟨k, hk, rfl, hkw, hg⟩ := hrel
    have HW := Lib.hid hkw
    have HK := Lib.hid (K.Kept.trans kw4 hkw)
    replace bx_p := bx_p.kept hkw
    replace bx_g := bx_g.kept hkw
    have S0 := Lib.hid ((K.Rd.below R0.out hkw).more hkw.size)
    have S1 := Lib.hid ((K.Rd.below R1.out hkw).more hkw.size)
    have S2 := Lib.hid ((K.Rd.below R2.out hkw).more hkw.size)
    clear hkw kw4 R0 R1 R2
    by_cases hlt : k < 3
    · obtain ⟨b, o, p, q, rfl, hb, c1, c2, hx⟩ := K.PR.cell S0.out hlt
      obtain ⟨b3, o3, v, rfl, hb3, d1, hy⟩ := K.IR.cell S1.out hlt
      have x0 := Box2.new wr (.int .i64 p) (.int .i64 q) 24
      have kx := kp1 wr (.cells #[.int .i64 p, .int .i64 q] 24)
      have d1' := kcell kx _ _ d1
      replace bx_p := bx_p.kept kx
      generalize hwx : wr.alloc (.cells #[.int .i64 p, .int .i64 q] 24) = wx at x0 kx d1' bx_p
      obtain ⟨x1, x2, x3, x4, x5⟩ := id x0
      obtain ⟨p0, p1, p2, p3, p4, p5, p6⟩ := BoxN.at3 bx_p
      have vv := vG_at q1 hx.out
      cases hv : wi v p q
      · have HB := Lib.hid (ins_no hx.out hy.out hv)
        go_wp2_with fail
        (have rg0 := cell_regrown x1; have rg1 := cell_regrown x2; have rg2 := cell_regrown p1; have rg3 := cell_regrown d1'; refine wp_region_quiet_below (by kernel_rfl) (by kernel_rfl) ?_; (repeat (go_big_quiet_step ((first | (go_at_call 17; exact Calls.regrown_of (inSpan_ig p q v false _ (by rw [vv, hv]; rfl))))))); refine wpQuiet_nil ?_; intro wq hw2; have kwq := K.of_regrown hw2; clear hw2 rg0 rg1 rg2 rg3)
        go_wp2
        go_ret
        exact ⟨K.rb (gH_no4 HB.out).symm, K.Kept.trans HK.out (K.Kept.trans kx kwq)⟩
      · have HG := Lib.hid (insT_snoc hg.out hx.out hy.out hv)
        go_wp2_with fail
        (have rg0 := cell_regrown x1; have rg1 := cell_regrown x2; have rg2 := cell_regrown p1; have rg3 := cell_regrown d1'; refine wp_region_quiet_below (by kernel_rfl) (by kernel_rfl) ?_; (repeat (go_big_quiet_step ((first | (go_at_call 17; exact Calls.regrown_of (inSpan_ig p q v true _ (by rw [vv, hv]; rfl))))))); refine wpQuiet_nil ?_; intro wq hw2; have kwq := K.of_regrown hw2; clear hw2 rg0 rg1 rg2 rg3)
        go_wp2
        go_roundw
        case rel => exact ⟨k + 1, by omega, by go_num, K.Kept.trans HW.out (K.Kept.trans kx kwq), HG⟩
        case measure => simp [intOf]; omega
    · have hkn : k = 3 := by omega
      subst hkn
      have HE := Lib.hid (gH_eq q1 q2 q3 (ins_yes L.out hg.out) : gH x y l u t cs co = _)
      clear hg
      obtain ⟨g0, g1, g2, g3, g4, g5, g6, g7, g8⟩ := BoxN.at4 bx_g
      obtain ⟨p0, p1, p2, p3, p4, p5, p6⟩ := BoxN.at3 bx_p
      by_cases hu : u = 0
      · subst hu
        go_wp2
        go_ret
        exact ⟨K.rb HE.out.symm, HK.out⟩
      · have hu' : (u == 0) = false := by simp [hu]
        obtain ⟨bm, qm⟩ : ∃ b, decide (u ∈ co) = b := ⟨_, rfl⟩
        rw [qm, hu'] at HE
        clear hu
        go_wp2_with fail
        refine (hasNumber_i _ E ne ce co u bm qm S2.out he).mono ?_
        rintro e w5 ⟨rfl, k5⟩
        go_wp2
        go_ret
        exact ⟨K.rb HE.out.symm, K.Kept.trans HK.out k5⟩
end C
end Go.Proofs.Ytapjlbcpfemeiaa

/-
  Contracts of the functions on lists of integers that only read: equality, sums, ranges, the marks that a test has left. Conditions: lengths below 2^40; sums of small numbers.
-/
import Derived.Test.YtapjlbcpfemeiaaNum
namespace Go.Proofs.Ytapjlbcpfemeiaa
open Go.RowKit
namespace C

theorem eq_of_takes {l m : List Int} {n : Nat} (h1 : l.length = n) (h2 : m.length = n) (h : l.take n = m.take n) : l = m := by
  rw [List.take_of_length_le (by omega), List.take_of_length_le (by omega)] at h
  exact h
set_option maxHeartbeats 400000 in
theorem eqIntS_c (w : World) (A1 A2 : Option Addr) (n m c d : Nat) (l1 l2 : List Int) (h1 : K.IR w w.heap.size A1 n l1) (h2 : K.IR w w.heap.size A2 m l2) (hn : n ≤ 1099511627776) (hm : m ≤ 1099511627776) :
    Calls Try.prog 74 #[.slice A1 n c, .slice A2 m d] w fun e w' => e = .returned (.bool (decide (l1 = l2))) ∧ K.Kept w w' := by
  have e1 := K.IR.len h1
  have e2 := K.IR.len h2
  by_cases hnm : n = m
  · subst hnm
    have E1 := Lib.hid e1
    have E2 := Lib.hid e2
    clear e1 e2
    go_enter Try.func74, Try.ntmps74
    go_wp2
    go_loopw [5] (fun i wr => ∃ k : Nat, k ≤ n ∧ i = .int .i64 k ∧ K.Kept w wr ∧ Hid (l1.take k = l2.take k)) (fun i _ => n - (intOf i).toNat)
    case atStart => exact ⟨0, Nat.zero_le _, rfl, Below.refl _ _, by unfold Hid; simp⟩
    case round =>
      obtain ⟨k, hk, rfl, hkw, ht⟩ := hrel
      by_cases hlt : k < n
      · obtain ⟨b1, o1, x, rfl, hb1, c1, hx⟩ := K.IR.cell (K.Rd.below h1 hkw) hlt
        obtain ⟨b2, o2, y, rfl, hb2, c2, hy⟩ := K.IR.cell (K.Rd.below h2 hkw) hlt
        by_cases hxy : x = y
        · subst hxy
          have e3 : (x != x) = false := by simp
          go_wp2
          go_quiet (fail)
          go_wp2
          go_roundw
          case rel => exact ⟨k + 1, by omega, by go_num, K.below_drewN hkw _, by unfold Hid; rw [K.take_snoc hx.out, K.take_snoc hy.out, ht.out]⟩
          case measure => simp [intOf]; omega
        · have e3 : (x != y) = true := by simp [hxy]
          go_wp2
          go_quiet (fail)
          go_wp2
          go_ret
          exact ⟨K.rb (Eq.symm (decide_eq_false (fun e => hxy (by have a := hx.out; have b := hy.out; rw [e] at a; rw [a] at b; exact Option.some.inj b)))), K.below_drewN hkw _⟩
      · have hkn : n = k := by omega
        subst hkn
        go_wp2
        go_ret
        exact ⟨K.rb (Eq.symm (decide_eq_true (eq_of_takes E1.out E2.out ht.out))), hkw⟩
  · have e3 : ((n : Int) != (m : Int)) = true := by simp; omega
    have hne : decide (l1 = l2) = false := decide_eq_false (fun e => hnm (by rw [← e1, ← e2, e]))
    go_enter Try.func74, Try.ntmps74
    go_wp2
    go_ret
    exact ⟨K.rb hne.symm, Below.refl _ _⟩
set_option maxHeartbeats 400000 in
theorem equalInts_c (w : World) (A1 A2 : Option Addr) (n m c d : Nat) (l1 l2 : List Int) (h1 : K.IR w w.heap.size A1 n l1) (h2 : K.IR w w.heap.size A2 m l2) (hn : n ≤ 1099511627776) (hm : m ≤ 1099511627776) :
    Calls Try.prog 24 #[.slice A1 n c, .slice A2 m d] w fun e w' => e = .returned (.bool (decide (l1 = l2))) ∧ K.Kept w w' := by
  have e1 := K.IR.len h1
  have e2 := K.IR.len h2
  by_cases hnm : n = m
  · subst hnm
    have E1 := Lib.hid e1
    have E2 := Lib.hid e2
    clear e1 e2
    go_enter Try.func24, Try.ntmps24
    go_wp2
    go_loopw [5] (fun i wr => ∃ k : Nat, k ≤ n ∧ i = .int .i64 k ∧ K.Kept w wr ∧ Hid (l1.take k = l2.take k)) (fun i _ => n - (intOf i).toNat)
    case atStart => exact ⟨0, Nat.zero_le _, rfl, Below.refl _ _, by unfold Hid; simp⟩
    case round =>
      obtain ⟨k, hk, rfl, hkw, ht⟩ := hrel
      by_cases hlt : k < n
      · obtain ⟨b1, o1, x, rfl, hb1, c1, hx⟩ := K.IR.cell (K.Rd.below h1 hkw) hlt
        obtain ⟨b2, o2, y, rfl, hb2, c2, hy⟩ := K.IR.cell (K.Rd.below h2 hkw) hlt
        by_cases hxy : x = y
        · subst hxy
          have e3 : (x != x) = false := by simp
          go_wp2
          go_quiet (fail)
          go_wp2
          go_roundw
          case rel => exact ⟨k + 1, by omega, by go_num, K.below_drewN hkw _, by unfold Hid; rw [K.take_snoc hx.out, K.take_snoc hy.out, ht.out]⟩
          case measure => simp [intOf]; omega
        · have e3 : (x != y) = true := by simp [hxy]
          go_wp2
          go_quiet (fail)
          go_wp2
          go_ret
          exact ⟨K.rb (Eq.symm (decide_eq_false (fun e => hxy (by have a := hx.out; have b := hy.out; rw [e] at a; rw [a] at b; exact Option.some.inj b)))), K.below_drewN hkw _⟩
      · have hkn : n = k := by omega
        subst hkn
        go_wp2
        go_ret
        exact ⟨K.rb (Eq.symm (decide_eq_true (eq_of_takes E1.out E2.out ht.out))), hkw⟩
  · have e3 : ((n : Int) != (m : Int)) = true := by simp; omega
    have hne : decide (l1 = l2) = false := decide_eq_false (fun e => hnm (by rw [← e1, ← e2, e]))
    go_enter Try.func24, Try.ntmps24
    go_wp2
    go_ret
    exact ⟨K.rb hne.symm, Below.refl _ _⟩
/-- Small numbers. -/
def Small (l : List Int) : Prop := ∀ x ∈ l, 0 ≤ x ∧ x ≤ 10000000
theorem sum_snoc (l : List Int) (x : Int) : (l ++ [x]).sum = l.sum + x := by rw [List.sum_append]; simp
theorem sum_bd : ∀ {l : List Int}, Small l → 0 ≤ l.sum ∧ l.sum ≤ l.length * 10000000 := by
  intro l
  induction l with
  | nil => intro _; simp
  | cons x l ih =>
    intro h
    have := ih fun y hy => h y (by simp [hy])
    have := h x (by simp)
    simp only [List.sum_cons, List.length_cons]
    omega
theorem small_take {l : List Int} (h : Small l) (k : Nat) : Small (l.take k) := fun x hx => h x (List.mem_of_mem_take hx)
theorem sum_take_bd {l : List Int} (h : Small l) (k : Nat) : 0 ≤ (l.take k).sum ∧ (l.take k).sum ≤ k * 10000000 := by
  have := sum_bd (small_take h k)
  have := List.length_take_le k l
  omega
theorem small_at {l : List Int} {k : Nat} {x : Int} (h : Small l) (hx : l[k]? = some x) : 0 ≤ x ∧ x ≤ 10000000 := h x (List.mem_of_getElem? hx)
theorem sum_s (w : World) (A : Option Addr) (n c : Nat) (l : List Int) (h : K.IR w w.heap.size A n l) (hn : n ≤ 100000) (hs : Small l) :
    Calls Try.prog 61 #[.slice A n c] w fun e w' => e = .returned (.int .i64 l.sum) ∧ w = w' := by
  have hl := Lib.hid (K.IR.len h)
  go_enter Try.func61, Try.ntmps61
  go_wp2
  go_loop [3, 4] (fun s i => ∃ k : Nat, k ≤ n ∧ i = .int .i64 k ∧ s = .int .i64 (l.take k).sum) (fun _ i => n - (intOf i).toNat)
  case atStart => exact ⟨0, Nat.zero_le _, rfl, by simp⟩
  case round =>
    obtain ⟨k, hk, rfl, rfl⟩ := hrel
    by_cases hlt : k < n
    · obtain ⟨b, o, x, rfl, hb, c1, hx⟩ := K.IR.cell h hlt
      have b1 := sum_take_bd hs k
      have b2 := small_at hs hx.out
      clear hs h
      go_wp2
      go_round
      case rel => exact ⟨k + 1, by omega, by go_num, by rw [K.take_snoc hx.out, sum_snoc]⟩
      case measure => simp [intOf]; omega
    · have hkn : n = k := by omega
      subst hkn
      clear hs h
      go_wp2
      go_ret
      exact ⟨K.ri (by rw [K.take_all hl.out]), rfl⟩
theorem total_c (w : World) (A : Option Addr) (n c : Nat) (l : List Int) (h : K.IR w w.heap.size A n l) (hn : n ≤ 100000) (hs : Small l) :
    Calls Try.prog 65 #[.slice A n c] w fun e w' => e = .returned (.int .i64 l.sum) ∧ w = w' := by
  have hl := Lib.hid (K.IR.len h)
  go_enter Try.func65, Try.ntmps65
  go_wp2
  go_loop [3, 8] (fun s i => ∃ k : Nat, k ≤ n ∧ i = .int .i64 k ∧ s = .int .i64 (l.take k).sum) (fun _ i => n - (intOf i).toNat)
  case atStart => exact ⟨0, Nat.zero_le _, rfl, by simp⟩
  case round =>
    obtain ⟨k, hk, rfl, rfl⟩ := hrel
    by_cases hlt : k < n
    · obtain ⟨b, o, x, rfl, hb, c1, hx⟩ := K.IR.cell h hlt
      have b1 := sum_take_bd hs k
      have b2 := small_at hs hx.out
      clear hs h
      go_wp2
      go_round
      case rel => exact ⟨k + 1, by omega, by go_num, by rw [K.take_snoc hx.out, sum_snoc]⟩
      case measure => simp [intOf]; omega
    · have hkn : n = k := by omega
      subst hkn
      clear hs h
      go_wp2
      go_ret
      exact ⟨K.ri (by rw [K.take_all hl.out]), rfl⟩
def allB (l : List Int) (lo hi : Int) : Bool := l.all fun x => wi x lo hi
theorem allIn_c (w : World) (A : Option Addr) (n c : Nat) (l : List Int) (lo hi : Int) (h : K.IR w w.heap.size A n l) (hn : n ≤ 1099511627776) :
    Calls Try.prog 85 #[.slice A n c, .int .i64 lo, .int .i64 hi] w fun e w' => e = .returned (.bool (allB l lo hi)) ∧ w = w' := by
  have hl := Lib.hid (K.IR.len h)
  go_enter Try.func85, Try.ntmps85
  go_wp2
  go_loop [7] (fun i => ∃ k : Nat, k ≤ n ∧ i = .int .i64 k ∧ Hid (allB (l.take k) lo hi = true)) (fun i => n - (intOf i).toNat)
  case atStart => exact ⟨0, Nat.zero_le _, rfl, by unfold Hid; simp [allB]⟩
  case round =>
    obtain ⟨k, hk, rfl, hall⟩ := hrel
    by_cases hlt : k < n
    · obtain ⟨b, o, x, rfl, hb, c1, hx⟩ := K.IR.cell h hlt
      cases hw : wi x lo hi
      · go_wp2_with (go_at_call 84; refine (inRange_c _ _ _ _).mono ?_; rintro e w' ⟨rfl, rfl⟩)
        go_ret
        exact ⟨K.rb (Eq.symm (by rw [allB, List.all_eq_false]; exact ⟨x, List.mem_of_getElem? hx.out, by rw [hw]; simp⟩)), rfl⟩
      · go_wp2_with (go_at_call 84; refine (inRange_c _ _ _ _).mono ?_; rintro e w' ⟨rfl, rfl⟩)
        go_round
        case rel => exact ⟨k + 1, by omega, by go_num, by unfold Hid; rw [K.take_snoc hx.out, allB, List.all_append]; have := hall.out; rw [allB] at this; rw [this]; simp [hw]⟩
        case measure => simp [intOf]; omega
    · have hkn : n = k := by omega
      subst hkn
      go_wp2
      go_ret
      exact ⟨K.rb (by have := hall.out; rw [K.take_all hl.out] at this; exact this.symm), rfl⟩
end C
end Go.Proofs.Ytapjlbcpfemeiaa

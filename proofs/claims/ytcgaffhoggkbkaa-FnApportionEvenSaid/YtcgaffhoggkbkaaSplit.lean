/-
  Contracts of SplitEven, of the program and of the reference, and its laws. Conditions: none.
-/
import Derived.Test.YtcgaffhoggkbkaaIntsW
import Derived.Test.YtcgaffhoggkbkaaDraw0
namespace Go.Proofs.Ytcgaffhoggkbkaa
open Go.RowKit
namespace C

def se (a p : Int) : List Int := if wi a 0 1000000 = true ∧ wi p 1 8 = true then (List.range p.toNat).map (fun i : Nat => a / p + (if (i : Int) < a % p then 1 else 0)) else []
theorem se_bad {a p : Int} (h : ¬ (wi a 0 1000000 = true ∧ wi p 1 8 = true)) : se a p = [] := by rw [se, if_neg h]
def sep (a : Int) (p k : Nat) : List Int := (List.range k).map fun i : Nat => a / (p : Int) + (if (i : Int) < a % (p : Int) then 1 else 0)
theorem sep_snoc (a : Int) (p k : Nat) : sep a p (k + 1) = sep a p k ++ [a / (p : Int) + (if (k : Int) < a % (p : Int) then 1 else 0)] := by simp [sep, List.range_succ]
theorem sep_len (a : Int) (p k : Nat) : (sep a p k).length = k := by simp [sep]
theorem se_good {a : Int} {p : Nat} (h : wi a 0 1000000 = true ∧ wi p 1 8 = true) : se a p = sep a p p := by rw [se, if_pos h]; rfl
theorem fresh_nil (w : World) : Fresh w [] (.returned (.slice none 0 0)) w := ⟨none, 0, 0, rfl, rfl, World.ownsRow_nil _ _ _ _, Below.refl _ _⟩
set_option maxHeartbeats 1000000 in
theorem se_spec (a p : Int) (w : World) : Calls Try.prog 22 #[.int .i64 a, .int .i64 p] w (Fresh w (se a p)) := by
  obtain ⟨i0, hi, hz0, hz1, hz2⟩ := info_parts info_int
  have hnew : (w.alloc (.cells #[] 3)).ownsRow w.heap.size 3 1 (.slice (some ⟨w.heap.size, 0, none⟩) 0 0) 0 [] := World.ownsRow_lit w #[] 0 (Nat.le_refl _) (by unfold maxLen; omega) rfl
  cases h1 : wi a 0 1000000 <;> cases h2 : wi p 1 8
  case true.true =>
    have b1 := wi_true.1 h1
    have b2 := wi_true.1 h2
    obtain ⟨P, rfl⟩ := Int.eq_ofNat_of_zero_le (show 0 ≤ p by omega)
    have q0 : 0 ≤ a / (P : Int) := Int.ediv_nonneg b1.1 (by omega)
    have q1 : a / (P : Int) ≤ a := Int.ediv_le_self _ b1.1
    have q2 : 0 ≤ a % (P : Int) := Int.emod_nonneg _ (by omega)
    have q3 : a % (P : Int) < (P : Int) := Int.emod_lt_of_pos _ (by omega)
    have hP : 1 ≤ P ∧ P ≤ 8 := by omega
    rw [se_good ⟨h1, h2⟩]
    have hk0 : K.Kept w (w.alloc (.cells #[] 3)) := (Below.refl _ _).alloc (Nat.le_refl _) _
    go_enter Try.func22, Try.ntmps22
    go_wp2_with ((go_at_call 36; refine (inRange_c _ _ _ _).mono ?_; rintro e w' ⟨rfl, rfl⟩))
    go_loopw [5, 6] (fun v i wr => ∃ (k c : Nat) (A : Option Addr), k ≤ P ∧ i = .int .i64 k ∧ v = .slice A k c ∧ wr.ownsRow w.heap.size 3 1 (.slice A k c) k ((sep a P k).map (Value.int .i64)) ∧ K.Kept w wr) (fun _ i _ => P - (intOf i).toNat)
    case atStart => exact ⟨0, 0, _, Nat.zero_le _, rfl, rfl, hnew, hk0⟩
    case round =>
      clear hnew hk0
      obtain ⟨k, c, A, hk, rfl, rfl, hown, hkw⟩ := hrel
      have HS := Lib.hid (sep_snoc a P k)
      by_cases hlt : k < P
      · by_cases hm : (k : Int) < a % (P : Int)
        all_goals
          go_wp2_with (at_builtin; refine K.wpList_app rfl _ _ 25 rfl w.heap.size 3 1 8 i0 (.int .i64 0) Try.underlying25 hi hz0 hz1 hz2 rfl (by decide) wr _ k _ (by rfl) hown _ (by rfl) (by rfl) (by rfl) (by unfold maxLen; omega) (by omega) (by have := hkw.size; omega) ?_; intro A1 c1 w1 hown1 hg1)
          have hk1 := K.kept_own hkw hown hg1 hkw.size
          clear hown hg1
          go_wp2
          go_roundw
          case rel =>
            refine ⟨k + 1, c1, A1, by omega, by go_num, rfl, ?_, hk1⟩
            rw [HS.out, List.map_append]
            first | rw [if_pos hm] | rw [if_neg hm]
            first | exact hown1 | (rw [Int.add_zero]; exact hown1)
          case measure => simp [intOf]; omega
      · have hkn : P = k := by omega
        subst hkn
        clear HS
        go_wp2
        go_ret
        exact ⟨_, _, _, rfl, sep_len a P P, hown, hkw⟩
  all_goals
    rw [se_bad (by rw [h1, h2]; simp)]
    go_enter Try.func22, Try.ntmps22
    go_wp2_with ((go_at_call 36; refine (inRange_c _ _ _ _).mono ?_; rintro e w' ⟨rfl, rfl⟩))
    go_ret
    first | exact fresh_nil w | exact ⟨_, _, _, rfl, rfl, hnew, (Below.refl _ _).alloc (Nat.le_refl _) _⟩ | exact ⟨_, _, _, rfl, rfl, World.ownsRow_nil _ _ _ _, (Below.refl _ _).alloc (Nat.le_refl _) _⟩
set_option maxHeartbeats 1000000 in
theorem se_impl (a p : Int) (w : World) : Calls Try.prog 23 #[.int .i64 a, .int .i64 p] w (Fresh w (se a p)) := by
  obtain ⟨i0, hi, hz0, hz1, hz2⟩ := info_parts info_int
  have hnew : (w.alloc (.cells #[] 3)).ownsRow w.heap.size 3 1 (.slice (some ⟨w.heap.size, 0, none⟩) 0 0) 0 [] := World.ownsRow_lit w #[] 0 (Nat.le_refl _) (by unfold maxLen; omega) rfl
  cases h1 : wi a 0 1000000 <;> cases h2 : wi p 1 8
  case true.true =>
    have b1 := wi_true.1 h1
    have b2 := wi_true.1 h2
    obtain ⟨P, rfl⟩ := Int.eq_ofNat_of_zero_le (show 0 ≤ p by omega)
    have q0 : 0 ≤ a / (P : Int) := Int.ediv_nonneg b1.1 (by omega)
    have q1 : a / (P : Int) ≤ a := Int.ediv_le_self _ b1.1
    have q2 : 0 ≤ a % (P : Int) := Int.emod_nonneg _ (by omega)
    have q3 : a % (P : Int) < (P : Int) := Int.emod_lt_of_pos _ (by omega)
    have hP : 1 ≤ P ∧ P ≤ 8 := by omega
    rw [se_good ⟨h1, h2⟩]
    have hk0 : K.Kept w (w.alloc (.cells #[] 3)) := (Below.refl _ _).alloc (Nat.le_refl _) _
    go_enter Try.func23, Try.ntmps23
    go_wp2_with (first | (go_at_call 38; refine (within_c _ _ _ _).mono ?_; rintro e w' ⟨rfl, rfl⟩) | (go_at_call 37; refine (money_c _ _).mono ?_; rintro e w' ⟨rfl, rfl⟩))
    go_loopw [5, 19] (fun v i wr => ∃ (k c : Nat) (A : Option Addr), k ≤ P ∧ i = .int .i64 k ∧ v = .slice A k c ∧ wr.ownsRow w.heap.size 3 1 (.slice A k c) k ((sep a P k).map (Value.int .i64)) ∧ K.Kept w wr) (fun _ i _ => P - (intOf i).toNat)
    case atStart => exact ⟨0, 0, _, Nat.zero_le _, rfl, rfl, hnew, hk0⟩
    case round =>
      clear hnew hk0
      obtain ⟨k, c, A, hk, rfl, rfl, hown, hkw⟩ := hrel
      have HS := Lib.hid (sep_snoc a P k)
      by_cases hlt : k < P
      · by_cases hm : (k : Int) < a % (P : Int)
        all_goals
          go_wp2_with (at_builtin; refine K.wpList_app rfl _ _ 25 rfl w.heap.size 3 1 8 i0 (.int .i64 0) Try.underlying25 hi hz0 hz1 hz2 rfl (by decide) wr _ k _ (by rfl) hown _ (by rfl) (by rfl) (by rfl) (by unfold maxLen; omega) (by omega) (by have := hkw.size; omega) ?_; intro A1 c1 w1 hown1 hg1)
          have hk1 := K.kept_own hkw hown hg1 hkw.size
          clear hown hg1
          go_wp2
          go_roundw
          case rel =>
            refine ⟨k + 1, c1, A1, by omega, by go_num, rfl, ?_, hk1⟩
            rw [HS.out, List.map_append]
            first | rw [if_pos hm] | rw [if_neg hm]
            first | exact hown1 | (rw [Int.add_zero]; exact hown1)
          case measure => simp [intOf]; omega
      · have hkn : P = k := by omega
        subst hkn
        clear HS
        go_wp2
        go_ret
        exact ⟨_, _, _, rfl, sep_len a P P, hown, hkw⟩
  all_goals
    rw [se_bad (by rw [h1, h2]; simp)]
    go_enter Try.func23, Try.ntmps23
    go_wp2_with (first | (go_at_call 38; refine (within_c _ _ _ _).mono ?_; rintro e w' ⟨rfl, rfl⟩) | (go_at_call 37; refine (money_c _ _).mono ?_; rintro e w' ⟨rfl, rfl⟩))
    go_ret
    first | exact fresh_nil w | exact ⟨_, _, _, rfl, rfl, hnew, (Below.refl _ _).alloc (Nat.le_refl _) _⟩ | exact ⟨_, _, _, rfl, rfl, World.ownsRow_nil _ _ _ _, (Below.refl _ _).alloc (Nat.le_refl _) _⟩
theorem se_len (a p : Int) : (se a p).length ≤ 8 := by
  unfold se
  split
  · rename_i h
    have := wi_true.1 h.2
    simp
    omega
  · simp
set_option maxHeartbeats 1000000 in
theorem exactSplitEven (a p : Int) (w : World) : Calls Try.prog 6 #[.int .i64 a, .int .i64 p] w fun e w' => e = .returned (.bool true) ∧ Below w.heap.size w w' := by
  have hlen := se_len a p
  go_enter Try.func6, Try.ntmps6
  go_wp2_with fail
  refine (se_spec a p w).mono ?_
  rintro e w1 ⟨A0, n0, c0, rfl, hl0, own0, k1⟩
  go_wp2_with fail
  refine (se_impl a p w1).mono ?_
  rintro e w2 ⟨A1, n1, c1, rfl, hl1, own1, k2⟩
  have e01 : n1 = n0 := by omega
  subst e01
  have s0 := own0.lt
  have s1 := own1.lt
  have own0 := K.own_kept own0 k2
  have hn1 : n1 ≤ 1000000000 := by omega
  have z1 := k1.size
  have z2 := k2.size
  have kw2 := K.Kept.trans k1 k2
  clear k1 k2
  go_wp2_with fail
  refine (eqIntS_c _ _ _ _ _ _ _ (se a p) (se a p) (K.rd_own own1) (K.rd_own own0) (by omega) (by omega)).mono ?_
  rintro e w3 ⟨rfl, k3⟩
  have own0 := K.own_kept own0 k3
  have own1 := K.own_kept own1 k3
  have kw3 := K.Kept.trans kw2 k3
  have z3 := k3.size
  clear k3 kw2
  go_wp2_with fail
  refine (markIntS_c _ _ _ _ _ (se a p) 1 own1 (by omega) (by omega)).mono ?_
  rintro e w4 ⟨rfl, mark1, g4⟩
  have own0 := K.own_other own0 g4 (fun i j hi hj => by have := s0 i hi; have := s1 j hj; omega)
  have kw4 : K.Kept w w4 := kw3.grown g4 (by omega) (fun i hi => by have := s1 i hi; omega)
  have z4 := g4.size
  clear own1 g4 kw3
  go_wp2_with fail
  refine (heldIntS_c _ _ _ _ 1 (K.rd_own mark1) (by omega) (by omega)).mono ?_
  rintro e w5 ⟨rfl, rfl⟩
  go_wp2_with fail
  refine (se_impl a p _).mono ?_
  rintro e w6 ⟨A2, n2, c2, rfl, hl2, own2, k6⟩
  have e12 : n2 = n1 := by omega
  subst e12
  have own0 := K.own_kept own0 k6
  have mark1 := K.own_kept mark1 k6
  have kw6 := K.Kept.trans kw4 k6
  clear k6 kw4
  go_wp2_with fail
  refine (eqIntS_c _ _ _ _ _ _ _ (se a p) (se a p) (K.rd_own own2) (K.rd_own own0) (by omega) (by omega)).mono ?_
  rintro e w7 ⟨rfl, k7⟩
  have mark1 := K.own_kept mark1 k7
  have kw7 := K.Kept.trans kw6 k7
  clear k7 kw6 own0 own2
  go_wp2_with fail
  refine (heldIntS_c _ _ _ _ 1 (K.rd_own mark1) (by omega) (by omega)).mono ?_
  rintro e w8 ⟨rfl, rfl⟩
  go_wp2
  go_ret
  exact ⟨rfl, kw7⟩
theorem sep_at {a : Int} {p k i : Nat} (h : i < k) : (sep a p k)[i]? = some (a / (p : Int) + (if (i : Int) < a % (p : Int) then 1 else 0)) := by simp [sep, h]
theorem sep_sum {a : Int} {p : Nat} (hp : 1 ≤ p) : ∀ k : Nat, (sep a p k).sum = k * (a / (p : Int)) + min (k : Int) (a % (p : Int)) := by
  have q2 : 0 ≤ a % (p : Int) := Int.emod_nonneg _ (by omega)
  intro k
  induction k with
  | zero => simp [sep]; omega
  | succ k ih =>
    rw [sep_snoc, sum_snoc, ih, show ((k + 1 : Nat) : Int) * (a / (p : Int)) = (k : Int) * (a / (p : Int)) + a / (p : Int) by rw [Int.natCast_add, Int.add_mul]; simp]
    split <;> omega
theorem sep_total {a : Int} {p : Nat} (hp : 1 ≤ p) : (sep a p p).sum = a := by
  have q3 : a % (p : Int) < (p : Int) := Int.emod_lt_of_pos _ (by omega)
  have := sep_sum (a := a) hp p
  have := Int.mul_ediv_add_emod a (p : Int)
  omega
theorem sep_small {a : Int} {p k : Nat} (h0 : 0 ≤ a) (h1 : a ≤ 1000000) (hp : 1 ≤ p) : Small (sep a p k) := by
  intro x hx
  have q0 : 0 ≤ a / (p : Int) := Int.ediv_nonneg h0 (by omega)
  have q1 : a / (p : Int) ≤ a := Int.ediv_le_self _ h0
  obtain ⟨i, hi, rfl⟩ := List.mem_map.1 hx
  split <;> omega
set_option maxHeartbeats 1000000 in
theorem splitEven (w : World) (n c : Nat) (A : Option Addr) (h : Code w w.heap.size A n c) : Calls Try.prog 12 #[.slice A n c] w fun e w' => e = .returned (.bool true) ∧ Below w.heap.size w w' := by
  by_cases hn : 1048576 < n
  · go_enter Try.func12, Try.ntmps12
    go_wp2
    go_ret
    exact ⟨rfl, Below.refl _ _⟩
  have hc := h
  unfold Code maxLen at hc
  have hn' : n ≤ 1048576 := by omega
  clear hc hn
  go_enter Try.func12, Try.ntmps12
  go_wp2_with fail
  refine (drawSplitEven_c w n c A h).mono ?_
  rintro e w1 ⟨⟨x, y, rfl⟩, k1⟩
  clear h
  go_wp2_with fail
  refine (se_impl x y w1).mono ?_
  rintro e w2 ⟨A1, n1, c1, rfl, hl1, own1, k2⟩
  have hlen := se_len x y
  have kw2 := K.Kept.trans k1 k2
  have z1 := k1.size
  have z2 := k2.size
  clear k1 k2
  go_wp2_with fail
  refine (se_spec x y w2).mono ?_
  rintro e w3 ⟨A2, n2, c2, rfl, hl2, own2, k3⟩
  have own1 := K.own_kept own1 k3
  have kw3 := K.Kept.trans kw2 k3
  clear kw2 k3
  go_wp2_with fail
  refine (equalInts_c _ _ _ _ _ _ _ (se x y) (se x y) (K.rd_own own1) (K.rd_own own2) (by omega) (by omega)).mono ?_
  rintro e w4 ⟨rfl, k4⟩
  have own1 := K.own_kept own1 k4
  have kw4 := K.Kept.trans kw3 k4
  clear kw3 k4 own2 hl2
  by_cases hv : wi x 0 1000000 = true ∧ wi y 1 8 = true
  · have b1 := wi_true.1 hv.1
    have b2 := wi_true.1 hv.2
    obtain ⟨P, rfl⟩ := Int.eq_ofNat_of_zero_le (show 0 ≤ y by omega)
    rw [se_good hv] at hl1 own1
    rw [sep_len] at hl1
    subst hl1
    have q2 : 0 ≤ x % (P : Int) := Int.emod_nonneg _ (by omega)
    have q3 : x % (P : Int) < (P : Int) := Int.emod_lt_of_pos _ (by omega)
    have q0 : 0 ≤ x / (P : Int) := Int.ediv_nonneg b1.1 (by omega)
    have q1 : x / (P : Int) ≤ x := Int.ediv_le_self _ b1.1
    have hP : 1 ≤ P ∧ P ≤ 8 := by omega
    have hp0 : ((P : Int) == 0) = false := by rw [beq_eq_false_iff_ne]; omega
    have RD := K.rd_own own1
    have SM := sep_small (p := P) (k := P) b1.1 b1.2 hP.1
    have ST := Lib.hid (sep_total (a := x) hP.1)
    obtain ⟨b, off, rfl, hb, hc⟩ := RD.2 (by omega)
    have hc' : ∀ i : Nat, i < P → w4.cell? ⟨b, off + i, none⟩ = some (.int .i64 (x / (P : Int) + (if (i : Int) < x % (P : Int) then 1 else 0))) := fun i hi => hc i _ (by rw [List.getElem?_map, sep_at hi]; rfl)
    have HC := Lib.hid hc'
    clear hc hc' own1 hv hlen
    go_wp2_with fail
    go_loopw [6] (fun i wr => ∃ k : Nat, 1 ≤ k ∧ k ≤ P ∧ i = .int .i64 k ∧ K.Kept w4 wr) (fun i _ => P - (intOf i).toNat)
    case atStart => exact ⟨1, by omega, by omega, rfl, Below.refl _ _⟩
    case round =>
      obtain ⟨k, hk1, hk, rfl, hkw⟩ := hrel
      by_cases hlt : k < P
      · have r := fun (i : Nat) (hi : i < P) => (hkw.cell (p := ⟨b, off + i, none⟩) (by exact hb)).trans (HC.out i hi)
        have ck := r k hlt
        have cp := r (k - 1) (by omega)
        have c0 := r 0 (by omega)
        clear r
        rw [Nat.add_zero] at c0
        obtain ⟨xk, hxk⟩ : ∃ v, v = x / (P : Int) + (if (k : Int) < x % (P : Int) then 1 else 0) := ⟨_, rfl⟩
        obtain ⟨xp, hxp⟩ : ∃ v, v = x / (P : Int) + (if ((k - 1 : Nat) : Int) < x % (P : Int) then 1 else 0) := ⟨_, rfl⟩
        obtain ⟨x0, hx0⟩ : ∃ v, v = x / (P : Int) + (if ((0 : Nat) : Int) < x % (P : Int) then 1 else 0) := ⟨_, rfl⟩
        rw [← hxk] at ck
        rw [← hxp] at cp
        rw [← hx0] at c0
        have i1 : xk ≤ xp := by rw [hxk, hxp]; split <;> split <;> omega
        have i2 : x0 - xk ≤ 1 := by rw [hxk, hx0]; split <;> split <;> omega
        have i3 : 0 ≤ xk ∧ xk ≤ 2000000 := by rw [hxk]; split <;> omega
        have i4 : 0 ≤ x0 ∧ x0 ≤ 2000000 := by rw [hx0]; split <;> omega
        have d1 : decide (xp < xk) = false := decide_eq_false (by omega)
        have d2 : decide (1 < x0 - xk) = false := decide_eq_false (by omega)
        have d3 : (k : Int) - 1 = ((k - 1 : Nat) : Int) := by omega
        clear hxk hxp hx0
        go_wp2
        go_quiet (fail)
        go_wp2
        go_roundw
        case rel => exact ⟨k + 1, by omega, by omega, by go_num, K.below_drewN hkw _⟩
        case measure => simp [intOf]; omega
      · have hkn : P = k := by omega
        subst hkn
        go_wp2_with fail
        refine (sum_l _ _ _ _ _ (RD.below hkw |>.more hkw.size) (by omega) SM).mono ?_
        rintro e w5 ⟨rfl, rfl⟩
        have hs : ((sep x P P).sum == x) = true := by rw [ST.out]; simp
        go_wp2
        go_ret
        exact ⟨rfl, K.Kept.trans kw4 hkw⟩
  · have hnil := se_bad hv
    rw [hnil] at hl1
    have hn1 : n1 = 0 := by simpa using hl1.symm
    subst hn1
    go_wp2_with fail
    refine (se_spec x y w4).mono ?_
    rintro e w5 ⟨A2, n2, c2, rfl, hl2, own2, k5⟩
    have own1 := K.own_kept own1 k5
    have kw5 := K.Kept.trans kw4 k5
    go_wp2_with fail
    refine (equalInts_c _ _ _ _ _ _ _ (se x y) (se x y) (K.rd_own own1) (K.rd_own own2) (by omega) (by omega)).mono ?_
    rintro e w6 ⟨rfl, k6⟩
    go_wp2
    go_ret
    exact ⟨rfl, K.Kept.trans kw5 k6⟩
end C
end Go.Proofs.Ytcgaffhoggkbkaa

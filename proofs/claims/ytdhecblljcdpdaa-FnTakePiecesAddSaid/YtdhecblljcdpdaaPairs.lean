/-
  Contracts of the functions on lists of pairs (spans, lines) that only read, and of those that copy, mark and look again. Conditions: lengths below 2^40.
-/
import Derived.Test.YtdhecblljcdpdaaSpanB
namespace Go.Proofs.Ytdhecblljcdpdaa
open Go.RowKit
namespace C

theorem kcell {a b : World} (k : K.Kept a b) (p : Addr) (v : Value) (h : a.cell? p = some v) : b.cell? p = some v := by
  rw [k.cell (World.block_lt_of_cell? a p h)]; exact h
theorem kp1 (w : World) (o : Obj) : K.Kept w (w.alloc o) := (Below.refl _ _).alloc (Nat.le_refl _) _
theorem kp3 (w : World) (a b c : Obj) : K.Kept w (((w.alloc a).alloc b).alloc c) := K.Kept.trans (K.Kept.trans (kp1 _ _) (kp1 _ _)) (kp1 _ _)
theorem pr_of_takes {l m : List (Int × Int)} {n : Nat} (h1 : l.length = n) (h2 : m.length = n) (h : l.take n = m.take n) : l = m := by
  rw [List.take_of_length_le (by omega), List.take_of_length_le (by omega)] at h
  exact h
/-- A list of which the first k are l's. -/
def halfP (l : List (Int × Int)) (k : Nat) : List (Int × Int) := l.take k ++ List.replicate (l.length - k) (0, 0)
theorem halfP_set {l : List (Int × Int)} {k : Nat} {x : Int × Int} (hx : l[k]? = some x) : (halfP l k).set k x = halfP l (k + 1) := by
  obtain ⟨hk, rfl⟩ := List.getElem?_eq_some_iff.1 hx
  unfold halfP
  rw [K.take_snoc hx, List.set_append_right _ _ (by simp; omega), List.length_take, Nat.min_eq_left (by omega), Nat.sub_self, show l.length - k = (l.length - (k + 1)) + 1 by omega, List.replicate_succ, List.set_cons_zero, List.append_assoc]
  rfl
theorem halfP_len {l : List (Int × Int)} {k : Nat} (h : k ≤ l.length) : (halfP l k).length = l.length := by simp [halfP]; omega
theorem halfP_all {l : List (Int × Int)} {n : Nat} (h : l.length = n) : halfP l n = l := by rw [halfP, K.take_all h, h]; simp
theorem prs_set : ∀ (l : List (Int × Int)) (k : Nat) (x : Int × Int), ((K.prs l).set (k * 2) (.int .i64 x.1)).set (k * 2 + 1) (.int .i64 x.2) = K.prs (l.set k x) := by
  intro l
  induction l with
  | nil => intro k x; simp [K.prs]
  | cons y l ih =>
    intro k x
    cases k with
    | zero => rfl
    | succ k =>
      rw [K.prs_cons, List.set_cons_succ, K.prs_cons, ← ih k x, show (k + 1) * 2 = k * 2 + 1 + 1 by omega]
      rfl
theorem prs_rep (n : Nat) : K.prs (List.replicate n (0, 0)) = List.replicate (n * 2) (.int .i64 0) := by
  induction n with
  | zero => rfl
  | succ n ih => rw [List.replicate_succ, K.prs_cons, ih, show (n + 1) * 2 = n * 2 + 1 + 1 by omega, List.replicate_succ, List.replicate_succ]
theorem made_all (z : Array Value) (v : Value) (n : Nat) (hz : ∀ i, i < z.size → z[i]! = v) (h0 : 0 < z.size) : (madeCells z n).toList = List.replicate n v := by
  apply List.ext_getElem?
  intro j
  by_cases hj : j < n
  · simp [madeCells, hj, hz _ (Nat.mod_lt j h0)]
  · simp [madeCells, hj]
theorem made_pairs (n : Nat) : (madeCells #[Value.int .i64 0, .int .i64 0] n).toList = List.replicate n (.int .i64 0) :=
  made_all _ _ n (fun i hi => by match i, hi with | 0, _ => rfl | 1, _ => rfl) (by decide)
/-- A fresh slice that reads l. -/
def FreshP (t : TypeId) (w : World) (l : List (Int × Int)) (e : Ending) (w' : World) : Prop := ∃ (A : Option Addr) (n c : Nat), e = .returned (.slice A n c) ∧ l.length = n ∧ w'.ownsRow w.heap.size t 2 (.slice A n c) n (K.prs l) ∧ K.Kept w w'
/-- The marks: (k, k + 1), (k + 2, k + 3), .. -/
def marksP (k0 : Int) (n : Nat) : List (Int × Int) := (List.range n).map fun i => (k0 + 2 * (i : Nat), k0 + 2 * (i : Nat) + 1)
theorem marksP_len (k0 : Int) (n : Nat) : (marksP k0 n).length = n := by simp [marksP]
theorem marksP_at {k0 : Int} {n k : Nat} (h : k < n) : (marksP k0 n)[k]? = some (k0 + 2 * (k : Nat), k0 + 2 * (k : Nat) + 1) := by simp [marksP, h]
def markedP (k0 : Int) (k : Nat) (l : List (Int × Int)) : List (Int × Int) := marksP k0 k ++ l.drop k
theorem markedP_zero (k0 : Int) (l : List (Int × Int)) : markedP k0 0 l = l := by simp [markedP, marksP]
theorem markedP_all (k0 : Int) {l : List (Int × Int)} {n : Nat} (h : l.length = n) : markedP k0 n l = marksP k0 n := by subst h; simp [markedP]
theorem markedP_len {k0 : Int} {k : Nat} {l : List (Int × Int)} (h : k ≤ l.length) : (markedP k0 k l).length = l.length := by simp [markedP, marksP]; omega
theorem markedP_set {k0 : Int} {k : Nat} {l : List (Int × Int)} (h : k < l.length) : (markedP k0 k l).set k (k0 + 2 * (k : Nat), k0 + 2 * (k : Nat) + 1) = markedP k0 (k + 1) l := by
  have e : marksP k0 (k + 1) = marksP k0 k ++ [(k0 + 2 * (k : Nat), k0 + 2 * (k : Nat) + 1)] := by simp [marksP, List.range_succ]
  unfold markedP
  rw [e, List.set_append_right _ _ (by simp [marksP]), marksP_len, Nat.sub_self, List.drop_eq_getElem_cons h, List.set_cons_zero, List.append_assoc]
  rfl
set_option maxHeartbeats 400000 in
theorem equalLines_c (w : World) (A1 A2 : Option Addr) (n m c d : Nat) (l1 l2 : List (Int × Int)) (h1 : K.PR w w.heap.size A1 n l1) (h2 : K.PR w w.heap.size A2 m l2) (hn : n ≤ 1099511627776) (hm : m ≤ 1099511627776) :
    Calls Try.prog 35 #[.slice A1 n c, .slice A2 m d] w fun e w' => e = .returned (.bool (decide (l1 = l2))) ∧ K.Kept w w' := by
  have e1 := K.PR.len h1
  have e2 := K.PR.len h2
  by_cases hnm : n = m
  · subst hnm
    have E1 := Lib.hid e1
    have E2 := Lib.hid e2
    clear e1 e2
    go_enter Try.func35, Try.ntmps35
    go_wp2
    go_loopw [5] (fun i wr => ∃ k : Nat, k ≤ n ∧ i = .int .i64 k ∧ K.Kept w wr ∧ Hid (l1.take k = l2.take k)) (fun i _ => n - (intOf i).toNat)
    case atStart => exact ⟨0, Nat.zero_le _, rfl, Below.refl _ _, by unfold Hid; simp⟩
    case round =>
      obtain ⟨k, hk, rfl, hkw, ht⟩ := hrel
      by_cases hlt : k < n
      · obtain ⟨b1, o1, x, y, rfl, hb1, c1, c2, hx⟩ := K.PR.cell (K.Rd.below h1 hkw) hlt
        obtain ⟨b2, o2, u, v, rfl, hb2, c3, c4, hy⟩ := K.PR.cell (K.Rd.below h2 hkw) hlt
        have HK := Lib.hid hkw
        clear hkw h1 h2
        by_cases hxu : x = u
        · by_cases hyv : y = v
          · subst hxu hyv
            have e3 : (x == x) = true := by simp
            have e4 : (y == y) = true := by simp
            go_wp2_with fail
            go_quiet (fail)
            go_wp2
            go_roundw
            case rel => exact ⟨k + 1, by omega, by go_num, K.below_drewN HK.out _, by unfold Hid; rw [K.take_snoc hx.out, K.take_snoc hy.out, ht.out]⟩
            case measure => simp [intOf]; omega
          · subst hxu
            have hne : ¬ l1 = l2 := fun e => hyv (by have a := hx.out; have b := hy.out; rw [e] at a; rw [a] at b; simpa using b)
            have e3 : (x == x) = true := by simp
            have e4 : (y == v) = false := by simp [hyv]
            clear hyv
            go_wp2_with fail
            go_quiet (fail)
            go_wp2
            go_ret
            exact ⟨K.rb (Eq.symm (decide_eq_false hne)), K.below_drewN HK.out _⟩
        · have hne : ¬ l1 = l2 := fun e => hxu (by have a := hx.out; have b := hy.out; rw [e] at a; rw [a] at b; simp at b; exact b.1)
          have e3 : (x == u) = false := by simp [hxu]
          clear hxu
          go_wp2_with fail
          go_quiet (fail)
          go_wp2
          go_ret
          exact ⟨K.rb (Eq.symm (decide_eq_false hne)), K.below_drewN HK.out _⟩
      · have hkn : n = k := by omega
        subst hkn
        go_wp2
        go_ret
        exact ⟨K.rb (Eq.symm (decide_eq_true (pr_of_takes E1.out E2.out ht.out))), hkw⟩
  · have e3 : ((n : Int) != (m : Int)) = true := by simp; omega
    have hne : decide (l1 = l2) = false := decide_eq_false (fun e => hnm (by rw [← e1, ← e2, e]))
    go_enter Try.func35, Try.ntmps35
    go_wp2
    go_ret
    exact ⟨K.rb hne.symm, Below.refl _ _⟩
end C
end Go.Proofs.Ytdhecblljcdpdaa

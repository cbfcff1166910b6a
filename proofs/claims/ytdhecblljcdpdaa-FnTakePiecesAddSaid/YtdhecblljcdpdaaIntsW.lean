/-
  Contracts of the functions that copy, mark and look again at a list of integers in memory of the call's own. Conditions: lengths below 2^40.
-/
import Derived.Test.YtdhecblljcdpdaaInts
namespace Go.Proofs.Ytdhecblljcdpdaa
open Go.RowKit
namespace C

theorem info_int : (Try.prog.info? 3).map (fun i => (i.zero, i.size, i.bytes)) = some (some (.int .i64 0), 1, 8) := by kernel_rfl
/-- The marks: k0, k0 + 1, .. -/
def marks (k0 : Int) (n : Nat) : List Int := (List.range n).map fun i => k0 + (i : Nat)
theorem marks_len (k0 : Int) (n : Nat) : (marks k0 n).length = n := by simp [marks]
theorem marks_at {k0 : Int} {n k : Nat} (h : k < n) : (marks k0 n)[k]? = some (k0 + (k : Nat)) := by simp [marks, h]
/-- A list whose first k are marks. -/
def marked (k0 : Int) (k : Nat) (l : List Int) : List Int := marks k0 k ++ l.drop k
theorem marked_zero (k0 : Int) (l : List Int) : marked k0 0 l = l := by simp [marked, marks]
theorem marked_all (k0 : Int) (l : List Int) : marked k0 l.length l = marks k0 l.length := by simp [marked]
theorem marked_len {k0 : Int} {k : Nat} {l : List Int} (h : k ≤ l.length) : (marked k0 k l).length = l.length := by simp [marked, marks]; omega
theorem marked_set {k0 : Int} {k : Nat} {l : List Int} (h : k < l.length) : (marked k0 k l).set k (k0 + (k : Nat)) = marked k0 (k + 1) l := by
  have e : marks k0 (k + 1) = marks k0 k ++ [k0 + (k : Nat)] := by simp [marks, List.range_succ]
  unfold marked
  rw [e, List.set_append_right _ _ (by simp [marks]), marks_len, Nat.sub_self, List.drop_eq_getElem_cons h, List.set_cons_zero, List.append_assoc]
  rfl
theorem map_set (l : List Int) (k : Nat) (x : Int) : (l.map (Value.int .i64)).set k (.int .i64 x) = (l.set k x).map (Value.int .i64) := by rw [List.map_set]
/-- A list of which the first k are l's. -/
def half (l : List Int) (k : Nat) : List Int := l.take k ++ List.replicate (l.length - k) 0
theorem half_set {l : List Int} {k : Nat} {x : Int} (hx : l[k]? = some x) : (half l k).set k x = half l (k + 1) := by
  obtain ⟨hk, rfl⟩ := List.getElem?_eq_some_iff.1 hx
  unfold half
  rw [K.take_snoc hx, List.set_append_right _ _ (by simp; omega), List.length_take, Nat.min_eq_left (by omega), Nat.sub_self, show l.length - k = (l.length - (k + 1)) + 1 by omega, List.replicate_succ, List.set_cons_zero, List.append_assoc]
  rfl
theorem half_len {l : List Int} {k : Nat} (h : k ≤ l.length) : (half l k).length = l.length := by simp [half]; omega
/-- A fresh slice that reads l. -/
def Fresh (w : World) (l : List Int) (e : Ending) (w' : World) : Prop := ∃ (A : Option Addr) (n c : Nat), e = .returned (.slice A n c) ∧ l.length = n ∧ w'.ownsRow w.heap.size 3 1 (.slice A n c) n (l.map (Value.int .i64)) ∧ K.Kept w w'
end C
end Go.Proofs.Ytdhecblljcdpdaa

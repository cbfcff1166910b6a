/-
  Lists of four numbers each (articles) in memory, and the contracts of the functions that copy, compare and mark them. Conditions: lengths below 2^40.
-/
import Derived.Test.YtapjlbcpfemeiaaPairs
namespace Go.Proofs.Ytapjlbcpfemeiaa
open Go.RowKit
namespace K
abbrev Q4 := Int × Int × Int × Int
def qds (l : List Q4) : List Value := l.flatMap fun x => [.int .i64 x.1, .int .i64 x.2.1, .int .i64 x.2.2.1, .int .i64 x.2.2.2]
theorem qds_cons (x : Q4) (l : List Q4) : qds (x :: l) = .int .i64 x.1 :: .int .i64 x.2.1 :: .int .i64 x.2.2.1 :: .int .i64 x.2.2.2 :: qds l := rfl
theorem qds_append (l m : List Q4) : qds (l ++ m) = qds l ++ qds m := by simp [qds]
theorem qds_len (l : List Q4) : (qds l).length = l.length * 4 := by
  induction l with
  | nil => rfl
  | cons x l ih => rw [qds_cons]; simp only [List.length_cons, ih]; omega
theorem qds_at : ∀ {l : List Q4} {k : Nat} {x : Q4}, l[k]? = some x → (qds l)[k * 4]? = some (.int .i64 x.1) ∧ (qds l)[k * 4 + 1]? = some (.int .i64 x.2.1) ∧ (qds l)[k * 4 + 2]? = some (.int .i64 x.2.2.1) ∧ (qds l)[k * 4 + 3]? = some (.int .i64 x.2.2.2) := by
  intro l
  induction l with
  | nil => intro k x h; simp at h
  | cons y l ih =>
    intro k x h
    cases k with
    | zero => simp at h; subst h; exact ⟨rfl, rfl, rfl, rfl⟩
    | succ k =>
      have := ih (k := k) (x := x) (by simpa using h)
      rw [qds_cons, show (k + 1) * 4 = k * 4 + 1 + 1 + 1 + 1 by omega]
      exact this
theorem qds_one (l : List Q4) : ∀ u ∈ qds l, u.oneCell' = true := by
  intro u hu
  obtain ⟨x, _, hx⟩ := List.mem_flatMap.1 hu
  simp at hx
  rcases hx with rfl | rfl | rfl | rfl <;> rfl
/-- The slice reads the fours l. -/
abbrev QR (w : World) (B : Nat) (A : Option Addr) (n : Nat) (l : List Q4) : Prop := Rd w B 4 A n (qds l)
theorem QR.len {w : World} {B n : Nat} {A : Option Addr} {l : List Q4} (h : QR w B A n l) : l.length = n := by have := h.1; rw [qds_len] at this; omega
theorem QR.cell {w : World} {B n k : Nat} {A : Option Addr} {l : List Q4} (h : QR w B A n l) (hk : k < n) :
    ∃ b off x y z v, A = some ⟨b, off, none⟩ ∧ b < B ∧ w.cell? ⟨b, off + k * 4, none⟩ = some (.int .i64 x) ∧ w.cell? ⟨b, off + k * 4 + 1, none⟩ = some (.int .i64 y) ∧ w.cell? ⟨b, off + k * 4 + 2, none⟩ = some (.int .i64 z) ∧ w.cell? ⟨b, off + k * 4 + 3, none⟩ = some (.int .i64 v) ∧ Hid (l[k]? = some (x, y, z, v)) := by
  obtain ⟨b, off, e, hb, hc⟩ := h.2 (by omega)
  have hl := QR.len h
  have hx : l[k]? = some (l[k]'(by omega)) := List.getElem?_eq_getElem (by omega)
  have p := qds_at hx
  exact ⟨b, off, _, _, _, _, e, hb, hc _ _ p.1, hc _ _ p.2.1, hc _ _ p.2.2.1, hc _ _ p.2.2.2, hx⟩
theorem qds_set : ∀ (l : List Q4) (k : Nat) (x : Q4), ((((qds l).set (k * 4) (.int .i64 x.1)).set (k * 4 + 1) (.int .i64 x.2.1)).set (k * 4 + 2) (.int .i64 x.2.2.1)).set (k * 4 + 3) (.int .i64 x.2.2.2) = qds (l.set k x) := by
  intro l
  induction l with
  | nil => intro k x; simp [qds]
  | cons y l ih =>
    intro k x
    cases k with
    | zero => rfl
    | succ k =>
      rw [show (y :: l).set (k + 1) x = y :: l.set k x from rfl, qds_cons y (l.set k x), ← ih k x, qds_cons, show (k + 1) * 4 = k * 4 + 1 + 1 + 1 + 1 by omega]
      rfl
theorem qds_rep (n : Nat) : qds (List.replicate n (0, 0, 0, 0)) = List.replicate (n * 4) (.int .i64 0) := by
  induction n with
  | zero => rfl
  | succ n ih => rw [List.replicate_succ, qds_cons, ih, show (n + 1) * 4 = n * 4 + 1 + 1 + 1 + 1 by omega]; rfl
end K
namespace C
theorem qr_of_takes {l m : List K.Q4} {n : Nat} (h1 : l.length = n) (h2 : m.length = n) (h : l.take n = m.take n) : l = m := by
  rw [List.take_of_length_le (by omega), List.take_of_length_le (by omega)] at h
  exact h
def halfQ (l : List K.Q4) (k : Nat) : List K.Q4 := l.take k ++ List.replicate (l.length - k) (0, 0, 0, 0)
theorem halfQ_set {l : List K.Q4} {k : Nat} {x : K.Q4} (hx : l[k]? = some x) : (halfQ l k).set k x = halfQ l (k + 1) := by
  obtain ⟨hk, rfl⟩ := List.getElem?_eq_some_iff.1 hx
  unfold halfQ
  rw [K.take_snoc hx, List.set_append_right _ _ (by simp; omega), List.length_take, Nat.min_eq_left (by omega), Nat.sub_self, show l.length - k = (l.length - (k + 1)) + 1 by omega, List.replicate_succ, List.set_cons_zero, List.append_assoc]
  rfl
theorem halfQ_len {l : List K.Q4} {k : Nat} (h : k ≤ l.length) : (halfQ l k).length = l.length := by simp [halfQ]; omega
theorem halfQ_all {l : List K.Q4} {n : Nat} (h : l.length = n) : halfQ l n = l := by rw [halfQ, K.take_all h, h]; simp
theorem made_quads (n : Nat) : (madeCells #[Value.int .i64 0, .int .i64 0, .int .i64 0, .int .i64 0] n).toList = List.replicate n (.int .i64 0) :=
  made_all _ _ n (fun i hi => by match i, hi with | 0, _ => rfl | 1, _ => rfl | 2, _ => rfl | 3, _ => rfl) (by decide)
def FreshQ (t : TypeId) (w : World) (l : List K.Q4) (e : Ending) (w' : World) : Prop := ∃ (A : Option Addr) (n c : Nat), e = .returned (.slice A n c) ∧ l.length = n ∧ w'.ownsRow w.heap.size t 4 (.slice A n c) n (K.qds l) ∧ K.Kept w w'
def marksQ (k0 : Int) (n : Nat) : List K.Q4 := (List.range n).map fun i => (k0 + 4 * (i : Nat), k0 + 4 * (i : Nat) + 1, k0 + 4 * (i : Nat) + 2, k0 + 4 * (i : Nat) + 3)
theorem marksQ_len (k0 : Int) (n : Nat) : (marksQ k0 n).length = n := by simp [marksQ]
theorem marksQ_at {k0 : Int} {n k : Nat} (h : k < n) : (marksQ k0 n)[k]? = some (k0 + 4 * (k : Nat), k0 + 4 * (k : Nat) + 1, k0 + 4 * (k : Nat) + 2, k0 + 4 * (k : Nat) + 3) := by simp [marksQ, h]
def markedQ (k0 : Int) (k : Nat) (l : List K.Q4) : List K.Q4 := marksQ k0 k ++ l.drop k
theorem markedQ_zero (k0 : Int) (l : List K.Q4) : markedQ k0 0 l = l := by simp [markedQ, marksQ]
theorem markedQ_all (k0 : Int) {l : List K.Q4} {n : Nat} (h : l.length = n) : markedQ k0 n l = marksQ k0 n := by subst h; simp [markedQ]
theorem markedQ_len {k0 : Int} {k : Nat} {l : List K.Q4} (h : k ≤ l.length) : (markedQ k0 k l).length = l.length := by simp [markedQ, marksQ]; omega
theorem markedQ_set {k0 : Int} {k : Nat} {l : List K.Q4} (h : k < l.length) : (markedQ k0 k l).set k (k0 + 4 * (k : Nat), k0 + 4 * (k : Nat) + 1, k0 + 4 * (k : Nat) + 2, k0 + 4 * (k : Nat) + 3) = markedQ k0 (k + 1) l := by
  have e : marksQ k0 (k + 1) = marksQ k0 k ++ [(k0 + 4 * (k : Nat), k0 + 4 * (k : Nat) + 1, k0 + 4 * (k : Nat) + 2, k0 + 4 * (k : Nat) + 3)] := by simp [marksQ, List.range_succ]
  unfold markedQ
  rw [e, List.set_append_right _ _ (by simp [marksQ]), marksQ_len, Nat.sub_self, List.drop_eq_getElem_cons h, List.set_cons_zero, List.append_assoc]
  rfl
theorem infoArticle : (Try.prog.info? 88).map (fun i => (i.zero, i.size, i.bytes)) = some (some (.agg #[.int .i64 0, .int .i64 0, .int .i64 0, .int .i64 0]), 4, 32) := by kernel_rfl
end C
end Go.Proofs.Ytapjlbcpfemeiaa

/-
  A variable of some cells in memory: what calls, stores and draws leave of it. Conditions: none.
-/
import Derived.Test.YtapjlbcpfemeiaaBox
namespace Go.Proofs.Ytapjlbcpfemeiaa
open Go.RowKit
namespace C

/-- A variable whose cells are these. -/
def BoxN (w : World) (b : Nat) (vs : List Value) : Prop := b < w.heap.size ∧ ∀ i u, vs[i]? = some u → w.cell? ⟨b, i, none⟩ = some u ∧ w.frozen? ⟨b, i, none⟩ = false
theorem BoxN.new (w : World) (vs : Array Value) (t : TypeId) : BoxN (w.alloc (.cells vs t)) w.heap.size vs.toList := by
  refine ⟨by simp, fun i u hu => ?_⟩
  have e : (w.alloc (.cells vs t)).heap[w.heap.size]? = some (.cells vs t) := heap_alloc_new w _
  refine ⟨?_, ?_⟩
  · rw [World.cell?_alloc_at _ _ _ _ rfl, ← Array.getElem?_toList]; exact hu
  · unfold World.frozen?; rw [e]; simp
theorem BoxN.same {w w' : World} {b : Nat} {vs : List Value} (h : BoxN w b vs) (e : w'.heap[b]? = w.heap[b]?) (hs : w.heap.size ≤ w'.heap.size) : BoxN w' b vs :=
  ⟨Nat.lt_of_lt_of_le h.1 hs, fun i u hu => ⟨(World.cell?_of_block (w := w) e).trans (h.2 i u hu).1, (World.frozen?_of_block (w := w) e).trans (h.2 i u hu).2⟩⟩
theorem BoxN.kept {w w' : World} {b : Nat} {vs : List Value} (h : BoxN w b vs) (k : K.Kept w w') : BoxN w' b vs := h.same (k.block b h.1) k.size
theorem BoxN.but {w w' : World} {g b : Nat} {vs : List Value} (h : BoxN w b vs) (k : K.But g w w') (hne : b ≠ g) : BoxN w' b vs := h.same (k.block b h.1 (by simpa using hne)) k.size
theorem BoxN.grown {w w' : World} {b : Nat} {vs : List Value} {row : Option Nat} (h : BoxN w b vs) (k : w.grownBy w' row) (hne : row ≠ some b) : BoxN w' b vs := h.same (k.block b h.1 (fun q => hne q.symm)) k.size
theorem BoxN.drew {w : World} {b : Nat} {vs : List Value} (h : BoxN w b vs) : BoxN w.drew b vs := h.kept (kdrew _)
theorem BoxN.far {w : World} {b b' i : Nat} {vs : List Value} (h : BoxN w b vs) (hne : b' ≠ b) (u : Value) : BoxN (w.setCell ⟨b', i, none⟩ u) b vs :=
  h.same (Below.heap_setCell _ _ _ _ (fun e => hne e.symm)) (by simp [World.setCell])
theorem BoxN.set {w : World} {b : Nat} {vs : List Value} (h : BoxN w b vs) (i : Nat) (u : Value) (hi : i < vs.length) : BoxN (w.setCell ⟨b, i, none⟩ u) b (vs.set i u) := by
  refine ⟨by simpa [World.setCell] using h.1, fun j v hv => ?_⟩
  rw [List.getElem?_set] at hv
  have hf : ∀ j, (w.setCell ⟨b, i, none⟩ u).frozen? ⟨b, j, none⟩ = w.frozen? ⟨b, j, none⟩ := fun j => by simp
  by_cases hij : i = j
  · subst hij
    rw [if_pos rfl, if_pos hi] at hv
    injection hv with hv
    subst hv
    have h0 := h.2 i vs[i] (List.getElem?_eq_getElem hi)
    exact ⟨World.cell?_setCell_same w _ u h0.1, (hf i).trans h0.2⟩
  · rw [if_neg hij] at hv
    have h0 := h.2 j v hv
    exact ⟨by rw [World.cell?_setCell_other _ _ _ _ (by simp)]; exact h0.1, (hf j).trans h0.2⟩
theorem BoxN.at2 {w : World} {b : Nat} {x y : Value} (h : BoxN w b [x, y]) : w.cell? ⟨b, 0, none⟩ = some x ∧ w.cell? ⟨b, 1, none⟩ = some y ∧ w.frozen? ⟨b, 0, none⟩ = false ∧ w.frozen? ⟨b, 1, none⟩ = false ∧ b < w.heap.size :=
  ⟨(h.2 0 _ rfl).1, (h.2 1 _ rfl).1, (h.2 0 _ rfl).2, (h.2 1 _ rfl).2, h.1⟩
theorem BoxN.at3 {w : World} {b : Nat} {x y z : Value} (h : BoxN w b [x, y, z]) : w.cell? ⟨b, 0, none⟩ = some x ∧ w.cell? ⟨b, 1, none⟩ = some y ∧ w.cell? ⟨b, 2, none⟩ = some z ∧ w.frozen? ⟨b, 0, none⟩ = false ∧ w.frozen? ⟨b, 1, none⟩ = false ∧ w.frozen? ⟨b, 2, none⟩ = false ∧ b < w.heap.size :=
  ⟨(h.2 0 _ rfl).1, (h.2 1 _ rfl).1, (h.2 2 _ rfl).1, (h.2 0 _ rfl).2, (h.2 1 _ rfl).2, (h.2 2 _ rfl).2, h.1⟩
theorem BoxN.at4 {w : World} {b : Nat} {x y z v : Value} (h : BoxN w b [x, y, z, v]) : w.cell? ⟨b, 0, none⟩ = some x ∧ w.cell? ⟨b, 1, none⟩ = some y ∧ w.cell? ⟨b, 2, none⟩ = some z ∧ w.cell? ⟨b, 3, none⟩ = some v ∧ w.frozen? ⟨b, 0, none⟩ = false ∧ w.frozen? ⟨b, 1, none⟩ = false ∧ w.frozen? ⟨b, 2, none⟩ = false ∧ w.frozen? ⟨b, 3, none⟩ = false ∧ b < w.heap.size :=
  ⟨(h.2 0 _ rfl).1, (h.2 1 _ rfl).1, (h.2 2 _ rfl).1, (h.2 3 _ rfl).1, (h.2 0 _ rfl).2, (h.2 1 _ rfl).2, (h.2 2 _ rfl).2, (h.2 3 _ rfl).2, h.1⟩
end C
end Go.Proofs.Ytapjlbcpfemeiaa

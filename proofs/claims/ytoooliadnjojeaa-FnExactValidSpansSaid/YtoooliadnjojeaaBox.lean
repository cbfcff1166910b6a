/-
  A variable of two cells in memory: what calls, stores and appends leave of it. Conditions: none.
-/
import Derived.Test.YtoooliadnjojeaaPairs
import Derived.Test.YtoooliadnjojeaaDraw0
namespace Go.Proofs.Ytoooliadnjojeaa
open Go.RowKit
namespace C

theorem kept1 (w : World) (o : Obj) : K.Kept w (w.alloc o) := (Below.refl _ _).alloc (Nat.le_refl _) _
/-- A variable of two cells. -/
def Box2 (w : World) (b : Nat) (x y : Value) : Prop := w.cell? ⟨b, 0, none⟩ = some x ∧ w.cell? ⟨b, 1, none⟩ = some y ∧ w.frozen? ⟨b, 0, none⟩ = false ∧ w.frozen? ⟨b, 1, none⟩ = false ∧ b < w.heap.size
theorem Box2.new (w : World) (x y : Value) (t : TypeId) : Box2 (w.alloc (.cells #[x, y] t)) w.heap.size x y := by
  have e : (w.alloc (.cells #[x, y] t)).heap[w.heap.size]? = some (.cells #[x, y] t) := heap_alloc_new w _
  refine ⟨?_, ?_, ?_, ?_, by simp⟩
  · rw [cell_of_row _ w.heap.size 0 _ _ _ e]; rfl
  · rw [cell_of_row _ w.heap.size 1 _ _ _ e]; rfl
  · unfold World.frozen?; rw [e]; rfl
  · unfold World.frozen?; rw [e]; rfl
theorem Box2.kept {w w' : World} {b : Nat} {x y : Value} (h : Box2 w b x y) (k : K.Kept w w') : Box2 w' b x y := by
  obtain ⟨h1, h2, h3, h4, h5⟩ := h
  exact ⟨by rw [k.cell h5]; exact h1, by rw [k.cell h5]; exact h2, by rw [k.frozen h5]; exact h3, by rw [k.frozen h5]; exact h4, Nat.lt_of_lt_of_le h5 k.size⟩
theorem Box2.but {w w' : World} {g b : Nat} {x y : Value} (h : Box2 w b x y) (k : K.But g w w') (hne : b ≠ g) : Box2 w' b x y := by
  obtain ⟨h1, h2, h3, h4, h5⟩ := h
  have e := k.block b h5 (by simpa using hne)
  exact ⟨by rw [World.cell?_of_block (w := w) e]; exact h1, by rw [World.cell?_of_block (w := w) e]; exact h2, by rw [World.frozen?_of_block (w := w) e]; exact h3, by rw [World.frozen?_of_block (w := w) e]; exact h4, Nat.lt_of_lt_of_le h5 k.size⟩
theorem Box2.put0 {w : World} {b : Nat} {x y : Value} (h : Box2 w b x y) (u : Value) : (w.setCell ⟨b, 0, none⟩ u).cell? ⟨b, 0, none⟩ = some u := World.cell?_setCell_same w _ u h.1
theorem Box2.put1 {w : World} {b : Nat} {x y : Value} (h : Box2 w b x y) (u v : Value) : ((w.setCell ⟨b, 0, none⟩ u).setCell ⟨b, 1, none⟩ v).cell? ⟨b, 1, none⟩ = some v :=
  World.cell?_setCell_same _ _ v ((World.cell?_setCell_other w _ _ u (by simp)).trans h.2.1)
/-- What was below B, and all but g, is as it was behind two stores into a new variable. -/
theorem but_put {w w' : World} {g b : Nat} (k : K.But g w w') (hb : w.heap.size ≤ b) (u v : Value) : K.But g w ((w'.setCell ⟨b, 0, none⟩ u).setCell ⟨b, 1, none⟩ v) :=
  (k.setCell (.inr hb) u).setCell (.inr hb) v
theorem rdr_put {w : World} {B g p b : Nat} (h : Rdr w B g p) (hb : b ≠ g) (hB : B ≤ b) (u v : Value) : Rdr ((w.setCell ⟨b, 0, none⟩ u).setCell ⟨b, 1, none⟩ v) B g p := by
  have k : Below b w ((w.setCell ⟨b, 0, none⟩ u).setCell ⟨b, 1, none⟩ v) := ((Below.refl b w).setCell (p := ⟨b, 0, none⟩) (Nat.le_refl _) u).setCell (p := ⟨b, 1, none⟩) (Nat.le_refl _) v
  obtain ⟨h1, A, m, c, zs, hg, hr, hm, hz⟩ := h
  refine ⟨h1, A, m, c, zs, ?_, hr.below (k.mono hB), hm, hz⟩
  rw [Below.heap_setCell _ _ _ _ (fun e => hb e.symm), Below.heap_setCell _ _ _ _ (fun e => hb e.symm)]
  exact hg
theorem kdrew (w : World) : K.Kept w w.drew := (Below.refl _ _).drew
theorem Box2.far {w : World} {b b' : Nat} {x y : Value} (h : Box2 w b x y) (hne : b ≠ b') (u v : Value) : Box2 ((w.setCell ⟨b', 0, none⟩ u).setCell ⟨b', 1, none⟩ v) b x y := by
  obtain ⟨h1, h2, h3, h4, h5⟩ := h
  have e : ((w.setCell ⟨b', 0, none⟩ u).setCell ⟨b', 1, none⟩ v).heap[b]? = w.heap[b]? := by
    rw [Below.heap_setCell _ _ _ _ hne, Below.heap_setCell _ _ _ _ hne]
  refine ⟨by rw [World.cell?_of_block (w := w) e]; exact h1, by rw [World.cell?_of_block (w := w) e]; exact h2, by rw [World.frozen?_of_block (w := w) e]; exact h3, by rw [World.frozen?_of_block (w := w) e]; exact h4, ?_⟩
  simpa using h5
theorem Box2.grown {w w' : World} {b : Nat} {x y : Value} {row : Option Nat} (h : Box2 w b x y) (k : w.grownBy w' row) (hne : row ≠ some b) : Box2 w' b x y := by
  obtain ⟨h1, h2, h3, h4, h5⟩ := h
  have e := k.block b h5 (fun q => hne q.symm)
  exact ⟨by rw [World.cell?_of_block (w := w) e]; exact h1, by rw [World.cell?_of_block (w := w) e]; exact h2, by rw [World.frozen?_of_block (w := w) e]; exact h3, by rw [World.frozen?_of_block (w := w) e]; exact h4, Nat.lt_of_lt_of_le h5 k.size⟩
theorem Box2.put {w : World} {b : Nat} {x y : Value} (h : Box2 w b x y) (u v : Value) : Box2 ((w.setCell ⟨b, 0, none⟩ u).setCell ⟨b, 1, none⟩ v) b u v := by
  refine ⟨?_, h.put1 u v, ?_, ?_, ?_⟩
  · rw [World.cell?_setCell_other _ _ _ _ (by simp)]; exact h.put0 u
  · simpa using h.2.2.1
  · simpa using h.2.2.2.1
  · simpa using h.2.2.2.2
theorem Box2.drew {w : World} {b : Nat} {x y : Value} (h : Box2 w b x y) : Box2 w.drew b x y := h.kept (kdrew _)
end C
end Go.Proofs.Ytoooliadnjojeaa

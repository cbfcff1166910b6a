/-
  A variable of two cells in memory: what calls, stores and appends leave of it. Conditions: none.
-/
import Derived.Test.YtapjlbcpfemeiaaPairs
import Derived.Test.YtapjlbcpfemeiaaDraw0
namespace Go.Proofs.Ytapjlbcpfemeiaa
open Go.RowKit
namespace C

theorem kept1 (w : World) (o : Obj) : K.Kept w (w.alloc o) := (Below.refl _ _).alloc (Nat.le_refl _) _
/-- A variable of two cells. -/
def Box2 (w : World) (b : Nat) (x y : Value) : Prop := w.cell? ⟨b, 0, none⟩ = some x ∧ w.cell? ⟨b, 1, none⟩ = some y ∧ w.frozen? ⟨b, 0, none⟩ = false ∧ w.frozen? ⟨b, 1, none⟩ = false ∧ b < w.heap.size
theorem Box2.new (w : World) (x y : Value) (t : TypeId) : Box2 (w.alloc (.cells #[x, y] t)) w.heap.size x y := by
  have e : (w.alloc (.cells #[x, y] t)).heap[w.heap.size]? = some (.cells #[x, y] t) := heap_alloc_new w _
  refine ⟨?_, ?_, ?_, ?_, by simp⟩
  · rw [cell_of_row _ w.heap.size 0 _ _ _ e]; rfl
  · rw [cell_of_row _ w.heap.size 1 _ _ _ e]; rfl
  · unfold World.frozen?; rw [e]; rfl
  · unfold World.frozen?; rw [e]; rfl
theorem Box2.kept {w w' : World} {b : Nat} {x y : Value} (h : Box2 w b x y) (k : K.Kept w w') : Box2 w' b x y := by
  obtain ⟨h1, h2, h3, h4, h5⟩ := h
  exact ⟨by rw [k.cell h5]; exact h1, by rw [k.cell h5]; exact h2, by rw [k.frozen h5]; exact h3, by rw [k.frozen h5]; exact h4, Nat.lt_of_lt_of_le h5 k.size⟩
theorem Box2.but {w w' : World} {g b : Nat} {x y : Value} (h : Box2 w b x y) (k : K.But g w w') (hne : b ≠ g) : Box2 w' b x y := by
  obtain ⟨h1, h2, h3, h4, h5⟩ := h
  have e := k.block b h5 (by simpa using hne)
  exact ⟨by rw [World.cell?_of_block (w := w) e]; exact h1, by rw [World.cell?_of_block (w := w) e]; exact h2, by rw [World.frozen?_of_block (w := w) e]; exact h3, by rw [World.frozen?_of_block (w := w) e]; exact h4, Nat.lt_of_lt_of_le h5 k.size⟩
theorem Box2.put0 {w : World} {b : Nat} {x y : Value} (h : Box2 w b x y) (u : Value) : (w.setCell ⟨b, 0, none⟩ u).cell? ⟨b, 0, none⟩ = some u := World.cell?_setCell_same w _ u h.1
theorem Box2.put1 {w : World} {b : Nat} {x y : Value} (h : Box2 w b x y) (u v : Value) : ((w.setCell ⟨b, 0, none⟩ u).setCell ⟨b, 1, none⟩ v).cell? ⟨b, 1, none⟩ = some v :=
  World.cell?_setCell_same _ _ v ((World.cell?_setCell_other w _ _ u (by simp)).trans h.2.1)
/-- What was below B, and all but g, is as it was behind two stores into a new variable. -/
theorem but_put {w w' : World} {g b : Nat} (k : K.But g w w') (hb : w.heap.size ≤ b) (u v : Value) : K.But g w ((w'.setCell ⟨b, 0, none⟩ u).setCell ⟨b, 1, none⟩ v) :=
  (k.setCell (.inr hb) u).setCell (.inr hb) v
theorem rdr_put {w : World} {B g p b : Nat} (h : Rdr w B g p) (hb : b ≠ g) (hB : B ≤ b) (u v : Value) : Rdr ((w.setCell ⟨b, 0, none⟩ u).setCell ⟨b, 1, none⟩ v) B g p := by
  have k : Below b w ((w.setCell ⟨b, 0, none⟩ u).setCell ⟨b, 1, none⟩ v) := ((Below.refl b w).setCell (p := ⟨b, 0, none⟩) (Nat.le_refl _) u).setCell (p := ⟨b, 1, none⟩) (Nat.le_refl _) v
  obtain ⟨h1, A, m, c, zs, hg, hr, hm, hz⟩ := h
  refine ⟨h1, A, m, c, zs, ?_, hr.below (k.mono hB), hm, hz⟩
  rw [Below.heap_setCell _ _ _ _ (fun e => hb e.symm), Below.heap_setCell _ _ _ _ (fun e => hb e.symm)]
  exact hg
theorem kdrew (w : World) : K.Kept w w.drew := (Below.refl _ _).drew
theorem Box2.far {w : World} {b b' : Nat} {x y : Value} (h : Box2 w b x y) (hne : b ≠ b') (u v : Value) : Box2 ((w.setCell ⟨b', 0, none⟩ u).setCell ⟨b', 1, none⟩ v) b x y := by
  obtain ⟨h1, h2, h3, h4, h5⟩ := h
  have e : ((w.setCell ⟨b', 0, none⟩ u).setCell ⟨b', 1, none⟩ v).heap[b]? = w.heap[b]? := by
    rw [Below.heap_setCell _ _ _ _ hne, Below.heap_setCell _ _ _ _ hne]
  refine ⟨by rw [World.cell?_of_block (w := w) e]; exact h1, by rw [World.cell?_of_block (w := w) e]; exact h2, by rw [World.frozen?_of_block (w := w) e]; exact h3, by rw [World.frozen?_of_block (w := w) e]; exact h4, ?_⟩
  simpa using h5
theorem Box2.grown {w w' : World} {b : Nat} {x y : Value} {row : Option Nat} (h : Box2 w b x y) (k : w.grownBy w' row) (hne : row ≠ some b) : Box2 w' b x y := by
  obtain ⟨h1, h2, h3, h4, h5⟩ := h
  have e := k.block b h5 (fun q => hne q.symm)
  exact ⟨by rw [World.cell?_of_block (w := w) e]; exact h1, by rw [World.cell?_of_block (w := w) e]; exact h2, by rw [World.frozen?_of_block (w := w) e]; exact h3, by rw [World.frozen?_of_block (w := w) e]; exact h4, Nat.lt_of_lt_of_le h5 k.size⟩
theorem Box2.put {w : World} {b : Nat} {x y : Value} (h : Box2 w b x y) (u v : Value) : Box2 ((w.setCell ⟨b, 0, none⟩ u).setCell ⟨b, 1, none⟩ v) b u v := by
  refine ⟨?_, h.put1 u v, ?_, ?_, ?_⟩
  · rw [World.cell?_setCell_other _ _ _ _ (by simp)]; exact h.put0 u
  · simpa using h.2.2.1
  · simpa using h.2.2.2.1
  · simpa using h.2.2.2.2
theorem Box2.drew {w : World} {b : Nat} {x y : Value} (h : Box2 w b x y) : Box2 w.drew b x y := h.kept (kdrew _)
/-- append of one element that has just been laid, where the heap's size is spelt otherwise. -/
theorem app3 {P : Program} {ops : Array Oper} {rest : List Oper} {o : Oper} {a : Act} {Q : Exit → Act → World → Prop} (hgd : o.guard = none) (s x : Operand) (t : TypeId)
    (ho : o.op = .call { callee := .builtin .append, args := #[s, x], argTypes := #[t, t] })
    (base : Nat) (e : TypeId) (size bytes : Nat) (i : TypeInfo) (z : Value) (ht : P.underlying t = some (.slice e)) (hi : P.info? e = some i) (hz : i.zero = some z)
    (hsize : i.size = size) (hby : i.bytes = bytes) (hzs : z.cells.size = size) (hsz : 0 < size)
    (w : World) (v : Value) (n : Nat) (xs : List Value) (hs : a.eval s = v) (hown : w.ownsRow base e size v n xs)
    (news : Array Value) (b : Nat) (hx : a.eval x = .slice (some ⟨b, 0, none⟩) 1 1) (hbw : b = w.heap.size) (hl : news.size = size) (h1 : news.toList.all (·.oneCell') = true)
    (h63 : n + 1 ≤ maxLen) (hbytes : (n + 1) * bytes ≤ 140737488355328) (hbase : base ≤ w.heap.size)
    (h : ∀ A' c' w', w'.ownsRow base e size (.slice A' (n + 1) c') (n + 1) (xs ++ news.toList) → w.grownBy w' v.ownBlock →
      (∀ i, (Value.slice A' (n + 1) c').ownBlock = some i → v.ownBlock = some i ∨ w.heap.size < i) → wpList P ops Q rest (a.put o.dst (.slice A' (n + 1) c')) w') :
    wpList P ops Q (o :: rest) a (w.alloc (.cells news e)) := by
  subst hbw
  exact K.wpList_app2 hgd s x t ho base e size bytes i z ht hi hz hsize hby hzs hsz w v n xs hs hown news hx hl h1 h63 hbytes hbase h
/-- The same as one step of a region that draws its order. -/
theorem step_app3 {P : Program} {ops : Array Oper} {o : Oper} {a : Act} {KK : Act → World → Prop} {Q : Exit → Act → World → Prop} {E : Prop} (hgd : o.guard = none) (s x : Operand) (t : TypeId)
    (ho : o.op = .call { callee := .builtin .append, args := #[s, x], argTypes := #[t, t] })
    (base : Nat) (e : TypeId) (size bytes : Nat) (i : TypeInfo) (z : Value) (ht : P.underlying t = some (.slice e)) (hi : P.info? e = some i) (hz : i.zero = some z)
    (hsize : i.size = size) (hby : i.bytes = bytes) (hzs : z.cells.size = size) (hsz : 0 < size)
    (w : World) (v : Value) (n : Nat) (xs : List Value) (hs : a.eval s = v) (hown : w.ownsRow base e size v n xs)
    (news : Array Value) (b : Nat) (hx : a.eval x = .slice (some ⟨b, 0, none⟩) 1 1) (hbw : b = w.heap.size) (hl : news.size = size) (h1 : news.toList.all (·.oneCell') = true)
    (h63 : n + 1 ≤ maxLen) (hbytes : (n + 1) * bytes ≤ 140737488355328) (hbase : base ≤ w.heap.size)
    (h : ∀ A' c' w', w'.ownsRow base e size (.slice A' (n + 1) c') (n + 1) (xs ++ news.toList) → w.grownBy w' v.ownBlock →
      (∀ i, (Value.slice A' (n + 1) c').ownBlock = some i → v.ownBlock = some i ∨ w.heap.size < i) → KK (a.put o.dst (.slice A' (n + 1) c')) w') :
    if Region.wanted o (yielded ops a.tmps) = true then Oper.wp P o a (w.alloc (.cells news e)) KK Q else E := by
  subst hbw
  have hw : Region.wanted o (yielded ops a.tmps) = true := by simp [Region.wanted, hgd]
  rw [if_pos hw]
  have hnews : ∀ j u, news.toList[j]? = some u → (w.alloc (.cells news e)).cell? ((⟨w.heap.size, 0, none⟩ : Addr).add j) = some u := by
    intro j u hu
    have e : (⟨w.heap.size, 0, none⟩ : Addr).add j = ⟨w.heap.size, j, none⟩ := by unfold Addr.add; split <;> simp_all
    rw [e, World.cell?_alloc_at _ _ _ _ rfl, ← Array.getElem?_toList]
    exact hu
  have hlen : news.toList.length = 1 * size := by simpa using hl
  have hone : ∀ u ∈ news.toList, u.oneCell' = true := fun u hu => List.all_eq_true.1 h1 u hu
  obtain ⟨v', w', hrun, hown', hg, _⟩ := run_append_own (P := P) (w.alloc (.cells news e)) base t o.type e i z size bytes ht hi hz hsize hby hzs hsz v n xs (hown.alloc _) ⟨w.heap.size, 0, none⟩ 1 1 news.toList hlen hnews hone h63 hbytes (by simp; omega)
  have hb := K.append_block (P := P) (w.alloc (.cells news e)) base t o.type e i z size bytes ht hi hz hsize hby hsz v n xs (hown.alloc _) ⟨w.heap.size, 0, none⟩ 1 1 (by omega) news.toList hlen hnews hone h63 hbytes hrun
  unfold Oper.wp execOp
  simp only [ho, resolve, invoke, builtin, Sem.run_bind, Sem.run_pure, Result.andThen_ok, List.map_toArray, List.map_cons, List.map_nil, hs, hx, hrun]
  obtain ⟨A', c', rfl, _, _⟩ := K.own_slice hown'
  refine h A' c' w' hown' ⟨hg.os, hg.tape, hg.output, Nat.le_trans (by simp) hg.size, fun k hk hne => ?_⟩ fun j hj => ?_
  · rw [hg.block k (by simp; omega) hne]
    exact Below.heap_alloc w _ k hk
  · rcases hb with hb | hb
    · exact .inl (hb ▸ hj)
    · right
      rw [hb] at hj
      injection hj with hj
      simp at hj
      omega
end C
end Go.Proofs.Ytapjlbcpfemeiaa

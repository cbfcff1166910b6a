/-
  Arguments that came in: a slice of elements of four numbers each. Conditions: none; no function of the program is named here.
-/
import Derived.Test.YtikfblaaacgalaaOpen
import Derived.Test.YtikfblaaacgalaaQuads
namespace Go.Proofs.Ytikfblaaacgalaa
open Go.RowKit Go.ChangeShapes Go.WideShapes Go.Deep Go.Joins Go.WideElems
namespace K
section
variable {H : Type} {enc : TypeId × Value → H} {P : Program}
theorem qds_get {l : List Q4} {j : Nat} {u : Value} (h : (qds l)[j]? = some u) : ∃ k x, l[k]? = some x ∧ ((j = k * 4 ∧ u = .int .i64 x.1) ∨ (j = k * 4 + 1 ∧ u = .int .i64 x.2.1) ∨ (j = k * 4 + 2 ∧ u = .int .i64 x.2.2.1) ∨ (j = k * 4 + 3 ∧ u = .int .i64 x.2.2.2)) := by
  have hj : j < (qds l).length := (List.getElem?_eq_some_iff.1 h).1
  rw [qds_len] at hj
  have hk : j / 4 < l.length := by omega
  have e : l[j / 4]? = some l[j / 4] := List.getElem?_eq_getElem hk
  have p := qds_at e
  refine ⟨j / 4, _, e, ?_⟩
  have hm : j % 4 = 0 ∨ j % 4 = 1 ∨ j % 4 = 2 ∨ j % 4 = 3 := by omega
  rcases hm with m | m | m | m
  · have e2 : j = j / 4 * 4 := by omega
    rw [← e2] at p
    exact .inl ⟨e2, Option.some.inj (h.symm.trans p.1)⟩
  · have e2 : j = j / 4 * 4 + 1 := by omega
    rw [← e2] at p
    exact .inr (.inl ⟨e2, Option.some.inj (h.symm.trans p.2.1)⟩)
  · have e2 : j = j / 4 * 4 + 2 := by omega
    rw [← e2] at p
    exact .inr (.inr (.inl ⟨e2, Option.some.inj (h.symm.trans p.2.2.1)⟩))
  · have e2 : j = j / 4 * 4 + 3 := by omega
    rw [← e2] at p
    exact .inr (.inr (.inr ⟨e2, Option.some.inj (h.symm.trans p.2.2.2)⟩))
/-- A slice of fours that came in. -/
theorem open_qds {t e : TypeId} {f0 f1 f2 f3 : Field} {r : Reach} {W : World} {base b0 : Nat} {v : Value} {d : DataW H} {p : List MemPlace} (ht : P.underlying t = some (.slice e)) (he : P.underlying e = some (.struct #[f0, f1, f2, f3]))
    (ce : P.cellsOf e = 4) (o0 : f0.offset = 0) (o1 : f1.offset = 1) (o2 : f2.offset = 2) (o3 : f3.offset = 3) (c0 : P.cellsOf f0.type = 1) (c1 : P.cellsOf f1.type = 1) (c2 : P.cellsOf f2.type = 1) (c3 : P.cellsOf f3.type = 1)
    (t0 : P.underlying f0.type = some (.int .i64)) (t1 : P.underlying f1.type = some (.int .i64)) (t2 : P.underlying f2.type = some (.int .i64)) (t3 : P.underlying f3.type = some (.int .i64))
    (hv : Value.okWide P W r b0 t v) (h : DataW.Trod enc P W base (fun _ => true) true t v d p) :
    ∃ (A : Option Addr) (n c : Nat) (l : List Q4), v = .slice A n c ∧ n ≤ c ∧ c ≤ maxLen ∧ l.length = n ∧ QR W W.heap.size A n l ∧ ∀ x ∈ l, (Lit.int .i64 x.1).wf = true ∧ (Lit.int .i64 x.2.1).wf = true := by
  obtain ⟨a0, len, cap, rfl⟩ := okWide_slice ht hv
  obtain ⟨fuel, hf⟩ := h
  rcases open_slice ht hf with ⟨hcs, hx⟩ | ⟨a, len', cap', m, n, D, Pl, hcs, _, hl, hm, hmm, _, hall⟩
  · simp [Value.cells] at hcs
    obtain ⟨rfl, rfl, rfl⟩ := hcs
    exact ⟨none, 0, 0, [], rfl, Nat.le_refl _, by unfold maxLen; omega, rfl, Rd.nil _ _ _ _, by simp⟩
  · simp [Value.cells] at hcs
    obtain ⟨rfl, rfl, rfl⟩ := hcs
    simp at hmm
    subst hmm
    have each : ∀ i, i < m → ∃ x : Q4, (W.cell? (a.add (i * 4)) = some (.int .i64 x.1) ∧ W.cell? (a.add (i * 4 + 1)) = some (.int .i64 x.2.1) ∧ W.cell? (a.add (i * 4 + 2)) = some (.int .i64 x.2.2.1) ∧ W.cell? (a.add (i * 4 + 3)) = some (.int .i64 x.2.2.2)) ∧ (Lit.int .i64 x.1).wf = true ∧ (Lit.int .i64 x.2.1).wf = true := by
      intro i hi
      obtain ⟨cs', h1, h2⟩ := hall i hi
      rw [ce] at h1
      obtain ⟨_, hlen, hcell⟩ := World.cells?_some h1
      obtain ⟨y0, y1, y2, y3, k, _, _, g0, g1, g2, g3⟩ := trod_struct4 he h2
      match cs', hlen with
      | [v0, v1, v2, v3], _ =>
        simp [o0, o1, o2, o3, c0, c1, c2, c3] at g0 g1 g2 g3
        have e0 := hcell 0 (by omega)
        have e1 := hcell 1 (by omega)
        have e2 := hcell 2 (by omega)
        have e3 := hcell 3 (by omega)
        rw [add_add] at e0 e1 e2 e3
        obtain ⟨x0, q0, _, w0⟩ := DataW.trod_int t0 g0
        obtain ⟨x1, q1, _, w1⟩ := DataW.trod_int t1 g1
        obtain ⟨x2, q2, _, w2⟩ := DataW.trod_int t2 g2
        obtain ⟨x3, q3, _, w3⟩ := DataW.trod_int t3 g3
        simp at q0 q1 q2 q3
        subst q0 q1 q2 q3
        exact ⟨(x0, x1, x2, x3), ⟨by simpa using e0, by simpa using e1, by simpa using e2, by simpa using e3⟩, w0, w1⟩
    have pick : ∃ g : Nat → Q4, ∀ i, i < m → (W.cell? (a.add (i * 4)) = some (.int .i64 (g i).1) ∧ W.cell? (a.add (i * 4 + 1)) = some (.int .i64 (g i).2.1) ∧ W.cell? (a.add (i * 4 + 2)) = some (.int .i64 (g i).2.2.1) ∧ W.cell? (a.add (i * 4 + 3)) = some (.int .i64 (g i).2.2.2)) ∧ (Lit.int .i64 (g i).1).wf = true ∧ (Lit.int .i64 (g i).2.1).wf = true := by
      refine ⟨fun i => if h : i < m then Classical.choose (each i h) else (0, 0, 0, 0), fun i hi => ?_⟩
      simp only [dif_pos hi]
      exact Classical.choose_spec (each i hi)
    obtain ⟨g, hg⟩ := pick
    refine ⟨some a, len, m, (List.range len).map g, rfl, hl, hm, by simp, ⟨by rw [qds_len]; simp, fun hn => ?_⟩, ?_⟩
    · obtain ⟨b, off, rfl⟩ : ∃ b off, a = ⟨b, off, none⟩ := by
        obtain ⟨b, off, spot⟩ := a
        have hspot : spot = none := by simpa [Addr.add] using World.cell?_spot (hg 0 (by omega)).1.1
        subst hspot
        exact ⟨b, off, rfl⟩
      refine ⟨b, off, rfl, ?_, fun j u hu => ?_⟩
      · have := World.block_lt_of_cell? W _ (hg 0 (by omega)).1.1
        simpa [Addr.add] using this
      · obtain ⟨k, x, hk, hc⟩ := qds_get hu
        rw [List.getElem?_map] at hk
        have hkl : k < len := by
          rcases Nat.lt_or_ge k len with q | q
          · exact q
          · rw [List.getElem?_eq_none_iff.2 (by simpa using q)] at hk; cases hk
        rw [List.getElem?_range hkl] at hk
        simp at hk
        subst hk
        obtain ⟨⟨q0, q1, q2, q3⟩, _⟩ := hg k (by omega)
        rcases hc with ⟨rfl, rfl⟩ | ⟨rfl, rfl⟩ | ⟨rfl, rfl⟩ | ⟨rfl, rfl⟩
        · rw [← Go.WideShapes.add_plain]; exact q0
        · rw [← Go.WideShapes.add_plain]; exact q1
        · rw [← Go.WideShapes.add_plain]; exact q2
        · rw [← Go.WideShapes.add_plain]; exact q3
    · intro x hx
      obtain ⟨i, hi, rfl⟩ := List.mem_map.1 hx
      have := List.mem_range.1 hi
      exact (hg i (by omega)).2
end
end K
end Go.Proofs.Ytikfblaaacgalaa

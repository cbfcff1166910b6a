/-
  Arguments that came in: a pair by value, a slice of pairs. Conditions: none; no function of the program is named here.
-/
import Derived.Test.YtapjlbcpfemeiaaKit
import Derived.Lib.SmallJoins
namespace Go.Proofs.Ytapjlbcpfemeiaa
open Go.RowKit Go.ChangeShapes Go.WideShapes Go.Deep Go.Joins Go.WideElems
namespace K
section
variable {H : Type} {enc : TypeId × Value → H} {P : Program}
theorem open_pair {t : TypeId} {f0 f1 : Field} {r : Reach} {W : World} {base b0 : Nat} {spare : Nat → Bool} {held : Bool} {v : Value} {d : DataW H} {p : List MemPlace} (hs : P.underlying t = some (.struct #[f0, f1])) (hone : oneCellFields P #[f0, f1] = true) (hC : P.cellsOf t = 2)
    (t0 : P.underlying f0.type = some (.int .i64)) (t1 : P.underlying f1.type = some (.int .i64))
    (hv : Value.okWide P W r b0 t v) (h : DataW.Trod enc P W base spare held t v d p) :
    ∃ x y : Int, v = .agg #[.int .i64 x, .int .i64 y] ∧ (Lit.int .i64 x).wf = true ∧ (Lit.int .i64 y).wf = true := by
  obtain ⟨v0, v1, y0, y1, n, rfl, _, _, h0, h1⟩ := open_agg2 hs hone hC hv h
  obtain ⟨x, e0, _, w0⟩ := DataW.trod_int t0 h0
  obtain ⟨y, e1, _, w1⟩ := DataW.trod_int t1 h1
  simp at e0 e1
  subst e0 e1
  exact ⟨x, y, rfl, w0, w1⟩
theorem prs_get {l : List (Int × Int)} {j : Nat} {u : Value} (h : (prs l)[j]? = some u) : ∃ k x, l[k]? = some x ∧ ((j = k * 2 ∧ u = .int .i64 x.1) ∨ (j = k * 2 + 1 ∧ u = .int .i64 x.2)) := by
  have hj : j < (prs l).length := (List.getElem?_eq_some_iff.1 h).1
  rw [prs_len] at hj
  have hk : j / 2 < l.length := by omega
  have e : l[j / 2]? = some l[j / 2] := List.getElem?_eq_getElem hk
  have p := prs_at e
  refine ⟨j / 2, _, e, ?_⟩
  rcases Nat.mod_two_eq_zero_or_one j with m | m
  · left
    have e2 : j = j / 2 * 2 := by omega
    rw [← e2] at p
    exact ⟨e2, Option.some.inj (h.symm.trans p.1)⟩
  · right
    have e2 : j = j / 2 * 2 + 1 := by omega
    rw [← e2] at p
    exact ⟨e2, Option.some.inj (h.symm.trans p.2)⟩
/-- A slice of pairs that came in. -/
theorem open_prs {t e : TypeId} {f0 f1 : Field} {r : Reach} {W : World} {base b0 : Nat} {v : Value} {d : DataW H} {p : List MemPlace} (ht : P.underlying t = some (.slice e)) (he : P.underlying e = some (.struct #[f0, f1]))
    (ce : P.cellsOf e = 2) (o0 : f0.offset = 0) (o1 : f1.offset = 1) (c0 : P.cellsOf f0.type = 1) (c1 : P.cellsOf f1.type = 1)
    (t0 : P.underlying f0.type = some (.int .i64)) (t1 : P.underlying f1.type = some (.int .i64))
    (hv : Value.okWide P W r b0 t v) (h : DataW.Trod enc P W base (fun _ => true) true t v d p) :
    ∃ (A : Option Addr) (n c : Nat) (l : List (Int × Int)), v = .slice A n c ∧ n ≤ c ∧ c ≤ maxLen ∧ l.length = n ∧ PR W W.heap.size A n l ∧ ∀ x ∈ l, (Lit.int .i64 x.1).wf = true ∧ (Lit.int .i64 x.2).wf = true := by
  obtain ⟨a0, len, cap, rfl⟩ := okWide_slice ht hv
  obtain ⟨fuel, hf⟩ := h
  rcases open_slice_pairs ht he ce o0 o1 c0 c1 hf with ⟨hcs, hx⟩ | ⟨a, len', cap', m, n, V0, V1, D0, D1, P0, P1, hcs, _, hl, hm, hmm, _, hall⟩
  · simp [Value.cells] at hcs
    obtain ⟨rfl, rfl, rfl⟩ := hcs
    exact ⟨none, 0, 0, [], rfl, Nat.le_refl _, by unfold maxLen; omega, rfl, Rd.nil _ _ _ _, by simp⟩
  · simp [Value.cells] at hcs
    obtain ⟨rfl, rfl, rfl⟩ := hcs
    simp at hmm
    subst hmm
    have each : ∀ i, i < m → ∃ x : Int × Int, V0 i = .int .i64 x.1 ∧ V1 i = .int .i64 x.2 ∧ (Lit.int .i64 x.1).wf = true ∧ (Lit.int .i64 x.2).wf = true := by
      intro i hi
      obtain ⟨_, _, h0, h1⟩ := hall i hi
      obtain ⟨x, e0, _, w0⟩ := DataW.trod_int t0 h0
      obtain ⟨y, e1, _, w1⟩ := DataW.trod_int t1 h1
      simp at e0 e1
      exact ⟨(x, y), e0, e1, w0, w1⟩
    have pick : ∃ g : Nat → Int × Int, ∀ i, i < m → V0 i = .int .i64 (g i).1 ∧ V1 i = .int .i64 (g i).2 ∧ (Lit.int .i64 (g i).1).wf = true ∧ (Lit.int .i64 (g i).2).wf = true := by
      refine ⟨fun i => if h : i < m then Classical.choose (each i h) else (0, 0), fun i hi => ?_⟩
      simp only [dif_pos hi]
      exact Classical.choose_spec (each i hi)
    obtain ⟨g, hg⟩ := pick
    refine ⟨some a, len, m, (List.range len).map g, rfl, hl, hm, by simp, ⟨by rw [prs_len]; simp, fun hn => ?_⟩, ?_⟩
    · obtain ⟨b, off, rfl⟩ : ∃ b off, a = ⟨b, off, none⟩ := by
        obtain ⟨b, off, spot⟩ := a
        have hspot : spot = none := by simpa [Addr.add] using World.cell?_spot (hall 0 (by omega)).1
        subst hspot
        exact ⟨b, off, rfl⟩
      refine ⟨b, off, rfl, ?_, fun j u hu => ?_⟩
      · have := World.block_lt_of_cell? W _ (hall 0 (by omega)).1
        simpa [Addr.add] using this
      · obtain ⟨k, x, hk, hc⟩ := prs_get hu
        rw [List.getElem?_map] at hk
        have hkl : k < len := by
          rcases Nat.lt_or_ge k len with q | q
          · exact q
          · rw [List.getElem?_eq_none_iff.2 (by simpa using q)] at hk; cases hk
        rw [List.getElem?_range hkl] at hk
        simp at hk
        subst hk
        obtain ⟨q0, q1, _, _⟩ := hall k (by omega)
        obtain ⟨g0, g1, _, _⟩ := hg k (by omega)
        rcases hc with ⟨rfl, rfl⟩ | ⟨rfl, rfl⟩
        · rw [← g0, ← Go.WideShapes.add_plain]; exact q0
        · rw [← g1, ← Go.WideShapes.add_plain]; exact q1
    · intro x hx
      obtain ⟨i, hi, rfl⟩ := List.mem_map.1 hx
      have := List.mem_range.1 hi
      exact (hg i (by omega)).2.2
end
end K
end Go.Proofs.Ytapjlbcpfemeiaa

/-
  Guards and points that came in. Conditions: none; no function of the program is named here.
-/
import Derived.Test.YtapjlbcpfemeiaaOpen
import Derived.Test.YtapjlbcpfemeiaaSeat
namespace Go.Proofs.Ytapjlbcpfemeiaa
open Go.RowKit Go.ChangeShapes Go.WideShapes Go.Deep Go.Joins Go.WideElems
namespace K
section
variable {H : Type} {enc : TypeId × Value → H} {P : Program}
theorem open_prsT {t e : TypeId} {f0 f1 : Field} {W : World} {base : Nat} {v : Value} {fuel : Nat} {yy : DataW H × List MemPlace} (ht : P.underlying t = some (.slice e)) (he : P.underlying e = some (.struct #[f0, f1]))
    (ce : P.cellsOf e = 2) (o0 : f0.offset = 0) (o1 : f1.offset = 1) (c0 : P.cellsOf f0.type = 1) (c1 : P.cellsOf f1.type = 1)
    (t0 : P.underlying f0.type = some (.int .i64)) (t1 : P.underlying f1.type = some (.int .i64))
    (h : DataW.trod enc P W base (fun _ => true) true fuel t [v] = some yy) :
    ∃ (A : Option Addr) (n c : Nat) (l : List (Int × Int)), v = .slice A n c ∧ n ≤ c ∧ c ≤ maxLen ∧ l.length = n ∧ PR W W.heap.size A n l ∧ ∀ x ∈ l, (Lit.int .i64 x.1).wf = true ∧ (Lit.int .i64 x.2).wf = true := by
  obtain ⟨a0, len, cap, e0⟩ := slice_form ht h
  injection e0 with e0
  subst e0
  have hf := h
  clear h
  rcases open_slice_pairs ht he ce o0 o1 c0 c1 hf with ⟨hcs, hx⟩ | ⟨a, len', cap', m, n, V0, V1, D0, D1, P0, P1, hcs, _, hl, hm, hmm, _, hall⟩
  · simp at hcs
    obtain ⟨rfl, rfl, rfl⟩ := hcs
    exact ⟨none, 0, 0, [], rfl, Nat.le_refl _, by unfold maxLen; omega, rfl, Rd.nil _ _ _ _, by simp⟩
  · simp at hcs
    obtain ⟨rfl, rfl, rfl⟩ := hcs
    simp at hmm
    subst hmm
    have each : ∀ i, i < m → ∃ x : Int × Int, V0 i = .int .i64 x.1 ∧ V1 i = .int .i64 x.2 ∧ (Lit.int .i64 x.1).wf = true ∧ (Lit.int .i64 x.2).wf = true := by
      intro i hi
      obtain ⟨_, _, h0, h1⟩ := hall i hi
      obtain ⟨x, e0, _, w0⟩ := DataW.trod_int t0 h0
      obtain ⟨y, e1, _, w1⟩ := DataW.trod_int t1 h1
      simp at e0 e1
      exact ⟨(x, y), e0, e1, w0, w1⟩
    have pick : ∃ g : Nat → Int × Int, ∀ i, i < m → V0 i = .int .i64 (g i).1 ∧ V1 i = .int .i64 (g i).2 ∧ (Lit.int .i64 (g i).1).wf = true ∧ (Lit.int .i64 (g i).2).wf = true := by
      refine ⟨fun i => if h : i < m then Classical.choose (each i h) else (0, 0), fun i hi => ?_⟩
      simp only [dif_pos hi]
      exact Classical.choose_spec (each i hi)
    obtain ⟨g, hg⟩ := pick
    refine ⟨some a, len, m, (List.range len).map g, rfl, hl, hm, by simp, ⟨by rw [prs_len]; simp, fun hn => ?_⟩, ?_⟩
    · obtain ⟨b, off, rfl⟩ : ∃ b off, a = ⟨b, off, none⟩ := by
        obtain ⟨b, off, spot⟩ := a
        have hspot : spot = none := by simpa [Addr.add] using World.cell?_spot (hall 0 (by omega)).1
        subst hspot
        exact ⟨b, off, rfl⟩
      refine ⟨b, off, rfl, ?_, fun j u hu => ?_⟩
      · have := World.block_lt_of_cell? W _ (hall 0 (by omega)).1
        simpa [Addr.add] using this
      · obtain ⟨k, x, hk, hc⟩ := prs_get hu
        rw [List.getElem?_map] at hk
        have hkl : k < len := by
          rcases Nat.lt_or_ge k len with q | q
          · exact q
          · rw [List.getElem?_eq_none_iff.2 (by simpa using q)] at hk; cases hk
        rw [List.getElem?_range hkl] at hk
        simp at hk
        subst hk
        obtain ⟨q0, q1, _, _⟩ := hall k (by omega)
        obtain ⟨g0, g1, _, _⟩ := hg k (by omega)
        rcases hc with ⟨rfl, rfl⟩ | ⟨rfl, rfl⟩
        · rw [← g0, ← Go.WideShapes.add_plain]; exact q0
        · rw [← g1, ← Go.WideShapes.add_plain]; exact q1
    · intro x hx
      obtain ⟨i, hi, rfl⟩ := List.mem_map.1 hx
      have := List.mem_range.1 hi
      exact (hg i (by omega)).2.2
theorem open_numsT {t e : TypeId} {k : IntKind} {W : World} {base : Nat} {v : Value} {fuel : Nat} {yy : DataW H × List MemPlace} (ht : P.underlying t = some (.slice e)) (he : P.underlying e = some (.int k)) (hc : P.cellsOf e = 1)
    (h : DataW.trod enc P W base (fun _ => true) true fuel t [v] = some yy) :
    ∃ (A : Option Addr) (n c : Nat) (zs : List Int), v = .slice A n c ∧ n ≤ c ∧ c ≤ maxLen ∧ zs.length = n ∧ Rd W W.heap.size 1 A n (zs.map (Value.int k)) ∧ ∀ z ∈ zs, (Lit.int k z).wf = true := by
  obtain ⟨a0, len, cap, e0⟩ := slice_form ht h
  injection e0 with e0
  subst e0
  have hf := h
  clear h
  rcases open_ints ht he hc hf with ⟨hcs, hx⟩ | ⟨a, len', cap', zs, hcs, _, hl, hm, hz, hx, hcell, hwz⟩
  · simp at hcs
    obtain ⟨rfl, rfl, rfl⟩ := hcs
    exact ⟨none, 0, 0, [], rfl, Nat.le_refl _, by unfold maxLen; omega, rfl, Rd.nil _ _ _ _, by simp⟩
  · simp at hcs
    obtain ⟨rfl, rfl, rfl⟩ := hcs
    simp at hz
    refine ⟨some a, len, cap, zs.take len, rfl, hl, hm, by simp; omega, ⟨by simp; omega, fun hn => ?_⟩, fun z hz => hwz z (List.mem_of_mem_take hz)⟩
    obtain ⟨b, off, rfl, hc'⟩ := ints_at hcell (by omega)
    refine ⟨b, off, rfl, World.block_lt_of_cell? W ⟨b, off + 0, none⟩ (hc' 0 (by omega)), fun j u hu => ?_⟩
    have hj : j < len := by
      have := (List.getElem?_eq_some_iff.1 hu).1
      simp at this
      omega
    rw [hc' j (by omega)]
    rw [List.getElem?_map, List.getElem?_take, if_pos hj] at hu
    rw [← hu]
    simp [List.getD_eq_getElem?_getD, List.getElem?_eq_getElem (show j < zs.length by omega)]
/-- A point that came in: a number and two slices of numbers. -/
theorem open_point {t s e : TypeId} {f0 f1 f2 : Field} {r : Reach} {W : World} {base b0 : Nat} {v : Value} {d : DataW H} {p : List MemPlace} (hs : P.underlying t = some (.struct #[f0, f1, f2])) (hone : oneCellFields P #[f0, f1, f2] = true) (hC : P.cellsOf t = 3)
    (t0 : P.underlying f0.type = some (.int .i64)) (t1 : P.underlying f1.type = some (.slice e)) (t2 : P.underlying f2.type = some (.slice s)) (he : P.underlying e = some (.int .i64)) (hc : P.cellsOf e = 1) (he2 : P.underlying s = some (.int .i64)) (hc2 : P.cellsOf s = 1)
    (hv : Value.okWide P W r b0 t v) (h : DataW.Trod enc P W base (fun _ => true) true t v d p) :
    ∃ (x : Int) (D : Option Addr) (n c : Nat) (l : List Int) (E : Option Addr) (m k : Nat) (q : List Int), v = .agg #[.int .i64 x, .slice D n c, .slice E m k] ∧ (n ≤ c ∧ c ≤ maxLen) ∧ (m ≤ k ∧ k ≤ maxLen) ∧ Rd W W.heap.size 1 D n (l.map (Value.int .i64)) ∧ Rd W W.heap.size 1 E m (q.map (Value.int .i64)) := by
  obtain ⟨v0, v1, v2, y0, y1, y2, n, rfl, _, _, h0, h1, h2⟩ := open_agg3 hs hone hC hv h
  obtain ⟨x, e0, _, w0⟩ := DataW.trod_int t0 h0
  obtain ⟨D, n1, c1, l1, rfl, a1, a2, _, a3, _⟩ := open_numsT t1 he hc h1
  obtain ⟨E, n2, c2, l2, rfl, b1, b2, _, b3, _⟩ := open_numsT t2 he2 hc2 h2
  simp at e0
  subst e0
  exact ⟨x, D, n1, c1, l1, E, n2, c2, l2, rfl, ⟨a1, a2⟩, ⟨b1, b2⟩, a3, b3⟩
/-- A guard that came in: a pair, a slice of pairs, a number. -/
theorem open_guard {t e : TypeId} {f0 f1 f2 g0 g1 k0 k1 : Field} {r : Reach} {W : World} {base b0 : Nat} {v : Value} {d : DataW H} {p : List MemPlace} (hs : P.underlying t = some (.struct #[f0, f1, f2])) (hC : P.cellsOf t = 4)
    (p0 : f0.offset = 0 ∧ P.cellsOf f0.type = 2) (p1 : f1.offset = 2 ∧ P.cellsOf f1.type = 1) (p2 : f2.offset = 3 ∧ P.cellsOf f2.type = 1)
    (s0 : P.underlying f0.type = some (.struct #[g0, g1])) (q0 : g0.offset = 0 ∧ P.cellsOf g0.type = 1) (q1 : g1.offset = 1 ∧ P.cellsOf g1.type = 1) (u0 : P.underlying g0.type = some (.int .i64)) (u1 : P.underlying g1.type = some (.int .i64))
    (t2 : P.underlying f2.type = some (.int .i64)) (t1 : P.underlying f1.type = some (.slice e)) (he : P.underlying e = some (.struct #[k0, k1]))
    (ce : P.cellsOf e = 2) (o0 : k0.offset = 0) (o1 : k1.offset = 1) (c0 : P.cellsOf k0.type = 1) (c1 : P.cellsOf k1.type = 1)
    (v0 : P.underlying k0.type = some (.int .i64)) (v1 : P.underlying k1.type = some (.int .i64))
    (hv : Value.okWide P W r b0 t v) (h : DataW.Trod enc P W base (fun _ => true) true t v d p) :
    ∃ (x y u : Int) (A : Option Addr) (n c : Nat) (l : List (Int × Int)), v = .agg #[.int .i64 x, .int .i64 y, .slice A n c, .int .i64 u] ∧ (n ≤ c ∧ c ≤ maxLen) ∧ PR W W.heap.size A n l := by
  obtain ⟨cs, rfl, hsz⟩ := okWide_struct hs hv
  obtain ⟨a, b, s, z, rfl⟩ := array4 (hsz.trans hC)
  obtain ⟨fuel, hf⟩ := h
  obtain ⟨y0, y1, y2, n, _, _, h0, h1, h2⟩ := trod_struct3 hs hf
  rw [p0.1, p0.2] at h0
  rw [p1.1, p1.2] at h1
  rw [p2.1, p2.2] at h2
  simp [Value.cells] at h0 h1 h2
  obtain ⟨z0, z1, m, _, _, j0, j1⟩ := trod_struct2 s0 h0
  rw [q0.1, q0.2] at j0
  rw [q1.1, q1.2] at j1
  simp at j0 j1
  obtain ⟨x, e0, _, _⟩ := DataW.trod_int u0 j0
  obtain ⟨y, e1, _, _⟩ := DataW.trod_int u1 j1
  obtain ⟨u, e2, _, _⟩ := DataW.trod_int t2 h2
  obtain ⟨A, n1, c1, l1, rfl, a1, a2, _, a3, _⟩ := open_prsT t1 he ce o0 o1 c0 c1 v0 v1 h1
  simp at e0 e1 e2
  subst e0 e1 e2
  exact ⟨x, y, u, A, n1, c1, l1, rfl, ⟨a1, a2⟩, a3⟩
end
end K
end Go.Proofs.Ytapjlbcpfemeiaa

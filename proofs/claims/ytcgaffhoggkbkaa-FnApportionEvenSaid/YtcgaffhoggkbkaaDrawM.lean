/-
  Contracts of the generator of amounts and weights. Conditions: a position below some hundred thousands.
-/
import Derived.Test.YtcgaffhoggkbkaaIntsW
import Derived.Test.YtcgaffhoggkbkaaDraw0
namespace Go.Proofs.Ytcgaffhoggkbkaa
open Go.RowKit
namespace C

theorem copyInts_c (w : World) (A : Option Addr) (n c : Nat) (l : List Int) (h : K.IR w w.heap.size A n l) (hn : n ≤ 1099511627776) : Calls Try.prog 49 #[.slice A n c] w (Fresh w l) := by
  have L := K.IR.len h
  obtain ⟨i0, hi, hz0, hz1, hz2⟩ := info_parts info_int
  have hnew : (w.alloc (.cells #[] 3)).ownsRow w.heap.size 3 1 (.slice (some ⟨w.heap.size, 0, none⟩) 0 0) 0 [] := World.ownsRow_lit w #[] 0 (Nat.le_refl _) (by unfold maxLen; omega) rfl
  have k0 : K.Kept w (w.alloc (.cells #[] 3)) := (Below.refl _ _).alloc (Nat.le_refl _) _
  have hr := K.Rd.below h k0
  go_enter Try.func49, Try.ntmps49
  go_wp2_with (at_builtin; refine K.wpList_appAny rfl _ _ 25 rfl w.heap.size 3 1 8 i0 (.int .i64 0) Try.underlying25 hi hz0 hz1 hz2 rfl (by decide) _ _ 0 [] (by rfl) hnew _ A n c _ (by rfl) hr (ints_oneCell _ _) (by unfold maxLen; omega) (by omega) k0.size ?_; intro A1 c1 w1 hown1 hg1)
  have k1 : K.Kept w w1 := K.kept_own k0 hnew hg1 k0.size
  rw [Nat.zero_add, List.nil_append] at hown1
  go_ret
  exact ⟨A1, n, c1, rfl, L, hown1, k1⟩
/-- A list has been spoilt, or not: some list, not much longer. -/
def Spoilt (k : Nat) (w : World) (B g p : Nat) (e : Ending) (w' : World) : Prop := ∃ (A : Option Addr) (n c : Nat) (l : List Int) (q : Nat), e = .returned (.slice A n c) ∧ n ≤ k + 1 ∧ K.IR w' w'.heap.size A n l ∧ Rdr w' B g q ∧ q ≤ p + 3 ∧ K.But g w w'
set_option maxHeartbeats 1600000 in
theorem spoil_c (w : World) (B g p n c : Nat) (A : Option Addr) (l : List Int) (x : Int) (hp : p ≤ 900000) (h0 : Rdr w B g p) (h : K.IR w w.heap.size A n l) (hn : n ≤ 1000) :
    Calls Try.prog 45 #[.pointer (some ⟨g, 0, none⟩), .slice A n c, .int .i64 x] w (Spoilt n w B g p) := by
  obtain ⟨i0, hi, hz0, hz1, hz2⟩ := info_parts info_int
  have hgl := h0.lt
  go_enter Try.func45, Try.ntmps45
  go_wp2_with fail
  refine (copyInts_c w A n c l h (by omega)).mono ?_
  rintro e w1 ⟨A1, n1, c1, rfl, hl1, own1, k1⟩
  have e1 : n1 = n := by have := K.IR.len h; omega
  subst e1
  have s1 := own1.lt
  have r1 := h0.kept k1
  have z1 := k1.size
  have hnc : n1 ≤ c1 := by obtain ⟨A', c', hv, hh, _⟩ := K.own_slice own1; injection hv with _ _ hv; omega
  go_wp2_with fail
  refine (pick_c _ _ B g p (by omega) r1).mono ?_
  rintro e w2 ⟨y, rfl, hy, r2, b2⟩
  have own2 := own1.kept b2 (.inr (fun e => by have := s1 g e; omega))
  have b12 := (K.But.of_kept (g := g) k1).trans b2
  have z2 := b2.size
  clear own1 h h0 k1 b2 r1
  by_cases y0 : y = 0
  · subst y0
    clear hy
    have s2 := own2.lt
    go_wp2_with (at_builtin; refine K.wpList_app rfl _ _ 25 rfl w.heap.size 3 1 8 i0 (.int .i64 0) Try.underlying25 hi hz0 hz1 hz2 rfl (by decide) w2 _ n1 _ (by rfl) own2 _ (by rfl) (by rfl) (by rfl) (by unfold maxLen; omega) (by omega) (by omega) ?_; intro A3 c3 w3 own3 g3)
    have hne : (Value.slice A1 n1 c1).ownBlock ≠ some g := fun e => by have := s2 g e; omega
    have hg3 : w3.heap[g]? = w2.heap[g]? := g3.block g r2.lt (fun e => hne e.symm)
    go_ret
    refine ⟨A3, n1 + 1, c3, l ++ [x], p + 1, rfl, Nat.le_refl _, ?_, ?_, by omega, b12.grown g3 (fun i hi => .inr (by have := s2 i hi; omega))⟩
    · have := K.rd_own own3
      unfold K.IR
      rw [List.map_append]; exact this
    · obtain ⟨hB, A, m, c, zs, hgg, hr, hm, hz⟩ := r2
      exact ⟨hB, A, m, c, zs, hg3.trans hgg, hr.keep (fun q hq => World.cell?_of_block (g3.block q.block (by omega) (fun e => by have := s2 q.block e.symm; omega))), hm, hz⟩
  by_cases y1 : y = 1
  · subst y1
    clear hy y0
    by_cases hn0 : n1 = 0
    · subst hn0
      go_wp2
      go_ret
      exact ⟨_, _, _, l, _, rfl, by omega, K.rd_own own2, r2, by omega, b12⟩
    · obtain ⟨b, rfl⟩ : ∃ b, A1 = some ⟨b, 0, none⟩ := by
        rcases own2.2 with ⟨hv, h0⟩ | ⟨g, cap, cur, hv, _⟩
        · exact absurd h0 hn0
        · injection hv with h1; exact ⟨g, h1⟩
      have RT := K.Rd.tail (K.rd_own own2) (by omega)
      by_cases hc1 : c1 = 1
      · subst hc1
        have e1 : n1 = 1 := by omega
        subst e1
        go_wp2
        go_ret
        exact ⟨_, _, _, [], _, rfl, by omega, K.Rd.nil _ _ _ _, r2, by omega, b12⟩
      · have hn1 : (1 : Int) ≤ (n1 : Int) := by omega
        go_wp2
        go_ret
        refine ⟨_, _, _, l.drop 1, _, rfl, by omega, ?_, r2, by omega, b12⟩
        unfold K.IR
        rw [List.map_drop]; exact RT
  by_cases y2 : y = 2
  · subst y2
    clear hy y0 y1
    by_cases hn0 : n1 = 0
    · subst hn0
      go_wp2
      go_ret
      exact ⟨_, _, _, l, _, rfl, by omega, K.rd_own own2, r2, by omega, b12⟩
    · obtain ⟨b, rfl⟩ : ∃ b, A1 = some ⟨b, 0, none⟩ := by
        rcases own2.2 with ⟨hv, h0⟩ | ⟨g, cap, cur, hv, _⟩
        · exact absurd h0 hn0
        · injection hv with h1; exact ⟨g, h1⟩
      have s2 := own2.lt
      have hbg : b ≠ g := by have := s2 b rfl; omega
      go_wp2_with fail
      refine (pick_c _ _ B g _ (by omega) r2).mono ?_
      rintro e w3 ⟨i, rfl, hi3, r3, b3⟩
      have own3 := own2.kept b3 (.inr (fun e => by have := s2 g e; omega))
      have b13 := b12.trans b3
      have z3 := b3.size
      clear own2 b12 b3 r2
      go_wp2_with fail
      refine (one_new (fun _ => true) w3 B g _ 4 _ (by omega) r3 (by omega) rfl rfl).mono ?_
      rintro e w4 ⟨u, rfl, hu, r4, b4⟩
      have own4 := own3.kept b4 (.inr (fun e => by have := s2 g e; omega))
      have b14 := b13.trans b4
      have z4 := b4.size
      clear own3 b13 b4 r3
      obtain ⟨k, rfl⟩ := Int.eq_ofNat_of_zero_le hi3.1
      have hk : k < n1 := by have := hi3.2.1 (by omega); omega
      have hll : l.length = n1 := by have := own4.1; simpa using this
      have hx : l[k]? = some (l[k]'(by omega)) := List.getElem?_eq_getElem (by omega)
      have c4 : w4.cell? ⟨b, k, none⟩ = some (.int .i64 (l[k]'(by omega))) := by rw [own4.cellAt k (by omega), List.getElem?_map, hx]; rfl
      have f4 := own4.frozenAt k
      have st := own4.stored k (.int .i64 u)
      have HST := Lib.hid st
      have s4 := own4.lt
      clear own4 st hi3 hx
      go_wp2
      go_ret
      refine ⟨_, _, _, l.set k u, p + 1 + 1 + 1, rfl, by omega, ?_, ?_, by omega, b14.setCell (p := ⟨b, k, none⟩) (.inr (by have := s4 b rfl; exact this.1)) _⟩
      · have := HST.out.1
        rw [map_set] at this
        exact K.rd_own this
      · obtain ⟨hB, A, m, c, zs, hgg, hr, hm, hz⟩ := r4
        have hb4 := HST.out.2
        have hgl4 : g < w4.heap.size := (Array.getElem?_eq_some_iff.1 hgg).1
        exact ⟨hB, A, m, c, zs, (hb4.block g hgl4 (fun e => hbg (by injection e with e; exact e.symm))).trans hgg, hr.keep (fun q hq => World.cell?_of_block (hb4.block q.block (by omega) (fun e => by injection e with e; have := s4 b rfl; omega))), hm, hz⟩
  · have e0 : (y == 0) = false := by simp [y0]
    have e1 : (y == 1) = false := by simp [y1]
    have e2 : (y == 2) = false := by simp [y2]
    clear y0 y1 y2 hy
    go_wp2
    go_ret
    exact ⟨_, _, _, l, _, rfl, by omega, K.rd_own own2, r2, by omega, b12⟩
/-- A number and a list have been drawn. -/
def DrawnIL (w : World) (e : Ending) (w' : World) : Prop := ∃ (x : Int) (A : Option Addr) (n c : Nat) (l : List Int), e = .returned (.tuple #[.int .i64 x, .slice A n c]) ∧ n ≤ 20 ∧ K.IR w' w'.heap.size A n l ∧ K.Kept w w'
set_option maxHeartbeats 1600000 in
theorem drawApportion_c (w : World) (n c : Nat) (A : Option Addr) (h : Code w w.heap.size A n c) : Calls Try.prog 35 #[.slice A n c] w (DrawnIL w) := by
  obtain ⟨i0, hi, hz0, hz1, hz2⟩ := info_parts info_int
  go_enter Try.func35, Try.ntmps35
  go_wp2_with fail
  refine (newReader_c w w.heap.size n c A (Nat.le_refl _) h).mono ?_
  rintro e w1 ⟨rfl, r1, k1⟩
  go_wp2_with fail
  refine (anyAmount_c w1 _ _ 0 (by omega) r1).mono ?_
  rintro e w2 ⟨x, q, rfl, r2, hq, b2⟩
  have k2 := K.But.below k1 b2 k1.size (Nat.le_refl _)
  clear b2 k1 r1 h
  have hnew : (w2.alloc (.cells #[] 3)).ownsRow w2.heap.size 3 1 (.slice (some ⟨w2.heap.size, 0, none⟩) 0 0) 0 [] := World.ownsRow_lit w2 #[] 0 (Nat.le_refl _) (by unfold maxLen; omega) rfl
  have kk : K.Kept w2 (w2.alloc (.cells #[] 3)) := (Below.refl _ _).alloc (Nat.le_refl _) _
  have z2 := k2.size
  have r2l := r2.lt
  go_wp2_with fail
  refine (one_new' (fun i => decide (0 ≤ i ∧ i ≤ 9)) (w2.alloc (.cells #[] 3)) _ _ q 7 _ _ (by omega) (r2.kept kk) (by omega) (by simp) rfl rfl).mono ?_
  rintro e w3 ⟨y, rfl, hy, r3, b3⟩
  have hy' := of_decide_eq_true hy
  obtain ⟨N0, rfl⟩ := Int.eq_ofNat_of_zero_le hy'.1
  have own3 := hnew.kept b3 (.inr (by simp [Value.ownBlock]; omega))
  have k3 := K.But.below (K.Kept.below k2 kk z2) b3 (by simp; omega) (Nat.le_refl _)
  have z3 : w2.heap.size ≤ w3.heap.size := Nat.le_trans kk.size b3.size
  clear hnew kk b3 r2 k2 hy
  go_wp2_with fail
  go_loopw [6, 7] (fun v m wr => ∃ (N j q c : Nat) (A : Option Addr) (l : List Int), m = .int .i64 N ∧ N + j ≤ 9 ∧ q + N ≤ 20 ∧ v = .slice A j c ∧ wr.ownsRow w2.heap.size 3 1 (.slice A j c) j (l.map (Value.int .i64)) ∧ Rdr wr w.heap.size w.heap.size q ∧ Below w.heap.size w wr ∧ w2.heap.size ≤ wr.heap.size) (fun _ m _ => (intOf m).toNat)
  case atStart => exact ⟨N0, 0, _, 0, _, [], rfl, by omega, by omega, rfl, own3, r3, k3, z3⟩
  case round =>
    clear own3 r3 k3
    obtain ⟨N, j, q', c', A', l, rfl, hNj, hqN, rfl, own, r, kw, zw⟩ := hrel
    by_cases hN : N = 0
    · subst hN
      go_wp2_with fail
      refine (spoil_c wr _ _ q' j c' A' l _ (by omega) r (K.rd_own own) (by omega)).mono ?_
      rintro e w5 ⟨A5, n5, c5, l5, q5, rfl, hn5, ir5, r5, hq5, b5⟩
      have k5 := K.But.below kw b5 kw.size (Nat.le_refl _)
      go_wp2
      go_ret2
      exact ⟨x, A5, n5, c5, l5, rfl, by omega, ir5, k5⟩
    · have hN1 : (1 : Int) ≤ (N : Int) := by omega
      go_wp2_with fail
      refine (one_new (fun _ => true) wr _ _ q' 6 _ (by omega) r (by omega) rfl rfl).mono ?_
      rintro e w5 ⟨u, rfl, hu, r5, b5⟩
      have s5 := own.lt
      have own5 := own.kept b5 (.inr (fun e => by have := s5 w.heap.size e; omega))
      have k5 := K.But.below kw b5 kw.size (Nat.le_refl _)
      have z5 := b5.size
      have r5l := r5.lt
      clear own r kw b5 hu
      go_wp2_with (at_builtin; refine K.wpList_app rfl _ _ 25 rfl w2.heap.size 3 1 8 i0 (.int .i64 0) Try.underlying25 hi hz0 hz1 hz2 rfl (by decide) w5 _ j _ (by rfl) own5 _ (by rfl) (by rfl) (by rfl) (by unfold maxLen; omega) (by omega) (by omega) ?_; intro A6 c6 w6 own6 g6)
      have s6 := own5.lt
      have k6 : Below w.heap.size w w6 := k5.grown g6 (by omega) (fun i hi => by have := s6 i hi; omega)
      have hg6 : w6.heap[w.heap.size]? = w5.heap[w.heap.size]? := g6.block _ r5l (fun e => by have := s6 _ e.symm; omega)
      have r6 : Rdr w6 w.heap.size w.heap.size (q' + 1) := by
        obtain ⟨hB, A, m, c, zs, hgg, hr, hm, hz⟩ := r5
        exact ⟨hB, A, m, c, zs, hg6.trans hgg, hr.keep (fun a ha => World.cell?_of_block (g6.block a.block (by omega) (fun e => by have := s6 _ e.symm; omega))), hm, hz⟩
      have z6 := g6.size
      have own6' : Hid (w6.ownsRow w2.heap.size 3 1 (.slice A6 (j + 1) c6) (j + 1) ((l ++ [u]).map (Value.int .i64))) := by
        unfold Hid; rw [List.map_append]; exact own6
      clear own5 k5 r5 g6 own6 hg6
      go_wp2
      go_roundw
      case rel => exact ⟨N - 1, j + 1, q' + 1, c6, A6, l ++ [u], by go_num, by omega, by omega, rfl, own6'.out, r6, k6, by omega⟩
      case measure => simp [intOf]; omega
end C
end Go.Proofs.Ytcgaffhoggkbkaa

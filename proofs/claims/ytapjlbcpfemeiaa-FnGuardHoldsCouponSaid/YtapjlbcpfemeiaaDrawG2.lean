/-
  Contracts of the generators of guards that may be invalid. Conditions: a position below some hundred thousands.
-/
import Derived.Test.YtapjlbcpfemeiaaDrawG
namespace Go.Proofs.Ytapjlbcpfemeiaa
open Go.RowKit
namespace C

theorem infoSpanG : (Try.prog.info? 24).map (fun i => (i.zero, i.size, i.bytes)) = some (some (.agg #[.int .i64 0, .int .i64 0]), 2, 16) := by kernel_rfl
set_option maxRecDepth 100000 in
set_option maxHeartbeats 4000000 in
theorem anyGuard_c (w : World) (B g p : Nat) (hp : p ≤ 600000) (hB : B ≤ w.heap.size) (h0 : Rdr w B g p) : Calls Try.prog 43 #[.pointer (some ⟨g, 0, none⟩)] w (GuardD 24 4 12 w B g p) := by
  have bx_r : BoxN (w.alloc (.cells #[.int .i64 0, .int .i64 0, .slice none 0 0, .int .i64 0] 27)) w.heap.size (#[.int .i64 0, .int .i64 0, .slice none 0 0, .int .i64 0] : Array Value).toList := BoxN.new w _ _
  have kw := kp1 w (.cells #[.int .i64 0, .int .i64 0, .slice none 0 0, .int .i64 0] 27)
  have rr := h0.kept kw
  generalize hww0 : w.alloc (.cells #[.int .i64 0, .int .i64 0, .slice none 0 0, .int .i64 0] 27) = w0 at bx_r kw rr
  have hgl := h0.lt
  have zr := bx_r.1
  clear h0
  go_enter Try.func43, Try.ntmps43
  go_wp2_with fail
  refine (someGuard_c w0 B g p (by omega) (by omega) rr).mono ?_
  rintro e w1 ⟨x, y, u, A, n, c, l, q, rfl, hn, hx, owna, rn, hq, bb⟩
  obtain ⟨hn3, hn3'⟩ := hn
  obtain rfl : n = 3 := by omega
  have bw := K.But.trans (K.But.of_kept (g := g) kw) bb
  replace bx_r := BoxN.but bx_r bb (by omega)
  have zb := bb.size
  clear bb rr kw
  have rr := rn
  clear rn
  have lta := owna.lt
  replace owna := own_monoG owna (show w.heap.size + 1 ≤ _ by omega)
  obtain ⟨rb, rfl⟩ : ∃ rb, A = some ⟨rb, 0, none⟩ := by
    rcases owna.2 with ⟨hv, h0⟩ | ⟨rb, cap, cur, hv, _⟩
    · omega
    · injection hv with h1; exact ⟨rb, h1⟩
  have lrb := lta rb rfl
  have bx_v : BoxN (w1.alloc (.cells #[.int .i64 x, .int .i64 y, .slice (some ⟨rb, 0, none⟩) 3 c, .int .i64 u] 27)) w1.heap.size (#[.int .i64 x, .int .i64 y, .slice (some ⟨rb, 0, none⟩) 3 c, .int .i64 u] : Array Value).toList := BoxN.new w1 _ _
  have kv := kp1 w1 (.cells #[.int .i64 x, .int .i64 y, .slice (some ⟨rb, 0, none⟩) 3 c, .int .i64 u] 27)
  replace bx_r := bx_r.kept kv
  replace owna := K.own_kept owna kv
  replace rr := rr.kept kv
  replace bw := K.But.trans bw (K.But.of_kept kv)
  generalize hwv : w1.alloc (.cells #[.int .i64 x, .int .i64 y, .slice (some ⟨rb, 0, none⟩) 3 c, .int .i64 u] 27) = wv at bx_v bx_r owna rr bw
  clear kv
  have nva : ∀ i, (Value.slice (some ⟨rb, 0, none⟩) 3 c).ownBlock = some i → i ≠ w1.heap.size := fun i hi => by simp [Value.ownBlock] at hi; omega
  obtain ⟨v0, v1, v2, v3, v4, v5, v6, v7, v8⟩ := BoxN.at4 bx_v
  obtain ⟨r0, r1, r2, r3, r4, r5, r6, r7, r8⟩ := BoxN.at4 bx_r
  go_wp2_with fail
  refine (pick_c _ _ B g _ (by omega) rr).mono ?_
  rintro e wq ⟨t, rfl, ht, rn, bb⟩
  clear v0 v1 v2 v3 v4 v5 v6 v7 v8 r0 r1 r2 r3 r4 r5 r6 r7 r8
  replace owna := owna.kept bb (.inr (fun e => by have := lta g e; omega))
  replace bx_r := BoxN.but bx_r bb (by omega)
  replace bx_v := BoxN.but bx_v bb (by omega)
  replace bw := K.But.trans bw bb
  have zb := bb.size
  clear bb rr
  have rr := rn
  clear rn
  clear ht hwv hww0
  by_cases ht0 : t = 0
  · subst ht0
    obtain ⟨v0, v1, v2, v3, v4, v5, v6, v7, v8⟩ := BoxN.at4 bx_v
    obtain ⟨r0, r1, r2, r3, r4, r5, r6, r7, r8⟩ := BoxN.at4 bx_r
    go_wp2_with fail
    refine (anySpan_c _ B g _ (by omega) rr).mono ?_
    rintro e wq ⟨x1, y1, q1, rfl, hxy, rn, hq1, bb⟩
    clear v0 v1 v2 v3 v4 v5 v6 v7 v8 r0 r1 r2 r3 r4 r5 r6 r7 r8
    replace owna := owna.kept bb (.inr (fun e => by have := lta g e; omega))
    replace bx_r := BoxN.but bx_r bb (by omega)
    replace bx_v := BoxN.but bx_v bb (by omega)
    replace bw := K.But.trans bw bb
    have zb := bb.size
    clear bb rr
    have rr := rn
    clear rn
    obtain ⟨v0, v1, v2, v3, v4, v5, v6, v7, v8⟩ := BoxN.at4 bx_v
    obtain ⟨r0, r1, r2, r3, r4, r5, r6, r7, r8⟩ := BoxN.at4 bx_r
    replace owna := own_sne (i := 0) owna (fun e => nva _ e rfl) (.int .i64 x1)
    replace rr := rdr_set (i := 0) rr (show w1.heap.size ≠ g by omega) (by omega) (.int .i64 x1)
    replace bw := but_set (i := 0) bw (show w.heap.size ≤ w1.heap.size by omega) (.int .i64 x1)
    replace bx_r := BoxN.sets (i := 0) bx_r (show w1.heap.size ≠ w.heap.size by omega) (.int .i64 x1)
    replace bx_v := BoxN.set bx_v 0 (.int .i64 x1) (by simp)
    replace owna := own_sne (i := 1) owna (fun e => nva _ e rfl) (.int .i64 y1)
    replace rr := rdr_set (i := 1) rr (show w1.heap.size ≠ g by omega) (by omega) (.int .i64 y1)
    replace bw := but_set (i := 1) bw (show w.heap.size ≤ w1.heap.size by omega) (.int .i64 y1)
    replace bx_r := BoxN.sets (i := 1) bx_r (show w1.heap.size ≠ w.heap.size by omega) (.int .i64 y1)
    replace bx_v := BoxN.set bx_v 1 (.int .i64 y1) (by simp)
    obtain ⟨oz, rz, bz, xz⟩ := gfin owna rr bw bx_r rfl (show w.heap.size ≠ g by omega) hB (Nat.le_refl _) (.int .i64 (x1)) (.int .i64 (y1)) (.slice (some ⟨rb, 0, none⟩) 3 c) (.int .i64 (u))
    obtain ⟨z0, z1, z2, z3, _⟩ := BoxN.at4 xz
    have HA := Lib.hid oz
    have HR := Lib.hid rz
    have HB := Lib.hid bz
    clear owna rr bw bx_r oz rz bz xz
    go_wp2
    refine bodyPost_ret (by simp [results, Try.results43, go_sem, z0, z1, z2, z3]; try rfl) rfl ?_
    exact ⟨_, _, _, _, _, _, _, _, rfl, by omega, by omega, HA.out, HR.out, by omega, HB.out⟩
  have e0 : (t == 0) = false := by simp [ht0]
  by_cases ht1 : t = 1
  · subst ht1
    obtain ⟨i0, hi, hz0, hz1, hz2⟩ := info_parts infoSpanG
    obtain ⟨v0, v1, v2, v3, v4, v5, v6, v7, v8⟩ := BoxN.at4 bx_v
    obtain ⟨r0, r1, r2, r3, r4, r5, r6, r7, r8⟩ := BoxN.at4 bx_r
    go_wp2_with fail
    replace rr := rr.kept (kdrew _)
    replace owna := K.own_kept owna (kdrew _)
    replace bx_r := bx_r.kept (kdrew _)
    replace bx_v := bx_v.kept (kdrew _)
    replace bw := K.But.trans bw (K.But.of_kept (kdrew _))
    go_region_law (first | (go_simp; go_at_call 81; refine (anySpan_c _ B g _ (by omega) rr).mono ?_; rintro e wz ⟨x1, y1, q1, rfl, hxy, rn, hq1, bb⟩; have zw1 : w1.heap.size < wz.heap.size := (by have := bx_v.1; have := bb.size; omega); clear v0 v1 v2 v3 v4 v5 v6 v7 v8 r0 r1 r2 r3 r4 r5 r6 r7 r8; replace owna := owna.kept bb (.inr (fun e => by have := lta g e; omega)); replace bx_r := BoxN.but bx_r bb (by omega); replace bx_v := BoxN.but bx_v bb (by omega); replace bw := K.But.trans bw bb; have zb := bb.size; clear bb rr; have rr := rn; clear rn; obtain ⟨v0, v1, v2, v3, v4, v5, v6, v7, v8⟩ := BoxN.at4 bx_v; obtain ⟨r0, r1, r2, r3, r4, r5, r6, r7, r8⟩ := BoxN.at4 bx_r) | (refine step_app3 rfl _ _ 25 rfl (w.heap.size + 1) 24 2 16 i0 (.agg #[.int .i64 0, .int .i64 0]) Try.underlying25 hi hz0 hz1 hz2 rfl (by decide) wz _ 3 _ (by rfl) owna _ _ (by rfl) (by first | rfl | simp) (by rfl) (by rfl) (by unfold maxLen; omega) (by omega) (by omega) ?_; intro A4 c4 w4 own4 hg4 hn4; replace bx_r := BoxN.grown bx_r hg4 (fun e => by have := (lta _ e).1; omega); replace bx_v := BoxN.grown bx_v hg4 (fun e => nva _ e rfl); replace rr := Rdr.grownG rr (by omega) hg4 (fun e => by have := lta g e; omega) (fun i e => by have := lta i e; omega); replace bw := bw.grown hg4 (fun i e => by right; have := lta i e; omega); clear v0 v1 v2 v3 v4 v5 v6 v7 v8 r0 r1 r2 r3 r4 r5 r6 r7 r8; obtain ⟨v0, v1, v2, v3, v4, v5, v6, v7, v8⟩ := BoxN.at4 bx_v; obtain ⟨r0, r1, r2, r3, r4, r5, r6, r7, r8⟩ := BoxN.at4 bx_r))
    all_goals
      have nvb : ∀ i, (Value.slice A4 (3 + 1) c4).ownBlock = some i → i ≠ w1.heap.size := fun i hi => by
        rcases hn4 i hi with h | h
        · exact nva i h
        · omega
      clear owna hg4 hn4
      have owna := (show w4.ownsRow (w.heap.size + 1) 24 2 (.slice A4 (3 + 1) c4) (3 + 1) (K.prs (l ++ [(x1, y1)])) by rw [K.prs_append]; exact own4)
      clear own4 nva
      have nva := nvb
      clear nvb
      replace owna := own_sne (i := 2) owna (fun e => nva _ e rfl) (.slice A4 (3 + 1) c4)
      replace rr := rdr_set (i := 2) rr (show w1.heap.size ≠ g by omega) (by omega) (.slice A4 (3 + 1) c4)
      replace bw := but_set (i := 2) bw (show w.heap.size ≤ w1.heap.size by omega) (.slice A4 (3 + 1) c4)
      replace bx_r := BoxN.sets (i := 2) bx_r (show w1.heap.size ≠ w.heap.size by omega) (.slice A4 (3 + 1) c4)
      replace bx_v := BoxN.set bx_v 2 (.slice A4 (3 + 1) c4) (by simp)
      obtain ⟨oz, rz, bz, xz⟩ := gfin owna rr bw bx_r rfl (show w.heap.size ≠ g by omega) hB (Nat.le_refl _) (.int .i64 (x)) (.int .i64 (y)) (.slice A4 (3 + 1) c4) (.int .i64 (u))
      obtain ⟨z0, z1, z2, z3, _⟩ := BoxN.at4 xz
      have HA := Lib.hid oz
      have HR := Lib.hid rz
      have HB := Lib.hid bz
      clear owna rr bw bx_r oz rz bz xz
      go_wp2
      refine bodyPost_ret (by simp [results, Try.results43, go_sem, z0, z1, z2, z3]; try rfl) rfl ?_
      exact ⟨_, _, _, _, _, _, _, _, rfl, by omega, by omega, HA.out, HR.out, by omega, HB.out⟩
  have e1 : (t == 1) = false := by simp [ht1]
  have hll : l.length = 3 := by have := owna.1; rw [K.prs_len] at this; omega
  by_cases ht2 : t = 2
  · subst ht2
    have p0 := K.prs_at (show l[0]? = some (l[0]'(by omega)) from List.getElem?_eq_getElem _)
    have d1 := owna.cellAt (0 * 2) (by omega)
    have d2 := owna.cellAt (0 * 2 + 1) (by omega)
    rw [p0.1] at d1
    rw [p0.2] at d2
    have f1 := owna.frozenAt (0 * 2)
    have f2 := owna.frozenAt (0 * 2 + 1)
    obtain ⟨v0, v1, v2, v3, v4, v5, v6, v7, v8⟩ := BoxN.at4 bx_v
    obtain ⟨r0, r1, r2, r3, r4, r5, r6, r7, r8⟩ := BoxN.at4 bx_r
    obtain ⟨oz, rz, bz, xz⟩ := gset (k := 0) owna rr bw bx_r (show rb ≠ g by omega) (show B ≤ rb by omega) (show w.heap.size ≤ rb by omega) (show rb ≠ w.heap.size by omega) (5) (4)
    clear owna rr bw bx_r bx_v
    have owna := oz
    have rr := rz
    have bw := bz
    have bx_r := xz
    clear oz rz bz xz
    obtain ⟨oz, rz, bz, xz⟩ := gfin owna rr bw bx_r rfl (show w.heap.size ≠ g by omega) hB (Nat.le_refl _) (.int .i64 (x)) (.int .i64 (y)) (.slice (some ⟨rb, 0, none⟩) 3 c) (.int .i64 (u))
    obtain ⟨z0, z1, z2, z3, _⟩ := BoxN.at4 xz
    have HA := Lib.hid oz
    have HR := Lib.hid rz
    have HB := Lib.hid bz
    clear owna rr bw bx_r oz rz bz xz
    go_wp2
    refine bodyPost_ret (by simp [results, Try.results43, go_sem, z0, z1, z2, z3]; try rfl) rfl ?_
    exact ⟨_, _, _, _, _, _, _, _, rfl, by omega, by omega, HA.out, HR.out, by omega, HB.out⟩
  have e2 : (t == 2) = false := by simp [ht2]
  by_cases ht3 : t = 3
  · subst ht3
    obtain ⟨v0, v1, v2, v3, v4, v5, v6, v7, v8⟩ := BoxN.at4 bx_v
    obtain ⟨r0, r1, r2, r3, r4, r5, r6, r7, r8⟩ := BoxN.at4 bx_r
    go_wp2_with fail
    refine (one_new (fun x => decide (-1 ≤ x ∧ x ≤ 10)) _ B g _ 3 _ (by omega) rr (by omega) rfl rfl).mono ?_
    rintro e wq ⟨x3, rfl, hx3, rn, bb⟩
    clear v0 v1 v2 v3 v4 v5 v6 v7 v8 r0 r1 r2 r3 r4 r5 r6 r7 r8
    replace owna := owna.kept bb (.inr (fun e => by have := lta g e; omega))
    replace bx_r := BoxN.but bx_r bb (by omega)
    replace bx_v := BoxN.but bx_v bb (by omega)
    replace bw := K.But.trans bw bb
    have zb := bb.size
    clear bb rr
    have rr := rn
    clear rn
    replace hx3 := of_decide_eq_true hx3
    obtain ⟨v0, v1, v2, v3, v4, v5, v6, v7, v8⟩ := BoxN.at4 bx_v
    obtain ⟨r0, r1, r2, r3, r4, r5, r6, r7, r8⟩ := BoxN.at4 bx_r
    replace owna := own_sne (i := 3) owna (fun e => nva _ e rfl) (.int .i64 x3)
    replace rr := rdr_set (i := 3) rr (show w1.heap.size ≠ g by omega) (by omega) (.int .i64 x3)
    replace bw := but_set (i := 3) bw (show w.heap.size ≤ w1.heap.size by omega) (.int .i64 x3)
    replace bx_r := BoxN.sets (i := 3) bx_r (show w1.heap.size ≠ w.heap.size by omega) (.int .i64 x3)
    replace bx_v := BoxN.set bx_v 3 (.int .i64 x3) (by simp)
    obtain ⟨oz, rz, bz, xz⟩ := gfin owna rr bw bx_r rfl (show w.heap.size ≠ g by omega) hB (Nat.le_refl _) (.int .i64 (x)) (.int .i64 (y)) (.slice (some ⟨rb, 0, none⟩) 3 c) (.int .i64 (x3))
    obtain ⟨z0, z1, z2, z3, _⟩ := BoxN.at4 xz
    have HA := Lib.hid oz
    have HR := Lib.hid rz
    have HB := Lib.hid bz
    clear owna rr bw bx_r oz rz bz xz
    go_wp2
    refine bodyPost_ret (by simp [results, Try.results43, go_sem, z0, z1, z2, z3]; try rfl) rfl ?_
    exact ⟨_, _, _, _, _, _, _, _, rfl, by omega, by omega, HA.out, HR.out, by omega, HB.out⟩
  have e3 : (t == 3) = false := by simp [ht3]
  clear ht0 ht1 ht2 ht3
  obtain ⟨v0, v1, v2, v3, v4, v5, v6, v7, v8⟩ := BoxN.at4 bx_v
  obtain ⟨r0, r1, r2, r3, r4, r5, r6, r7, r8⟩ := BoxN.at4 bx_r
  obtain ⟨oz, rz, bz, xz⟩ := gfin owna rr bw bx_r rfl (show w.heap.size ≠ g by omega) hB (Nat.le_refl _) (.int .i64 (x)) (.int .i64 (y)) (.slice (some ⟨rb, 0, none⟩) 3 c) (.int .i64 (u))
  obtain ⟨z0, z1, z2, z3, _⟩ := BoxN.at4 xz
  have HA := Lib.hid oz
  have HR := Lib.hid rz
  have HB := Lib.hid bz
  clear owna rr bw bx_r oz rz bz xz
  go_wp2
  refine bodyPost_ret (by simp [results, Try.results43, go_sem, z0, z1, z2, z3]; try rfl) rfl ?_
  exact ⟨_, _, _, _, _, _, _, _, rfl, by omega, by omega, HA.out, HR.out, by omega, HB.out⟩
/-- A guard has been drawn; all that was there is as it was. -/
def DrawnG (w : World) (e : Ending) (w' : World) : Prop := ∃ (x y u : Int) (A : Option Addr) (n c : Nat) (l : List (Int × Int)), e = .returned (.agg #[.int .i64 x, .int .i64 y, .slice A n c, .int .i64 u]) ∧ (3 ≤ n ∧ n ≤ 4) ∧ w'.ownsRow w.heap.size 24 2 (.slice A n c) n (K.prs l) ∧ K.Kept w w'
set_option maxRecDepth 100000 in
set_option maxHeartbeats 2000000 in
theorem drawValidGuard_c (w : World) (n c : Nat) (A : Option Addr) (h : Code w w.heap.size A n c) : Calls Try.prog 32 #[.slice A n c] w (DrawnG w) := by
  have bx_r : BoxN (w.alloc (.cells #[.int .i64 0, .int .i64 0, .slice none 0 0, .int .i64 0] 27)) w.heap.size (#[.int .i64 0, .int .i64 0, .slice none 0 0, .int .i64 0] : Array Value).toList := BoxN.new w _ _
  have kw := kp1 w (.cells #[.int .i64 0, .int .i64 0, .slice none 0 0, .int .i64 0] 27)
  have hc0 := h.kept kw
  generalize hww0 : w.alloc (.cells #[.int .i64 0, .int .i64 0, .slice none 0 0, .int .i64 0] 27) = w0 at bx_r kw hc0
  have sz0 := bx_r.1
  go_enter Try.func32, Try.ntmps32
  go_wp2_with fail
  refine (newReader_c w0 w.heap.size n c A kw.size hc0).mono ?_
  rintro e w1 ⟨rfl, hr1, hk1⟩
  have hg1 := hr1.lt
  replace bx_r := bx_r.kept hk1
  replace kw := K.Kept.trans kw hk1
  have z1 := bx_r.1
  clear hc0 h
  go_wp2_with fail
  refine (anyGuard_c w1 _ _ 0 (by omega) (by omega) hr1).mono ?_
  rintro e w2 ⟨x, y, u, A', n', c', l, q, rfl, hn, hx, owna, rr, hq, bb⟩
  replace bx_r := BoxN.but bx_r bb (by omega)
  have kw2 := K.But.below kw bb (by omega) (by omega)
  replace owna := own_monoG owna (show w.heap.size + 1 ≤ _ by omega)
  obtain ⟨r0, r1, r2, r3, r4, r5, r6, r7, r8⟩ := BoxN.at4 bx_r
  have br := (((bx_r.set 0 (.int .i64 x) (by simp)).set 1 (.int .i64 y) (by simp)).set 2 (.slice A' n' c') (by simp)).set 3 (.int .i64 u) (by simp)
  obtain ⟨z0, z1, z2, z3, _⟩ := BoxN.at4 br
  have OW := Lib.hid (own_monoG (own_set (i := 3) (own_set (i := 2) (own_set (i := 1) (own_set (i := 0) owna (Nat.lt_succ_self _) (.int .i64 x)) (Nat.lt_succ_self _) (.int .i64 y)) (Nat.lt_succ_self _) (.slice A' n' c')) (Nat.lt_succ_self _) (.int .i64 u)) (Nat.le_succ _))
  have KW := Lib.hid (kset (i := 3) (kset (i := 2) (kset (i := 1) (kset (i := 0) kw2 (Nat.le_refl _) (.int .i64 x)) (Nat.le_refl _) (.int .i64 y)) (Nat.le_refl _) (.slice A' n' c')) (Nat.le_refl _) (.int .i64 u))
  clear owna br kw kw2 bb rr hr1 hk1
  go_wp2
  refine bodyPost_ret (by simp [results, Try.results32, go_sem, z0, z1, z2, z3]; try rfl) rfl ?_
  exact ⟨x, y, u, A', n', c', l, rfl, hn, OW.out, KW.out⟩
end C
end Go.Proofs.Ytapjlbcpfemeiaa

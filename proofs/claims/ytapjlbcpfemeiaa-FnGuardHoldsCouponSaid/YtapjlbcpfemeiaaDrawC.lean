/-
  Contracts of the generators of shops and carts. Conditions: a position below some hundred thousands.
-/
import Derived.Test.YtapjlbcpfemeiaaDraw0
import Derived.Test.YtapjlbcpfemeiaaQuads
import Derived.Test.YtapjlbcpfemeiaaBox
namespace Go.Proofs.Ytapjlbcpfemeiaa
open Go.RowKit
namespace C

theorem Rdr.grown {w w' : World} {B g p : Nat} {row : Option Nat} (h : Rdr w B g p) (_hB : B ≤ w.heap.size) (k : w.grownBy w' row) (h1 : row ≠ some g) (h2 : ∀ i, row = some i → B ≤ i) : Rdr w' B g p := by
  have hl := h.lt
  obtain ⟨h0, A, m, c, zs, hg, hr, hm, hz⟩ := h
  exact ⟨h0, A, m, c, zs, (k.block g hl (fun e => h1 e.symm)).trans hg, hr.keep (fun a ha => World.cell?_of_block (k.block a.block (by omega) (fun e => by have := h2 _ e.symm; omega))), hm, hz⟩
theorem own_monoP {w : World} {base base' : Nat} {e : TypeId} {size : Nat} {v : Value} {n : Nat} {xs : List Value} (h : w.ownsRow base e size v n xs) (hb : base' ≤ base) : w.ownsRow base' e size v n xs :=
  ⟨h.1, h.2.imp id fun ⟨g, cap, cur, a, b, c⟩ => ⟨g, cap, cur, a, Nat.le_trans hb b, c⟩⟩
/-- A shop has been drawn: some list in memory of the call's own. -/
def ShopD (w : World) (B g p : Nat) (e : Ending) (w' : World) : Prop := ∃ (A : Option Addr) (n c : Nat) (l : List K.Q4) (q : Nat), e = .returned (.slice A n c) ∧ n ≤ 10 ∧ w'.ownsRow w.heap.size 88 4 (.slice A n c) n (K.qds l) ∧ Rdr w' B g q ∧ q ≤ p + 50 ∧ K.But g w w'
def ShopD1 (w : World) (B g p : Nat) (e : Ending) (w' : World) : Prop := ∃ (A : Option Addr) (n c : Nat) (l : List K.Q4) (q : Nat), e = .returned (.slice A n c) ∧ 1 ≤ n ∧ n ≤ 10 ∧ w'.ownsRow w.heap.size 88 4 (.slice A n c) n (K.qds l) ∧ Rdr w' B g q ∧ q ≤ p + 41 ∧ K.But g w w'
set_option maxRecDepth 100000 in
set_option maxHeartbeats 2000000 in
theorem someShop_c (w : World) (B g p : Nat) (hp : p ≤ 700000) (hB : B ≤ w.heap.size) (h0 : Rdr w B g p) : Calls Try.prog 95 #[.pointer (some ⟨g, 0, none⟩)] w (ShopD1 w B g p) := by
  obtain ⟨i0, hi, hz0, hz1, hz2⟩ := info_parts infoArticle
  have hgl := h0.lt
  have ownl : (w.alloc (.cells #[] 88)).ownsRow w.heap.size 88 4 (.slice (some ⟨w.heap.size, 0, none⟩) 0 0) 0 (K.qds []) := World.ownsRow_lit w #[] 0 (Nat.le_refl _) (by unfold maxLen; omega) rfl
  have hk0 := kept1 w (.cells #[] 88)
  have rr := h0.kept hk0
  have bw : K.But g w (w.alloc (.cells #[] 88)) := K.But.of_kept hk0
  generalize hw0 : w.alloc (.cells #[] 88) = w0 at ownl rr bw
  clear hk0 h0
  have ltl := ownl.lt
  go_enter Try.func95, Try.ntmps95
  (try clear zw)
  go_wp2_with fail
  refine (one_new (fun x => decide (1 ≤ x ∧ x ≤ 10)) w0 B g p 6 _ (by omega) rr (by omega) rfl rfl).mono ?_
  rintro e v1 ⟨N0, rfl, hN0, rn, bb⟩
  replace hN0 := of_decide_eq_true hN0
  replace ownl := ownl.kept bb (.inr (fun e => by have := ltl g e; omega))
  replace bw := K.But.trans bw bb
  have zw := bw.size
  have y1 := bb.size
  clear bb rr
  have rr := rn
  clear rn
  obtain ⟨N, rfl⟩ := Int.eq_ofNat_of_zero_le (show 0 ≤ N0 by omega)
  clear ltl hw0
  go_wp2_with fail
  go_loopw [3, 4] (fun v m wr => ∃ (N j q c : Nat) (A : Option Addr) (l : List K.Q4), m = .int .i64 N ∧ N + j ≤ 10 ∧ 1 ≤ N + j ∧ q ≤ p + 1 + 4 * j ∧ v = .slice A j c ∧ wr.ownsRow w.heap.size 88 4 (.slice A j c) j (K.qds l) ∧ Rdr wr B g q ∧ K.But g w wr) (fun _ m _ => (intOf m).toNat)
  case atStart => exact ⟨N, 0, _, 0, _, [], rfl, by omega, by omega, by omega, rfl, ownl, rr, bw⟩
  case round =>
    clear ownl rr bw zw
    obtain ⟨N, j, q, c', A', l, rfl, hNj, hNj1, hq, rfl, ownl, rr, bw⟩ := hrel
    have ltl := ownl.lt
    by_cases hN : N = 0
    · subst hN
      go_wp2
      go_ret
      exact ⟨_, _, _, l, q, rfl, by omega, by omega, ownl, rr, by omega, bw⟩
    · have hN1 : (1 : Int) ≤ (N : Int) := by omega
      have zw := bw.size
      (try clear zw)
      go_wp2_with fail
      refine (one_new (fun x => decide (1 ≤ x ∧ x ≤ 5000)) wr B g _ 7 _ (by omega) rr (by omega) rfl rfl).mono ?_
      rintro e v1 ⟨a1, rfl, ha1, rn, bb⟩
      replace ha1 := of_decide_eq_true ha1
      replace ownl := ownl.kept bb (.inr (fun e => by have := ltl g e; omega))
      replace bw := K.But.trans bw bb
      have zw := bw.size
      have y1 := bb.size
      clear bb rr
      have rr := rn
      clear rn
      (try clear zw)
      go_wp2_with fail
      refine (pick_c _ v1 B g _ (by omega) rr).mono ?_
      rintro e v2 ⟨a2, rfl, ha2, rn, bb⟩
      have ha20 := ha2.1
      have ha21 := ha2.2.1 (by omega)
      clear ha2
      replace ownl := ownl.kept bb (.inr (fun e => by have := ltl g e; omega))
      replace bw := K.But.trans bw bb
      have zw := bw.size
      have y2 := bb.size
      clear bb rr
      have rr := rn
      clear rn
      (try clear zw)
      go_wp2_with fail
      refine (one_new (fun x => decide (0 ≤ x ∧ x ≤ 300)) v2 B g _ 5 _ (by omega) rr (by omega) rfl rfl).mono ?_
      rintro e v3 ⟨a3, rfl, ha3, rn, bb⟩
      replace ha3 := of_decide_eq_true ha3
      replace ownl := ownl.kept bb (.inr (fun e => by have := ltl g e; omega))
      replace bw := K.But.trans bw bb
      have zw := bw.size
      have y3 := bb.size
      clear bb rr
      have rr := rn
      clear rn
      (try clear zw)
      go_wp2_with fail
      refine (one_new (fun x => decide (0 ≤ x ∧ x ≤ 5000)) v3 B g _ 5 _ (by omega) rr (by omega) rfl rfl).mono ?_
      rintro e v4 ⟨a4, rfl, ha4, rn, bb⟩
      replace ha4 := of_decide_eq_true ha4
      replace ownl := ownl.kept bb (.inr (fun e => by have := ltl g e; omega))
      replace bw := K.But.trans bw bb
      have zw := bw.size
      have y4 := bb.size
      clear bb rr
      have rr := rn
      clear rn
      go_wp2_with (at_builtin; refine app3 rfl _ _ 38 rfl w.heap.size 88 4 32 i0 (.agg #[.int .i64 0, .int .i64 0, .int .i64 0, .int .i64 0]) Try.underlying38 hi hz0 hz1 hz2 rfl (by decide) v4 _ j _ (by rfl) ownl _ _ (by rfl) (by first | rfl | simp) (by rfl) (by rfl) (by unfold maxLen; omega) (by omega) (by omega) ?_; intro A4 c4 w4 own4 hg4 hn4; skip)
      have r4 := Rdr.grown rr (by omega) hg4 (fun e => by have := ltl g e; omega) (fun i e => by have := ltl i e; omega)
      have bw4 := bw.grown hg4 (fun i e => by right; have := ltl i e; omega)
      have OW := Lib.hid (show w4.ownsRow w.heap.size 88 4 (.slice A4 (j + 1) c4) (j + 1) (K.qds (l ++ [(a1, a2, a3, a4)])) by rw [K.qds_append]; exact own4)
      clear own4 hg4 hn4 ownl rr bw ltl
      go_wp2
      go_roundw
      case rel => exact ⟨N - 1, j + 1, q + 4, c4, A4, _, by go_num, by omega, by omega, by omega, rfl, OW.out, r4, bw4⟩
      case measure => simp [intOf]; omega
set_option maxRecDepth 100000 in
set_option maxHeartbeats 2000000 in
theorem anyShop_c (w : World) (B g p : Nat) (hp : p ≤ 600000) (hB : B ≤ w.heap.size) (h0 : Rdr w B g p) : Calls Try.prog 88 #[.pointer (some ⟨g, 0, none⟩)] w (ShopD w B g p) := by
  have hgl := h0.lt
  go_enter Try.func88, Try.ntmps88
  go_wp2_with fail
  refine (someShop_c w B g p (by omega) hB h0).mono ?_
  rintro e w1 ⟨A, n, c, l, q, rfl, hn1, hn, ownl, rr, hq, bw⟩
  have zw := bw.size
  have ltl := ownl.lt
  clear h0
  (try clear zw)
  go_wp2_with fail
  refine (pick_c _ w1 B g _ (by omega) rr).mono ?_
  rintro e v1 ⟨u, rfl, hu, rn, bb⟩
  have hu0 := hu.1
  have hu1 := hu.2.1 (by omega)
  clear hu
  replace ownl := ownl.kept bb (.inr (fun e => by have := ltl g e; omega))
  replace bw := K.But.trans bw bb
  have zw := bw.size
  have y1 := bb.size
  clear bb rr
  have rr := rn
  clear rn
  by_cases hu : u = 0
  · subst hu
    (try clear zw)
    go_wp2_with fail
    refine (one_new (fun x => decide (0 ≤ x ∧ x ≤ 5001)) v1 B g _ 3 _ (by omega) rr (by omega) rfl rfl).mono ?_
    rintro e v2 ⟨a1, rfl, ha1, rn, bb⟩
    replace ha1 := of_decide_eq_true ha1
    replace ownl := ownl.kept bb (.inr (fun e => by have := ltl g e; omega))
    replace bw := K.But.trans bw bb
    have zw := bw.size
    have y2 := bb.size
    clear bb rr
    have rr := rn
    clear rn
    (try clear zw)
    go_wp2_with fail
    refine (one_new (fun x => decide (-1 ≤ x ∧ x ≤ 3)) v2 B g _ 3 _ (by omega) rr (by omega) rfl rfl).mono ?_
    rintro e v3 ⟨a2, rfl, ha2, rn, bb⟩
    replace ha2 := of_decide_eq_true ha2
    replace ownl := ownl.kept bb (.inr (fun e => by have := ltl g e; omega))
    replace bw := K.But.trans bw bb
    have zw := bw.size
    have y3 := bb.size
    clear bb rr
    have rr := rn
    clear rn
    (try clear zw)
    go_wp2_with fail
    refine (one_new (fun x => decide (0 ≤ x ∧ x ≤ 301)) v3 B g _ 2 _ (by omega) rr (by omega) rfl rfl).mono ?_
    rintro e v4 ⟨a3, rfl, ha3, rn, bb⟩
    replace ha3 := of_decide_eq_true ha3
    replace ownl := ownl.kept bb (.inr (fun e => by have := ltl g e; omega))
    replace bw := K.But.trans bw bb
    have zw := bw.size
    have y4 := bb.size
    clear bb rr
    have rr := rn
    clear rn
    (try clear zw)
    go_wp2_with fail
    refine (one_new (fun x => decide (0 ≤ x ∧ x ≤ 5001)) v4 B g _ 2 _ (by omega) rr (by omega) rfl rfl).mono ?_
    rintro e v5 ⟨a4, rfl, ha4, rn, bb⟩
    replace ha4 := of_decide_eq_true ha4
    replace ownl := ownl.kept bb (.inr (fun e => by have := ltl g e; omega))
    replace bw := K.But.trans bw bb
    have zw := bw.size
    have y5 := bb.size
    clear bb rr
    have rr := rn
    clear rn
    obtain ⟨gg, rfl⟩ : ∃ gg, A = some ⟨gg, 0, none⟩ := by
      rcases ownl.2 with ⟨hv, h0⟩ | ⟨gg, cap, cur, hv, _⟩
      · omega
      · injection hv with h1; exact ⟨gg, h1⟩
    have hll : l.length = n := by have := ownl.1; rw [K.qds_len] at this; omega
    have p0 := K.qds_at (show l[0]? = some (l[0]'(by omega)) from List.getElem?_eq_getElem _)
    have d1 := ownl.cellAt (0 * 4) (by omega)
    have d2 := ownl.cellAt (0 * 4 + 1) (by omega)
    have d3 := ownl.cellAt (0 * 4 + 2) (by omega)
    have d4 := ownl.cellAt (0 * 4 + 3) (by omega)
    rw [p0.1] at d1
    rw [p0.2.1] at d2
    rw [p0.2.2.1] at d3
    rw [p0.2.2.2] at d4
    have f1 := ownl.frozenAt (0 * 4)
    have f2 := ownl.frozenAt (0 * 4 + 1)
    have f3 := ownl.frozenAt (0 * 4 + 2)
    have f4 := ownl.frozenAt (0 * 4 + 3)
    have s1 := ownl.stored (0 * 4) (.int .i64 a1)
    have s2 := s1.1.stored (0 * 4 + 1) (.int .i64 a2)
    have s3 := s2.1.stored (0 * 4 + 2) (.int .i64 a3)
    have s4 := s3.1.stored (0 * 4 + 3) (.int .i64 a4)
    have e := K.qds_set l 0 (a1, a2, a3, a4)
    simp only at e
    rw [e] at s4
    have lg := ltl gg rfl
    have bS := K.But.trans (K.But.trans (K.But.trans s1.2 s2.2) s3.2) s4.2
    have r6 := Rdr.grown rr (by omega) bS (by intro e; injection e with e; omega) (by intro i e; injection e with e; omega)
    have bw6 := bw.grown bS (by intro i e; injection e with e; right; omega)
    have HS := Lib.hid (And.intro s4.1 (And.intro r6 bw6))
    clear ownl s1 s2 s3 s4 e p0 bS r6 bw6 rr bw ltl
    go_wp2
    go_ret
    exact ⟨_, _, _, l.set 0 (a1, a2, a3, a4), _, rfl, by omega, HS.out.1, HS.out.2.1, by omega, HS.out.2.2⟩
  · have e0 : (u == 0) = false := by simp [hu]
    by_cases hu1 : u = 1
    · subst hu1
      have OW : Hid (v1.ownsRow w.heap.size 88 4 (.slice none 0 0) 0 (K.qds [])) := ⟨rfl, Or.inl ⟨rfl, rfl⟩⟩
      clear ownl ltl hu e0
      go_wp2
      go_ret
      exact ⟨none, 0, 0, [], _, rfl, by omega, OW.out, rr, by omega, bw⟩
    · have e1 : (u == 1) = false := by simp [hu1]
      clear hu hu1
      go_wp2
      go_ret
      exact ⟨_, _, _, l, _, rfl, by omega, ownl, rr, by omega, bw⟩
def CartB (l : List (Int × Int)) : Prop := ∀ x ∈ l, (-1 ≤ x.1 ∧ x.1 ≤ 10) ∧ 0 ≤ x.2 ∧ x.2 ≤ 21
theorem CartB.nil : CartB [] := by intro x h; cases h
theorem CartB.app {l : List (Int × Int)} (h : CartB l) {a b : Int} (ha : -1 ≤ a ∧ a ≤ 10) (hb : 0 ≤ b ∧ b ≤ 21) : CartB (l ++ [(a, b)]) := by
  intro x hx
  rcases List.mem_append.1 hx with h1 | h1
  · exact h x h1
  · rw [List.mem_singleton] at h1; subst h1; exact ⟨ha, hb⟩
theorem CartB.set {l : List (Int × Int)} (h : CartB l) {a b : Int} (k : Nat) (ha : -1 ≤ a ∧ a ≤ 10) (hb : 0 ≤ b ∧ b ≤ 21) : CartB (l.set k (a, b)) := by
  intro x hx
  rcases List.mem_or_eq_of_mem_set hx with h1 | h1
  · exact h x h1
  · subst h1; exact ⟨ha, hb⟩
/-- A cart has been drawn. -/
def CartD (w : World) (B g p : Nat) (e : Ending) (w' : World) : Prop := ∃ (A : Option Addr) (n c : Nat) (l : List (Int × Int)) (q : Nat), e = .returned (.slice A n c) ∧ n ≤ 8 ∧ CartB l ∧ w'.ownsRow w.heap.size 86 2 (.slice A n c) n (K.prs l) ∧ Rdr w' B g q ∧ q ≤ p + 30 ∧ K.But g w w'
theorem infoLineC : (Try.prog.info? 86).map (fun i => (i.zero, i.size, i.bytes)) = some (some (.agg #[.int .i64 0, .int .i64 0]), 2, 16) := by kernel_rfl
set_option maxRecDepth 100000 in
set_option maxHeartbeats 2000000 in
theorem someCart_c (w : World) (B g p : Nat) (S : Option Addr) (sn sc : Nat) (hsn : sn ≤ 10) (hp : p ≤ 700000) (hB : B ≤ w.heap.size) (h0 : Rdr w B g p) : Calls Try.prog 89 #[.pointer (some ⟨g, 0, none⟩), .slice S sn sc] w (CartD w B g p) := by
  obtain ⟨i0, hi, hz0, hz1, hz2⟩ := info_parts infoLineC
  have hgl := h0.lt
  have ownl : (w.alloc (.cells #[] 86)).ownsRow w.heap.size 86 2 (.slice (some ⟨w.heap.size, 0, none⟩) 0 0) 0 (K.prs []) := World.ownsRow_lit w #[] 0 (Nat.le_refl _) (by unfold maxLen; omega) rfl
  have hk0 := kept1 w (.cells #[] 86)
  have rr := h0.kept hk0
  have bw : K.But g w (w.alloc (.cells #[] 86)) := K.But.of_kept hk0
  generalize hw0 : w.alloc (.cells #[] 86) = w0 at ownl rr bw
  clear hk0 h0
  go_enter Try.func89, Try.ntmps89
  go_wp2_with fail
  clear hw0
  go_loopw [5, 6] (fun v m wr => ∃ (k j q c : Nat) (A : Option Addr) (l : List (Int × Int)), m = .int .i64 k ∧ k ≤ sn ∧ j ≤ 8 ∧ q ≤ p + 2 * k ∧ v = .slice A j c ∧ CartB l ∧ wr.ownsRow w.heap.size 86 2 (.slice A j c) j (K.prs l) ∧ Rdr wr B g q ∧ K.But g w wr) (fun _ m _ => sn - (intOf m).toNat)
  case atStart => exact ⟨0, 0, p, _, _, [], rfl, by omega, by omega, by omega, rfl, CartB.nil, ownl, rr, bw⟩
  case round =>
    clear ownl rr bw
    obtain ⟨k, j, q, c', A', l, rfl, hk, hj, hq, rfl, hcb, ownl, rr, bw⟩ := hrel
    have ltl := ownl.lt
    have zw := bw.size
    have HC := Lib.hid hcb
    clear hcb
    by_cases hlt : k < sn
    · by_cases hj8 : j < 8
      · skip
        (try clear zw)
        go_wp2_with fail
        refine (pick_c _ wr B g _ (by omega) rr).mono ?_
        rintro e v1 ⟨x, rfl, hx, rn, bb⟩
        have hx0 := hx.1
        have hx1 := hx.2.1 (by omega)
        clear hx
        replace ownl := ownl.kept bb (.inr (fun e => by have := ltl g e; omega))
        replace bw := K.But.trans bw bb
        have zw := bw.size
        have y1 := bb.size
        clear bb rr
        have rr := rn
        clear rn
        by_cases hx : x = 0
        · subst hx
          go_wp2
          go_roundw
          case rel => exact ⟨k + 1, j, q + 1, c', A', l, by go_num, by omega, by omega, by omega, rfl, HC.out, ownl, rr, bw⟩
          case measure => simp [intOf]; omega
        · have hx2 : 1 ≤ x := by omega
          have hxd : decide (0 < x) = true := by simp; omega
          (try clear zw)
          go_wp2_with fail
          refine (one_new (fun x => decide (1 ≤ x ∧ x ≤ 20)) v1 B g _ 6 _ (by omega) rr (by omega) rfl rfl).mono ?_
          rintro e v2 ⟨b, rfl, hb, rn, bb⟩
          replace hb := of_decide_eq_true hb
          replace ownl := ownl.kept bb (.inr (fun e => by have := ltl g e; omega))
          replace bw := K.But.trans bw bb
          have zw := bw.size
          have y2 := bb.size
          clear bb rr
          have rr := rn
          clear rn
          go_wp2_with (at_builtin; go_loud (refine app3 rfl _ _ 39 rfl w.heap.size 86 2 16 i0 (.agg #[.int .i64 0, .int .i64 0]) Try.underlying39 hi hz0 hz1 hz2 rfl (by decide) v2 _ j _ (by rfl) ownl _ _ (by rfl) (by first | rfl | simp) (by rfl) (by rfl) (by unfold maxLen; omega) (by omega) (by omega) ?_); intro A4 c4 w4 own4 hg4 hn4; skip)
          have r4 := Rdr.grown rr (by omega) hg4 (fun e => by have := ltl g e; omega) (fun i e => by have := ltl i e; omega)
          have bw4 := bw.grown hg4 (fun i e => by right; have := ltl i e; omega)
          have OW := Lib.hid (show w4.ownsRow w.heap.size 86 2 (.slice A4 (j + 1) c4) (j + 1) (K.prs (l ++ [((k : Int), b)])) by rw [K.prs_append]; exact own4)
          clear own4 hg4 hn4 ownl rr bw ltl
          go_wp2
          go_roundw
          case rel => exact ⟨k + 1, j + 1, q + 2, c4, A4, _, by go_num, by omega, by omega, by omega, rfl, HC.out.app (by omega) (by omega), OW.out, r4, bw4⟩
          case measure => simp [intOf]; omega
      · have hd : decide (j < 8) = false := by simp; omega
        go_wp2
        go_ret
        exact ⟨_, _, _, l, q, rfl, by omega, HC.out, ownl, rr, by omega, bw⟩
    · go_wp2
      go_ret
      exact ⟨_, _, _, l, q, rfl, by omega, HC.out, ownl, rr, by omega, bw⟩
/-- A shop and a cart have been drawn. -/
def BasketD (w : World) (B g p : Nat) (e : Ending) (w' : World) : Prop := ∃ (S : Option Addr) (sn sc : Nat) (ls : List K.Q4) (A : Option Addr) (n c : Nat) (l : List (Int × Int)) (q : Nat), e = .returned (.tuple #[.slice S sn sc, .slice A n c]) ∧ sn ≤ 10 ∧ n ≤ 9 ∧ CartB l ∧ w'.ownsRow w.heap.size 88 4 (.slice S sn sc) sn (K.qds ls) ∧ w'.ownsRow w.heap.size 86 2 (.slice A n c) n (K.prs l) ∧ Rdr w' B g q ∧ q ≤ p + 90 ∧ K.But g w w'
set_option maxRecDepth 100000 in
set_option maxHeartbeats 2000000 in
theorem anyBasket_c (w : World) (B g p : Nat) (hp : p ≤ 500000) (hB : B ≤ w.heap.size) (h0 : Rdr w B g p) : Calls Try.prog 56 #[.pointer (some ⟨g, 0, none⟩)] w (BasketD w B g p) := by
  obtain ⟨i0, hi, hz0, hz1, hz2⟩ := info_parts infoLineC
  have hgl := h0.lt
  go_enter Try.func56, Try.ntmps56
  go_wp2_with fail
  refine (anyShop_c w B g p (by omega) hB h0).mono ?_
  rintro e w1 ⟨S, sn, sc, ls, q1, rfl, hsn, owns, rr, hq1, bw⟩
  have z1 := bw.size
  have lts := owns.lt
  clear h0
  go_wp2_with fail
  refine (someCart_c w1 B g q1 S sn sc hsn (by omega) (by omega) rr).mono ?_
  rintro e w2 ⟨A, n, c, l, q, rfl, hn, hcb, ownl, rn, hq2, bb⟩
  have HC := Lib.hid hcb
  clear hcb
  replace owns := owns.kept bb (.inr (fun e => by have := lts g e; omega))
  replace bw := K.But.trans bw bb
  have ltl := ownl.lt
  have zb := bb.size
  clear bb rr
  have rr := rn
  clear rn
  (try clear zw)
  go_wp2_with fail
  refine (pick_c _ w2 B g _ (by omega) rr).mono ?_
  rintro e v1 ⟨u, rfl, hu, rn, bb⟩
  have hu0 := hu.1
  have hu1 := hu.2.1 (by omega)
  clear hu
  replace owns := owns.kept bb (.inr (fun e => by have := lts g e; omega))
  replace ownl := ownl.kept bb (.inr (fun e => by have := ltl g e; omega))
  replace bw := K.But.trans bw bb
  have zw := bw.size
  have y1 := bb.size
  clear bb rr
  have rr := rn
  clear rn
  by_cases hu : u = 0
  · subst hu
    (try clear zw)
    go_wp2_with fail
    refine (one_new (fun x => decide (-1 ≤ x ∧ x ≤ 10)) v1 B g _ 3 _ (by omega) rr (by omega) rfl rfl).mono ?_
    rintro e v2 ⟨b, rfl, hb, rn, bb⟩
    replace hb := of_decide_eq_true hb
    replace owns := owns.kept bb (.inr (fun e => by have := lts g e; omega))
    replace ownl := ownl.kept bb (.inr (fun e => by have := ltl g e; omega))
    replace bw := K.But.trans bw bb
    have zw := bw.size
    have y2 := bb.size
    clear bb rr
    have rr := rn
    clear rn
    go_wp2_with (at_builtin; go_loud (refine app3 rfl _ _ 39 rfl w1.heap.size 86 2 16 i0 (.agg #[.int .i64 0, .int .i64 0]) Try.underlying39 hi hz0 hz1 hz2 rfl (by decide) v2 _ n _ (by rfl) ownl _ _ (by rfl) (by first | rfl | simp) (by rfl) (by rfl) (by unfold maxLen; omega) (by omega) (by omega) ?_); intro A4 c4 w4 own4 hg4 hn4; skip)
    have r4 := Rdr.grown rr (by omega) hg4 (fun e => by have := ltl g e; omega) (fun i e => by have := ltl i e; omega)
    have bw4 := bw.grown hg4 (fun i e => by right; have := ltl i e; omega)
    have os4 := owns.kept hg4 (by
      cases hO : (Value.slice S sn sc).ownBlock with
      | none => exact .inl rfl
      | some i => exact .inr (fun e => by have := lts i hO; have := ltl i e.symm; omega))
    have OW := Lib.hid (own_monoP (show w4.ownsRow w1.heap.size 86 2 (.slice A4 (n + 1) c4) (n + 1) (K.prs (l ++ [(b, 1)])) by rw [K.prs_append]; exact own4) (by omega : w.heap.size ≤ w1.heap.size))
    clear own4 hg4 hn4 ownl owns rr bw ltl
    go_wp2
    go_ret2
    exact ⟨S, sn, sc, ls, A4, n + 1, c4, _, _, rfl, hsn, by omega, HC.out.app (by omega) (by omega), os4, OW.out, r4, by omega, bw4⟩
  · have e0 : (u == 0) = false := by simp [hu]
    by_cases hu1 : u = 1
    · subst hu1
      by_cases hn0 : n = 0
      · subst hn0
        have OW := Lib.hid (own_monoP ownl (by omega : w.heap.size ≤ w1.heap.size))
        clear ownl hu e0
        go_wp2
        go_ret2
        exact ⟨S, sn, sc, ls, A, 0, c, l, _, rfl, hsn, by omega, HC.out, owns, OW.out, rr, by omega, bw⟩
      · have hn1 : 1 ≤ n := by omega
        have hnd : decide (0 < n) = true := by simp; omega
        (try clear zw)
        go_wp2_with fail
        refine (one_new (fun x => decide (0 ≤ x ∧ x ≤ 21)) v1 B g _ 3 _ (by omega) rr (by omega) rfl rfl).mono ?_
        rintro e v2 ⟨b, rfl, hb, rn, bb⟩
        replace hb := of_decide_eq_true hb
        replace owns := owns.kept bb (.inr (fun e => by have := lts g e; omega))
        replace ownl := ownl.kept bb (.inr (fun e => by have := ltl g e; omega))
        replace bw := K.But.trans bw bb
        have zw := bw.size
        have y2 := bb.size
        clear bb rr
        have rr := rn
        clear rn
        obtain ⟨gg, rfl⟩ : ∃ gg, A = some ⟨gg, 0, none⟩ := by
          rcases ownl.2 with ⟨hv, h0⟩ | ⟨gg, cap, cur, hv, _⟩
          · omega
          · injection hv with h1; exact ⟨gg, h1⟩
        have hll : l.length = n := by have := ownl.1; rw [K.prs_len] at this; omega
        obtain ⟨x0, y0, hx0⟩ : ∃ x y, l[0]? = some (x, y) := ⟨_, _, List.getElem?_eq_getElem (by omega)⟩
        have p0 := K.prs_at hx0
        have d1 := ownl.cellAt (0 * 2) (by omega)
        have d2 := ownl.cellAt (0 * 2 + 1) (by omega)
        rw [p0.1] at d1
        rw [p0.2] at d2
        have f2 := ownl.frozenAt (0 * 2 + 1)
        have s2 := ownl.stored (0 * 2 + 1) (.int .i64 b)
        have e : ((K.prs l).set (0 * 2 + 1) (.int .i64 b)) = K.prs (l.set 0 (x0, b)) := by
          cases l with
          | nil => cases hx0
          | cons x l => simp at hx0; subst hx0; rfl
        rw [e] at s2
        have lg := ltl gg rfl
        have bS := s2.2
        have r6 := Rdr.grown rr (by omega) bS (by intro e; injection e with e; omega) (by intro i e; injection e with e; omega)
        have bw6 := bw.grown bS (by intro i e; injection e with e; right; omega)
        have os6 := owns.kept bS (by
          cases hO : (Value.slice S sn sc).ownBlock with
          | none => exact .inl rfl
          | some i => exact .inr (fun e => by injection e with e; have := lts i hO; omega))
        have hb0 := HC.out _ (List.mem_of_getElem? hx0)
        have HS := Lib.hid (And.intro (own_monoP s2.1 (by omega : w.heap.size ≤ w1.heap.size)) (And.intro r6 bw6))
        clear ownl s2 e p0 bS r6 bw6 rr bw ltl owns hu e0
        go_wp2
        go_ret2
        exact ⟨S, sn, sc, ls, _, n, c, l.set 0 (x0, b), _, rfl, hsn, by omega, HC.out.set 0 hb0.1 (by omega), os6, HS.out.1, HS.out.2.1, by omega, HS.out.2.2⟩
    · have e1 : (u == 1) = false := by simp [hu1]
      have OW := Lib.hid (own_monoP ownl (by omega : w.heap.size ≤ w1.heap.size))
      clear hu hu1 ownl
      go_wp2
      go_ret2
      exact ⟨S, sn, sc, ls, A, n, c, l, _, rfl, hsn, by omega, HC.out, owns, OW.out, rr, by omega, bw⟩
/-- A shop and a cart have been drawn; all that was there is as it was. -/
def DrawnB (w : World) (e : Ending) (w' : World) : Prop := ∃ (S : Option Addr) (sn sc : Nat) (ls : List K.Q4) (A : Option Addr) (n c : Nat) (l : List (Int × Int)), e = .returned (.tuple #[.slice S sn sc, .slice A n c]) ∧ sn ≤ 10 ∧ n ≤ 9 ∧ w'.ownsRow w.heap.size 88 4 (.slice S sn sc) sn (K.qds ls) ∧ w'.ownsRow w.heap.size 86 2 (.slice A n c) n (K.prs l) ∧ K.Kept w w'
/-- A shop, a cart and two numbers have been drawn; all that was there is as it was. -/
def DrawnBN (w : World) (e : Ending) (w' : World) : Prop := ∃ (S : Option Addr) (sn sc : Nat) (ls : List K.Q4) (A : Option Addr) (n c : Nat) (l : List (Int × Int)) (a z : Int), e = .returned (.tuple #[.slice S sn sc, .slice A n c, .int .i64 a, .int .i64 z]) ∧ sn ≤ 10 ∧ n ≤ 9 ∧ (-1 ≤ a ∧ a ≤ 12 ∧ 0 ≤ z ∧ z ≤ 22) ∧ w'.ownsRow w.heap.size 88 4 (.slice S sn sc) sn (K.qds ls) ∧ w'.ownsRow w.heap.size 86 2 (.slice A n c) n (K.prs l) ∧ K.Kept w w'
end C
end Go.Proofs.Ytapjlbcpfemeiaa

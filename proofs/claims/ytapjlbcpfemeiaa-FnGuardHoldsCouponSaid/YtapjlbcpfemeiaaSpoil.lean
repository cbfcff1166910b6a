/-
  Contracts of spoil, of the generators of coupons and of the arguments of PointOf. Conditions: a position below some hundred thousands.
-/
import Derived.Test.YtapjlbcpfemeiaaIntsW
import Derived.Test.YtapjlbcpfemeiaaDrawC
namespace Go.Proofs.Ytapjlbcpfemeiaa
open Go.RowKit
namespace C

/-- Where a slice lies, if it has elements: not below this block. -/
def LB (base : Nat) (A : Option Addr) (n : Nat) : Prop := 0 < n → ∀ b off s, A = some ⟨b, off, s⟩ → base ≤ b
theorem LB.zero (base : Nat) (A : Option Addr) : LB base A 0 := fun h => absurd h (by omega)
theorem lb_own {w : World} {base e size n c : Nat} {A : Option Addr} {xs : List Value} (h : w.ownsRow base e size (.slice A n c) n xs) : LB base A n := fun hn b off s hA => by
  subst hA
  rcases h.2 with ⟨hv, h0⟩ | ⟨g, cap, cur, hv, hg, _⟩
  · omega
  · injection hv with h1
    injection h1 with h1
    injection h1 with h1
    omega
theorem LB.mono {base base' : Nat} {A : Option Addr} {n : Nat} (h : LB base A n) (hb : base' ≤ base) : LB base' A n := fun hn b off s hA => Nat.le_trans hb (h hn b off s hA)
theorem ir_but {w w' : World} {base g size n : Nat} {A : Option Addr} {xs : List Value} (h : K.Rd w w.heap.size size A n xs) (lb : LB base A n) (hg : g < base) (k : K.But g w w') : K.Rd w' w'.heap.size size A n xs := by
  refine ⟨h.1, fun hn => ?_⟩
  obtain ⟨b, off, e, hb, hc⟩ := h.2 hn
  have := lb hn b off none e
  exact ⟨b, off, e, Nat.lt_of_lt_of_le hb k.size, fun j u hu => (k.cell (p := ⟨b, off + j, none⟩) hb (by simp; omega)).trans (hc j u hu)⟩
theorem copyInts_c (w : World) (A : Option Addr) (n c : Nat) (l : List Int) (h : K.IR w w.heap.size A n l) (hn : n ≤ 1099511627776) : Calls Try.prog 64 #[.slice A n c] w (Fresh w l) := by
  have L := K.IR.len h
  obtain ⟨i0, hi, hz0, hz1, hz2⟩ := info_parts info_int
  have hnew : (w.alloc (.cells #[] 3)).ownsRow w.heap.size 3 1 (.slice (some ⟨w.heap.size, 0, none⟩) 0 0) 0 [] := World.ownsRow_lit w #[] 0 (Nat.le_refl _) (by unfold maxLen; omega) rfl
  have k0 : K.Kept w (w.alloc (.cells #[] 3)) := (Below.refl _ _).alloc (Nat.le_refl _) _
  have hr := K.Rd.below h k0
  go_enter Try.func64, Try.ntmps64
  go_wp2_with (at_builtin; refine K.wpList_appAny rfl _ _ 28 rfl w.heap.size 3 1 8 i0 (.int .i64 0) Try.underlying28 hi hz0 hz1 hz2 rfl (by decide) _ _ 0 [] (by rfl) hnew _ A n c _ (by rfl) hr (ints_oneCell _ _) (by unfold maxLen; omega) (by omega) k0.size ?_; intro A1 c1 w1 hown1 hg1)
  have k1 : K.Kept w w1 := K.kept_own k0 hnew hg1 k0.size
  rw [Nat.zero_add, List.nil_append] at hown1
  go_ret
  exact ⟨A1, n, c1, rfl, L, hown1, k1⟩
/-- A list has been spoilt, or not: some list, not much longer. -/
def Spoilt (k : Nat) (w : World) (B g p : Nat) (e : Ending) (w' : World) : Prop := ∃ (A : Option Addr) (n c : Nat) (l : List Int) (q : Nat), e = .returned (.slice A n c) ∧ n ≤ k + 1 ∧ K.IR w' w'.heap.size A n l ∧ LB w.heap.size A n ∧ Rdr w' B g q ∧ q ≤ p + 3 ∧ K.But g w w'
set_option maxRecDepth 100000 in
set_option maxHeartbeats 1600000 in
theorem spoil_c (w : World) (B g p n c : Nat) (A : Option Addr) (l : List Int) (x : Int) (hp : p ≤ 900000) (h0 : Rdr w B g p) (h : K.IR w w.heap.size A n l) (hn : n ≤ 1000) :
    Calls Try.prog 48 #[.pointer (some ⟨g, 0, none⟩), .slice A n c, .int .i64 x] w (Spoilt n w B g p) := by
  obtain ⟨i0, hi, hz0, hz1, hz2⟩ := info_parts info_int
  have hgl := h0.lt
  go_enter Try.func48, Try.ntmps48
  go_wp2_with fail
  refine (copyInts_c w A n c l h (by omega)).mono ?_
  rintro e w1 ⟨A1, n1, c1, rfl, hl1, own1, k1⟩
  have e1 : n1 = n := by have := K.IR.len h; omega
  subst e1
  have s1 := own1.lt
  have r1 := h0.kept k1
  have z1 := k1.size
  have hnc : n1 ≤ c1 := by obtain ⟨A', c', hv, hh, _⟩ := K.own_slice own1; injection hv with _ _ hv; omega
  go_wp2_with fail
  refine (pick_c _ _ B g p (by omega) r1).mono ?_
  rintro e w2 ⟨y, rfl, hy, r2, b2⟩
  have own2 := own1.kept b2 (.inr (fun e => by have := s1 g e; omega))
  have b12 := (K.But.of_kept (g := g) k1).trans b2
  have z2 := b2.size
  clear own1 h h0 k1 b2 r1
  by_cases y0 : y = 0
  · subst y0
    clear hy
    have s2 := own2.lt
    go_wp2_with (at_builtin; refine K.wpList_app rfl _ _ 28 rfl w.heap.size 3 1 8 i0 (.int .i64 0) Try.underlying28 hi hz0 hz1 hz2 rfl (by decide) w2 _ n1 _ (by rfl) own2 _ (by rfl) (by rfl) (by rfl) (by unfold maxLen; omega) (by omega) (by omega) ?_; intro A3 c3 w3 own3 g3)
    have hne : (Value.slice A1 n1 c1).ownBlock ≠ some g := fun e => by have := s2 g e; omega
    have hg3 : w3.heap[g]? = w2.heap[g]? := g3.block g r2.lt (fun e => hne e.symm)
    go_ret
    refine ⟨A3, n1 + 1, c3, l ++ [x], p + 1, rfl, Nat.le_refl _, ?_, lb_own own3, ?_, by omega, b12.grown g3 (fun i hi => .inr (by have := s2 i hi; omega))⟩
    · have := K.rd_own own3
      unfold K.IR
      rw [List.map_append]; exact this
    · obtain ⟨hB, A, m, c, zs, hgg, hr, hm, hz⟩ := r2
      exact ⟨hB, A, m, c, zs, hg3.trans hgg, hr.keep (fun q hq => World.cell?_of_block (g3.block q.block (by omega) (fun e => by have := s2 q.block e.symm; omega))), hm, hz⟩
  by_cases y1 : y = 1
  · subst y1
    clear hy y0
    by_cases hn0 : n1 = 0
    · subst hn0
      go_wp2
      go_ret
      exact ⟨_, _, _, l, _, rfl, by omega, K.rd_own own2, lb_own own2, r2, by omega, b12⟩
    · obtain ⟨b, rfl⟩ : ∃ b, A1 = some ⟨b, 0, none⟩ := by
        rcases own2.2 with ⟨hv, h0⟩ | ⟨g, cap, cur, hv, _⟩
        · exact absurd h0 hn0
        · injection hv with h1; exact ⟨g, h1⟩
      have RT := K.Rd.tail (K.rd_own own2) (by omega)
      have LBT := Lib.hid (show LB w.heap.size ((some ⟨b, 0, none⟩ : Option Addr).map (·.add 1)) (n1 - 1) from fun _ b' off' s' e => by have := (own2.lt b rfl).1; simp [Addr.add] at e; omega)
      by_cases hc1 : c1 = 1
      · subst hc1
        have e1 : n1 = 1 := by omega
        subst e1
        go_wp2
        go_ret
        exact ⟨_, _, _, [], _, rfl, by omega, K.Rd.nil _ _ _ _, LB.zero _ _, r2, by omega, b12⟩
      · have hn1 : (1 : Int) ≤ (n1 : Int) := by omega
        go_wp2
        go_ret
        refine ⟨_, _, _, l.drop 1, _, rfl, by omega, ?_, LBT.out, r2, by omega, b12⟩
        unfold K.IR
        rw [List.map_drop]; exact RT
  by_cases y2 : y = 2
  · subst y2
    clear hy y0 y1
    by_cases hn0 : n1 = 0
    · subst hn0
      go_wp2
      go_ret
      exact ⟨_, _, _, l, _, rfl, by omega, K.rd_own own2, lb_own own2, r2, by omega, b12⟩
    · obtain ⟨b, rfl⟩ : ∃ b, A1 = some ⟨b, 0, none⟩ := by
        rcases own2.2 with ⟨hv, h0⟩ | ⟨g, cap, cur, hv, _⟩
        · exact absurd h0 hn0
        · injection hv with h1; exact ⟨g, h1⟩
      have s2 := own2.lt
      have hbg : b ≠ g := by have := s2 b rfl; omega
      go_wp2_with fail
      refine (pick_c _ _ B g _ (by omega) r2).mono ?_
      rintro e w3 ⟨i, rfl, hi3, r3, b3⟩
      have own3 := own2.kept b3 (.inr (fun e => by have := s2 g e; omega))
      have b13 := b12.trans b3
      have z3 := b3.size
      clear own2 b12 b3 r2
      go_wp2_with fail
      refine (one_new (fun _ => true) w3 B g _ 4 _ (by omega) r3 (by omega) rfl rfl).mono ?_
      rintro e w4 ⟨u, rfl, hu, r4, b4⟩
      have own4 := own3.kept b4 (.inr (fun e => by have := s2 g e; omega))
      have b14 := b13.trans b4
      have z4 := b4.size
      clear own3 b13 b4 r3
      obtain ⟨k, rfl⟩ := Int.eq_ofNat_of_zero_le hi3.1
      have hk : k < n1 := by have := hi3.2.1 (by omega); omega
      have hll : l.length = n1 := by have := own4.1; simpa using this
      have hx : l[k]? = some (l[k]'(by omega)) := List.getElem?_eq_getElem (by omega)
      have c4 : w4.cell? ⟨b, k, none⟩ = some (.int .i64 (l[k]'(by omega))) := by rw [own4.cellAt k (by omega), List.getElem?_map, hx]; rfl
      have f4 := own4.frozenAt k
      have st := own4.stored k (.int .i64 u)
      have HST := Lib.hid st
      have s4 := own4.lt
      clear own4 st hi3 hx
      go_wp2
      go_ret
      refine ⟨_, _, _, l.set k u, p + 1 + 1 + 1, rfl, by omega, ?_, fun _ b' off' s' e => by (have := (s4 b rfl).1; injection e with e; injection e; omega), ?_, by omega, b14.setCell (p := ⟨b, k, none⟩) (.inr (by have := s4 b rfl; exact this.1)) _⟩
      · have := HST.out.1
        rw [map_set] at this
        exact K.rd_own this
      · obtain ⟨hB, A, m, c, zs, hgg, hr, hm, hz⟩ := r4
        have hb4 := HST.out.2
        have hgl4 : g < w4.heap.size := (Array.getElem?_eq_some_iff.1 hgg).1
        exact ⟨hB, A, m, c, zs, (hb4.block g hgl4 (fun e => hbg (by injection e with e; exact e.symm))).trans hgg, hr.keep (fun q hq => World.cell?_of_block (hb4.block q.block (by omega) (fun e => by injection e with e; have := s4 b rfl; omega))), hm, hz⟩
  · have e0 : (y == 0) = false := by simp [y0]
    have e1 : (y == 1) = false := by simp [y1]
    have e2 : (y == 2) = false := by simp [y2]
    clear y0 y1 y2 hy
    go_wp2
    go_ret
    exact ⟨_, _, _, l, _, rfl, by omega, K.rd_own own2, lb_own own2, r2, by omega, b12⟩
/-- Coupons have been drawn: some numbers in memory of the call's own. -/
def CouponsD (w : World) (B g p : Nat) (e : Ending) (w' : World) : Prop := ∃ (A : Option Addr) (n c : Nat) (l : List Int) (q : Nat), e = .returned (.slice A n c) ∧ n ≤ 3 ∧ w'.ownsRow w.heap.size 3 1 (.slice A n c) n (l.map (Value.int .i64)) ∧ Rdr w' B g q ∧ q ≤ p + 4 ∧ K.But g w w'
set_option maxRecDepth 100000 in
set_option maxHeartbeats 2000000 in
theorem someCoupons_c (w : World) (B g p : Nat) (hp : p ≤ 700000) (hB : B ≤ w.heap.size) (h0 : Rdr w B g p) : Calls Try.prog 46 #[.pointer (some ⟨g, 0, none⟩)] w (CouponsD w B g p) := by
  obtain ⟨i0, hi, hz0, hz1, hz2⟩ := info_parts info_int
  have hgl := h0.lt
  have ownl : (w.alloc (.cells #[] 3)).ownsRow w.heap.size 3 1 (.slice (some ⟨w.heap.size, 0, none⟩) 0 0) 0 (([] : List Int).map (Value.int .i64)) := World.ownsRow_lit w #[] 0 (Nat.le_refl _) (by unfold maxLen; omega) rfl
  have hk0 := kept1 w (.cells #[] 3)
  have rr := h0.kept hk0
  have bw : K.But g w (w.alloc (.cells #[] 3)) := K.But.of_kept hk0
  generalize hw0 : w.alloc (.cells #[] 3) = w0 at ownl rr bw
  clear hk0 h0
  go_enter Try.func46, Try.ntmps46
  go_wp2_with fail
  clear hw0
  go_loopw [3, 4] (fun v m wr => ∃ (k j q c : Nat) (A : Option Addr) (l : List Int), m = .int .i64 ((k : Int) + 1) ∧ k ≤ 4 ∧ j ≤ 3 ∧ q ≤ p + k ∧ v = .slice A j c ∧ wr.ownsRow w.heap.size 3 1 (.slice A j c) j (l.map (Value.int .i64)) ∧ Rdr wr B g q ∧ K.But g w wr) (fun _ m _ => 5 - (intOf m).toNat)
  case atStart => exact ⟨0, 0, p, _, _, [], rfl, by omega, by omega, by omega, rfl, ownl, rr, bw⟩
  case round =>
    clear ownl rr bw
    obtain ⟨k, j, q, c', A', l, rfl, hk, hj, hq, rfl, ownl, rr, bw⟩ := hrel
    have ltl := ownl.lt
    have zw := bw.size
    by_cases hlt : k < 4
    · go_wp2_with fail
      refine (pick_c _ wr B g _ (by omega) rr).mono ?_
      rintro e v1 ⟨x, rfl, hx, rn, bb⟩
      replace ownl := ownl.kept bb (.inr (fun e => by have := ltl g e; omega))
      replace bw := K.But.trans bw bb
      have zw := bw.size
      clear bb rr hx
      have rr := rn
      clear rn
      by_cases hx0 : x = 0
      · subst hx0
        by_cases hj3 : j < 3
        · have hjd : decide (j < 3) = true := by simp; omega
          go_wp2_with (at_builtin; refine app3 rfl _ _ 28 rfl w.heap.size 3 1 8 i0 (.int .i64 0) Try.underlying28 hi hz0 hz1 hz2 rfl (by decide) v1 _ j _ (by rfl) ownl _ _ (by rfl) (by first | rfl | simp) (by rfl) (by rfl) (by unfold maxLen; omega) (by omega) (by omega) ?_; intro A4 c4 w4 own4 hg4 hn4; skip)
          have r4 := Rdr.grown rr (by omega) hg4 (fun e => by have := ltl g e; omega) (fun i e => by have := ltl i e; omega)
          have bw4 := bw.grown hg4 (fun i e => by right; have := ltl i e; omega)
          have OW := Lib.hid (show w4.ownsRow w.heap.size 3 1 (.slice A4 (j + 1) c4) (j + 1) ((l ++ [((k : Int) + 1)]).map (Value.int .i64)) by rw [List.map_append]; exact own4)
          clear own4 hg4 hn4 ownl rr bw ltl
          go_wp2
          go_roundw
          case rel => exact ⟨k + 1, j + 1, q + 1, c4, A4, _, by go_num, by omega, by omega, by omega, rfl, OW.out, r4, bw4⟩
          case measure => simp [intOf]; omega
        · have hjd : decide (j < 3) = false := by simp; omega
          go_wp2
          go_roundw
          case rel => exact ⟨k + 1, j, q + 1, c', A', l, by go_num, by omega, by omega, by omega, rfl, ownl, rr, bw⟩
          case measure => simp [intOf]; omega
      · have ex : (x == 0) = false := by simp [hx0]
        clear hx0
        go_wp2
        go_roundw
        case rel => exact ⟨k + 1, j, q + 1, c', A', l, by go_num, by omega, by omega, by omega, rfl, ownl, rr, bw⟩
        case measure => simp [intOf]; omega
    · go_wp2
      go_ret
      exact ⟨_, _, _, l, q, rfl, by omega, ownl, rr, by omega, bw⟩
/-- A shop, a cart and coupons have been drawn; all that was there is as it was. -/
def DrawnPt (w : World) (e : Ending) (w' : World) : Prop := ∃ (S : Option Addr) (sn sc : Nat) (ls : List K.Q4) (A : Option Addr) (n c : Nat) (l : List (Int × Int)) (F : Option Addr) (m d : Nat) (co : List Int), e = .returned (.tuple #[.slice S sn sc, .slice A n c, .slice F m d]) ∧ sn ≤ 10 ∧ n ≤ 9 ∧ m ≤ 4 ∧ w'.ownsRow w.heap.size 88 4 (.slice S sn sc) sn (K.qds ls) ∧ w'.ownsRow w.heap.size 86 2 (.slice A n c) n (K.prs l) ∧ K.IR w' w'.heap.size F m co ∧ K.Kept w w'
set_option maxRecDepth 100000 in
set_option maxHeartbeats 2000000 in
theorem drawPointOf_c (w : World) (n c : Nat) (A : Option Addr) (h : Code w w.heap.size A n c) : Calls Try.prog 20 #[.slice A n c] w (DrawnPt w) := by
  go_enter Try.func20, Try.ntmps20
  go_wp2_with fail
  refine (newReader_c w w.heap.size n c A (Nat.le_refl _) h).mono ?_
  rintro e w1 ⟨rfl, hr1, hk1⟩
  have s1 := hr1.lt
  go_wp2_with fail
  refine (anyBasket_c w1 _ _ 0 (by omega) hk1.size hr1).mono ?_
  rintro e w2 ⟨S, sn, sc, ls, A', n', c', l, q, rfl, hsn, hn', hcb, owns, ownl, rr, hq, bw⟩
  have zw := bw.size
  have z1 := hk1.size
  have lts := owns.lt
  have ltl := ownl.lt
  clear hr1 h hcb
  go_wp2_with fail
  refine (someCoupons_c w2 _ _ q (by omega) (by omega) rr).mono ?_
  rintro e w3 ⟨F, m, d, co, q3, rfl, hm, ownc, r3, hq3, b3⟩
  have own2s := owns.kept b3 (.inr (fun e => by have := lts _ e; omega))
  have own2l := ownl.kept b3 (.inr (fun e => by have := ltl _ e; omega))
  have bw3 := K.But.trans bw b3
  have z3 := b3.size
  have ltc := ownc.lt
  clear owns ownl bw rr b3
  go_wp2_with fail
  refine (spoil_c w3 _ _ q3 m d F co 9 (by omega) r3 (K.rd_own ownc) (by omega)).mono ?_
  rintro e w4 ⟨F2, m2, d2, co2, q4, rfl, hm2, rd4, lb4, r4, hq4, b4⟩
  have own3s := own2s.kept b4 (.inr (fun e => by have := lts _ e; omega))
  have own3l := own2l.kept b4 (.inr (fun e => by have := ltl _ e; omega))
  have bw4 := K.But.trans bw3 b4
  have kw := K.But.below hk1 bw4 (by omega) (Nat.le_refl _)
  have O1 := Lib.hid (own_monoP own3s hk1.size)
  have O2 := Lib.hid (own_monoP own3l hk1.size)
  have O3 := Lib.hid rd4
  clear own2s own2l own3s own3l r3 r4 bw3 bw4 b4 rd4 ownc
  go_wp2
  go_returns
  exact ⟨S, sn, sc, ls, A', n', c', l, F2, m2, d2, co2, rfl, hsn, hn', by omega, O1.out, O2.out, O3.out, kw⟩
end C
end Go.Proofs.Ytapjlbcpfemeiaa

/-
  Contract of the generator of the arguments of GuardHolds. Conditions: none.
-/
import Derived.Test.YtapjlbcpfemeiaaDrawG2
import Derived.Test.YtapjlbcpfemeiaaSpoil
namespace Go.Proofs.Ytapjlbcpfemeiaa
open Go.RowKit
namespace C

theorem ir_set {w : World} {base b i n : Nat} {A : Option Addr} {xs : List Value} (h : K.Rd w w.heap.size 1 A n xs) (lb : LB base A n) (hb : b < base) (x : Value) : K.Rd (w.setCell ⟨b, i, none⟩ x) (w.setCell ⟨b, i, none⟩ x).heap.size 1 A n xs :=
  ir_but h lb hb ((K.But.refl _ _).setCell (p := ⟨b, i, none⟩) (.inl rfl) _)
theorem ub_own {w : World} {base e size n c : Nat} {A : Option Addr} {xs : List Value} (h : w.ownsRow base e size (.slice A n c) n xs) : 0 < n → ∀ b off s, A = some ⟨b, off, s⟩ → b < w.heap.size := fun hn b off s hA => by
  subst hA
  rcases h.2 with ⟨hv, h0⟩ | ⟨g, cap, cur, hv, hb, hg, _⟩
  · omega
  · injection hv with h1
    injection h1 with h1
    injection h1 with h1
    have := (Array.getElem?_eq_some_iff.1 hg).1
    omega
theorem ir_ne {w : World} {b i n : Nat} {A : Option Addr} {xs : List Value} (h : K.Rd w w.heap.size 1 A n xs) (hne : 0 < n → ∀ b' off s, A = some ⟨b', off, s⟩ → b' ≠ b) (x : Value) : K.Rd (w.setCell ⟨b, i, none⟩ x) (w.setCell ⟨b, i, none⟩ x).heap.size 1 A n xs := by
  have k : K.But b w (w.setCell ⟨b, i, none⟩ x) := (K.But.refl _ _).setCell (p := ⟨b, i, none⟩) (.inl rfl) _
  refine ⟨h.1, fun hn => ?_⟩
  obtain ⟨b', off, e, hb, hc⟩ := h.2 hn
  exact ⟨b', off, e, Nat.lt_of_lt_of_le hb k.size, fun j u hu => (k.cell (p := ⟨b', off + j, none⟩) hb (hne hn b' off none e)).trans (hc j u hu)⟩
def st4 (w : World) (b : Nat) (a0 a1 a2 a3 : Value) : World := (((w.setCell ⟨b, 0, none⟩ a0).setCell ⟨b, 1, none⟩ a1).setCell ⟨b, 2, none⟩ a2).setCell ⟨b, 3, none⟩ a3
def st3 (w : World) (b : Nat) (a0 a1 a2 : Value) : World := ((w.setCell ⟨b, 0, none⟩ a0).setCell ⟨b, 1, none⟩ a1).setCell ⟨b, 2, none⟩ a2
theorem BoxN.far4 {w : World} {b b' : Nat} {vs : List Value} (h : BoxN w b vs) (hne : b' ≠ b) (a0 a1 a2 a3 : Value) : BoxN (st4 w b' a0 a1 a2 a3) b vs := (((h.far hne _).far hne _).far hne _).far hne _
theorem BoxN.far3 {w : World} {b b' : Nat} {vs : List Value} (h : BoxN w b vs) (hne : b' ≠ b) (a0 a1 a2 : Value) : BoxN (st3 w b' a0 a1 a2) b vs := ((h.far hne _).far hne _).far hne _
theorem BoxN.put4 {w : World} {b : Nat} {u0 u1 u2 u3 : Value} (h : BoxN w b [u0, u1, u2, u3]) (a0 a1 a2 a3 : Value) : BoxN (st4 w b a0 a1 a2 a3) b [a0, a1, a2, a3] :=
  (((h.set 0 a0 (by simp)).set 1 a1 (by simp)).set 2 a2 (by simp)).set 3 a3 (by simp)
theorem BoxN.put3 {w : World} {b : Nat} {u0 u1 u2 : Value} (h : BoxN w b [u0, u1, u2]) (a0 a1 a2 : Value) : BoxN (st3 w b a0 a1 a2) b [a0, a1, a2] :=
  ((h.set 0 a0 (by simp)).set 1 a1 (by simp)).set 2 a2 (by simp)
/-- All that is known at the end, but for the results. -/
def PackGP (w W : World) (A : Option Addr) (n c : Nat) (l : List (Int × Int)) (D : Option Addr) (nd : Nat) (cs : List Int) (E : Option Addr) (ne : Nat) (co : List Int) : Prop :=
  W.ownsRow (w.heap.size + 3) 24 2 (.slice A n c) n (K.prs l) ∧ K.IR W W.heap.size D nd cs ∧ LB (w.heap.size + 3) D nd ∧ K.IR W W.heap.size E ne co ∧ LB (w.heap.size + 3) E ne ∧ Below w.heap.size w W
theorem PackGP.set {w W : World} {A : Option Addr} {n c : Nat} {l : List (Int × Int)} {D : Option Addr} {nd : Nat} {cs : List Int} {E : Option Addr} {ne : Nat} {co : List Int} {b i : Nat} (h : PackGP w W A n c l D nd cs E ne co) (h1 : w.heap.size ≤ b) (h2 : b < w.heap.size + 3) (x : Value) : PackGP w (W.setCell ⟨b, i, none⟩ x) A n c l D nd cs E ne co :=
  ⟨own_set h.1 h2 x, ir_set h.2.1 h.2.2.1 h2 x, h.2.2.1, ir_set h.2.2.2.1 h.2.2.2.2.1 h2 x, h.2.2.2.2.1, kset h.2.2.2.2.2 h1 x⟩
theorem PackGP.st4 {w W : World} {A : Option Addr} {n c : Nat} {l : List (Int × Int)} {D : Option Addr} {nd : Nat} {cs : List Int} {E : Option Addr} {ne : Nat} {co : List Int} {b : Nat} (h : PackGP w W A n c l D nd cs E ne co) (h1 : w.heap.size ≤ b) (h2 : b < w.heap.size + 3) (a0 a1 a2 a3 : Value) : PackGP w (st4 W b a0 a1 a2 a3) A n c l D nd cs E ne co :=
  (((h.set h1 h2 a0).set h1 h2 a1).set h1 h2 a2).set h1 h2 a3
theorem PackGP.st3 {w W : World} {A : Option Addr} {n c : Nat} {l : List (Int × Int)} {D : Option Addr} {nd : Nat} {cs : List Int} {E : Option Addr} {ne : Nat} {co : List Int} {b : Nat} (h : PackGP w W A n c l D nd cs E ne co) (h1 : w.heap.size ≤ b) (h2 : b < w.heap.size + 3) (a0 a1 a2 : Value) : PackGP w (st3 W b a0 a1 a2) A n c l D nd cs E ne co :=
  ((h.set h1 h2 a0).set h1 h2 a1).set h1 h2 a2
theorem PackGP.drew {w W : World} {A : Option Addr} {n c : Nat} {l : List (Int × Int)} {D : Option Addr} {nd : Nat} {cs : List Int} {E : Option Addr} {ne : Nat} {co : List Int} (h : PackGP w W A n c l D nd cs E ne co) : PackGP w W.drew A n c l D nd cs E ne co :=
  ⟨K.own_kept h.1 (kdrew _), rdw h.2.1 (kdrew _), h.2.2.1, rdw h.2.2.2.1 (kdrew _), h.2.2.2.2.1, h.2.2.2.2.2.drew⟩
theorem k7 {W : World} {a b : Nat} {v0 v1 v2 v3 p0 p1 p2 : Value} (hv : BoxN W a [v0, v1, v2, v3]) (hp : BoxN W b [p0, p1, p2]) : W.cell? ⟨a, 0, none⟩ = some v0 ∧ W.cell? ⟨a, 1, none⟩ = some v1 ∧ W.cell? ⟨a, 2, none⟩ = some v2 ∧ W.cell? ⟨a, 3, none⟩ = some v3 ∧ W.cell? ⟨b, 0, none⟩ = some p0 ∧ W.cell? ⟨b, 1, none⟩ = some p1 ∧ W.cell? ⟨b, 2, none⟩ = some p2 := by
  obtain ⟨q0, q1, q2, q3, _⟩ := BoxN.at4 hv
  obtain ⟨r0, r1, r2, _⟩ := BoxN.at3 hp
  exact ⟨q0, q1, q2, q3, r0, r1, r2⟩
/-- A guard and a point have been drawn; all that was there is as it was. -/
def DrawnGP (w : World) (e : Ending) (w' : World) : Prop := ∃ (x y u : Int) (A : Option Addr) (n c : Nat) (l : List (Int × Int)) (t : Int) (D : Option Addr) (nd cd : Nat) (cs : List Int) (E : Option Addr) (ne ce : Nat) (co : List Int), e = .returned (.tuple #[.agg #[.int .i64 x, .int .i64 y, .slice A n c, .int .i64 u], .agg #[.int .i64 t, .slice D nd cd, .slice E ne ce]]) ∧ (n ≤ 4 ∧ nd ≤ 5 ∧ ne ≤ 6) ∧ w'.ownsRow w.heap.size 24 2 (.slice A n c) n (K.prs l) ∧ K.IR w' w'.heap.size D nd cs ∧ K.IR w' w'.heap.size E ne co ∧ K.Kept w w'
set_option maxRecDepth 100000 in
set_option maxHeartbeats 8000000 in
theorem drawGuardHolds_c (w : World) (n c : Nat) (A : Option Addr) (h : Code w w.heap.size A n c) : Calls Try.prog 14 #[.slice A n c] w (DrawnGP w) := by
  have bx_r : BoxN ((w.alloc (.cells #[.int .i64 0, .int .i64 0, .slice none 0 0, .int .i64 0] 27)).alloc (.cells #[.int .i64 0, .slice none 0 0, .slice none 0 0] 30)) w.heap.size (#[.int .i64 0, .int .i64 0, .slice none 0 0, .int .i64 0] : Array Value).toList := (BoxN.new w _ _).kept (kp1 _ _)
  have bx_s : BoxN ((w.alloc (.cells #[.int .i64 0, .int .i64 0, .slice none 0 0, .int .i64 0] 27)).alloc (.cells #[.int .i64 0, .slice none 0 0, .slice none 0 0] 30)) (w.heap.size + 1) (#[.int .i64 0, .slice none 0 0, .slice none 0 0] : Array Value).toList := by have q := BoxN.new (w.alloc (.cells #[.int .i64 0, .int .i64 0, .slice none 0 0, .int .i64 0] 27)) #[.int .i64 0, .slice none 0 0, .slice none 0 0] 30; rwa [show (w.alloc (.cells #[.int .i64 0, .int .i64 0, .slice none 0 0, .int .i64 0] 27)).heap.size = w.heap.size + 1 by simp] at q
  have kw : K.Kept w ((w.alloc (.cells #[.int .i64 0, .int .i64 0, .slice none 0 0, .int .i64 0] 27)).alloc (.cells #[.int .i64 0, .slice none 0 0, .slice none 0 0] 30)) := K.Kept.trans (kp1 _ _) (kp1 _ _)
  have hz0 : ((w.alloc (.cells #[.int .i64 0, .int .i64 0, .slice none 0 0, .int .i64 0] 27)).alloc (.cells #[.int .i64 0, .slice none 0 0, .slice none 0 0] 30)).heap.size = w.heap.size + 2 := by simp
  have hc0 := h.kept kw
  generalize hww0 : ((w.alloc (.cells #[.int .i64 0, .int .i64 0, .slice none 0 0, .int .i64 0] 27)).alloc (.cells #[.int .i64 0, .slice none 0 0, .slice none 0 0] 30)) = w0 at bx_r bx_s kw hz0 hc0
  clear h
  go_enter Try.func14, Try.ntmps14
  go_wp2_with fail
  refine (newReader_c w0 w.heap.size n c A kw.size hc0).mono ?_
  rintro e w1 ⟨rfl, rr, hk1⟩
  rw [hz0] at rr
  have hg1 := rr.lt
  replace bx_r := bx_r.kept hk1
  replace bx_s := bx_s.kept hk1
  replace kw := K.Kept.trans kw hk1
  have bw := K.But.refl (w.heap.size + 2) w1
  clear hc0 hk1 hww0
  go_wp2_with fail
  refine (anyGuard_c w1 _ _ 0 (by omega) (by omega) rr).mono ?_
  rintro e w2 ⟨x, y, u, A', n', c', l, q, rfl, hn, hx, owna, rn, hq, bb⟩
  have lta0 := owna.lt
  replace owna := own_monoG owna (show w.heap.size + 3 ≤ _ by omega)
  have lta := owna.lt
  replace bx_r := BoxN.but bx_r bb (by omega)
  replace bx_s := BoxN.but bx_s bb (by omega)
  replace bw := K.But.trans bw bb
  have zb := bb.size
  clear bb rr lta0
  have rr := rn
  clear rn
  have bx_v : BoxN (w2.alloc (.cells #[.int .i64 x, .int .i64 y, .slice A' n' c', .int .i64 u] 27)) w2.heap.size (#[.int .i64 x, .int .i64 y, .slice A' n' c', .int .i64 u] : Array Value).toList := BoxN.new w2 _ _
  have kk := kp1 w2 (.cells #[.int .i64 x, .int .i64 y, .slice A' n' c', .int .i64 u] 27)
  replace owna := K.own_kept owna kk
  replace bx_r := bx_r.kept kk
  replace bx_s := bx_s.kept kk
  replace rr := rr.kept kk
  replace bw := K.But.trans bw (K.But.of_kept kk)
  have zk := kk.size
  generalize hw3 : w2.alloc (.cells #[.int .i64 x, .int .i64 y, .slice A' n' c', .int .i64 u] 27) = w3 at bx_v zk rr bw owna bx_r bx_s
  clear kk
  have zv := bx_v.1
  obtain ⟨r0, r1, r2, r3, r4, r5, r6, r7, r8⟩ := BoxN.at4 bx_r
  obtain ⟨s0, s1, s2, s3, s4, s5, s6⟩ := BoxN.at3 bx_s
  obtain ⟨v0, v1, v2, v3, v4, v5, v6, v7, v8⟩ := BoxN.at4 bx_v
  go_wp2_with fail
  refine (someAmount_c _ _ _ _ (by omega) rr).mono ?_
  rintro e wq ⟨T, q2, rfl, rn, hq2, bb⟩
  clear r0 r1 r2 r3 r4 r5 r6 r7 r8
  clear s0 s1 s2 s3 s4 s5 s6
  clear v0 v1 v2 v3 v4 v5 v6 v7 v8
  replace owna := owna.kept bb (.inr (fun e => by have := lta _ e; omega))
  replace bx_r := BoxN.but bx_r bb (by omega)
  replace bx_s := BoxN.but bx_s bb (by omega)
  replace bx_v := BoxN.but bx_v bb (by omega)
  replace bw := K.But.trans bw bb
  have zb := bb.size
  clear bb rr
  have rr := rn
  clear rn
  obtain ⟨r0, r1, r2, r3, r4, r5, r6, r7, r8⟩ := BoxN.at4 bx_r
  obtain ⟨s0, s1, s2, s3, s4, s5, s6⟩ := BoxN.at3 bx_s
  obtain ⟨v0, v1, v2, v3, v4, v5, v6, v7, v8⟩ := BoxN.at4 bx_v
  go_wp2_with fail
  refine (pick_c _ _ _ _ _ (by omega) rr).mono ?_
  rintro e wk1 ⟨k1, rfl, hk1, rn, bb⟩
  clear r0 r1 r2 r3 r4 r5 r6 r7 r8
  clear s0 s1 s2 s3 s4 s5 s6
  clear v0 v1 v2 v3 v4 v5 v6 v7 v8
  replace owna := owna.kept bb (.inr (fun e => by have := lta _ e; omega))
  replace bx_r := BoxN.but bx_r bb (by omega)
  replace bx_s := BoxN.but bx_s bb (by omega)
  replace bx_v := BoxN.but bx_v bb (by omega)
  replace bw := K.But.trans bw bb
  have zb := bb.size
  clear bb rr
  have rr := rn
  clear rn
  clear hk1
  obtain ⟨r0, r1, r2, r3, r4, r5, r6, r7, r8⟩ := BoxN.at4 bx_r
  obtain ⟨s0, s1, s2, s3, s4, s5, s6⟩ := BoxN.at3 bx_s
  obtain ⟨v0, v1, v2, v3, v4, v5, v6, v7, v8⟩ := BoxN.at4 bx_v
  go_wp2_with fail
  refine (pick_c _ _ _ _ _ (by omega) rr).mono ?_
  rintro e wk2 ⟨k2, rfl, hk2, rn, bb⟩
  clear r0 r1 r2 r3 r4 r5 r6 r7 r8
  clear s0 s1 s2 s3 s4 s5 s6
  clear v0 v1 v2 v3 v4 v5 v6 v7 v8
  replace owna := owna.kept bb (.inr (fun e => by have := lta _ e; omega))
  replace bx_r := BoxN.but bx_r bb (by omega)
  replace bx_s := BoxN.but bx_s bb (by omega)
  replace bx_v := BoxN.but bx_v bb (by omega)
  replace bw := K.But.trans bw bb
  have zb := bb.size
  clear bb rr
  have rr := rn
  clear rn
  clear hk2
  obtain ⟨r0, r1, r2, r3, r4, r5, r6, r7, r8⟩ := BoxN.at4 bx_r
  obtain ⟨s0, s1, s2, s3, s4, s5, s6⟩ := BoxN.at3 bx_s
  obtain ⟨v0, v1, v2, v3, v4, v5, v6, v7, v8⟩ := BoxN.at4 bx_v
  go_wp2_with fail
  refine (pick_c _ _ _ _ _ (by omega) rr).mono ?_
  rintro e wk3 ⟨k3, rfl, hk3, rn, bb⟩
  clear r0 r1 r2 r3 r4 r5 r6 r7 r8
  clear s0 s1 s2 s3 s4 s5 s6
  clear v0 v1 v2 v3 v4 v5 v6 v7 v8
  replace owna := owna.kept bb (.inr (fun e => by have := lta _ e; omega))
  replace bx_r := BoxN.but bx_r bb (by omega)
  replace bx_s := BoxN.but bx_s bb (by omega)
  replace bx_v := BoxN.but bx_v bb (by omega)
  replace bw := K.But.trans bw bb
  have zb := bb.size
  clear bb rr
  have rr := rn
  clear rn
  clear hk3
  have ownc : (wk3.alloc (.cells #[.int .i64 k1, .int .i64 k2, .int .i64 k3] 3)).ownsRow wk3.heap.size 3 1 (.slice (some ⟨wk3.heap.size, 0, none⟩) 3 3) 3 (([k1, k2, k3] : List Int).map (Value.int .i64)) := World.ownsRow_lit wk3 #[.int .i64 k1, .int .i64 k2, .int .i64 k3] 3 (Nat.le_refl _) (by unfold maxLen; omega) rfl
  have kk := kp1 wk3 (.cells #[.int .i64 k1, .int .i64 k2, .int .i64 k3] 3)
  replace owna := K.own_kept owna kk
  replace bx_r := bx_r.kept kk
  replace bx_s := bx_s.kept kk
  replace bx_v := bx_v.kept kk
  replace rr := rr.kept kk
  replace bw := K.But.trans bw (K.But.of_kept kk)
  have zk := kk.size
  generalize hw5 : wk3.alloc (.cells #[.int .i64 k1, .int .i64 k2, .int .i64 k3] 3) = w5 at ownc zk rr bw owna bx_r bx_s bx_v
  clear kk
  have ltc := ownc.lt
  have ubc := ub_own ownc
  obtain ⟨r0, r1, r2, r3, r4, r5, r6, r7, r8⟩ := BoxN.at4 bx_r
  obtain ⟨s0, s1, s2, s3, s4, s5, s6⟩ := BoxN.at3 bx_s
  obtain ⟨v0, v1, v2, v3, v4, v5, v6, v7, v8⟩ := BoxN.at4 bx_v
  go_wp2_with fail
  refine (someCoupons_c _ _ _ _ (by omega) (by omega) rr).mono ?_
  rintro e w6 ⟨E, ne, ce, co, q3, rfl, hne, owne, rn, hq3, bb⟩
  clear r0 r1 r2 r3 r4 r5 r6 r7 r8
  clear s0 s1 s2 s3 s4 s5 s6
  clear v0 v1 v2 v3 v4 v5 v6 v7 v8
  replace owna := owna.kept bb (.inr (fun e => by have := lta _ e; omega))
  replace ownc := ownc.kept bb (.inr (fun e => by have := ltc _ e; omega))
  replace bx_r := BoxN.but bx_r bb (by omega)
  replace bx_s := BoxN.but bx_s bb (by omega)
  replace bx_v := BoxN.but bx_v bb (by omega)
  replace bw := K.But.trans bw bb
  have zb := bb.size
  clear bb rr
  have rr := rn
  clear rn
  have lte := owne.lt
  have ube := ub_own owne
  have zk5 := zk
  clear hw5
  have bx_p : BoxN (w6.alloc (.cells #[.int .i64 T, .slice (some ⟨wk3.heap.size, 0, none⟩) 3 3, .slice E ne ce] 30)) w6.heap.size (#[.int .i64 T, .slice (some ⟨wk3.heap.size, 0, none⟩) 3 3, .slice E ne ce] : Array Value).toList := BoxN.new w6 _ _
  have kk := kp1 w6 (.cells #[.int .i64 T, .slice (some ⟨wk3.heap.size, 0, none⟩) 3 3, .slice E ne ce] 30)
  replace owna := K.own_kept owna kk
  replace ownc := K.own_kept ownc kk
  replace owne := K.own_kept owne kk
  replace bx_r := bx_r.kept kk
  replace bx_s := bx_s.kept kk
  replace bx_v := bx_v.kept kk
  replace rr := rr.kept kk
  replace bw := K.But.trans bw (K.But.of_kept kk)
  have zk := kk.size
  generalize hw7 : w6.alloc (.cells #[.int .i64 T, .slice (some ⟨wk3.heap.size, 0, none⟩) 3 3, .slice E ne ce] 30) = w7 at bx_p zk rr bw owna ownc owne bx_r bx_s bx_v
  clear kk
  have zp := bx_p.1
  obtain ⟨r0, r1, r2, r3, r4, r5, r6, r7, r8⟩ := BoxN.at4 bx_r
  obtain ⟨s0, s1, s2, s3, s4, s5, s6⟩ := BoxN.at3 bx_s
  obtain ⟨v0, v1, v2, v3, v4, v5, v6, v7, v8⟩ := BoxN.at4 bx_v
  obtain ⟨p0, p1, p2, p3, p4, p5, p6⟩ := BoxN.at3 bx_p
  go_wp2_with fail
  refine (pick_c _ _ _ _ _ (by omega) rr).mono ?_
  rintro e w8 ⟨b, rfl, hb, rn, bb⟩
  clear r0 r1 r2 r3 r4 r5 r6 r7 r8
  clear s0 s1 s2 s3 s4 s5 s6
  clear v0 v1 v2 v3 v4 v5 v6 v7 v8
  clear p0 p1 p2 p3 p4 p5 p6
  replace owna := owna.kept bb (.inr (fun e => by have := lta _ e; omega))
  replace ownc := ownc.kept bb (.inr (fun e => by have := ltc _ e; omega))
  replace owne := owne.kept bb (.inr (fun e => by have := lte _ e; omega))
  replace bx_r := BoxN.but bx_r bb (by omega)
  replace bx_s := BoxN.but bx_s bb (by omega)
  replace bx_v := BoxN.but bx_v bb (by omega)
  replace bx_p := BoxN.but bx_p bb (by omega)
  replace bw := K.But.trans bw bb
  have zb := bb.size
  clear bb rr
  have rr := rn
  clear rn
  clear hb hw7 hw3
  replace ownc := own_monoG ownc (show w.heap.size + 3 ≤ _ by omega)
  replace owne := own_monoG owne (show w.heap.size + 3 ≤ _ by omega)
  obtain ⟨r0, r1, r2, r3, r4, r5, r6, r7, r8⟩ := BoxN.at4 bx_r
  obtain ⟨s0, s1, s2, s3, s4, s5, s6⟩ := BoxN.at3 bx_s
  obtain ⟨v0, v1, v2, v3, v4, v5, v6, v7, v8⟩ := BoxN.at4 bx_v
  obtain ⟨p0, p1, p2, p3, p4, p5, p6⟩ := BoxN.at3 bx_p
  go_upto_if 25 with fail
  clear r0 r1 r2 r3 r4 r5 r6 r7 r8
  clear s0 s1 s2 s3 s4 s5 s6
  clear v0 v1 v2 v3 v4 v5 v6 v7 v8
  clear p0 p1 p2 p3 p4 p5 p6
  go_cut [] from 23 (fun wx => ∃ (T : Int) (q4 : Nat), q4 ≤ 500000 ∧ wx.ownsRow (w.heap.size + 3) 24 2 (.slice A' n' c') n' (K.prs l) ∧ wx.ownsRow (w.heap.size + 3) 3 1 (.slice (some ⟨wk3.heap.size, 0, none⟩) 3 3) 3 (([k1, k2, k3] : List Int).map (Value.int .i64)) ∧ wx.ownsRow (w.heap.size + 3) 3 1 (.slice E ne ce) ne (co.map (Value.int .i64)) ∧ BoxN wx w.heap.size (#[.int .i64 0, .int .i64 0, .slice none 0 0, .int .i64 0] : Array Value).toList ∧ BoxN wx (w.heap.size + 1) (#[.int .i64 0, .slice none 0 0, .slice none 0 0] : Array Value).toList ∧ BoxN wx w2.heap.size (#[.int .i64 x, .int .i64 y, .slice A' n' c', .int .i64 u] : Array Value).toList ∧ BoxN wx w6.heap.size (#[.int .i64 T, .slice (some ⟨wk3.heap.size, 0, none⟩) 3 3, .slice E ne ce] : Array Value).toList ∧ Rdr wx w.heap.size (w.heap.size + 2) q4 ∧ K.But (w.heap.size + 2) w1 wx)
  case first =>
    by_cases hb0 : b = 0
    · subst hb0
      obtain ⟨v0, v1, v2, v3, v4, v5, v6, v7, v8⟩ := BoxN.at4 bx_v
      obtain ⟨p0, p1, p2, p3, p4, p5, p6⟩ := BoxN.at3 bx_p
      go_wp2_with fail
      have hne62 : ¬ w6.heap.size = w2.heap.size := by omega
      have hne26 : ¬ w2.heap.size = w6.heap.size := by omega
      replace owna := K.own_kept owna (kdrew _)
      replace ownc := K.own_kept ownc (kdrew _)
      replace owne := K.own_kept owne (kdrew _)
      replace bx_r := bx_r.kept (kdrew _)
      replace bx_s := bx_s.kept (kdrew _)
      replace bx_v := bx_v.kept (kdrew _)
      replace bx_p := bx_p.kept (kdrew _)
      replace rr := rr.kept (kdrew _)
      replace bw := K.But.trans bw (K.But.of_kept (kdrew _))
      go_region_held3 (fun w' => w'.cell? ⟨w2.heap.size, 0, none⟩ = some (.int .i64 x)) (first | exact v0 | go_keep) ((go_at_call 47; refine (one_new' (fun x => decide (-1 ≤ x ∧ x ≤ 1)) _ _ _ _ 3 _ _ (by omega) rr (by omega) rfl rfl rfl).mono ?_; rintro e wz ⟨v9, rfl, hv9, rn, bb⟩; replace hv9 := of_decide_eq_true hv9; have W1 : IntKind.i64.wrap (x + v9) = x + v9 := (by rw [IntKind.wrap_i64]; omega); clear v0 v1 v2 v3 v4 v5 v6 v7 v8; clear p0 p1 p2 p3 p4 p5 p6; replace owna := owna.kept bb (.inr (fun e => by have := lta _ e; omega)); replace ownc := ownc.kept bb (.inr (fun e => by have := ltc _ e; omega)); replace owne := owne.kept bb (.inr (fun e => by have := lte _ e; omega)); replace bx_r := BoxN.but bx_r bb (by omega); replace bx_s := BoxN.but bx_s bb (by omega); replace bx_v := BoxN.but bx_v bb (by omega); replace bx_p := BoxN.but bx_p bb (by omega); replace bw := K.But.trans bw bb; have zb := bb.size; clear bb rr; have rr := rn; clear rn; obtain ⟨v0, v1, v2, v3, v4, v5, v6, v7, v8⟩ := BoxN.at4 bx_v; obtain ⟨p0, p1, p2, p3, p4, p5, p6⟩ := BoxN.at3 bx_p))
      all_goals
        clear v0 v1 v2 v3 v4 v5 v6 v7 v8
        clear p0 p1 p2 p3 p4 p5 p6
        have pne : ∀ i, (Value.slice A' n' c').ownBlock = some i → i ≠ w6.heap.size := fun i hi => by have := (lta i hi).2; omega
        replace owna := own_sne (i := 0) owna (fun e => pne _ e rfl) (.int .i64 (x + v9))
        replace ownc := own_sne (b := w6.heap.size) (i := 0) ownc (fun e => by have := (ltc _ e).2; omega) (.int .i64 (x + v9))
        replace owne := own_sne (b := w6.heap.size) (i := 0) owne (fun e => by have := (lte _ e).2; omega) (.int .i64 (x + v9))
        replace bw := but_set (i := 0) bw (show w1.heap.size ≤ w6.heap.size by omega) (.int .i64 (x + v9))
        replace rr := rdr_set (i := 0) rr (show w6.heap.size ≠ w.heap.size + 2 by omega) (by omega) (.int .i64 (x + v9))
        replace bx_r := BoxN.far (i := 0) bx_r (show w6.heap.size ≠ w.heap.size by omega) (.int .i64 (x + v9))
        replace bx_s := BoxN.far (i := 0) bx_s (show w6.heap.size ≠ w.heap.size + 1 by omega) (.int .i64 (x + v9))
        replace bx_v := BoxN.far (i := 0) bx_v (show w6.heap.size ≠ w2.heap.size by omega) (.int .i64 (x + v9))
        replace bx_p := BoxN.set bx_p 0 (.int .i64 (x + v9)) (by simp)
        clear pne
        go_wp2
        go_meet
        exact ⟨_, _, by omega, owna, ownc, owne, bx_r, bx_s, bx_v, bx_p, rr, bw⟩
    have eb0 : (b == 0) = false := by simp [hb0]
    go_wp2
    go_meet
    exact ⟨_, _, by omega, owna, ownc, owne, bx_r, bx_s, bx_v, bx_p, rr, bw⟩
  case rest =>
    clear owna ownc owne bx_r bx_s bx_v bx_p rr bw
    obtain ⟨T, q4, hq4, owna, ownc, owne, bx_r, bx_s, bx_v, bx_p, rr, bw⟩ := hcut
    replace zp := bx_p.1
    go_step
    go_step
    go_cut [] from 34 (fun wx => ∃ (D2 : Option Addr) (nd cd : Nat) (cs : List Int) (E2 : Option Addr) (nf cf : Nat) (cp : List Int), (nd ≤ 5 ∧ nf ≤ 6) ∧ wx.ownsRow (w.heap.size + 3) 24 2 (.slice A' n' c') n' (K.prs l) ∧ K.IR wx wx.heap.size D2 nd cs ∧ K.IR wx wx.heap.size E2 nf cp ∧ LB (w.heap.size + 3) D2 nd ∧ LB (w.heap.size + 3) E2 nf ∧ BoxN wx w.heap.size (#[.int .i64 0, .int .i64 0, .slice none 0 0, .int .i64 0] : Array Value).toList ∧ BoxN wx (w.heap.size + 1) (#[.int .i64 0, .slice none 0 0, .slice none 0 0] : Array Value).toList ∧ BoxN wx w2.heap.size (#[.int .i64 x, .int .i64 y, .slice A' n' c', .int .i64 u] : Array Value).toList ∧ BoxN wx w6.heap.size (#[.int .i64 T, .slice D2 nd cd, .slice E2 nf cf] : Array Value).toList ∧ K.But (w.heap.size + 2) w1 wx)
    case first =>
      obtain ⟨r0, r1, r2, r3, r4, r5, r6, r7, r8⟩ := BoxN.at4 bx_r
      obtain ⟨s0, s1, s2, s3, s4, s5, s6⟩ := BoxN.at3 bx_s
      obtain ⟨v0, v1, v2, v3, v4, v5, v6, v7, v8⟩ := BoxN.at4 bx_v
      obtain ⟨p0, p1, p2, p3, p4, p5, p6⟩ := BoxN.at3 bx_p
      go_wp2_with fail
      refine (pick_c _ _ _ _ _ (by omega) rr).mono ?_
      rintro e w9 ⟨t, rfl, ht, rn, bb⟩
      clear r0 r1 r2 r3 r4 r5 r6 r7 r8
      clear s0 s1 s2 s3 s4 s5 s6
      clear v0 v1 v2 v3 v4 v5 v6 v7 v8
      clear p0 p1 p2 p3 p4 p5 p6
      replace owna := owna.kept bb (.inr (fun e => by have := lta _ e; omega))
      replace ownc := ownc.kept bb (.inr (fun e => by have := ltc _ e; omega))
      replace owne := owne.kept bb (.inr (fun e => by have := lte _ e; omega))
      replace bx_r := BoxN.but bx_r bb (by omega)
      replace bx_s := BoxN.but bx_s bb (by omega)
      replace bx_v := BoxN.but bx_v bb (by omega)
      replace bx_p := BoxN.but bx_p bb (by omega)
      replace bw := K.But.trans bw bb
      have zb := bb.size
      clear bb rr
      have rr := rn
      clear rn
      clear ht
      by_cases ht0 : t = 0
      · subst ht0
        obtain ⟨i0, hi, hz0', hz1, hz2⟩ := info_parts info_int
        obtain ⟨r0, r1, r2, r3, r4, r5, r6, r7, r8⟩ := BoxN.at4 bx_r
        obtain ⟨s0, s1, s2, s3, s4, s5, s6⟩ := BoxN.at3 bx_s
        obtain ⟨v0, v1, v2, v3, v4, v5, v6, v7, v8⟩ := BoxN.at4 bx_v
        obtain ⟨p0, p1, p2, p3, p4, p5, p6⟩ := BoxN.at3 bx_p
        go_wp2_with (at_builtin; refine app3 rfl _ _ 28 rfl (w.heap.size + 3) 3 1 8 i0 (.int .i64 0) Try.underlying28 hi hz0' hz1 hz2 rfl (by decide) w9 _ ne _ (by rfl) owne _ _ (by rfl) (by first | rfl | simp) (by rfl) (by rfl) (by unfold maxLen; omega) (by omega) (by omega) ?_; intro E4 c4 wa own4 hg4 hn4; skip)
        clear r0 r1 r2 r3 r4 r5 r6 r7 r8
        clear s0 s1 s2 s3 s4 s5 s6
        clear v0 v1 v2 v3 v4 v5 v6 v7 v8
        clear p0 p1 p2 p3 p4 p5 p6
        have own9 := (show wa.ownsRow (w.heap.size + 3) 3 1 (.slice E4 (ne + 1) c4) (ne + 1) ((co ++ [9]).map (Value.int .i64)) by rw [List.map_append]; exact own4)
        clear own4
        have nE := lte
        replace owna := owna.kept hg4 (by (cases hO : (Value.slice A' n' c').ownBlock with | none => exact .inl rfl | some i => exact .inr (fun e => by have := (lta i hO).2; have := (lte i e.symm).1; omega)))
        replace ownc := ownc.kept hg4 (.inr (fun e => by have h1 := (ltc wk3.heap.size rfl).2; first | (have h2 := (lte wk3.heap.size e.symm).1; omega) | (have h2 := (lte wk3.heap.size e).1; omega)))
        replace bx_r := BoxN.grown bx_r hg4 (fun e => by have := (lte _ e).1; have := (lte _ e).2; omega)
        replace bx_s := BoxN.grown bx_s hg4 (fun e => by have := (lte _ e).1; have := (lte _ e).2; omega)
        replace bx_v := BoxN.grown bx_v hg4 (fun e => by have := (lte _ e).1; have := (lte _ e).2; omega)
        replace bx_p := BoxN.grown bx_p hg4 (fun e => by have := (lte _ e).2; omega)
        replace rr := Rdr.grownG rr (by omega) hg4 (fun e => by have := (lte _ e).1; omega) (fun i e => by have := (lte i e).1; omega)
        replace bw := bw.grown hg4 (fun i e => by right; have := (lte i e).1; omega)
        have zg4 := hg4.size
        clear hg4 hn4 owne hi hz0' hz1 hz2
        have lt9 := own9.lt
        obtain ⟨r0, r1, r2, r3, r4, r5, r6, r7, r8⟩ := BoxN.at4 bx_r
        obtain ⟨s0, s1, s2, s3, s4, s5, s6⟩ := BoxN.at3 bx_s
        obtain ⟨v0, v1, v2, v3, v4, v5, v6, v7, v8⟩ := BoxN.at4 bx_v
        obtain ⟨p0, p1, p2, p3, p4, p5, p6⟩ := BoxN.at3 bx_p
        go_wp2_with fail
        refine (spoil_c wa _ _ _ (ne + 1) c4 E4 (co ++ [9]) 10 (by omega) rr (K.rd_own own9) (by omega)).mono ?_
        rintro e wb ⟨F, m, d, cz, q9, rfl, hm, ro, lo, rn, hq9, bb⟩
        clear r0 r1 r2 r3 r4 r5 r6 r7 r8
        clear s0 s1 s2 s3 s4 s5 s6
        clear v0 v1 v2 v3 v4 v5 v6 v7 v8
        clear p0 p1 p2 p3 p4 p5 p6
        replace owna := owna.kept bb (.inr (fun e => by have := lta _ e; omega))
        replace ownc := ownc.kept bb (.inr (fun e => by have := ltc _ e; omega))
        replace own9 := own9.kept bb (.inr (fun e => by have := lt9 _ e; omega))
        replace bx_r := BoxN.but bx_r bb (by omega)
        replace bx_s := BoxN.but bx_s bb (by omega)
        replace bx_v := BoxN.but bx_v bb (by omega)
        replace bx_p := BoxN.but bx_p bb (by omega)
        replace bw := K.But.trans bw bb
        have zb := bb.size
        clear bb rr
        have rr := rn
        clear rn
        clear own9
        have rc := K.rd_own ownc
        have lc := lb_own ownc
        clear ownc
        have lb3 : w.heap.size + 3 ≤ w9.heap.size := by omega
        have pne : ∀ i, (Value.slice A' n' c').ownBlock = some i → i ≠ w6.heap.size := fun i hi => by have := (lta i hi).2; omega
        obtain ⟨r0, r1, r2, r3, r4, r5, r6, r7, r8⟩ := BoxN.at4 bx_r
        obtain ⟨s0, s1, s2, s3, s4, s5, s6⟩ := BoxN.at3 bx_s
        obtain ⟨v0, v1, v2, v3, v4, v5, v6, v7, v8⟩ := BoxN.at4 bx_v
        obtain ⟨p0, p1, p2, p3, p4, p5, p6⟩ := BoxN.at3 bx_p
        replace owna := own_sne (i := 2) owna (fun e => pne _ e rfl) (.slice F m d)
        replace bw := but_set (i := 2) bw (show w1.heap.size ≤ w6.heap.size by omega) (.slice F m d)
        replace rr := rdr_set (i := 2) rr (show w6.heap.size ≠ w.heap.size + 2 by omega) (by omega) (.slice F m d)
        replace ro := ir_ne (b := w6.heap.size) (i := 2) ro (fun hn b' off s e => by have := lo hn b' off s e; omega) (.slice F m d)
        replace rc := ir_ne (b := w6.heap.size) (i := 2) rc (fun hn b' off s e => by have := ubc hn b' off s e; omega) (.slice F m d)
        replace bx_r := BoxN.far (i := 2) bx_r (show w6.heap.size ≠ w.heap.size by omega) (.slice F m d)
        replace bx_s := BoxN.far (i := 2) bx_s (show w6.heap.size ≠ w.heap.size + 1 by omega) (.slice F m d)
        replace bx_v := BoxN.far (i := 2) bx_v (show w6.heap.size ≠ w2.heap.size by omega) (.slice F m d)
        replace bx_p := BoxN.set bx_p 2 (.slice F m d) (by simp)
        replace lc := LB.mono lc (show w.heap.size + 3 ≤ _ by omega)
        replace lo := LB.mono lo (show w.heap.size + 3 ≤ _ by omega)
        go_wp2
        go_meet
        exact ⟨_, _, _, _, _, _, _, _, ⟨by omega, by omega⟩, owna, rc, ro, lc, lo, bx_r, bx_s, bx_v, bx_p, bw⟩
      have et0 : (t == 0) = false := by simp [ht0]
      by_cases ht1 : t = 1
      · subst ht1
        obtain ⟨r0, r1, r2, r3, r4, r5, r6, r7, r8⟩ := BoxN.at4 bx_r
        obtain ⟨s0, s1, s2, s3, s4, s5, s6⟩ := BoxN.at3 bx_s
        obtain ⟨v0, v1, v2, v3, v4, v5, v6, v7, v8⟩ := BoxN.at4 bx_v
        obtain ⟨p0, p1, p2, p3, p4, p5, p6⟩ := BoxN.at3 bx_p
        go_wp2_with fail
        refine (spoil_c _ _ _ _ 3 3 (some ⟨wk3.heap.size, 0, none⟩) [k1, k2, k3] 1000001 (by omega) rr (K.rd_own ownc) (by omega)).mono ?_
        rintro e wb ⟨F, m, d, cz, q9, rfl, hm, rc, lc, rn, hq9, bb⟩
        clear r0 r1 r2 r3 r4 r5 r6 r7 r8
        clear s0 s1 s2 s3 s4 s5 s6
        clear v0 v1 v2 v3 v4 v5 v6 v7 v8
        clear p0 p1 p2 p3 p4 p5 p6
        replace owna := owna.kept bb (.inr (fun e => by have := lta _ e; omega))
        replace ownc := ownc.kept bb (.inr (fun e => by have := ltc _ e; omega))
        replace owne := owne.kept bb (.inr (fun e => by have := lte _ e; omega))
        replace bx_r := BoxN.but bx_r bb (by omega)
        replace bx_s := BoxN.but bx_s bb (by omega)
        replace bx_v := BoxN.but bx_v bb (by omega)
        replace bx_p := BoxN.but bx_p bb (by omega)
        replace bw := K.But.trans bw bb
        have zb := bb.size
        clear bb rr
        have rr := rn
        clear rn
        clear ownc
        have ro := K.rd_own owne
        have lo := lb_own owne
        clear owne
        have lb3 : w.heap.size + 3 ≤ w9.heap.size := by omega
        have pne : ∀ i, (Value.slice A' n' c').ownBlock = some i → i ≠ w6.heap.size := fun i hi => by have := (lta i hi).2; omega
        obtain ⟨r0, r1, r2, r3, r4, r5, r6, r7, r8⟩ := BoxN.at4 bx_r
        obtain ⟨s0, s1, s2, s3, s4, s5, s6⟩ := BoxN.at3 bx_s
        obtain ⟨v0, v1, v2, v3, v4, v5, v6, v7, v8⟩ := BoxN.at4 bx_v
        obtain ⟨p0, p1, p2, p3, p4, p5, p6⟩ := BoxN.at3 bx_p
        replace owna := own_sne (i := 1) owna (fun e => pne _ e rfl) (.slice F m d)
        replace bw := but_set (i := 1) bw (show w1.heap.size ≤ w6.heap.size by omega) (.slice F m d)
        replace rr := rdr_set (i := 1) rr (show w6.heap.size ≠ w.heap.size + 2 by omega) (by omega) (.slice F m d)
        replace rc := ir_ne (b := w6.heap.size) (i := 1) rc (fun hn b' off s e => by have := lc hn b' off s e; omega) (.slice F m d)
        replace ro := ir_ne (b := w6.heap.size) (i := 1) ro (fun hn b' off s e => by have := ube hn b' off s e; omega) (.slice F m d)
        replace bx_r := BoxN.far (i := 1) bx_r (show w6.heap.size ≠ w.heap.size by omega) (.slice F m d)
        replace bx_s := BoxN.far (i := 1) bx_s (show w6.heap.size ≠ w.heap.size + 1 by omega) (.slice F m d)
        replace bx_v := BoxN.far (i := 1) bx_v (show w6.heap.size ≠ w2.heap.size by omega) (.slice F m d)
        replace bx_p := BoxN.set bx_p 1 (.slice F m d) (by simp)
        replace lc := LB.mono lc (show w.heap.size + 3 ≤ _ by omega)
        replace lo := LB.mono lo (show w.heap.size + 3 ≤ _ by omega)
        go_wp2
        go_meet
        exact ⟨_, _, _, _, _, _, _, _, ⟨by omega, by omega⟩, owna, rc, ro, lc, lo, bx_r, bx_s, bx_v, bx_p, bw⟩
      have et1 : (t == 1) = false := by simp [ht1]
      clear ht0 ht1
      have rc := K.rd_own ownc
      have lc := lb_own ownc
      have ro := K.rd_own owne
      have lo := lb_own owne
      clear ownc owne
      obtain ⟨r0, r1, r2, r3, r4, r5, r6, r7, r8⟩ := BoxN.at4 bx_r
      obtain ⟨s0, s1, s2, s3, s4, s5, s6⟩ := BoxN.at3 bx_s
      obtain ⟨v0, v1, v2, v3, v4, v5, v6, v7, v8⟩ := BoxN.at4 bx_v
      obtain ⟨p0, p1, p2, p3, p4, p5, p6⟩ := BoxN.at3 bx_p
      go_wp2
      go_meet
      exact ⟨_, _, _, _, _, _, _, _, ⟨by omega, by omega⟩, owna, rc, ro, lc, lo, bx_r, bx_s, bx_v, bx_p, bw⟩
    case rest =>
      clear owna ownc owne bx_r bx_s bx_v bx_p rr bw
      obtain ⟨D2, nd, cd, cs, E2, nf, cf, cp, hb3, owna, rc, ro, lc, lo, bx_r, bx_s, bx_v, bx_p, bw⟩ := hcut
      have kf := K.But.below kw bw (show w.heap.size ≤ _ by omega) (show w.heap.size ≤ w.heap.size + 2 by omega)
      have zv := bx_v.1
      have zp := bx_p.1
      clear bw kw
      have PK : PackGP w wc A' n' c' l D2 nd cs E2 nf cp := ⟨owna, rc, lc, ro, lo, kf⟩
      clear owna rc ro lc lo kf
      have l0 : w.heap.size ≤ w.heap.size := Nat.le_refl _
      have l1 : w.heap.size ≤ w.heap.size + 1 := by omega
      have m0 : w.heap.size < w.heap.size + 3 := by omega
      have m1 : w.heap.size + 1 < w.heap.size + 3 := by omega
      have n0 : w.heap.size ≠ w.heap.size + 1 := by omega
      have n1 : w.heap.size ≠ w2.heap.size := by omega
      have n2 : w.heap.size ≠ w6.heap.size := by omega
      have n3 : w.heap.size + 1 ≠ w2.heap.size := by omega
      have n4 : w.heap.size + 1 ≠ w6.heap.size := by omega
      have VR := k7 (bx_v.far4 n1 (.int .i64 x) (.int .i64 y) (.slice A' n' c') (.int .i64 u)).drew (bx_p.far4 n2 (.int .i64 x) (.int .i64 y) (.slice A' n' c') (.int .i64 u)).drew
      have VS := k7 (bx_v.far3 n3 (.int .i64 T) (.slice D2 nd cd) (.slice E2 nf cf)).drew (bx_p.far3 n4 (.int .i64 T) (.slice D2 nd cd) (.slice E2 nf cf)).drew
      have VT := k7 ((bx_v.far4 n1 (.int .i64 x) (.int .i64 y) (.slice A' n' c') (.int .i64 u)).far3 n3 (.int .i64 T) (.slice D2 nd cd) (.slice E2 nf cf)).drew ((bx_p.far4 n2 (.int .i64 x) (.int .i64 y) (.slice A' n' c') (.int .i64 u)).far3 n4 (.int .i64 T) (.slice D2 nd cd) (.slice E2 nf cf)).drew
      have VU := k7 ((bx_v.far3 n3 (.int .i64 T) (.slice D2 nd cd) (.slice E2 nf cf)).far4 n1 (.int .i64 x) (.int .i64 y) (.slice A' n' c') (.int .i64 u)).drew ((bx_p.far3 n4 (.int .i64 T) (.slice D2 nd cd) (.slice E2 nf cf)).far4 n2 (.int .i64 x) (.int .i64 y) (.slice A' n' c') (.int .i64 u)).drew
      have V0 := k7 bx_v.drew bx_p.drew
      have PT := Lib.hid ((PK.st4 l0 m0 (.int .i64 x) (.int .i64 y) (.slice A' n' c') (.int .i64 u)).st3 l1 m1 (.int .i64 T) (.slice D2 nd cd) (.slice E2 nf cf)).drew
      have PU := Lib.hid ((PK.st3 l1 m1 (.int .i64 T) (.slice D2 nd cd) (.slice E2 nf cf)).st4 l0 m0 (.int .i64 x) (.int .i64 y) (.slice A' n' c') (.int .i64 u)).drew
      have RT := Lib.hid ((BoxN.put4 bx_r (.int .i64 x) (.int .i64 y) (.slice A' n' c') (.int .i64 u)).far3 n0.symm (.int .i64 T) (.slice D2 nd cd) (.slice E2 nf cf)).drew
      have ST := Lib.hid (BoxN.put3 (bx_s.far4 n0 (.int .i64 x) (.int .i64 y) (.slice A' n' c') (.int .i64 u)) (.int .i64 T) (.slice D2 nd cd) (.slice E2 nf cf)).drew
      have RU := Lib.hid (BoxN.put4 (bx_r.far3 n0.symm (.int .i64 T) (.slice D2 nd cd) (.slice E2 nf cf)) (.int .i64 x) (.int .i64 y) (.slice A' n' c') (.int .i64 u)).drew
      have SU := Lib.hid ((BoxN.put3 bx_s (.int .i64 T) (.slice D2 nd cd) (.slice E2 nf cf)).far4 n0 (.int .i64 x) (.int .i64 y) (.slice A' n' c') (.int .i64 u)).drew
      clear PK
      unfold st3 at VS VT VU PT PU RT ST RU SU
      unfold st4 at VR VT VU PT PU RT ST RU SU
      obtain ⟨r0, r1, r2, r3, r4, r5, r6, r7, r8⟩ := BoxN.at4 bx_r
      obtain ⟨s0, s1, s2, s3, s4, s5, s6⟩ := BoxN.at3 bx_s
      clear bx_v bx_p bx_r bx_s
      go_wp2_with fail
      go_region_held3 (fun w' => w'.cell? ⟨w2.heap.size, 0, none⟩ = some (.int .i64 x) ∧ w'.cell? ⟨w2.heap.size, 1, none⟩ = some (.int .i64 y) ∧ w'.cell? ⟨w2.heap.size, 2, none⟩ = some (.slice A' n' c') ∧ w'.cell? ⟨w2.heap.size, 3, none⟩ = some (.int .i64 u) ∧ w'.cell? ⟨w6.heap.size, 0, none⟩ = some (.int .i64 T) ∧ w'.cell? ⟨w6.heap.size, 1, none⟩ = some (.slice D2 nd cd) ∧ w'.cell? ⟨w6.heap.size, 2, none⟩ = some (.slice E2 nf cf)) (first | (with_reducible exact V0) | (with_reducible exact VR) | (with_reducible exact VS) | (with_reducible exact VT) | (with_reducible exact VU)) (fail)
      all_goals (try go_wp2)
      all_goals first | (obtain ⟨z0, z1, z2, z3, _⟩ := BoxN.at4 RT.out; obtain ⟨y0, y1, y2, _⟩ := BoxN.at3 ST.out; refine bodyPost_ret (by simp [results, Try.results14, go_sem, z0, z1, z2, z3, y0, y1, y2]; try rfl) rfl ?_; exact ⟨_, _, _, _, _, _, _, _, _, _, _, _, _, _, _, _, rfl, ⟨hn.2, hb3.1, hb3.2⟩, own_monoG PT.out.1 (show w.heap.size ≤ w.heap.size + 3 by omega), PT.out.2.1, PT.out.2.2.2.1, PT.out.2.2.2.2.2⟩) | (obtain ⟨z0, z1, z2, z3, _⟩ := BoxN.at4 RU.out; obtain ⟨y0, y1, y2, _⟩ := BoxN.at3 SU.out; refine bodyPost_ret (by simp [results, Try.results14, go_sem, z0, z1, z2, z3, y0, y1, y2]; try rfl) rfl ?_; exact ⟨_, _, _, _, _, _, _, _, _, _, _, _, _, _, _, _, rfl, ⟨hn.2, hb3.1, hb3.2⟩, own_monoG PU.out.1 (show w.heap.size ≤ w.heap.size + 3 by omega), PU.out.2.1, PU.out.2.2.2.1, PU.out.2.2.2.2.2⟩)
end C
end Go.Proofs.Ytapjlbcpfemeiaa

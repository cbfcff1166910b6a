/-
  GuardsMeet returns what the reference returns, in memory of its own. Conditions: none.
-/
import Derived.Test.YtapjlbcpfemeiaaMarkG
import Derived.Test.YtapjlbcpfemeiaaGMeetS
namespace Go.Proofs.Ytapjlbcpfemeiaa
open Go.RowKit
namespace C

/-- Behind a statement that lays a variable with a point: where it lies, what it holds, where its lists lie, and that what was there is as it was. -/
def LaidP (w : World) (t : Int) (X Y : List Int) (wx : World) (b : Nat) (D : Option Addr) (nd cd : Nat) (E : Option Addr) (ne ce : Nat) : Prop :=
  w.heap.size ≤ b ∧ BoxN wx b [.int .i64 t, .slice D nd cd, .slice E ne ce] ∧ X.length = nd ∧ Y.length = ne ∧ wx.ownsRow w.heap.size 3 1 (.slice D nd cd) nd (X.map (Value.int .i64)) ∧ wx.ownsRow w.heap.size 3 1 (.slice E ne ce) ne (Y.map (Value.int .i64)) ∧ K.Kept w wx
theorem LaidP.put {w wx : World} {t : Int} {X Y : List Int} {b : Nat} {D : Option Addr} {nd cd : Nat} {E : Option Addr} {ne ce : Nat} {u0 u1 u2 : Value} (y0 : BoxN wx b [u0, u1, u2]) (hb : w.heap.size ≤ b) (h1 : X.length = nd) (h2 : Y.length = ne) (o1 : wx.ownsRow (b + 1) 3 1 (.slice D nd cd) nd (X.map (Value.int .i64))) (o2 : wx.ownsRow (b + 1) 3 1 (.slice E ne ce) ne (Y.map (Value.int .i64))) (kx : K.Kept w wx) :
    LaidP w t X Y (((wx.setCell ⟨b, 0, none⟩ (.int .i64 t)).setCell ⟨b, 1, none⟩ (.slice D nd cd)).setCell ⟨b, 2, none⟩ (.slice E ne ce)) b D nd cd E ne ce :=
  ⟨hb, ((y0.set 0 _ (by simp)).set 1 _ (by simp)).set 2 _ (by simp), h1, h2, own_monoG (own_set (own_set (own_set o1 (Nat.lt_succ_self _) _) (Nat.lt_succ_self _) _) (Nat.lt_succ_self _) _) (Nat.le_succ_of_le hb), own_monoG (own_set (own_set (own_set o2 (Nat.lt_succ_self _) _) (Nat.lt_succ_self _) _) (Nat.lt_succ_self _) _) (Nat.le_succ_of_le hb), kset (kset (kset kx hb _) hb _) hb _⟩
theorem LaidP.new {w wx : World} {T : TypeId} {t : Int} {X Y : List Int} {D : Option Addr} {nd cd : Nat} {E : Option Addr} {ne ce : Nat} (h1 : X.length = nd) (h2 : Y.length = ne) (o1 : wx.ownsRow w.heap.size 3 1 (.slice D nd cd) nd (X.map (Value.int .i64))) (o2 : wx.ownsRow w.heap.size 3 1 (.slice E ne ce) ne (Y.map (Value.int .i64))) (kx : K.Kept w wx) :
    LaidP w t X Y (wx.alloc (.cells #[.int .i64 t, .slice D nd cd, .slice E ne ce] T)) wx.heap.size D nd cd E ne ce :=
  ⟨kx.size, BoxN.new _ _ _, h1, h2, K.own_kept o1 (kp1 _ _), K.own_kept o2 (kp1 _ _), K.Kept.trans kx (kp1 _ _)⟩
theorem alloc_lt (w : World) (o : Obj) : w.heap.size + 1 ≤ (w.alloc o).heap.size := by simp
theorem own_heap {w w' : World} {base : Nat} {e : TypeId} {size n : Nat} {v : Value} {xs : List Value} (h : w.ownsRow base e size v n xs) (hh : ∀ i, v.ownBlock = some i → w'.heap[i]? = w.heap[i]?) : w'.ownsRow base e size v n xs :=
  ⟨h.1, h.2.imp id fun ⟨g, cap, cur, hv, hb, hg, r⟩ => ⟨g, cap, cur, hv, hb, (hh g (by rw [hv]; rfl)).trans hg, r⟩⟩
theorem k8 {W : World} {a b : Nat} {v0 v1 v2 v3 p0 p1 p2 p3 : Value} (hv : BoxN W a [v0, v1, v2, v3]) (hp : BoxN W b [p0, p1, p2, p3]) : W.cell? ⟨a, 0, none⟩ = some v0 ∧ W.cell? ⟨a, 1, none⟩ = some v1 ∧ W.cell? ⟨a, 2, none⟩ = some v2 ∧ W.cell? ⟨a, 3, none⟩ = some v3 ∧ W.cell? ⟨b, 0, none⟩ = some p0 ∧ W.cell? ⟨b, 1, none⟩ = some p1 ∧ W.cell? ⟨b, 2, none⟩ = some p2 ∧ W.cell? ⟨b, 3, none⟩ = some p3 := by
  obtain ⟨q0, q1, q2, q3, _⟩ := BoxN.at4 hv
  obtain ⟨r0, r1, r2, r3, _⟩ := BoxN.at4 hp
  exact ⟨q0, q1, q2, q3, r0, r1, r2, r3⟩
set_option maxRecDepth 100000 in
set_option maxHeartbeats 40000000 in
theorem exactGuardsMeet (w : World) (x y u : Int) (A : Option Addr) (n c : Nat) (l : List (Int × Int)) (x2 y2 u2 : Int) (B : Option Addr) (m d : Nat) (l2 : List (Int × Int)) (hc : n ≤ c ∧ c ≤ maxLen) (hd : m ≤ d ∧ d ≤ maxLen) (h : K.PR w w.heap.size A n l) (h2 : K.PR w w.heap.size B m l2) : Calls Try.prog 11 #[.agg #[.int .i64 x, .int .i64 y, .slice A n c, .int .i64 u], .agg #[.int .i64 x2, .int .i64 y2, .slice B m d, .int .i64 u2]] w fun e w' => e = .returned (.bool true) ∧ Below w.heap.size w w' := by
  have bx_g : BoxN ((w.alloc (.cells #[.int .i64 x, .int .i64 y, .slice A n c, .int .i64 u] 51)).alloc (.cells #[.int .i64 x2, .int .i64 y2, .slice B m d, .int .i64 u2] 51)) w.heap.size (#[.int .i64 x, .int .i64 y, .slice A n c, .int .i64 u] : Array Value).toList := (BoxN.new w _ _).kept (kp1 _ _)
  have bx_h : BoxN ((w.alloc (.cells #[.int .i64 x, .int .i64 y, .slice A n c, .int .i64 u] 51)).alloc (.cells #[.int .i64 x2, .int .i64 y2, .slice B m d, .int .i64 u2] 51)) (w.heap.size + 1) (#[.int .i64 x2, .int .i64 y2, .slice B m d, .int .i64 u2] : Array Value).toList := by have q := BoxN.new (w.alloc (.cells #[.int .i64 x, .int .i64 y, .slice A n c, .int .i64 u] 51)) #[.int .i64 x2, .int .i64 y2, .slice B m d, .int .i64 u2] 51; rwa [show (w.alloc (.cells #[.int .i64 x, .int .i64 y, .slice A n c, .int .i64 u] 51)).heap.size = w.heap.size + 1 by simp] at q
  have kw : K.Kept w ((w.alloc (.cells #[.int .i64 x, .int .i64 y, .slice A n c, .int .i64 u] 51)).alloc (.cells #[.int .i64 x2, .int .i64 y2, .slice B m d, .int .i64 u2] 51)) := K.Kept.trans (kp1 _ _) (kp1 _ _)
  have z0 : w.heap.size + 2 ≤ ((w.alloc (.cells #[.int .i64 x, .int .i64 y, .slice A n c, .int .i64 u] 51)).alloc (.cells #[.int .i64 x2, .int .i64 y2, .slice B m d, .int .i64 u2] 51)).heap.size := by simp
  generalize hw0 : ((w.alloc (.cells #[.int .i64 x, .int .i64 y, .slice A n c, .int .i64 u] 51)).alloc (.cells #[.int .i64 x2, .int .i64 y2, .slice B m d, .int .i64 u2] 51)) = w0 at bx_g bx_h kw z0
  have z00 := Lib.hid z0
  clear z0
  have L1 := Lib.hid (K.PR.len h)
  have L2 := Lib.hid (K.PR.len h2)
  by_cases hn : 1048576 < (n : Int)
  case pos =>
    go_enter Try.func11, Try.ntmps11
    obtain ⟨g0, g1, g2, g3, g4, g5, g6, g7, g8⟩ := BoxN.at4 bx_g
    go_wp2_with fail
    refine (szGuard_no _ x y u A n c _ (by omega) hc (by omega)).mono ?_
    rintro e w1 ⟨rfl, kk⟩
    clear g0 g1 g2 g3 g4 g5 g6 g7 g8
    replace bx_g := bx_g.kept kk
    replace bx_h := bx_h.kept kk
    replace kw := K.Kept.trans kw kk
    have z1 := Lib.hid kk.size
    clear kk
    go_wp2
    go_ret
    exact ⟨rfl, kw⟩
  by_cases hm : 1048576 - (n : Int) < (m : Int)
  case pos =>
    go_enter Try.func11, Try.ntmps11
    obtain ⟨g0, g1, g2, g3, g4, g5, g6, g7, g8⟩ := BoxN.at4 bx_g
    go_wp2_with fail
    refine (szGuard_yes _ x y u A n c _ (by omega) (by omega)).mono ?_
    rintro e w1 ⟨rfl, kk⟩
    clear g0 g1 g2 g3 g4 g5 g6 g7 g8
    replace bx_g := bx_g.kept kk
    replace bx_h := bx_h.kept kk
    replace kw := K.Kept.trans kw kk
    have z1 := Lib.hid kk.size
    clear kk
    obtain ⟨h0, h1, h2, h3, h4, h5, h6, h7, h8⟩ := BoxN.at4 bx_h
    go_wp2_with fail
    refine (szGuard_no _ x2 y2 u2 B m d _ (by omega) hd (by omega)).mono ?_
    rintro e w2 ⟨rfl, kk⟩
    clear h0 h1 h2 h3 h4 h5 h6 h7 h8
    replace bx_g := bx_g.kept kk
    replace bx_h := bx_h.kept kk
    replace kw := K.Kept.trans kw kk
    have z2 := Lib.hid kk.size
    clear kk
    go_wp2
    go_ret
    exact ⟨rfl, kw⟩
  have hn' : n ≤ 1048576 := by omega
  have hm' : m ≤ 1048576 := by omega
  have hR := Lib.hid h
  have hQ := Lib.hid h2
  clear h h2
  go_enter Try.func11, Try.ntmps11
  obtain ⟨g0, g1, g2, g3, g4, g5, g6, g7, g8⟩ := BoxN.at4 bx_g
  go_wp2_with fail
  refine (szGuard_yes _ x y u A n c _ (by omega) (by omega)).mono ?_
  rintro e w1 ⟨rfl, kk⟩
  clear g0 g1 g2 g3 g4 g5 g6 g7 g8
  replace bx_g := bx_g.kept kk
  replace bx_h := bx_h.kept kk
  replace kw := K.Kept.trans kw kk
  have z1 := Lib.hid kk.size
  clear kk
  obtain ⟨h0, h1, h2, h3, h4, h5, h6, h7, h8⟩ := BoxN.at4 bx_h
  go_wp2_with fail
  refine (szGuard_yes _ x2 y2 u2 B m d _ (by omega) (by omega)).mono ?_
  rintro e w2 ⟨rfl, kk⟩
  clear h0 h1 h2 h3 h4 h5 h6 h7 h8
  replace bx_g := bx_g.kept kk
  replace bx_h := bx_h.kept kk
  replace kw := K.Kept.trans kw kk
  have z2 := Lib.hid kk.size
  clear kk
  clear hw0
  obtain ⟨b, hB⟩ : ∃ t, gmOk x y u x2 y2 u2 l l2 = t := ⟨_, rfl⟩
  obtain ⟨T, hT⟩ : ∃ t, gmT x y u x2 y2 u2 l l2 = t := ⟨_, rfl⟩
  obtain ⟨X, hX⟩ : ∃ t, gmC x y u x2 y2 u2 l l2 = t := ⟨_, rfl⟩
  obtain ⟨Y, hY⟩ : ∃ t, gmK x y u x2 y2 u2 l l2 = t := ⟨_, rfl⟩
  have LX := Lib.hid (show X.length ≤ 1048576 by rw [← hX]; exact gmC_len (by have := L1.out; omega))
  have LY := Lib.hid (show Y.length ≤ 9 by rw [← hY]; exact gmK_len _ _ _ _ _ _ _ _)
  have eb : (b != b) = false := by simp
  go_upto_region 8 with fail
  go_cut [6, 7] from 28 (fun p q wx => ∃ (b0 : Nat) (D : Option Addr) (nd cd : Nat) (E : Option Addr) (ne ce : Nat), p = .pointer (some ⟨b0, 0, none⟩) ∧ q = .bool b ∧ LaidP w2 T X Y wx b0 D nd cd E ne ce)
  case first =>
    have kx := kdrew w2
    have RA := Lib.hid (rdw hR.out kw)
    have RB := Lib.hid (rdw hQ.out kw)
    have GB_g := bx_g
    have GB_h := bx_h
    obtain ⟨g0, g1, g2, g3, g4, g5, g6, g7, g8⟩ := BoxN.at4 bx_g
    obtain ⟨h0, h1, h2, h3, h4, h5, h6, h7, h8⟩ := BoxN.at4 bx_h
    clear bx_g bx_h kw
    go_region_held3 (fun w' => w'.cell? ⟨w.heap.size, 0, none⟩ = some (.int .i64 x) ∧ w'.cell? ⟨w.heap.size, 1, none⟩ = some (.int .i64 y) ∧ w'.cell? ⟨w.heap.size, 2, none⟩ = some (.slice A n c) ∧ w'.cell? ⟨w.heap.size, 3, none⟩ = some (.int .i64 u) ∧ w'.cell? ⟨w.heap.size + 1, 0, none⟩ = some (.int .i64 x2) ∧ w'.cell? ⟨w.heap.size + 1, 1, none⟩ = some (.int .i64 y2) ∧ w'.cell? ⟨w.heap.size + 1, 2, none⟩ = some (.slice B m d) ∧ w'.cell? ⟨w.heap.size + 1, 3, none⟩ = some (.int .i64 u2)) (first | exact k8 (GB_g.kept kx) (GB_h.kept kx) | exact k8 (GB_g.kept (K.Kept.trans kx (kp1 _ _))) (GB_h.kept (K.Kept.trans kx (kp1 _ _))) | exact k8 (GB_g.kept (kset (kset (kset kx yb _) yb _) yb _)) (GB_h.kept (kset (kset (kset kx yb _) yb _) yb _)) | go_keep) (first | (go_at_call_of 29 (Value.agg #[.int .i64 x, .int .i64 y, .slice A n c, .int .i64 u]); refine (toGuard_c _ x y u A n c l (rdw RA.out kx) (by omega)).mono ?_; rintro e wv ⟨A1, n1, c1, rfl, hl1, own1, kk⟩; (first | (have kq := K.Kept.trans kx kk; have kz := kk; (try replace y0 := BoxN.kept y0 kz); clear kq) | (have yb := kx.size; have y0 := BoxN.kept (BoxN.new _ _ _) kk; (try replace y0 : BoxN _ w2.heap.size _ := y0); have kz := K.Kept.trans (kp1 _ _) kk)); replace kx := K.Kept.trans kx kz; (try replace own2 := K.own_kept own2 kz); clear kk kz; clear g0 g1 g2 g3 g4 g5 g6 g7 g8 h0 h1 h2 h3 h4 h5 h6 h7 h8; have bx_g := GB_g.kept kx; have bx_h := GB_h.kept kx; obtain ⟨g0, g1, g2, g3, g4, g5, g6, g7, g8⟩ := BoxN.at4 bx_g; obtain ⟨h0, h1, h2, h3, h4, h5, h6, h7, h8⟩ := BoxN.at4 bx_h; clear bx_g bx_h) | (go_at_call_of 29 (Value.agg #[.int .i64 x, .int .i64 y, .slice A n c, .int .i64 u]); refine (toGuard_c _ x y u A n c l (rdw RA.out (K.Kept.trans kx (kp1 _ _))) (by omega)).mono ?_; rintro e wv ⟨A1, n1, c1, rfl, hl1, own1, kk⟩; (first | (have kq := K.Kept.trans kx kk; have kz := kk; (try replace y0 := BoxN.kept y0 kz); clear kq) | (have yb := kx.size; have y0 := BoxN.kept (BoxN.new _ _ _) kk; (try replace y0 : BoxN _ w2.heap.size _ := y0); have kz := K.Kept.trans (kp1 _ _) kk)); replace kx := K.Kept.trans kx kz; (try replace own2 := K.own_kept own2 kz); clear kk kz; clear g0 g1 g2 g3 g4 g5 g6 g7 g8 h0 h1 h2 h3 h4 h5 h6 h7 h8; have bx_g := GB_g.kept kx; have bx_h := GB_h.kept kx; obtain ⟨g0, g1, g2, g3, g4, g5, g6, g7, g8⟩ := BoxN.at4 bx_g; obtain ⟨h0, h1, h2, h3, h4, h5, h6, h7, h8⟩ := BoxN.at4 bx_h; clear bx_g bx_h) | (go_at_call_of 29 (Value.agg #[.int .i64 x2, .int .i64 y2, .slice B m d, .int .i64 u2]); refine (toGuard_c _ x2 y2 u2 B m d l2 (rdw RB.out kx) (by omega)).mono ?_; rintro e wv ⟨A2, n2, c2, rfl, hl2, own2, kk⟩; (first | (have kq := K.Kept.trans kx kk; have kz := kk; (try replace y0 := BoxN.kept y0 kz); clear kq) | (have yb := kx.size; have y0 := BoxN.kept (BoxN.new _ _ _) kk; (try replace y0 : BoxN _ w2.heap.size _ := y0); have kz := K.Kept.trans (kp1 _ _) kk)); replace kx := K.Kept.trans kx kz; (try replace own1 := K.own_kept own1 kz); clear kk kz; clear g0 g1 g2 g3 g4 g5 g6 g7 g8 h0 h1 h2 h3 h4 h5 h6 h7 h8; have bx_g := GB_g.kept kx; have bx_h := GB_h.kept kx; obtain ⟨g0, g1, g2, g3, g4, g5, g6, g7, g8⟩ := BoxN.at4 bx_g; obtain ⟨h0, h1, h2, h3, h4, h5, h6, h7, h8⟩ := BoxN.at4 bx_h; clear bx_g bx_h) | (go_at_call_of 29 (Value.agg #[.int .i64 x2, .int .i64 y2, .slice B m d, .int .i64 u2]); refine (toGuard_c _ x2 y2 u2 B m d l2 (rdw RB.out (K.Kept.trans kx (kp1 _ _))) (by omega)).mono ?_; rintro e wv ⟨A2, n2, c2, rfl, hl2, own2, kk⟩; (first | (have kq := K.Kept.trans kx kk; have kz := kk; (try replace y0 := BoxN.kept y0 kz); clear kq) | (have yb := kx.size; have y0 := BoxN.kept (BoxN.new _ _ _) kk; (try replace y0 : BoxN _ w2.heap.size _ := y0); have kz := K.Kept.trans (kp1 _ _) kk)); replace kx := K.Kept.trans kx kz; (try replace own1 := K.own_kept own1 kz); clear kk kz; clear g0 g1 g2 g3 g4 g5 g6 g7 g8 h0 h1 h2 h3 h4 h5 h6 h7 h8; have bx_g := GB_g.kept kx; have bx_h := GB_h.kept kx; obtain ⟨g0, g1, g2, g3, g4, g5, g6, g7, g8⟩ := BoxN.at4 bx_g; obtain ⟨h0, h1, h2, h3, h4, h5, h6, h7, h8⟩ := BoxN.at4 bx_h; clear bx_g bx_h) | (go_at_call 35; refine (guardsMeet_s _ x y u A1 n1 c1 l x2 y2 u2 A2 n2 c2 l2 T X Y b hB hT hX hY (K.rd_own own1) (by have := L1.out; omega) (K.rd_own own2) (by have := L2.out; omega)).mono ?_; rintro e wv ⟨D, nd, cd, E, ne, ce, rfl, hXd, hYe, ownD, ownE, hxx, kk⟩; clear hxx; (first | (replace ownD := own_monoG ownD (Nat.succ_le_of_lt y0.1); replace ownE := own_monoG ownE (Nat.succ_le_of_lt y0.1)) | (replace ownD := own_monoG ownD (alloc_lt _ _); replace ownE := own_monoG ownE (alloc_lt _ _)) | (replace ownD := own_monoG ownD kx.size; replace ownE := own_monoG ownE kx.size)); (first | (have kq := K.Kept.trans kx kk; have kz := kk; (try replace y0 := BoxN.kept y0 kz); clear kq) | (have yb := kx.size; have y0 := BoxN.kept (BoxN.new _ _ _) kk; (try replace y0 : BoxN _ w2.heap.size _ := y0); have kz := K.Kept.trans (kp1 _ _) kk)); replace kx := K.Kept.trans kx kz; clear kk kz own1 own2; (first | (have yg := BoxN.at3 y0; obtain ⟨yy0, yy1, yy2, yy3, yy4, yy5, yy6⟩ := yg) | skip); clear g0 g1 g2 g3 g4 g5 g6 g7 g8 h0 h1 h2 h3 h4 h5 h6 h7 h8; have bx_g := GB_g.kept kx; have bx_h := GB_h.kept kx; obtain ⟨g0, g1, g2, g3, g4, g5, g6, g7, g8⟩ := BoxN.at4 bx_g; obtain ⟨h0, h1, h2, h3, h4, h5, h6, h7, h8⟩ := BoxN.at4 bx_h; clear bx_g bx_h) | (go_at_call 35; refine (guardsMeet_s _ x y u A1 n1 c1 l x2 y2 u2 A2 n2 c2 l2 T X Y b hB hT hX hY (K.rd_own (K.own_kept own1 (kp1 _ _))) (by have := L1.out; omega) (K.rd_own (K.own_kept own2 (kp1 _ _))) (by have := L2.out; omega)).mono ?_; rintro e wv ⟨D, nd, cd, E, ne, ce, rfl, hXd, hYe, ownD, ownE, hxx, kk⟩; clear hxx; (first | (replace ownD := own_monoG ownD (Nat.succ_le_of_lt y0.1); replace ownE := own_monoG ownE (Nat.succ_le_of_lt y0.1)) | (replace ownD := own_monoG ownD (alloc_lt _ _); replace ownE := own_monoG ownE (alloc_lt _ _)) | (replace ownD := own_monoG ownD kx.size; replace ownE := own_monoG ownE kx.size)); (first | (have kq := K.Kept.trans kx kk; have kz := kk; (try replace y0 := BoxN.kept y0 kz); clear kq) | (have yb := kx.size; have y0 := BoxN.kept (BoxN.new _ _ _) kk; (try replace y0 : BoxN _ w2.heap.size _ := y0); have kz := K.Kept.trans (kp1 _ _) kk)); replace kx := K.Kept.trans kx kz; clear kk kz own1 own2; (first | (have yg := BoxN.at3 y0; obtain ⟨yy0, yy1, yy2, yy3, yy4, yy5, yy6⟩ := yg) | skip); clear g0 g1 g2 g3 g4 g5 g6 g7 g8 h0 h1 h2 h3 h4 h5 h6 h7 h8; have bx_g := GB_g.kept kx; have bx_h := GB_h.kept kx; obtain ⟨g0, g1, g2, g3, g4, g5, g6, g7, g8⟩ := BoxN.at4 bx_g; obtain ⟨h0, h1, h2, h3, h4, h5, h6, h7, h8⟩ := BoxN.at4 bx_h; clear bx_g bx_h))
    all_goals go_wp2
    all_goals go_meet
    all_goals first | exact ⟨_, _, _, _, _, _, _, rfl, rfl, LaidP.put y0 yb hXd hYe ownD ownE kx⟩ | exact ⟨_, _, _, _, _, _, _, rfl, rfl, LaidP.new hXd hYe ownD ownE kx⟩
  case rest =>
    obtain ⟨br, Dr, kr, jr, Er, mr, ir, rfl, rfl, hbr, bx_r, hkr, hmr, ownRD, ownRE, kk⟩ := hcut
    obtain ⟨w3, hren⟩ : ∃ z, z = wc := ⟨_, rfl⟩
    subst hren
    replace bx_g := bx_g.kept kk
    replace bx_h := bx_h.kept kk
    replace kw := K.Kept.trans kw kk
    have z3 := Lib.hid kk.size
    clear kk
    have zbr := Lib.hid hbr
    clear hbr
    have zcr := Lib.hid bx_r.1
    have LTownRD := Lib.hid ownRD.lt
    have LTownRE := Lib.hid ownRE.lt
    obtain ⟨g0, g1, g2, g3, g4, g5, g6, g7, g8⟩ := BoxN.at4 bx_g
    go_wp2_with fail
    refine (toGuard_c _ x y u A n c l (rdw hR.out kw) (by omega)).mono ?_
    rintro e w4 ⟨Ax, nx, cx, rfl, hlx, ownx, kk⟩
    clear g0 g1 g2 g3 g4 g5 g6 g7 g8
    replace bx_g := bx_g.kept kk
    replace bx_h := bx_h.kept kk
    replace bx_r := bx_r.kept kk
    replace ownRD := K.own_kept ownRD kk
    replace ownRE := K.own_kept ownRE kk
    replace kw := K.Kept.trans kw kk
    have z4 := Lib.hid kk.size
    clear kk
    have LTownx := Lib.hid ownx.lt
    have bx_a : BoxN (w4.alloc (.cells #[.int .i64 x, .int .i64 y, .slice Ax nx cx, .int .i64 u] 27)) w4.heap.size (#[.int .i64 x, .int .i64 y, .slice Ax nx cx, .int .i64 u] : Array Value).toList := BoxN.new w4 _ _
    have zz : w4.heap.size < (w4.alloc (.cells #[.int .i64 x, .int .i64 y, .slice Ax nx cx, .int .i64 u] 27)).heap.size := by simp
    have kk := kp1 w4 (.cells #[.int .i64 x, .int .i64 y, .slice Ax nx cx, .int .i64 u] 27)
    replace bx_g := bx_g.kept kk
    replace bx_h := bx_h.kept kk
    replace bx_r := bx_r.kept kk
    replace ownRD := K.own_kept ownRD kk
    replace ownRE := K.own_kept ownRE kk
    replace ownx := K.own_kept ownx kk
    replace kw := K.Kept.trans kw kk
    generalize hw5 : w4.alloc (.cells #[.int .i64 x, .int .i64 y, .slice Ax nx cx, .int .i64 u] 27) = w5 at bx_g bx_h bx_r bx_a ownRD ownRE ownx kw kk zz
    clear kk
    have z5 := Lib.hid zz
    clear zz
    obtain ⟨h0, h1, h2, h3, h4, h5, h6, h7, h8⟩ := BoxN.at4 bx_h
    go_wp2_with fail
    refine (toGuard_c _ x2 y2 u2 B m d l2 (rdw hQ.out kw) (by omega)).mono ?_
    rintro e w6 ⟨Av, nv, cv, rfl, hlv, ownv, kk⟩
    clear h0 h1 h2 h3 h4 h5 h6 h7 h8
    replace bx_g := bx_g.kept kk
    replace bx_h := bx_h.kept kk
    replace bx_r := bx_r.kept kk
    replace bx_a := bx_a.kept kk
    replace ownRD := K.own_kept ownRD kk
    replace ownRE := K.own_kept ownRE kk
    replace ownx := K.own_kept ownx kk
    replace kw := K.Kept.trans kw kk
    have z6 := Lib.hid kk.size
    clear kk
    have LTownv := Lib.hid ownv.lt
    have bx_f : BoxN (w6.alloc (.cells #[.int .i64 x2, .int .i64 y2, .slice Av nv cv, .int .i64 u2] 27)) w6.heap.size (#[.int .i64 x2, .int .i64 y2, .slice Av nv cv, .int .i64 u2] : Array Value).toList := BoxN.new w6 _ _
    have zz : w6.heap.size < (w6.alloc (.cells #[.int .i64 x2, .int .i64 y2, .slice Av nv cv, .int .i64 u2] 27)).heap.size := by simp
    have kk := kp1 w6 (.cells #[.int .i64 x2, .int .i64 y2, .slice Av nv cv, .int .i64 u2] 27)
    replace bx_g := bx_g.kept kk
    replace bx_h := bx_h.kept kk
    replace bx_r := bx_r.kept kk
    replace bx_a := bx_a.kept kk
    replace ownRD := K.own_kept ownRD kk
    replace ownRE := K.own_kept ownRE kk
    replace ownx := K.own_kept ownx kk
    replace ownv := K.own_kept ownv kk
    replace kw := K.Kept.trans kw kk
    generalize hw7 : w6.alloc (.cells #[.int .i64 x2, .int .i64 y2, .slice Av nv cv, .int .i64 u2] 27) = w7 at bx_g bx_h bx_r bx_a bx_f ownRD ownRE ownx ownv kw kk zz
    clear kk
    have z7 := Lib.hid zz
    clear zz
    obtain ⟨a0, a1, a2, a3, a4, a5, a6, a7, a8⟩ := BoxN.at4 bx_a
    obtain ⟨f0, f1, f2, f3, f4, f5, f6, f7, f8⟩ := BoxN.at4 bx_f
    go_wp2_with fail
    refine (guardsMeet_i _ x y u Ax nx cx l x2 y2 u2 Av nv cv l2 T X Y b hB hT hX hY (K.rd_own ownx) (by have := L1.out; omega) (K.rd_own ownv) (by have := L2.out; omega)).mono ?_
    rintro e w8 ⟨Dp, kp, jp, Ep, mp, ip, rfl, hkp, hmp, ownPD, ownPE, hxp, kk⟩
    clear a0 a1 a2 a3 a4 a5 a6 a7 a8 f0 f1 f2 f3 f4 f5 f6 f7 f8
    replace bx_g := bx_g.kept kk
    replace bx_h := bx_h.kept kk
    replace bx_r := bx_r.kept kk
    replace bx_a := bx_a.kept kk
    replace bx_f := bx_f.kept kk
    replace ownRD := K.own_kept ownRD kk
    replace ownRE := K.own_kept ownRE kk
    replace ownx := K.own_kept ownx kk
    replace ownv := K.own_kept ownv kk
    replace kw := K.Kept.trans kw kk
    have z8 := Lib.hid kk.size
    clear kk
    have LTownPD := Lib.hid ownPD.lt
    have LTownPE := Lib.hid ownPE.lt
    have NP := Lib.hid hxp
    clear hxp
    have bx_p : BoxN (w8.alloc (.cells #[.int .i64 T, .slice Dp kp jp, .slice Ep mp ip] 30)) w8.heap.size (#[.int .i64 T, .slice Dp kp jp, .slice Ep mp ip] : Array Value).toList := BoxN.new w8 _ _
    have zz : w8.heap.size < (w8.alloc (.cells #[.int .i64 T, .slice Dp kp jp, .slice Ep mp ip] 30)).heap.size := by simp
    have kk := kp1 w8 (.cells #[.int .i64 T, .slice Dp kp jp, .slice Ep mp ip] 30)
    replace bx_g := bx_g.kept kk
    replace bx_h := bx_h.kept kk
    replace bx_r := bx_r.kept kk
    replace bx_a := bx_a.kept kk
    replace bx_f := bx_f.kept kk
    replace ownRD := K.own_kept ownRD kk
    replace ownRE := K.own_kept ownRE kk
    replace ownx := K.own_kept ownx kk
    replace ownv := K.own_kept ownv kk
    replace ownPD := K.own_kept ownPD kk
    replace ownPE := K.own_kept ownPE kk
    replace kw := K.Kept.trans kw kk
    generalize hw9 : w8.alloc (.cells #[.int .i64 T, .slice Dp kp jp, .slice Ep mp ip] 30) = w9 at bx_g bx_h bx_r bx_a bx_f bx_p ownRD ownRE ownx ownv ownPD ownPE kw kk zz
    clear kk
    have z9 := Lib.hid zz
    clear zz
    obtain ⟨p0, p1, p2, p3, p4, p5, p6⟩ := BoxN.at3 bx_p
    obtain ⟨r0, r1, r2, r3, r4, r5, r6⟩ := BoxN.at3 bx_r
    go_wp2_with fail
    refine (eqPoint_yes _ T Dp kp jp Ep mp ip Dr kr jr Er mr ir X Y (K.rd_own ownPD) (K.rd_own ownPE) (K.rd_own ownRD) (K.rd_own ownRE) (by have := LX.out; omega) (by have := LY.out; omega) (by have := LX.out; omega) (by have := LY.out; omega)).mono ?_
    rintro e w10 ⟨rfl, kk⟩
    clear p0 p1 p2 p3 p4 p5 p6 r0 r1 r2 r3 r4 r5 r6
    replace bx_g := bx_g.kept kk
    replace bx_h := bx_h.kept kk
    replace bx_r := bx_r.kept kk
    replace bx_a := bx_a.kept kk
    replace bx_f := bx_f.kept kk
    replace bx_p := bx_p.kept kk
    replace ownRD := K.own_kept ownRD kk
    replace ownRE := K.own_kept ownRE kk
    replace ownx := K.own_kept ownx kk
    replace ownv := K.own_kept ownv kk
    replace ownPD := K.own_kept ownPD kk
    replace ownPE := K.own_kept ownPE kk
    replace kw := K.Kept.trans kw kk
    have z10 := Lib.hid kk.size
    clear kk
    go_wp2_with fail
    have kx := kdrew w10
    have V0 := k8 (bx_a.kept kx) (bx_g.kept kx)
    obtain ⟨a0, a1, a2, a3, a4, a5, a6, a7, a8⟩ := BoxN.at4 bx_a
    obtain ⟨g0, g1, g2, g3, g4, g5, g6, g7, g8⟩ := BoxN.at4 bx_g
    go_region_held3 (fun w' => w'.cell? ⟨w4.heap.size, 0, none⟩ = some (.int .i64 x) ∧ w'.cell? ⟨w4.heap.size, 1, none⟩ = some (.int .i64 y) ∧ w'.cell? ⟨w4.heap.size, 2, none⟩ = some (.slice Ax nx cx) ∧ w'.cell? ⟨w4.heap.size, 3, none⟩ = some (.int .i64 u) ∧ w'.cell? ⟨w.heap.size, 0, none⟩ = some (.int .i64 x) ∧ w'.cell? ⟨w.heap.size, 1, none⟩ = some (.int .i64 y) ∧ w'.cell? ⟨w.heap.size, 2, none⟩ = some (.slice A n c) ∧ w'.cell? ⟨w.heap.size, 3, none⟩ = some (.int .i64 u)) (first | exact V0 | go_keep) (first | (go_at_call 29; refine (toGuard_c _ x y u A n c l (rdw hR.out (K.Kept.trans kw kx)) (by omega)).mono ?_; rintro e wv ⟨Az, nz, cz, rfl, hlz, ownz, kk⟩; replace kx := K.Kept.trans kx kk; clear kk; clear a0 a1 a2 a3 a4 a5 a6 a7 a8 g0 g1 g2 g3 g4 g5 g6 g7 g8; have qa := bx_a.kept kx; have qb := bx_g.kept kx; clear V0; have V0 := k8 qa qb; obtain ⟨a0, a1, a2, a3, a4, a5, a6, a7, a8⟩ := BoxN.at4 qa; obtain ⟨g0, g1, g2, g3, g4, g5, g6, g7, g8⟩ := BoxN.at4 qb; clear qa qb) | (go_at_call 31; refine (eqGuard_yes _ x y u Ax nx cx Az nz cz l (K.rd_own (K.own_kept ownx kx)) (K.rd_own ownz) (by have := L1.out; omega) (by have := L1.out; omega)).mono ?_; rintro e wv ⟨rfl, kk⟩; clear ownz; replace kx := K.Kept.trans kx kk; clear kk; clear a0 a1 a2 a3 a4 a5 a6 a7 a8 g0 g1 g2 g3 g4 g5 g6 g7 g8; have qa := bx_a.kept kx; have qb := bx_g.kept kx; clear V0; have V0 := k8 qa qb; obtain ⟨a0, a1, a2, a3, a4, a5, a6, a7, a8⟩ := BoxN.at4 qa; obtain ⟨g0, g1, g2, g3, g4, g5, g6, g7, g8⟩ := BoxN.at4 qb; clear qa qb))
    all_goals
      clear V0 hlz
      clear a0 a1 a2 a3 a4 a5 a6 a7 a8 g0 g1 g2 g3 g4 g5 g6 g7 g8
      obtain ⟨w11, hren⟩ : ∃ z, z = wv := ⟨_, rfl⟩
      subst hren
      replace bx_g := bx_g.kept kx
      replace bx_h := bx_h.kept kx
      replace bx_r := bx_r.kept kx
      replace bx_a := bx_a.kept kx
      replace bx_f := bx_f.kept kx
      replace bx_p := bx_p.kept kx
      replace ownRD := K.own_kept ownRD kx
      replace ownRE := K.own_kept ownRE kx
      replace ownx := K.own_kept ownx kx
      replace ownv := K.own_kept ownv kx
      replace ownPD := K.own_kept ownPD kx
      replace ownPE := K.own_kept ownPE kx
      replace kw := K.Kept.trans kw kx
      have z11 := Lib.hid kx.size
      clear kx
      go_wp2_with fail
      have kx := kdrew w11
      have V0 := k8 (bx_f.kept kx) (bx_h.kept kx)
      obtain ⟨f0, f1, f2, f3, f4, f5, f6, f7, f8⟩ := BoxN.at4 bx_f
      obtain ⟨h0, h1, h2, h3, h4, h5, h6, h7, h8⟩ := BoxN.at4 bx_h
      go_region_held3 (fun w' => w'.cell? ⟨w6.heap.size, 0, none⟩ = some (.int .i64 x2) ∧ w'.cell? ⟨w6.heap.size, 1, none⟩ = some (.int .i64 y2) ∧ w'.cell? ⟨w6.heap.size, 2, none⟩ = some (.slice Av nv cv) ∧ w'.cell? ⟨w6.heap.size, 3, none⟩ = some (.int .i64 u2) ∧ w'.cell? ⟨w.heap.size + 1, 0, none⟩ = some (.int .i64 x2) ∧ w'.cell? ⟨w.heap.size + 1, 1, none⟩ = some (.int .i64 y2) ∧ w'.cell? ⟨w.heap.size + 1, 2, none⟩ = some (.slice B m d) ∧ w'.cell? ⟨w.heap.size + 1, 3, none⟩ = some (.int .i64 u2)) (first | exact V0 | go_keep) (first | (go_at_call 29; refine (toGuard_c _ x2 y2 u2 B m d l2 (rdw hQ.out (K.Kept.trans kw kx)) (by omega)).mono ?_; rintro e wv ⟨Az, nz, cz, rfl, hlz, ownz, kk⟩; replace kx := K.Kept.trans kx kk; clear kk; clear f0 f1 f2 f3 f4 f5 f6 f7 f8 h0 h1 h2 h3 h4 h5 h6 h7 h8; have qa := bx_f.kept kx; have qb := bx_h.kept kx; clear V0; have V0 := k8 qa qb; obtain ⟨f0, f1, f2, f3, f4, f5, f6, f7, f8⟩ := BoxN.at4 qa; obtain ⟨h0, h1, h2, h3, h4, h5, h6, h7, h8⟩ := BoxN.at4 qb; clear qa qb) | (go_at_call 31; refine (eqGuard_yes _ x2 y2 u2 Av nv cv Az nz cz l2 (K.rd_own (K.own_kept ownv kx)) (K.rd_own ownz) (by have := L2.out; omega) (by have := L2.out; omega)).mono ?_; rintro e wv ⟨rfl, kk⟩; clear ownz; replace kx := K.Kept.trans kx kk; clear kk; clear f0 f1 f2 f3 f4 f5 f6 f7 f8 h0 h1 h2 h3 h4 h5 h6 h7 h8; have qa := bx_f.kept kx; have qb := bx_h.kept kx; clear V0; have V0 := k8 qa qb; obtain ⟨f0, f1, f2, f3, f4, f5, f6, f7, f8⟩ := BoxN.at4 qa; obtain ⟨h0, h1, h2, h3, h4, h5, h6, h7, h8⟩ := BoxN.at4 qb; clear qa qb))
      all_goals
        clear V0 hlz
        clear f0 f1 f2 f3 f4 f5 f6 f7 f8 h0 h1 h2 h3 h4 h5 h6 h7 h8
        obtain ⟨w12, hren⟩ : ∃ z, z = wv := ⟨_, rfl⟩
        subst hren
        replace bx_g := bx_g.kept kx
        replace bx_h := bx_h.kept kx
        replace bx_r := bx_r.kept kx
        replace bx_a := bx_a.kept kx
        replace bx_f := bx_f.kept kx
        replace bx_p := bx_p.kept kx
        replace ownRD := K.own_kept ownRD kx
        replace ownRE := K.own_kept ownRE kx
        replace ownx := K.own_kept ownx kx
        replace ownv := K.own_kept ownv kx
        replace ownPD := K.own_kept ownPD kx
        replace ownPE := K.own_kept ownPE kx
        replace kw := K.Kept.trans kw kx
        have z12 := Lib.hid kx.size
        clear kx
        obtain ⟨a0, a1, a2, a3, a4, a5, a6, a7, a8⟩ := BoxN.at4 bx_a
        go_wp2_with fail
        refine (markGuard_c _ _ x y u Ax nx cx l 1 ownx (by have := L1.out; omega) (by have := L1.out; have := L2.out; omega)).mono ?_
        rintro e w13 ⟨rfl, gg⟩
        clear a0 a1 a2 a3 a4 a5 a6 a7 a8
        replace ownRD := K.own_other ownRD gg (fun i j hi hj => by have := LTownRD.out i hi; have := LTownx.out j hj; have := z00.out; have := z1.out; have := z2.out; have := z3.out; have := zbr.out; have := zcr.out; have := z4.out; have := z5.out; have := z6.out; have := z7.out; have := z8.out; have := z9.out; have := z10.out; have := z11.out; have := z12.out; omega)
        replace ownRE := K.own_other ownRE gg (fun i j hi hj => by have := LTownRE.out i hi; have := LTownx.out j hj; have := z00.out; have := z1.out; have := z2.out; have := z3.out; have := zbr.out; have := zcr.out; have := z4.out; have := z5.out; have := z6.out; have := z7.out; have := z8.out; have := z9.out; have := z10.out; have := z11.out; have := z12.out; omega)
        replace ownv := K.own_other ownv gg (fun i j hi hj => by have := LTownv.out i hi; have := LTownx.out j hj; have := z00.out; have := z1.out; have := z2.out; have := z3.out; have := zbr.out; have := zcr.out; have := z4.out; have := z5.out; have := z6.out; have := z7.out; have := z8.out; have := z9.out; have := z10.out; have := z11.out; have := z12.out; omega)
        replace ownPD := K.own_other ownPD gg (fun i j hi hj => by have := LTownPD.out i hi; have := LTownx.out j hj; have := z00.out; have := z1.out; have := z2.out; have := z3.out; have := zbr.out; have := zcr.out; have := z4.out; have := z5.out; have := z6.out; have := z7.out; have := z8.out; have := z9.out; have := z10.out; have := z11.out; have := z12.out; omega)
        replace ownPE := K.own_other ownPE gg (fun i j hi hj => by have := LTownPE.out i hi; have := LTownx.out j hj; have := z00.out; have := z1.out; have := z2.out; have := z3.out; have := zbr.out; have := zcr.out; have := z4.out; have := z5.out; have := z6.out; have := z7.out; have := z8.out; have := z9.out; have := z10.out; have := z11.out; have := z12.out; omega)
        replace bx_g := BoxN.grown bx_g gg (fun e => by have := LTownx.out _ e; have := z00.out; have := z1.out; have := z2.out; have := z3.out; have := zbr.out; have := zcr.out; have := z4.out; have := z5.out; have := z6.out; have := z7.out; have := z8.out; have := z9.out; have := z10.out; have := z11.out; have := z12.out; omega)
        replace bx_h := BoxN.grown bx_h gg (fun e => by have := LTownx.out _ e; have := z00.out; have := z1.out; have := z2.out; have := z3.out; have := zbr.out; have := zcr.out; have := z4.out; have := z5.out; have := z6.out; have := z7.out; have := z8.out; have := z9.out; have := z10.out; have := z11.out; have := z12.out; omega)
        replace bx_r := BoxN.grown bx_r gg (fun e => by have := LTownx.out _ e; have := z00.out; have := z1.out; have := z2.out; have := z3.out; have := zbr.out; have := zcr.out; have := z4.out; have := z5.out; have := z6.out; have := z7.out; have := z8.out; have := z9.out; have := z10.out; have := z11.out; have := z12.out; omega)
        replace bx_a := BoxN.grown bx_a gg (fun e => by have := LTownx.out _ e; have := z00.out; have := z1.out; have := z2.out; have := z3.out; have := zbr.out; have := zcr.out; have := z4.out; have := z5.out; have := z6.out; have := z7.out; have := z8.out; have := z9.out; have := z10.out; have := z11.out; have := z12.out; omega)
        replace bx_f := BoxN.grown bx_f gg (fun e => by have := LTownx.out _ e; have := z00.out; have := z1.out; have := z2.out; have := z3.out; have := zbr.out; have := zcr.out; have := z4.out; have := z5.out; have := z6.out; have := z7.out; have := z8.out; have := z9.out; have := z10.out; have := z11.out; have := z12.out; omega)
        replace bx_p := BoxN.grown bx_p gg (fun e => by have := LTownx.out _ e; have := z00.out; have := z1.out; have := z2.out; have := z3.out; have := zbr.out; have := zcr.out; have := z4.out; have := z5.out; have := z6.out; have := z7.out; have := z8.out; have := z9.out; have := z10.out; have := z11.out; have := z12.out; omega)
        replace kw : K.Kept w _ := Below.grown kw gg kw.size (fun i hi => by have := LTownx.out i hi; have := z00.out; have := z1.out; have := z2.out; have := z3.out; have := zbr.out; have := zcr.out; have := z4.out; have := z5.out; have := z6.out; have := z7.out; have := z8.out; have := z9.out; have := z10.out; have := z11.out; have := z12.out; omega)
        have z13 := Lib.hid gg.size
        clear gg
        clear ownx LTownx
        clear bx_a
        obtain ⟨f0, f1, f2, f3, f4, f5, f6, f7, f8⟩ := BoxN.at4 bx_f
        go_wp2_with fail
        refine (markGuard_c _ _ x2 y2 u2 Av nv cv l2 (1 + 2 * (nx : Int)) ownv (by have := L2.out; omega) (by have := L1.out; have := L2.out; omega)).mono ?_
        rintro e w14 ⟨rfl, gg⟩
        clear f0 f1 f2 f3 f4 f5 f6 f7 f8
        replace ownRD := K.own_other ownRD gg (fun i j hi hj => by have := LTownRD.out i hi; have := LTownv.out j hj; have := z00.out; have := z1.out; have := z2.out; have := z3.out; have := zbr.out; have := zcr.out; have := z4.out; have := z5.out; have := z6.out; have := z7.out; have := z8.out; have := z9.out; have := z10.out; have := z11.out; have := z12.out; have := z13.out; omega)
        replace ownRE := K.own_other ownRE gg (fun i j hi hj => by have := LTownRE.out i hi; have := LTownv.out j hj; have := z00.out; have := z1.out; have := z2.out; have := z3.out; have := zbr.out; have := zcr.out; have := z4.out; have := z5.out; have := z6.out; have := z7.out; have := z8.out; have := z9.out; have := z10.out; have := z11.out; have := z12.out; have := z13.out; omega)
        replace ownPD := K.own_other ownPD gg (fun i j hi hj => by have := LTownPD.out i hi; have := LTownv.out j hj; have := z00.out; have := z1.out; have := z2.out; have := z3.out; have := zbr.out; have := zcr.out; have := z4.out; have := z5.out; have := z6.out; have := z7.out; have := z8.out; have := z9.out; have := z10.out; have := z11.out; have := z12.out; have := z13.out; omega)
        replace ownPE := K.own_other ownPE gg (fun i j hi hj => by have := LTownPE.out i hi; have := LTownv.out j hj; have := z00.out; have := z1.out; have := z2.out; have := z3.out; have := zbr.out; have := zcr.out; have := z4.out; have := z5.out; have := z6.out; have := z7.out; have := z8.out; have := z9.out; have := z10.out; have := z11.out; have := z12.out; have := z13.out; omega)
        replace bx_g := BoxN.grown bx_g gg (fun e => by have := LTownv.out _ e; have := z00.out; have := z1.out; have := z2.out; have := z3.out; have := zbr.out; have := zcr.out; have := z4.out; have := z5.out; have := z6.out; have := z7.out; have := z8.out; have := z9.out; have := z10.out; have := z11.out; have := z12.out; have := z13.out; omega)
        replace bx_h := BoxN.grown bx_h gg (fun e => by have := LTownv.out _ e; have := z00.out; have := z1.out; have := z2.out; have := z3.out; have := zbr.out; have := zcr.out; have := z4.out; have := z5.out; have := z6.out; have := z7.out; have := z8.out; have := z9.out; have := z10.out; have := z11.out; have := z12.out; have := z13.out; omega)
        replace bx_r := BoxN.grown bx_r gg (fun e => by have := LTownv.out _ e; have := z00.out; have := z1.out; have := z2.out; have := z3.out; have := zbr.out; have := zcr.out; have := z4.out; have := z5.out; have := z6.out; have := z7.out; have := z8.out; have := z9.out; have := z10.out; have := z11.out; have := z12.out; have := z13.out; omega)
        replace bx_f := BoxN.grown bx_f gg (fun e => by have := LTownv.out _ e; have := z00.out; have := z1.out; have := z2.out; have := z3.out; have := zbr.out; have := zcr.out; have := z4.out; have := z5.out; have := z6.out; have := z7.out; have := z8.out; have := z9.out; have := z10.out; have := z11.out; have := z12.out; have := z13.out; omega)
        replace bx_p := BoxN.grown bx_p gg (fun e => by have := LTownv.out _ e; have := z00.out; have := z1.out; have := z2.out; have := z3.out; have := zbr.out; have := zcr.out; have := z4.out; have := z5.out; have := z6.out; have := z7.out; have := z8.out; have := z9.out; have := z10.out; have := z11.out; have := z12.out; have := z13.out; omega)
        replace kw : K.Kept w _ := Below.grown kw gg kw.size (fun i hi => by have := LTownv.out i hi; have := z00.out; have := z1.out; have := z2.out; have := z3.out; have := zbr.out; have := zcr.out; have := z4.out; have := z5.out; have := z6.out; have := z7.out; have := z8.out; have := z9.out; have := z10.out; have := z11.out; have := z12.out; have := z13.out; omega)
        have z14 := Lib.hid gg.size
        clear gg
        clear ownv LTownv
        clear bx_f
        have hk1 : decide ((1 : Int) + 2 * (nx : Int) + 2 * (nv : Int) < 0) = false := by simp; omega
        obtain ⟨p0, p1, p2, p3, p4, p5, p6⟩ := BoxN.at3 bx_p
        obtain ⟨r0, r1, r2, r3, r4, r5, r6⟩ := BoxN.at3 bx_r
        go_wp2_with fail
        refine (eqPoint_yes _ T Dp kp jp Ep mp ip Dr kr jr Er mr ir X Y (K.rd_own ownPD) (K.rd_own ownPE) (K.rd_own ownRD) (K.rd_own ownRE) (by have := LX.out; omega) (by have := LY.out; omega) (by have := LX.out; omega) (by have := LY.out; omega)).mono ?_
        rintro e w15 ⟨rfl, kk⟩
        clear p0 p1 p2 p3 p4 p5 p6 r0 r1 r2 r3 r4 r5 r6
        replace bx_g := bx_g.kept kk
        replace bx_h := bx_h.kept kk
        replace bx_r := bx_r.kept kk
        replace bx_p := bx_p.kept kk
        replace ownRD := K.own_kept ownRD kk
        replace ownRE := K.own_kept ownRE kk
        replace ownPD := K.own_kept ownPD kk
        replace ownPE := K.own_kept ownPE kk
        replace kw := K.Kept.trans kw kk
        have z15 := Lib.hid kk.size
        clear kk
        obtain ⟨p0, p1, p2, p3, p4, p5, p6⟩ := BoxN.at3 bx_p
        go_wp2_with fail
        refine (markPoint_c _ _ T Dp kp jp X Ep mp ip Y 1 ownPD ownPE NP.out (by have := LX.out; omega) (by have := LY.out; omega) (by omega) (by have := z00.out; have := z1.out; have := z2.out; have := z3.out; have := zbr.out; have := zcr.out; have := z4.out; have := z5.out; have := z6.out; have := z7.out; have := z8.out; have := z9.out; have := z10.out; have := z11.out; have := z12.out; have := z13.out; have := z14.out; have := z15.out; omega)).mono ?_
        rintro e w16 ⟨rfl, oD, oE, kB, kH, kX⟩
        clear p0 p1 p2 p3 p4 p5 p6
        replace ownRD := own_heap ownRD (fun i hi => kH i (by have := LTownRD.out i hi; have := z00.out; have := z1.out; have := z2.out; have := z3.out; have := zbr.out; have := zcr.out; have := z4.out; have := z5.out; have := z6.out; have := z7.out; have := z8.out; have := z9.out; have := z10.out; have := z11.out; have := z12.out; have := z13.out; have := z14.out; have := z15.out; omega))
        replace ownRE := own_heap ownRE (fun i hi => kH i (by have := LTownRE.out i hi; have := z00.out; have := z1.out; have := z2.out; have := z3.out; have := zbr.out; have := zcr.out; have := z4.out; have := z5.out; have := z6.out; have := z7.out; have := z8.out; have := z9.out; have := z10.out; have := z11.out; have := z12.out; have := z13.out; have := z14.out; have := z15.out; omega))
        replace bx_g := kX _ _ bx_g (fun i hi => by have := LTownPD.out i hi; have := z00.out; have := z1.out; have := z2.out; have := z3.out; have := zbr.out; have := zcr.out; have := z4.out; have := z5.out; have := z6.out; have := z7.out; have := z8.out; have := z9.out; have := z10.out; have := z11.out; have := z12.out; have := z13.out; have := z14.out; have := z15.out; omega) (fun i hi => by have := LTownPE.out i hi; have := z00.out; have := z1.out; have := z2.out; have := z3.out; have := zbr.out; have := zcr.out; have := z4.out; have := z5.out; have := z6.out; have := z7.out; have := z8.out; have := z9.out; have := z10.out; have := z11.out; have := z12.out; have := z13.out; have := z14.out; have := z15.out; omega)
        replace bx_h := kX _ _ bx_h (fun i hi => by have := LTownPD.out i hi; have := z00.out; have := z1.out; have := z2.out; have := z3.out; have := zbr.out; have := zcr.out; have := z4.out; have := z5.out; have := z6.out; have := z7.out; have := z8.out; have := z9.out; have := z10.out; have := z11.out; have := z12.out; have := z13.out; have := z14.out; have := z15.out; omega) (fun i hi => by have := LTownPE.out i hi; have := z00.out; have := z1.out; have := z2.out; have := z3.out; have := zbr.out; have := zcr.out; have := z4.out; have := z5.out; have := z6.out; have := z7.out; have := z8.out; have := z9.out; have := z10.out; have := z11.out; have := z12.out; have := z13.out; have := z14.out; have := z15.out; omega)
        replace bx_r := kX _ _ bx_r (fun i hi => by have := LTownPD.out i hi; have := z00.out; have := z1.out; have := z2.out; have := z3.out; have := zbr.out; have := zcr.out; have := z4.out; have := z5.out; have := z6.out; have := z7.out; have := z8.out; have := z9.out; have := z10.out; have := z11.out; have := z12.out; have := z13.out; have := z14.out; have := z15.out; omega) (fun i hi => by have := LTownPE.out i hi; have := z00.out; have := z1.out; have := z2.out; have := z3.out; have := zbr.out; have := zcr.out; have := z4.out; have := z5.out; have := z6.out; have := z7.out; have := z8.out; have := z9.out; have := z10.out; have := z11.out; have := z12.out; have := z13.out; have := z14.out; have := z15.out; omega)
        replace bx_p := kX _ _ bx_p (fun i hi => by have := LTownPD.out i hi; have := z00.out; have := z1.out; have := z2.out; have := z3.out; have := zbr.out; have := zcr.out; have := z4.out; have := z5.out; have := z6.out; have := z7.out; have := z8.out; have := z9.out; have := z10.out; have := z11.out; have := z12.out; have := z13.out; have := z14.out; have := z15.out; omega) (fun i hi => by have := LTownPE.out i hi; have := z00.out; have := z1.out; have := z2.out; have := z3.out; have := zbr.out; have := zcr.out; have := z4.out; have := z5.out; have := z6.out; have := z7.out; have := z8.out; have := z9.out; have := z10.out; have := z11.out; have := z12.out; have := z13.out; have := z14.out; have := z15.out; omega)
        replace kw := Below.trans kw (kB _ (by have := z00.out; have := z1.out; have := z2.out; have := z3.out; have := zbr.out; have := zcr.out; have := z4.out; have := z5.out; have := z6.out; have := z7.out; have := z8.out; have := z9.out; have := z10.out; have := z11.out; have := z12.out; have := z13.out; have := z14.out; have := z15.out; omega))
        clear ownPD ownPE
        have ownPD := oD
        have ownPE := oE
        clear oD oE kB kH kX
        have hq1 : decide ((1 : Int) + (kp : Int) + (mp : Int) < 0) = false := by simp; omega
        obtain ⟨p0, p1, p2, p3, p4, p5, p6⟩ := BoxN.at3 bx_p
        go_wp2_with fail
        refine (heldPoint_c _ T Dp kp jp Ep mp ip 1 (K.rd_own ownPD) (K.rd_own ownPE) (by have := LX.out; omega) (by have := LY.out; omega) (by omega)).mono ?_
        rintro e w17 ⟨rfl, kk⟩
        clear p0 p1 p2 p3 p4 p5 p6
        replace bx_g := bx_g.kept kk
        replace bx_h := bx_h.kept kk
        replace bx_r := bx_r.kept kk
        replace bx_p := bx_p.kept kk
        replace ownRD := K.own_kept ownRD kk
        replace ownRE := K.own_kept ownRE kk
        replace ownPD := K.own_kept ownPD kk
        replace ownPE := K.own_kept ownPE kk
        replace kw := K.Kept.trans kw kk
        have z17 := Lib.hid kk.size
        clear kk
        go_upto_region 31 with fail
        go_cut [15, 16] from 95 (fun p q wx => ∃ (b0 : Nat) (D : Option Addr) (nd cd : Nat) (E : Option Addr) (ne ce : Nat), p = .pointer (some ⟨b0, 0, none⟩) ∧ q = .bool b ∧ LaidP w17 T X Y wx b0 D nd cd E ne ce)
        case first =>
          have kx := kdrew w17
          have RA := Lib.hid (rdw hR.out kw)
          have RB := Lib.hid (rdw hQ.out kw)
          have GB_g := bx_g
          have GB_h := bx_h
          obtain ⟨g0, g1, g2, g3, g4, g5, g6, g7, g8⟩ := BoxN.at4 bx_g
          obtain ⟨h0, h1, h2, h3, h4, h5, h6, h7, h8⟩ := BoxN.at4 bx_h
          clear bx_g bx_h bx_r bx_p ownRD ownRE ownPD ownPE kw
          go_region_held3 (fun w' => w'.cell? ⟨w.heap.size, 0, none⟩ = some (.int .i64 x) ∧ w'.cell? ⟨w.heap.size, 1, none⟩ = some (.int .i64 y) ∧ w'.cell? ⟨w.heap.size, 2, none⟩ = some (.slice A n c) ∧ w'.cell? ⟨w.heap.size, 3, none⟩ = some (.int .i64 u) ∧ w'.cell? ⟨w.heap.size + 1, 0, none⟩ = some (.int .i64 x2) ∧ w'.cell? ⟨w.heap.size + 1, 1, none⟩ = some (.int .i64 y2) ∧ w'.cell? ⟨w.heap.size + 1, 2, none⟩ = some (.slice B m d) ∧ w'.cell? ⟨w.heap.size + 1, 3, none⟩ = some (.int .i64 u2)) (first | exact k8 (GB_g.kept kx) (GB_h.kept kx) | exact k8 (GB_g.kept (K.Kept.trans kx (kp1 _ _))) (GB_h.kept (K.Kept.trans kx (kp1 _ _))) | exact k8 (GB_g.kept (kset (kset (kset kx yb _) yb _) yb _)) (GB_h.kept (kset (kset (kset kx yb _) yb _) yb _)) | go_keep) (first | (go_at_call_of 29 (Value.agg #[.int .i64 x, .int .i64 y, .slice A n c, .int .i64 u]); refine (toGuard_c _ x y u A n c l (rdw RA.out kx) (by omega)).mono ?_; rintro e wv ⟨A1, n1, c1, rfl, hl1, own1, kk⟩; (first | (have kq := K.Kept.trans kx kk; have kz := kk; (try replace y0 := BoxN.kept y0 kz); clear kq) | (have yb := kx.size; have y0 := BoxN.kept (BoxN.new _ _ _) kk; (try replace y0 : BoxN _ w17.heap.size _ := y0); have kz := K.Kept.trans (kp1 _ _) kk)); replace kx := K.Kept.trans kx kz; (try replace own2 := K.own_kept own2 kz); clear kk kz; clear g0 g1 g2 g3 g4 g5 g6 g7 g8 h0 h1 h2 h3 h4 h5 h6 h7 h8; have bx_g := GB_g.kept kx; have bx_h := GB_h.kept kx; obtain ⟨g0, g1, g2, g3, g4, g5, g6, g7, g8⟩ := BoxN.at4 bx_g; obtain ⟨h0, h1, h2, h3, h4, h5, h6, h7, h8⟩ := BoxN.at4 bx_h; clear bx_g bx_h) | (go_at_call_of 29 (Value.agg #[.int .i64 x, .int .i64 y, .slice A n c, .int .i64 u]); refine (toGuard_c _ x y u A n c l (rdw RA.out (K.Kept.trans kx (kp1 _ _))) (by omega)).mono ?_; rintro e wv ⟨A1, n1, c1, rfl, hl1, own1, kk⟩; (first | (have kq := K.Kept.trans kx kk; have kz := kk; (try replace y0 := BoxN.kept y0 kz); clear kq) | (have yb := kx.size; have y0 := BoxN.kept (BoxN.new _ _ _) kk; (try replace y0 : BoxN _ w17.heap.size _ := y0); have kz := K.Kept.trans (kp1 _ _) kk)); replace kx := K.Kept.trans kx kz; (try replace own2 := K.own_kept own2 kz); clear kk kz; clear g0 g1 g2 g3 g4 g5 g6 g7 g8 h0 h1 h2 h3 h4 h5 h6 h7 h8; have bx_g := GB_g.kept kx; have bx_h := GB_h.kept kx; obtain ⟨g0, g1, g2, g3, g4, g5, g6, g7, g8⟩ := BoxN.at4 bx_g; obtain ⟨h0, h1, h2, h3, h4, h5, h6, h7, h8⟩ := BoxN.at4 bx_h; clear bx_g bx_h) | (go_at_call_of 29 (Value.agg #[.int .i64 x2, .int .i64 y2, .slice B m d, .int .i64 u2]); refine (toGuard_c _ x2 y2 u2 B m d l2 (rdw RB.out kx) (by omega)).mono ?_; rintro e wv ⟨A2, n2, c2, rfl, hl2, own2, kk⟩; (first | (have kq := K.Kept.trans kx kk; have kz := kk; (try replace y0 := BoxN.kept y0 kz); clear kq) | (have yb := kx.size; have y0 := BoxN.kept (BoxN.new _ _ _) kk; (try replace y0 : BoxN _ w17.heap.size _ := y0); have kz := K.Kept.trans (kp1 _ _) kk)); replace kx := K.Kept.trans kx kz; (try replace own1 := K.own_kept own1 kz); clear kk kz; clear g0 g1 g2 g3 g4 g5 g6 g7 g8 h0 h1 h2 h3 h4 h5 h6 h7 h8; have bx_g := GB_g.kept kx; have bx_h := GB_h.kept kx; obtain ⟨g0, g1, g2, g3, g4, g5, g6, g7, g8⟩ := BoxN.at4 bx_g; obtain ⟨h0, h1, h2, h3, h4, h5, h6, h7, h8⟩ := BoxN.at4 bx_h; clear bx_g bx_h) | (go_at_call_of 29 (Value.agg #[.int .i64 x2, .int .i64 y2, .slice B m d, .int .i64 u2]); refine (toGuard_c _ x2 y2 u2 B m d l2 (rdw RB.out (K.Kept.trans kx (kp1 _ _))) (by omega)).mono ?_; rintro e wv ⟨A2, n2, c2, rfl, hl2, own2, kk⟩; (first | (have kq := K.Kept.trans kx kk; have kz := kk; (try replace y0 := BoxN.kept y0 kz); clear kq) | (have yb := kx.size; have y0 := BoxN.kept (BoxN.new _ _ _) kk; (try replace y0 : BoxN _ w17.heap.size _ := y0); have kz := K.Kept.trans (kp1 _ _) kk)); replace kx := K.Kept.trans kx kz; (try replace own1 := K.own_kept own1 kz); clear kk kz; clear g0 g1 g2 g3 g4 g5 g6 g7 g8 h0 h1 h2 h3 h4 h5 h6 h7 h8; have bx_g := GB_g.kept kx; have bx_h := GB_h.kept kx; obtain ⟨g0, g1, g2, g3, g4, g5, g6, g7, g8⟩ := BoxN.at4 bx_g; obtain ⟨h0, h1, h2, h3, h4, h5, h6, h7, h8⟩ := BoxN.at4 bx_h; clear bx_g bx_h) | (go_at_call 34; refine (guardsMeet_i _ x y u A1 n1 c1 l x2 y2 u2 A2 n2 c2 l2 T X Y b hB hT hX hY (K.rd_own own1) (by have := L1.out; omega) (K.rd_own own2) (by have := L2.out; omega)).mono ?_; rintro e wv ⟨D, nd, cd, E, ne, ce, rfl, hXd, hYe, ownD, ownE, hxx, kk⟩; clear hxx; (first | (replace ownD := own_monoG ownD (Nat.succ_le_of_lt y0.1); replace ownE := own_monoG ownE (Nat.succ_le_of_lt y0.1)) | (replace ownD := own_monoG ownD (alloc_lt _ _); replace ownE := own_monoG ownE (alloc_lt _ _)) | (replace ownD := own_monoG ownD kx.size; replace ownE := own_monoG ownE kx.size)); (first | (have kq := K.Kept.trans kx kk; have kz := kk; (try replace y0 := BoxN.kept y0 kz); clear kq) | (have yb := kx.size; have y0 := BoxN.kept (BoxN.new _ _ _) kk; (try replace y0 : BoxN _ w17.heap.size _ := y0); have kz := K.Kept.trans (kp1 _ _) kk)); replace kx := K.Kept.trans kx kz; clear kk kz own1 own2; (first | (have yg := BoxN.at3 y0; obtain ⟨yy0, yy1, yy2, yy3, yy4, yy5, yy6⟩ := yg) | skip); clear g0 g1 g2 g3 g4 g5 g6 g7 g8 h0 h1 h2 h3 h4 h5 h6 h7 h8; have bx_g := GB_g.kept kx; have bx_h := GB_h.kept kx; obtain ⟨g0, g1, g2, g3, g4, g5, g6, g7, g8⟩ := BoxN.at4 bx_g; obtain ⟨h0, h1, h2, h3, h4, h5, h6, h7, h8⟩ := BoxN.at4 bx_h; clear bx_g bx_h) | (go_at_call 34; refine (guardsMeet_i _ x y u A1 n1 c1 l x2 y2 u2 A2 n2 c2 l2 T X Y b hB hT hX hY (K.rd_own (K.own_kept own1 (kp1 _ _))) (by have := L1.out; omega) (K.rd_own (K.own_kept own2 (kp1 _ _))) (by have := L2.out; omega)).mono ?_; rintro e wv ⟨D, nd, cd, E, ne, ce, rfl, hXd, hYe, ownD, ownE, hxx, kk⟩; clear hxx; (first | (replace ownD := own_monoG ownD (Nat.succ_le_of_lt y0.1); replace ownE := own_monoG ownE (Nat.succ_le_of_lt y0.1)) | (replace ownD := own_monoG ownD (alloc_lt _ _); replace ownE := own_monoG ownE (alloc_lt _ _)) | (replace ownD := own_monoG ownD kx.size; replace ownE := own_monoG ownE kx.size)); (first | (have kq := K.Kept.trans kx kk; have kz := kk; (try replace y0 := BoxN.kept y0 kz); clear kq) | (have yb := kx.size; have y0 := BoxN.kept (BoxN.new _ _ _) kk; (try replace y0 : BoxN _ w17.heap.size _ := y0); have kz := K.Kept.trans (kp1 _ _) kk)); replace kx := K.Kept.trans kx kz; clear kk kz own1 own2; (first | (have yg := BoxN.at3 y0; obtain ⟨yy0, yy1, yy2, yy3, yy4, yy5, yy6⟩ := yg) | skip); clear g0 g1 g2 g3 g4 g5 g6 g7 g8 h0 h1 h2 h3 h4 h5 h6 h7 h8; have bx_g := GB_g.kept kx; have bx_h := GB_h.kept kx; obtain ⟨g0, g1, g2, g3, g4, g5, g6, g7, g8⟩ := BoxN.at4 bx_g; obtain ⟨h0, h1, h2, h3, h4, h5, h6, h7, h8⟩ := BoxN.at4 bx_h; clear bx_g bx_h))
          all_goals go_wp2
          all_goals go_meet
          all_goals first | exact ⟨_, _, _, _, _, _, _, rfl, rfl, LaidP.put y0 yb hXd hYe ownD ownE kx⟩ | exact ⟨_, _, _, _, _, _, _, rfl, rfl, LaidP.new hXd hYe ownD ownE kx⟩
        case rest =>
          obtain ⟨bt, Dt, kt, jt, Et, mt, it, rfl, rfl, hbt, bx_t, hkt, hmt, ownTD, ownTE, kk⟩ := hcut
          obtain ⟨w18, hren⟩ : ∃ z, z = wc := ⟨_, rfl⟩
          subst hren
          replace bx_g := bx_g.kept kk
          replace bx_h := bx_h.kept kk
          replace bx_r := bx_r.kept kk
          replace bx_p := bx_p.kept kk
          replace ownRD := K.own_kept ownRD kk
          replace ownRE := K.own_kept ownRE kk
          replace ownPD := K.own_kept ownPD kk
          replace ownPE := K.own_kept ownPE kk
          replace kw := K.Kept.trans kw kk
          have z18 := Lib.hid kk.size
          clear kk
          have zbt := Lib.hid hbt
          clear hbt
          have zct := Lib.hid bx_t.1
          have LTownTD := Lib.hid ownTD.lt
          have LTownTE := Lib.hid ownTE.lt
          obtain ⟨t0, t1, t2, t3, t4, t5, t6⟩ := BoxN.at3 bx_t
          obtain ⟨r0, r1, r2, r3, r4, r5, r6⟩ := BoxN.at3 bx_r
          go_wp2_with fail
          refine (eqPoint_yes _ T Dt kt jt Et mt it Dr kr jr Er mr ir X Y (K.rd_own ownTD) (K.rd_own ownTE) (K.rd_own ownRD) (K.rd_own ownRE) (by have := LX.out; omega) (by have := LY.out; omega) (by have := LX.out; omega) (by have := LY.out; omega)).mono ?_
          rintro e w19 ⟨rfl, kk⟩
          clear t0 t1 t2 t3 t4 t5 t6 r0 r1 r2 r3 r4 r5 r6
          replace bx_g := bx_g.kept kk
          replace bx_h := bx_h.kept kk
          replace bx_r := bx_r.kept kk
          replace bx_p := bx_p.kept kk
          replace bx_t := bx_t.kept kk
          replace ownRD := K.own_kept ownRD kk
          replace ownRE := K.own_kept ownRE kk
          replace ownPD := K.own_kept ownPD kk
          replace ownPE := K.own_kept ownPE kk
          replace ownTD := K.own_kept ownTD kk
          replace ownTE := K.own_kept ownTE kk
          replace kw := K.Kept.trans kw kk
          have z19 := Lib.hid kk.size
          clear kk
          obtain ⟨p0, p1, p2, p3, p4, p5, p6⟩ := BoxN.at3 bx_p
          go_wp2_with fail
          refine (heldPoint_c _ T Dp kp jp Ep mp ip 1 (K.rd_own ownPD) (K.rd_own ownPE) (by have := LX.out; omega) (by have := LY.out; omega) (by omega)).mono ?_
          rintro e w20 ⟨rfl, kk⟩
          clear p0 p1 p2 p3 p4 p5 p6
          replace bx_g := bx_g.kept kk
          replace bx_h := bx_h.kept kk
          replace bx_r := bx_r.kept kk
          replace bx_p := bx_p.kept kk
          replace bx_t := bx_t.kept kk
          replace ownRD := K.own_kept ownRD kk
          replace ownRE := K.own_kept ownRE kk
          replace ownPD := K.own_kept ownPD kk
          replace ownPE := K.own_kept ownPE kk
          replace ownTD := K.own_kept ownTD kk
          replace ownTE := K.own_kept ownTE kk
          replace kw := K.Kept.trans kw kk
          have z20 := Lib.hid kk.size
          clear kk
          go_wp2
          go_ret
          exact ⟨rfl, kw⟩
end C
end Go.Proofs.Ytapjlbcpfemeiaa

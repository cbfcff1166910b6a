/-
  Contracts of GuardHolds of the reference and of what converts, compares and counts guards and points. Conditions: lengths below 2^40.
-/
import Derived.Test.YtapjlbcpfemeiaaGuards
namespace Go.Proofs.Ytapjlbcpfemeiaa
open Go.RowKit
namespace C

theorem own_monoG {w : World} {base base' : Nat} {e : TypeId} {size : Nat} {v : Value} {n : Nat} {xs : List Value} (h : w.ownsRow base e size v n xs) (hb : base' ≤ base) : w.ownsRow base' e size v n xs :=
  ⟨h.1, h.2.imp id fun ⟨g, cap, cur, a, b, c⟩ => ⟨g, cap, cur, a, Nat.le_trans hb b, c⟩⟩
theorem own_set {T : TypeId} {size : Nat} {w : World} {base b n i : Nat} {v : Value} {xs : List Value} (h : w.ownsRow base T size v n xs) (hb : b < base) (x : Value) : (w.setCell ⟨b, i, none⟩ x).ownsRow base T size v n xs := by
  have k : K.But b w (w.setCell ⟨b, i, none⟩ x) := (K.But.refl _ _).setCell (p := ⟨b, i, none⟩) (.inl rfl) _
  refine h.kept k (.inr fun e => ?_)
  have := (h.lt _ e).1; omega
theorem kset {B : Nat} {w w' : World} {b i : Nat} (h : Below B w w') (hb : B ≤ b) (x : Value) : Below B w (w'.setCell ⟨b, i, none⟩ x) := h.setCell (p := ⟨b, i, none⟩) hb x
theorem rdw {w w' : World} {size n : Nat} {A : Option Addr} {xs : List Value} (h : K.Rd w w.heap.size size A n xs) (k : K.Kept w w') : K.Rd w' w'.heap.size size A n xs := (K.Rd.below h k).more k.size
set_option maxRecDepth 100000 in
set_option maxHeartbeats 2000000 in
theorem holds_s (w : World) (x y u : Int) (A : Option Addr) (n c : Nat) (l : List (Int × Int)) (t : Int) (D : Option Addr) (nd cd : Nat) (cs : List Int) (E : Option Addr) (ne ce : Nat) (co : List Int) (q1 : vG x y l u = true) (q2 : vP t cs co = true) (b : Bool) (hb : gH x y l u t cs co = b) (h : K.PR w w.heap.size A n l) (hn : n ≤ 1099511627776) (h1 : K.IR w w.heap.size D nd cs) (hd : nd ≤ 1099511627776) (h2 : K.IR w w.heap.size E ne co) (he : ne ≤ 1099511627776) : Calls Try.prog 53 #[.agg #[.int .i64 x, .int .i64 y, .slice A n c, .int .i64 u], .agg #[.int .i64 t, .slice D nd cd, .slice E ne ce]] w (BK w b) := by
  subst hb
  have L := Lib.hid (K.PR.len h)
  have L1 := Lib.hid (K.IR.len h1)
  have bx_g : BoxN ((w.alloc (.cells #[.int .i64 x, .int .i64 y, .slice A n c, .int .i64 u] 27)).alloc (.cells #[.int .i64 t, .slice D nd cd, .slice E ne ce] 30)) w.heap.size (#[.int .i64 x, .int .i64 y, .slice A n c, .int .i64 u] : Array Value).toList := (BoxN.new w _ _).kept (kp1 _ _)
  have bx_p : BoxN ((w.alloc (.cells #[.int .i64 x, .int .i64 y, .slice A n c, .int .i64 u] 27)).alloc (.cells #[.int .i64 t, .slice D nd cd, .slice E ne ce] 30)) (w.heap.size + 1) (#[.int .i64 t, .slice D nd cd, .slice E ne ce] : Array Value).toList := by have q := BoxN.new (w.alloc (.cells #[.int .i64 x, .int .i64 y, .slice A n c, .int .i64 u] 27)) #[.int .i64 t, .slice D nd cd, .slice E ne ce] 30; rwa [show (w.alloc (.cells #[.int .i64 x, .int .i64 y, .slice A n c, .int .i64 u] 27)).heap.size = w.heap.size + 1 by simp] at q
  have kw0 : K.Kept w ((w.alloc (.cells #[.int .i64 x, .int .i64 y, .slice A n c, .int .i64 u] 27)).alloc (.cells #[.int .i64 t, .slice D nd cd, .slice E ne ce] 30)) := K.Kept.trans (kp1 _ _) (kp1 _ _)
  generalize hww0 : (w.alloc (.cells #[.int .i64 x, .int .i64 y, .slice A n c, .int .i64 u] 27)).alloc (.cells #[.int .i64 t, .slice D nd cd, .slice E ne ce] 30) = w0 at bx_g bx_p kw0
  obtain ⟨g0, g1, g2, g3, g4, g5, g6, g7, g8⟩ := BoxN.at4 bx_g
  obtain ⟨p0, p1, p2, p3, p4, p5, p6⟩ := BoxN.at3 bx_p
  have R0 := Lib.hid (rdw h kw0)
  have R1 := Lib.hid (rdw h1 kw0)
  have R2 := Lib.hid (rdw h2 kw0)
  clear h h1 h2
  have n3 : n = 3 := by have := vG_len q1; have := L.out; omega
  have d3 : nd = 3 := by have := vP_len q2; have := L1.out; omega
  subst n3 d3
  go_enter Try.func53, Try.ntmps53
  go_wp2
  clear p0 p1 p2 p3 p4 p5 p6 g0 g1 g2 g3 g4 g5 g6 g7 g8 hww0
  go_loopw [5] (fun i wr => ∃ k : Nat, k ≤ 3 ∧ i = .int .i64 k ∧ K.Kept w0 wr ∧ Hid (insT l cs k)) (fun i _ => 3 - (intOf i).toNat)
  case atStart => exact ⟨0, Nat.zero_le _, rfl, Below.refl _ _, fun i hi => by omega⟩
  case round =>
    obtain ⟨k, hk, rfl, hkw, hg⟩ := hrel
    have HW := Lib.hid hkw
    have HK := Lib.hid (K.Kept.trans kw0 hkw)
    replace bx_p := bx_p.kept hkw
    replace bx_g := bx_g.kept hkw
    have S0 := Lib.hid (rdw R0.out hkw)
    have S1 := Lib.hid (rdw R1.out hkw)
    have S2 := Lib.hid (rdw R2.out hkw)
    clear hkw kw0 R0 R1 R2
    obtain ⟨g0, g1, g2, g3, g4, g5, g6, g7, g8⟩ := BoxN.at4 bx_g
    obtain ⟨p0, p1, p2, p3, p4, p5, p6⟩ := BoxN.at3 bx_p
    by_cases hlt : k < 3
    · obtain ⟨b, o, p, q, rfl, hb, c1, c2, hx⟩ := K.PR.cell S0.out hlt
      obtain ⟨b3, o3, v, rfl, hb3, d1, hy⟩ := K.IR.cell S1.out hlt
      cases hv : wi v p q
      · have HB := Lib.hid (ins_no hx.out hy.out hv)
        go_wp2_with fail
        (have rg0 := cell_regrown g2; have rg1 := cell_regrown p1; have rg2 := cell_regrown c1; have rg3 := cell_regrown c2; have rg4 := cell_regrown d1; refine wp_region_quiet_below (by kernel_rfl) (by kernel_rfl) ?_; (repeat (go_big_quiet_step ((first | (go_at_call 84; exact Calls.regrown_of (inRange_ck v p q false _ hv)))))); refine wpQuiet_nil ?_; intro wq hw2; have kwq := K.of_regrown hw2; clear hw2 rg0 rg1 rg2 rg3 rg4)
        go_wp2
        go_ret
        exact ⟨K.rb (gH_no4 HB.out).symm, K.Kept.trans HK.out kwq⟩
      · have HG := Lib.hid (insT_snoc hg.out hx.out hy.out hv)
        go_wp2_with fail
        (have rg0 := cell_regrown g2; have rg1 := cell_regrown p1; have rg2 := cell_regrown c1; have rg3 := cell_regrown c2; have rg4 := cell_regrown d1; refine wp_region_quiet_below (by kernel_rfl) (by kernel_rfl) ?_; (repeat (go_big_quiet_step ((first | (go_at_call 84; exact Calls.regrown_of (inRange_ck v p q true _ hv)))))); refine wpQuiet_nil ?_; intro wq hw2; have kwq := K.of_regrown hw2; clear hw2 rg0 rg1 rg2 rg3 rg4)
        go_wp2
        go_roundw
        case rel => exact ⟨k + 1, by omega, by go_num, K.Kept.trans HW.out kwq, HG⟩
        case measure => simp [intOf]; omega
    · have hkn : k = 3 := by omega
      subst hkn
      cases q3 : wi t x y
      · go_wp2_with (go_at_call 84; refine (inRange_cb _ _ _ _ _ q3).mono ?_; rintro e w' ⟨rfl, rfl⟩)
        go_ret
        exact ⟨K.rb (gH_no3 q3).symm, HK.out⟩
      have HE := Lib.hid (gH_eq q1 q2 q3 (ins_yes L.out hg.out) : gH x y l u t cs co = _)
      clear hg
      by_cases hu : u = 0
      · subst hu
        go_wp2_with (go_at_call 84; refine (inRange_cb _ _ _ _ _ q3).mono ?_; rintro e w' ⟨rfl, rfl⟩)
        go_ret
        exact ⟨K.rb HE.out.symm, HK.out⟩
      · have hu' : (u == 0) = false := by simp [hu]
        obtain ⟨bm, qm⟩ : ∃ b, decide (u ∈ co) = b := ⟨_, rfl⟩
        rw [qm, hu'] at HE
        clear hu
        go_wp2_with (go_at_call 84; refine (inRange_cb _ _ _ _ _ q3).mono ?_; rintro e w' ⟨rfl, rfl⟩)
        refine (isIn_s _ E ne ce co u bm qm S2.out he).mono ?_
        rintro e w5 ⟨rfl, k5⟩
        go_wp2
        go_ret
        exact ⟨K.rb HE.out.symm, K.Kept.trans HK.out k5⟩
set_option maxRecDepth 100000 in
set_option maxHeartbeats 2000000 in
theorem guardHolds_s (w : World) (x y u : Int) (A : Option Addr) (n c : Nat) (l : List (Int × Int)) (t : Int) (D : Option Addr) (nd cd : Nat) (cs : List Int) (E : Option Addr) (ne ce : Nat) (co : List Int) (b : Bool) (hb : gH x y l u t cs co = b) (h : K.PR w w.heap.size A n l) (hn : n ≤ 1099511627776) (h1 : K.IR w w.heap.size D nd cs) (hd : nd ≤ 1099511627776) (h2 : K.IR w w.heap.size E ne co) (he : ne ≤ 1099511627776) : Calls Try.prog 16 #[.agg #[.int .i64 x, .int .i64 y, .slice A n c, .int .i64 u], .agg #[.int .i64 t, .slice D nd cd, .slice E ne ce]] w (BK w b) := by
  have bx_g : BoxN ((w.alloc (.cells #[.int .i64 x, .int .i64 y, .slice A n c, .int .i64 u] 27)).alloc (.cells #[.int .i64 t, .slice D nd cd, .slice E ne ce] 30)) w.heap.size (#[.int .i64 x, .int .i64 y, .slice A n c, .int .i64 u] : Array Value).toList := (BoxN.new w _ _).kept (kp1 _ _)
  have bx_p : BoxN ((w.alloc (.cells #[.int .i64 x, .int .i64 y, .slice A n c, .int .i64 u] 27)).alloc (.cells #[.int .i64 t, .slice D nd cd, .slice E ne ce] 30)) (w.heap.size + 1) (#[.int .i64 t, .slice D nd cd, .slice E ne ce] : Array Value).toList := by have q := BoxN.new (w.alloc (.cells #[.int .i64 x, .int .i64 y, .slice A n c, .int .i64 u] 27)) #[.int .i64 t, .slice D nd cd, .slice E ne ce] 30; rwa [show (w.alloc (.cells #[.int .i64 x, .int .i64 y, .slice A n c, .int .i64 u] 27)).heap.size = w.heap.size + 1 by simp] at q
  have kw0 : K.Kept w ((w.alloc (.cells #[.int .i64 x, .int .i64 y, .slice A n c, .int .i64 u] 27)).alloc (.cells #[.int .i64 t, .slice D nd cd, .slice E ne ce] 30)) := K.Kept.trans (kp1 _ _) (kp1 _ _)
  generalize hww0 : (w.alloc (.cells #[.int .i64 x, .int .i64 y, .slice A n c, .int .i64 u] 27)).alloc (.cells #[.int .i64 t, .slice D nd cd, .slice E ne ce] 30) = w0 at bx_g bx_p kw0
  obtain ⟨g0, g1, g2, g3, g4, g5, g6, g7, g8⟩ := BoxN.at4 bx_g
  obtain ⟨p0, p1, p2, p3, p4, p5, p6⟩ := BoxN.at3 bx_p
  have R0 := Lib.hid (rdw h kw0)
  have R1 := Lib.hid (rdw h1 kw0)
  have R2 := Lib.hid (rdw h2 kw0)
  clear h h1 h2
  cases q1 : vG x y l u
  · have hb' := (gH_no1 (t := t) (cs := cs) (co := co) q1).symm.trans hb
    subst hb'
    go_enter Try.func16, Try.ntmps16
    go_wp2_with fail
    refine (validGuard_s w0 x y u A n c l false q1 R0.out hn).mono ?_
    rintro e w2 ⟨rfl, k2⟩
    go_wp2
    go_ret
    exact ⟨rfl, K.Kept.trans kw0 k2⟩
  go_enter Try.func16, Try.ntmps16
  go_wp2_with fail
  refine (validGuard_s w0 x y u A n c l true q1 R0.out hn).mono ?_
  rintro e w2 ⟨rfl, k2⟩
  replace bx_p := bx_p.kept k2
  replace bx_g := bx_g.kept k2
  have kw2 := K.Kept.trans kw0 k2
  replace R0 := Lib.hid (rdw R0.out k2)
  replace R1 := Lib.hid (rdw R1.out k2)
  replace R2 := Lib.hid (rdw R2.out k2)
  clear p0 p1 p2 p3 p4 p5 p6 g0 g1 g2 g3 g4 g5 g6 g7 g8 hww0 kw0 k2
  obtain ⟨p0, p1, p2, p3, p4, p5, p6⟩ := BoxN.at3 bx_p
  cases q2 : vP t cs co
  · have hb' := (gH_no2 (x := x) (y := y) (u := u) (l := l) q2).symm.trans hb
    subst hb'
    go_wp2_with fail
    refine (validPoint_s w2 t D nd cd cs E ne ce co false q2 R1.out hd R2.out he).mono ?_
    rintro e w3 ⟨rfl, k3⟩
    go_wp2
    go_ret
    exact ⟨rfl, K.Kept.trans kw2 k3⟩
  go_wp2_with fail
  refine (validPoint_s w2 t D nd cd cs E ne ce co true q2 R1.out hd R2.out he).mono ?_
  rintro e w3 ⟨rfl, k3⟩
  replace bx_p := bx_p.kept k3
  replace bx_g := bx_g.kept k3
  have kw3 := K.Kept.trans kw2 k3
  replace R0 := Lib.hid (rdw R0.out k3)
  replace R1 := Lib.hid (rdw R1.out k3)
  replace R2 := Lib.hid (rdw R2.out k3)
  clear p0 p1 p2 p3 p4 p5 p6 kw2 k3
  obtain ⟨p0, p1, p2, p3, p4, p5, p6⟩ := BoxN.at3 bx_p
  obtain ⟨g0, g1, g2, g3, g4, g5, g6, g7, g8⟩ := BoxN.at4 bx_g
  go_wp2_with fail
  refine (holds_s w3 x y u A n c l t D nd cd cs E ne ce co q1 q2 b hb R0.out hn R1.out hd R2.out he).mono ?_
  rintro e w4 ⟨rfl, k4⟩
  go_wp2
  go_ret
  exact ⟨rfl, K.Kept.trans kw3 k4⟩
/-- A guard has been converted: the same, its list in memory of the call's own. -/
def GuardR (T : TypeId) (w : World) (x y u : Int) (l : List (Int × Int)) (e : Ending) (w' : World) : Prop := ∃ (A : Option Addr) (n c : Nat), e = .returned (.agg #[.int .i64 x, .int .i64 y, .slice A n c, .int .i64 u]) ∧ l.length = n ∧ w'.ownsRow w.heap.size T 2 (.slice A n c) n (K.prs l) ∧ K.Kept w w'
set_option maxRecDepth 100000 in
set_option maxHeartbeats 2000000 in
theorem toGuard_c (w : World) (x y u : Int) (A : Option Addr) (n c : Nat) (l : List (Int × Int)) (h : K.PR w w.heap.size A n l) (hn : n ≤ 1099511627776) : Calls Try.prog 29 #[.agg #[.int .i64 x, .int .i64 y, .slice A n c, .int .i64 u]] w (GuardR 24 w x y u l) := by
  have bx_a : BoxN (((w.alloc (.cells #[.int .i64 x, .int .i64 y, .slice A n c, .int .i64 u] 51)).alloc (.cells #[.int .i64 0, .int .i64 0, .slice none 0 0, .int .i64 0] 27)).alloc (.cells #[.int .i64 0, .int .i64 0, .slice none 0 0, .int .i64 0] 27)) w.heap.size (#[.int .i64 x, .int .i64 y, .slice A n c, .int .i64 u] : Array Value).toList := ((BoxN.new w _ _).kept (kp1 _ _)).kept (kp1 _ _)
  have bx_r : BoxN (((w.alloc (.cells #[.int .i64 x, .int .i64 y, .slice A n c, .int .i64 u] 51)).alloc (.cells #[.int .i64 0, .int .i64 0, .slice none 0 0, .int .i64 0] 27)).alloc (.cells #[.int .i64 0, .int .i64 0, .slice none 0 0, .int .i64 0] 27)) (w.heap.size + 1) (#[.int .i64 0, .int .i64 0, .slice none 0 0, .int .i64 0] : Array Value).toList := by have q := (BoxN.new (w.alloc (.cells #[.int .i64 x, .int .i64 y, .slice A n c, .int .i64 u] 51)) #[.int .i64 0, .int .i64 0, .slice none 0 0, .int .i64 0] 27).kept (kp1 ((w.alloc (.cells #[.int .i64 x, .int .i64 y, .slice A n c, .int .i64 u] 51)).alloc (.cells #[.int .i64 0, .int .i64 0, .slice none 0 0, .int .i64 0] 27)) (.cells #[.int .i64 0, .int .i64 0, .slice none 0 0, .int .i64 0] 27)); rwa [show (w.alloc (.cells #[.int .i64 x, .int .i64 y, .slice A n c, .int .i64 u] 51)).heap.size = w.heap.size + 1 by simp] at q
  have bx_t : BoxN (((w.alloc (.cells #[.int .i64 x, .int .i64 y, .slice A n c, .int .i64 u] 51)).alloc (.cells #[.int .i64 0, .int .i64 0, .slice none 0 0, .int .i64 0] 27)).alloc (.cells #[.int .i64 0, .int .i64 0, .slice none 0 0, .int .i64 0] 27)) (w.heap.size + 2) (#[.int .i64 0, .int .i64 0, .slice none 0 0, .int .i64 0] : Array Value).toList := by have q := BoxN.new ((w.alloc (.cells #[.int .i64 x, .int .i64 y, .slice A n c, .int .i64 u] 51)).alloc (.cells #[.int .i64 0, .int .i64 0, .slice none 0 0, .int .i64 0] 27)) #[.int .i64 0, .int .i64 0, .slice none 0 0, .int .i64 0] 27; rwa [show ((w.alloc (.cells #[.int .i64 x, .int .i64 y, .slice A n c, .int .i64 u] 51)).alloc (.cells #[.int .i64 0, .int .i64 0, .slice none 0 0, .int .i64 0] 27)).heap.size = w.heap.size + 2 by simp] at q
  have kw : K.Kept w (((w.alloc (.cells #[.int .i64 x, .int .i64 y, .slice A n c, .int .i64 u] 51)).alloc (.cells #[.int .i64 0, .int .i64 0, .slice none 0 0, .int .i64 0] 27)).alloc (.cells #[.int .i64 0, .int .i64 0, .slice none 0 0, .int .i64 0] 27)) := K.Kept.trans (K.Kept.trans (kp1 _ _) (kp1 _ _)) (kp1 _ _)
  generalize hww0 : (((w.alloc (.cells #[.int .i64 x, .int .i64 y, .slice A n c, .int .i64 u] 51)).alloc (.cells #[.int .i64 0, .int .i64 0, .slice none 0 0, .int .i64 0] 27)).alloc (.cells #[.int .i64 0, .int .i64 0, .slice none 0 0, .int .i64 0] 27)) = w0 at bx_a bx_r bx_t kw
  obtain ⟨a0, a1, a2, a3, a4, a5, a6, a7, a8⟩ := BoxN.at4 bx_a
  obtain ⟨t0, t1, t2, t3, t4, t5, t6, t7, t8⟩ := BoxN.at4 bx_t
  have hR := Lib.hid h
  clear h
  go_enter Try.func29, Try.ntmps29
  go_wp2_with fail
  refine (toSpan_k x y _).mono ?_
  rintro e w1 ⟨rfl, k1⟩
  replace bx_a := bx_a.kept k1
  replace bx_r := bx_r.kept k1
  replace bx_t := bx_t.kept k1
  replace kw := K.Kept.trans kw k1
  clear a0 a1 a2 a3 a4 a5 a6 a7 a8 t0 t1 t2 t3 t4 t5 t6 t7 t8 hww0 k1
  obtain ⟨a0, a1, a2, a3, a4, a5, a6, a7, a8⟩ := BoxN.at4 bx_a
  obtain ⟨t0, t1, t2, t3, t4, t5, t6, t7, t8⟩ := BoxN.at4 bx_t
  have kW : K.Kept w ((w1.setCell ⟨w.heap.size + 2, 0, none⟩ (.int .i64 x)).setCell ⟨w.heap.size + 2, 1, none⟩ (.int .i64 y)) := kset (kset kw (by omega) _) (by omega) _
  go_wp2_with fail
  refine (toSpanS_c _ A n c l (rdw hR.out kW) hn).mono ?_
  rintro e w2 ⟨A2, n2, c2, rfl, hl2, own2, k2⟩
  have own2 := own_monoG own2 (show w.heap.size + 3 ≤ _ by have := bx_t.1; simp [World.setCell] at this ⊢; omega)
  replace bx_a := ((bx_a.far (b' := w.heap.size + 2) (i := 0) (by omega) (.int .i64 x)).far (b' := w.heap.size + 2) (i := 1) (by omega) (.int .i64 y)).kept k2
  replace bx_r := ((bx_r.far (b' := w.heap.size + 2) (i := 0) (by omega) (.int .i64 x)).far (b' := w.heap.size + 2) (i := 1) (by omega) (.int .i64 y)).kept k2
  replace bx_t := ((bx_t.set 0 (.int .i64 x) (by simp)).set 1 (.int .i64 y) (by simp)).kept k2
  replace kw := K.Kept.trans kW k2
  clear a0 a1 a2 a3 a4 a5 a6 a7 a8 t0 t1 t2 t3 t4 t5 t6 t7 t8 k2 kW
  obtain ⟨a0, a1, a2, a3, a4, a5, a6, a7, a8⟩ := BoxN.at4 bx_a
  obtain ⟨t0, t1, t2, t3, t4, t5, t6, t7, t8⟩ := BoxN.at4 bx_t
  obtain ⟨r0, r1, r2, r3, r4, r5, r6, r7, r8⟩ := BoxN.at4 bx_r
  have br := (((((bx_r.far (b' := w.heap.size + 2) (i := 2) (by omega) (.slice A2 n2 c2)).far (b' := w.heap.size + 2) (i := 3) (by omega) (.int .i64 u)).set 0 (.int .i64 x) (by simp)).set 1 (.int .i64 y) (by simp)).set 2 (.slice A2 n2 c2) (by simp)).set 3 (.int .i64 u) (by simp)
  obtain ⟨z0, z1, z2, z3, _⟩ := BoxN.at4 br
  have OW := Lib.hid (own_monoG (own_set (i := 3) (own_set (i := 2) (own_set (i := 1) (own_set (i := 0) (own_set (i := 3) (own_set (i := 2) own2 (show w.heap.size + 2 < _ by omega) (.slice A2 n2 c2)) (show w.heap.size + 2 < _ by omega) (.int .i64 u)) (show w.heap.size + 1 < _ by omega) (.int .i64 x)) (show w.heap.size + 1 < _ by omega) (.int .i64 y)) (show w.heap.size + 1 < _ by omega) (.slice A2 n2 c2)) (show w.heap.size + 1 < _ by omega) (.int .i64 u)) (show w.heap.size ≤ _ by omega))
  have KW := Lib.hid (kset (i := 3) (kset (i := 2) (kset (i := 1) (kset (i := 0) (kset (i := 3) (kset (i := 2) kw (show w.heap.size ≤ w.heap.size + 2 by omega) (.slice A2 n2 c2)) (show w.heap.size ≤ w.heap.size + 2 by omega) (.int .i64 u)) (show w.heap.size ≤ w.heap.size + 1 by omega) (.int .i64 x)) (show w.heap.size ≤ w.heap.size + 1 by omega) (.int .i64 y)) (show w.heap.size ≤ w.heap.size + 1 by omega) (.slice A2 n2 c2)) (show w.heap.size ≤ w.heap.size + 1 by omega) (.int .i64 u))
  clear own2 br kw
  go_wp2
  refine bodyPost_ret (by simp [results, Try.results29, go_sem, z0, z1, z2, z3]; try rfl) rfl ?_
  exact ⟨A2, n2, c2, rfl, hl2, OW.out, KW.out⟩
theorem szIntS_yes (w : World) (A : Option Addr) (n c : Nat) (left : Int) (h0 : left ≤ 1048576) (hn : (n : Int) ≤ left) : Calls Try.prog 78 #[.slice A n c, .int .i64 left] w fun e w' => e = .returned (.int .i64 (left - n)) ∧ w = w' := by
  go_enter Try.func78, Try.ntmps78
  go_wp2
  go_ret
  exact ⟨rfl, rfl⟩
theorem szIntS_no (w : World) (A : Option Addr) (n c : Nat) (left : Int) (h0 : 0 ≤ left ∧ left ≤ 1048576) (hc : n ≤ c ∧ c ≤ maxLen) (hn : left < (n : Int)) : Calls Try.prog 78 #[.slice A n c, .int .i64 left] w fun e w' => e = .returned (.int .i64 (-1)) ∧ w = w' := by
  unfold maxLen at hc
  go_enter Try.func78, Try.ntmps78
  go_wp2
  go_ret
  exact ⟨rfl, rfl⟩
set_option maxRecDepth 100000 in
set_option maxHeartbeats 1000000 in
theorem szGuard_yes (w : World) (x y u : Int) (A : Option Addr) (n c : Nat) (left : Int) (h0 : left ≤ 1048576) (hn : (n : Int) ≤ left) : Calls Try.prog 27 #[.agg #[.int .i64 x, .int .i64 y, .slice A n c, .int .i64 u], .int .i64 left] w fun e w' => e = .returned (.int .i64 (left - n)) ∧ K.Kept w w' := by
  have bx_g : BoxN (w.alloc (.cells #[.int .i64 x, .int .i64 y, .slice A n c, .int .i64 u] 51)) w.heap.size (#[.int .i64 x, .int .i64 y, .slice A n c, .int .i64 u] : Array Value).toList := BoxN.new w _ _
  have kw0 := kp1 w (.cells #[.int .i64 x, .int .i64 y, .slice A n c, .int .i64 u] 51)
  generalize hww0 : w.alloc (.cells #[.int .i64 x, .int .i64 y, .slice A n c, .int .i64 u] 51) = w0 at bx_g kw0 
  obtain ⟨g0, g1, g2, g3, g4, g5, g6, g7, g8⟩ := BoxN.at4 bx_g
  go_enter Try.func27, Try.ntmps27
  go_wp2_with fail
  refine (szSpanS_yes _ A n c left h0 hn).mono ?_
  rintro e w2 ⟨rfl, rfl⟩
  go_wp2
  go_ret
  exact ⟨rfl, kw0⟩
set_option maxRecDepth 100000 in
set_option maxHeartbeats 1000000 in
theorem szGuard_no (w : World) (x y u : Int) (A : Option Addr) (n c : Nat) (left : Int) (h0 : 0 ≤ left ∧ left ≤ 1048576) (hc : n ≤ c ∧ c ≤ maxLen) (hn : left < (n : Int)) : Calls Try.prog 27 #[.agg #[.int .i64 x, .int .i64 y, .slice A n c, .int .i64 u], .int .i64 left] w fun e w' => e = .returned (.int .i64 (-1)) ∧ K.Kept w w' := by
  have bx_g : BoxN (w.alloc (.cells #[.int .i64 x, .int .i64 y, .slice A n c, .int .i64 u] 51)) w.heap.size (#[.int .i64 x, .int .i64 y, .slice A n c, .int .i64 u] : Array Value).toList := BoxN.new w _ _
  have kw0 := kp1 w (.cells #[.int .i64 x, .int .i64 y, .slice A n c, .int .i64 u] 51)
  generalize hww0 : w.alloc (.cells #[.int .i64 x, .int .i64 y, .slice A n c, .int .i64 u] 51) = w0 at bx_g kw0 
  obtain ⟨g0, g1, g2, g3, g4, g5, g6, g7, g8⟩ := BoxN.at4 bx_g
  go_enter Try.func27, Try.ntmps27
  go_wp2_with fail
  refine (szSpanS_no _ A n c left h0 hc hn).mono ?_
  rintro e w2 ⟨rfl, rfl⟩
  go_wp2
  go_ret
  exact ⟨rfl, kw0⟩
set_option maxRecDepth 100000 in
set_option maxHeartbeats 1000000 in
theorem szPoint_yes (w : World) (t : Int) (D : Option Addr) (nd cd : Nat) (E : Option Addr) (ne ce : Nat) (left : Int) (h0 : left ≤ 1048576) (h1 : (nd : Int) ≤ left) (h2 : (ne : Int) ≤ left - nd) : Calls Try.prog 40 #[.agg #[.int .i64 t, .slice D nd cd, .slice E ne ce], .int .i64 left] w fun e w' => e = .returned (.int .i64 (left - nd - ne)) ∧ K.Kept w w' := by
  have bx_p : BoxN (w.alloc (.cells #[.int .i64 t, .slice D nd cd, .slice E ne ce] 64)) w.heap.size (#[.int .i64 t, .slice D nd cd, .slice E ne ce] : Array Value).toList := BoxN.new w _ _
  have kw0 := kp1 w (.cells #[.int .i64 t, .slice D nd cd, .slice E ne ce] 64)
  generalize hww0 : w.alloc (.cells #[.int .i64 t, .slice D nd cd, .slice E ne ce] 64) = w0 at bx_p kw0 
  obtain ⟨p0, p1, p2, p3, p4, p5, p6⟩ := BoxN.at3 bx_p
  go_enter Try.func40, Try.ntmps40
  go_wp2_with fail
  refine (szIntS_yes _ D nd cd left h0 h1).mono ?_
  rintro e w2 ⟨rfl, rfl⟩
  go_wp2_with fail
  refine (szIntS_yes _ E ne ce (left - nd) (by omega) h2).mono ?_
  rintro e w2 ⟨rfl, rfl⟩
  go_wp2
  go_ret
  exact ⟨rfl, kw0⟩
set_option maxRecDepth 100000 in
set_option maxHeartbeats 1000000 in
theorem szPoint_no (w : World) (t : Int) (D : Option Addr) (nd cd : Nat) (E : Option Addr) (ne ce : Nat) (left : Int) (h0 : 0 ≤ left ∧ left ≤ 1048576) (hc : nd ≤ cd ∧ cd ≤ maxLen) (hc2 : ne ≤ ce ∧ ce ≤ maxLen) (hn : left < (nd : Int) + ne) : Calls Try.prog 40 #[.agg #[.int .i64 t, .slice D nd cd, .slice E ne ce], .int .i64 left] w fun e w' => e = .returned (.int .i64 (-1)) ∧ K.Kept w w' := by
  have bx_p : BoxN (w.alloc (.cells #[.int .i64 t, .slice D nd cd, .slice E ne ce] 64)) w.heap.size (#[.int .i64 t, .slice D nd cd, .slice E ne ce] : Array Value).toList := BoxN.new w _ _
  have kw0 := kp1 w (.cells #[.int .i64 t, .slice D nd cd, .slice E ne ce] 64)
  generalize hww0 : w.alloc (.cells #[.int .i64 t, .slice D nd cd, .slice E ne ce] 64) = w0 at bx_p kw0 
  obtain ⟨p0, p1, p2, p3, p4, p5, p6⟩ := BoxN.at3 bx_p
  by_cases h1 : (nd : Int) ≤ left
  · go_enter Try.func40, Try.ntmps40
    go_wp2_with fail
    refine (szIntS_yes _ D nd cd left h0.2 h1).mono ?_
    rintro e w2 ⟨rfl, rfl⟩
    go_wp2_with fail
    refine (szIntS_no _ E ne ce (left - nd) (by omega) hc2 (by omega)).mono ?_
    rintro e w2 ⟨rfl, rfl⟩
    go_wp2
    go_ret
    exact ⟨rfl, kw0⟩
  · go_enter Try.func40, Try.ntmps40
    go_wp2_with fail
    refine (szIntS_no _ D nd cd left h0 hc (by omega)).mono ?_
    rintro e w2 ⟨rfl, rfl⟩
    go_wp2
    go_ret
    exact ⟨rfl, kw0⟩
set_option maxRecDepth 100000 in
set_option maxHeartbeats 1000000 in
theorem eqGuard_yes (w : World) (x y u : Int) (A : Option Addr) (n c : Nat) (B : Option Addr) (m d : Nat) (l : List (Int × Int)) (h : K.PR w w.heap.size A n l) (h2 : K.PR w w.heap.size B m l) (hn : n ≤ 1099511627776) (hm : m ≤ 1099511627776) : Calls Try.prog 31 #[.agg #[.int .i64 x, .int .i64 y, .slice A n c, .int .i64 u], .agg #[.int .i64 x, .int .i64 y, .slice B m d, .int .i64 u]] w (BK w true) := by
  have bx_a : BoxN ((w.alloc (.cells #[.int .i64 x, .int .i64 y, .slice A n c, .int .i64 u] 27)).alloc (.cells #[.int .i64 x, .int .i64 y, .slice B m d, .int .i64 u] 27)) w.heap.size (#[.int .i64 x, .int .i64 y, .slice A n c, .int .i64 u] : Array Value).toList := (BoxN.new w _ _).kept (kp1 _ _)
  have bx_t : BoxN ((w.alloc (.cells #[.int .i64 x, .int .i64 y, .slice A n c, .int .i64 u] 27)).alloc (.cells #[.int .i64 x, .int .i64 y, .slice B m d, .int .i64 u] 27)) (w.heap.size + 1) (#[.int .i64 x, .int .i64 y, .slice B m d, .int .i64 u] : Array Value).toList := by have q := BoxN.new (w.alloc (.cells #[.int .i64 x, .int .i64 y, .slice A n c, .int .i64 u] 27)) #[.int .i64 x, .int .i64 y, .slice B m d, .int .i64 u] 27; rwa [show (w.alloc (.cells #[.int .i64 x, .int .i64 y, .slice A n c, .int .i64 u] 27)).heap.size = w.heap.size + 1 by simp] at q
  have kw : K.Kept w ((w.alloc (.cells #[.int .i64 x, .int .i64 y, .slice A n c, .int .i64 u] 27)).alloc (.cells #[.int .i64 x, .int .i64 y, .slice B m d, .int .i64 u] 27)) := K.Kept.trans (kp1 _ _) (kp1 _ _)
  generalize hww0 : ((w.alloc (.cells #[.int .i64 x, .int .i64 y, .slice A n c, .int .i64 u] 27)).alloc (.cells #[.int .i64 x, .int .i64 y, .slice B m d, .int .i64 u] 27)) = w0 at bx_a bx_t kw
  obtain ⟨a0, a1, a2, a3, a4, a5, a6, a7, a8⟩ := BoxN.at4 bx_a
  obtain ⟨t0, t1, t2, t3, t4, t5, t6, t7, t8⟩ := BoxN.at4 bx_t
  have R1 := Lib.hid (rdw h kw)
  have R2 := Lib.hid (rdw h2 kw)
  have eu : (u != u) = false := by simp
  clear h h2
  go_enter Try.func31, Try.ntmps31
  go_wp2_with fail
  refine (eqSpan_c x y x y _).mono ?_
  rintro e w1 ⟨rfl, hw1⟩
  have k1 : K.Kept w0 w1 := hw1 ▸ K.Kept.trans (kp1 _ _) (kp1 _ _)
  rw [decide_eq_true (show x = x ∧ y = y from ⟨rfl, rfl⟩)]
  replace bx_a := bx_a.kept k1
  replace bx_t := bx_t.kept k1
  replace R1 := Lib.hid (rdw R1.out k1)
  replace R2 := Lib.hid (rdw R2.out k1)
  replace kw := K.Kept.trans kw k1
  clear a0 a1 a2 a3 a4 a5 a6 a7 a8 t0 t1 t2 t3 t4 t5 t6 t7 t8 hww0 k1 hw1
  obtain ⟨a0, a1, a2, a3, a4, a5, a6, a7, a8⟩ := BoxN.at4 bx_a
  obtain ⟨t0, t1, t2, t3, t4, t5, t6, t7, t8⟩ := BoxN.at4 bx_t
  go_wp2_with fail
  refine (eqSpanS_c _ A B n m c d l l R1.out R2.out hn hm).mono ?_
  rintro e w2 ⟨rfl, k2⟩
  rw [decide_eq_true (rfl : l = l)]
  replace bx_a := bx_a.kept k2
  replace bx_t := bx_t.kept k2
  clear a0 a1 a2 a3 a4 a5 a6 a7 a8 t0 t1 t2 t3 t4 t5 t6 t7 t8
  obtain ⟨a0, a1, a2, a3, a4, a5, a6, a7, a8⟩ := BoxN.at4 bx_a
  obtain ⟨t0, t1, t2, t3, t4, t5, t6, t7, t8⟩ := BoxN.at4 bx_t
  go_wp2
  go_ret
  exact ⟨rfl, K.Kept.trans kw k2⟩
set_option maxRecDepth 100000 in
set_option maxHeartbeats 1000000 in
theorem eqPoint_yes (w : World) (t : Int) (D : Option Addr) (nd cd : Nat) (E : Option Addr) (ne ce : Nat) (D2 : Option Addr) (md d2 : Nat) (E2 : Option Addr) (me e2 : Nat) (cs co : List Int) (h1 : K.IR w w.heap.size D nd cs) (h2 : K.IR w w.heap.size E ne co) (h3 : K.IR w w.heap.size D2 md cs) (h4 : K.IR w w.heap.size E2 me co) (q1 : nd ≤ 1099511627776) (q2 : ne ≤ 1099511627776) (q3 : md ≤ 1099511627776) (q4 : me ≤ 1099511627776) : Calls Try.prog 36 #[.agg #[.int .i64 t, .slice D nd cd, .slice E ne ce], .agg #[.int .i64 t, .slice D2 md d2, .slice E2 me e2]] w (BK w true) := by
  have bx_a : BoxN ((w.alloc (.cells #[.int .i64 t, .slice D nd cd, .slice E ne ce] 30)).alloc (.cells #[.int .i64 t, .slice D2 md d2, .slice E2 me e2] 30)) w.heap.size (#[.int .i64 t, .slice D nd cd, .slice E ne ce] : Array Value).toList := (BoxN.new w _ _).kept (kp1 _ _)
  have bx_t : BoxN ((w.alloc (.cells #[.int .i64 t, .slice D nd cd, .slice E ne ce] 30)).alloc (.cells #[.int .i64 t, .slice D2 md d2, .slice E2 me e2] 30)) (w.heap.size + 1) (#[.int .i64 t, .slice D2 md d2, .slice E2 me e2] : Array Value).toList := by have q := BoxN.new (w.alloc (.cells #[.int .i64 t, .slice D nd cd, .slice E ne ce] 30)) #[.int .i64 t, .slice D2 md d2, .slice E2 me e2] 30; rwa [show (w.alloc (.cells #[.int .i64 t, .slice D nd cd, .slice E ne ce] 30)).heap.size = w.heap.size + 1 by simp] at q
  have kw : K.Kept w ((w.alloc (.cells #[.int .i64 t, .slice D nd cd, .slice E ne ce] 30)).alloc (.cells #[.int .i64 t, .slice D2 md d2, .slice E2 me e2] 30)) := K.Kept.trans (kp1 _ _) (kp1 _ _)
  generalize hww0 : ((w.alloc (.cells #[.int .i64 t, .slice D nd cd, .slice E ne ce] 30)).alloc (.cells #[.int .i64 t, .slice D2 md d2, .slice E2 me e2] 30)) = w0 at bx_a bx_t kw
  obtain ⟨a0, a1, a2, a3, a4, a5, a6⟩ := BoxN.at3 bx_a
  obtain ⟨t0, t1, t2, t3, t4, t5, t6⟩ := BoxN.at3 bx_t
  have R1 := Lib.hid (rdw h1 kw)
  have R2 := Lib.hid (rdw h2 kw)
  have R3 := Lib.hid (rdw h3 kw)
  have R4 := Lib.hid (rdw h4 kw)
  have et : (t != t) = false := by simp
  have et2 : (t == t) = true := by simp
  clear h1 h2 h3 h4
  go_enter Try.func36, Try.ntmps36
  go_wp2_with fail
  refine (eqIntS_c _ D D2 nd md cd d2 cs cs R1.out R3.out q1 q3).mono ?_
  rintro e w1 ⟨rfl, k1⟩
  rw [decide_eq_true (rfl : cs = cs)]
  replace bx_a := bx_a.kept k1
  replace bx_t := bx_t.kept k1
  replace R2 := Lib.hid (rdw R2.out k1)
  replace R4 := Lib.hid (rdw R4.out k1)
  replace kw := K.Kept.trans kw k1
  clear a0 a1 a2 a3 a4 a5 a6 t0 t1 t2 t3 t4 t5 t6 hww0 k1 R1 R3
  obtain ⟨a0, a1, a2, a3, a4, a5, a6⟩ := BoxN.at3 bx_a
  obtain ⟨t0, t1, t2, t3, t4, t5, t6⟩ := BoxN.at3 bx_t
  go_wp2_with fail
  refine (eqIntS_c _ E E2 ne me ce e2 co co R2.out R4.out q2 q4).mono ?_
  rintro e w2 ⟨rfl, k2⟩
  rw [decide_eq_true (rfl : co = co)]
  go_wp2
  go_ret
  exact ⟨rfl, K.Kept.trans kw k2⟩
set_option maxRecDepth 100000 in
set_option maxHeartbeats 1000000 in
theorem equalPoint_yes (w : World) (t : Int) (D : Option Addr) (nd cd : Nat) (E : Option Addr) (ne ce : Nat) (D2 : Option Addr) (md d2 : Nat) (E2 : Option Addr) (me e2 : Nat) (cs co : List Int) (h1 : K.IR w w.heap.size D nd cs) (h2 : K.IR w w.heap.size E ne co) (h3 : K.IR w w.heap.size D2 md cs) (h4 : K.IR w w.heap.size E2 me co) (q1 : nd ≤ 1099511627776) (q2 : ne ≤ 1099511627776) (q3 : md ≤ 1099511627776) (q4 : me ≤ 1099511627776) : Calls Try.prog 23 #[.agg #[.int .i64 t, .slice D nd cd, .slice E ne ce], .agg #[.int .i64 t, .slice D2 md d2, .slice E2 me e2]] w (BK w true) := by
  have bx_a : BoxN ((w.alloc (.cells #[.int .i64 t, .slice D nd cd, .slice E ne ce] 30)).alloc (.cells #[.int .i64 t, .slice D2 md d2, .slice E2 me e2] 30)) w.heap.size (#[.int .i64 t, .slice D nd cd, .slice E ne ce] : Array Value).toList := (BoxN.new w _ _).kept (kp1 _ _)
  have bx_t : BoxN ((w.alloc (.cells #[.int .i64 t, .slice D nd cd, .slice E ne ce] 30)).alloc (.cells #[.int .i64 t, .slice D2 md d2, .slice E2 me e2] 30)) (w.heap.size + 1) (#[.int .i64 t, .slice D2 md d2, .slice E2 me e2] : Array Value).toList := by have q := BoxN.new (w.alloc (.cells #[.int .i64 t, .slice D nd cd, .slice E ne ce] 30)) #[.int .i64 t, .slice D2 md d2, .slice E2 me e2] 30; rwa [show (w.alloc (.cells #[.int .i64 t, .slice D nd cd, .slice E ne ce] 30)).heap.size = w.heap.size + 1 by simp] at q
  have kw : K.Kept w ((w.alloc (.cells #[.int .i64 t, .slice D nd cd, .slice E ne ce] 30)).alloc (.cells #[.int .i64 t, .slice D2 md d2, .slice E2 me e2] 30)) := K.Kept.trans (kp1 _ _) (kp1 _ _)
  generalize hww0 : ((w.alloc (.cells #[.int .i64 t, .slice D nd cd, .slice E ne ce] 30)).alloc (.cells #[.int .i64 t, .slice D2 md d2, .slice E2 me e2] 30)) = w0 at bx_a bx_t kw
  obtain ⟨a0, a1, a2, a3, a4, a5, a6⟩ := BoxN.at3 bx_a
  obtain ⟨t0, t1, t2, t3, t4, t5, t6⟩ := BoxN.at3 bx_t
  have R1 := Lib.hid (rdw h1 kw)
  have R2 := Lib.hid (rdw h2 kw)
  have R3 := Lib.hid (rdw h3 kw)
  have R4 := Lib.hid (rdw h4 kw)
  have et : (t != t) = false := by simp
  have et2 : (t == t) = true := by simp
  clear h1 h2 h3 h4
  go_enter Try.func23, Try.ntmps23
  go_wp2_with fail
  refine (equalInts_c _ D D2 nd md cd d2 cs cs R1.out R3.out q1 q3).mono ?_
  rintro e w1 ⟨rfl, k1⟩
  rw [decide_eq_true (rfl : cs = cs)]
  replace bx_a := bx_a.kept k1
  replace bx_t := bx_t.kept k1
  replace R2 := Lib.hid (rdw R2.out k1)
  replace R4 := Lib.hid (rdw R4.out k1)
  replace kw := K.Kept.trans kw k1
  clear a0 a1 a2 a3 a4 a5 a6 t0 t1 t2 t3 t4 t5 t6 hww0 k1 R1 R3
  obtain ⟨a0, a1, a2, a3, a4, a5, a6⟩ := BoxN.at3 bx_a
  obtain ⟨t0, t1, t2, t3, t4, t5, t6⟩ := BoxN.at3 bx_t
  go_wp2_with fail
  refine (equalInts_c _ E E2 ne me ce e2 co co R2.out R4.out q2 q4).mono ?_
  rintro e w2 ⟨rfl, k2⟩
  rw [decide_eq_true (rfl : co = co)]
  go_wp2
  go_ret
  exact ⟨rfl, K.Kept.trans kw k2⟩
/-- A point has been converted: the same, its lists in memory of the call's own. -/
def PointR (w : World) (t : Int) (cs co : List Int) (e : Ending) (w' : World) : Prop := ∃ (D : Option Addr) (nd cd : Nat) (E : Option Addr) (ne ce : Nat), e = .returned (.agg #[.int .i64 t, .slice D nd cd, .slice E ne ce]) ∧ cs.length = nd ∧ co.length = ne ∧ w'.ownsRow w.heap.size 3 1 (.slice D nd cd) nd (cs.map (Value.int .i64)) ∧ w'.ownsRow w.heap.size 3 1 (.slice E ne ce) ne (co.map (Value.int .i64)) ∧ (∀ i j, (Value.slice D nd cd).ownBlock = some i → (Value.slice E ne ce).ownBlock = some j → i ≠ j) ∧ K.Kept w w'
set_option maxRecDepth 100000 in
set_option maxHeartbeats 2000000 in
theorem toPoint_c (w : World) (t : Int) (D : Option Addr) (nd cd : Nat) (cs : List Int) (E : Option Addr) (ne ce : Nat) (co : List Int) (h1 : K.IR w w.heap.size D nd cs) (hd : nd ≤ 1099511627776) (h2 : K.IR w w.heap.size E ne co) (he : ne ≤ 1099511627776) : Calls Try.prog 41 #[.agg #[.int .i64 t, .slice D nd cd, .slice E ne ce]] w (PointR w t cs co) := by
  have bx_a : BoxN (((w.alloc (.cells #[.int .i64 t, .slice D nd cd, .slice E ne ce] 64)).alloc (.cells #[.int .i64 0, .slice none 0 0, .slice none 0 0] 30)).alloc (.cells #[.int .i64 0, .slice none 0 0, .slice none 0 0] 30)) w.heap.size (#[.int .i64 t, .slice D nd cd, .slice E ne ce] : Array Value).toList := ((BoxN.new w _ _).kept (kp1 _ _)).kept (kp1 _ _)
  have bx_r : BoxN (((w.alloc (.cells #[.int .i64 t, .slice D nd cd, .slice E ne ce] 64)).alloc (.cells #[.int .i64 0, .slice none 0 0, .slice none 0 0] 30)).alloc (.cells #[.int .i64 0, .slice none 0 0, .slice none 0 0] 30)) (w.heap.size + 1) (#[.int .i64 0, .slice none 0 0, .slice none 0 0] : Array Value).toList := by have q := (BoxN.new (w.alloc (.cells #[.int .i64 t, .slice D nd cd, .slice E ne ce] 64)) #[.int .i64 0, .slice none 0 0, .slice none 0 0] 30).kept (kp1 ((w.alloc (.cells #[.int .i64 t, .slice D nd cd, .slice E ne ce] 64)).alloc (.cells #[.int .i64 0, .slice none 0 0, .slice none 0 0] 30)) (.cells #[.int .i64 0, .slice none 0 0, .slice none 0 0] 30)); rwa [show (w.alloc (.cells #[.int .i64 t, .slice D nd cd, .slice E ne ce] 64)).heap.size = w.heap.size + 1 by simp] at q
  have bx_v : BoxN (((w.alloc (.cells #[.int .i64 t, .slice D nd cd, .slice E ne ce] 64)).alloc (.cells #[.int .i64 0, .slice none 0 0, .slice none 0 0] 30)).alloc (.cells #[.int .i64 0, .slice none 0 0, .slice none 0 0] 30)) (w.heap.size + 2) (#[.int .i64 0, .slice none 0 0, .slice none 0 0] : Array Value).toList := by have q := BoxN.new ((w.alloc (.cells #[.int .i64 t, .slice D nd cd, .slice E ne ce] 64)).alloc (.cells #[.int .i64 0, .slice none 0 0, .slice none 0 0] 30)) #[.int .i64 0, .slice none 0 0, .slice none 0 0] 30; rwa [show ((w.alloc (.cells #[.int .i64 t, .slice D nd cd, .slice E ne ce] 64)).alloc (.cells #[.int .i64 0, .slice none 0 0, .slice none 0 0] 30)).heap.size = w.heap.size + 2 by simp] at q
  have kw : K.Kept w (((w.alloc (.cells #[.int .i64 t, .slice D nd cd, .slice E ne ce] 64)).alloc (.cells #[.int .i64 0, .slice none 0 0, .slice none 0 0] 30)).alloc (.cells #[.int .i64 0, .slice none 0 0, .slice none 0 0] 30)) := K.Kept.trans (K.Kept.trans (kp1 _ _) (kp1 _ _)) (kp1 _ _)
  generalize hww0 : (((w.alloc (.cells #[.int .i64 t, .slice D nd cd, .slice E ne ce] 64)).alloc (.cells #[.int .i64 0, .slice none 0 0, .slice none 0 0] 30)).alloc (.cells #[.int .i64 0, .slice none 0 0, .slice none 0 0] 30)) = w0 at bx_a bx_r bx_v kw
  obtain ⟨a0, a1, a2, a3, a4, a5, a6⟩ := BoxN.at3 bx_a
  obtain ⟨v0, v1, v2, v3, v4, v5, v6⟩ := BoxN.at3 bx_v
  have R1 := Lib.hid h1
  have R2 := Lib.hid h2
  clear h1 h2
  have kW : K.Kept w (w0.setCell ⟨w.heap.size + 2, 0, none⟩ (.int .i64 t)) := kset kw (by omega) _
  go_enter Try.func41, Try.ntmps41
  go_wp2_with fail
  refine (toIntS_c _ D nd cd cs (rdw R1.out kW) hd).mono ?_
  rintro e w1 ⟨D2, n2, c2, rfl, hl2, own2, k1⟩
  have own2 := own_monoG own2 (show w.heap.size + 3 ≤ _ by have := bx_v.1; simp [World.setCell] at this ⊢; omega)
  replace bx_a := (bx_a.far (b' := w.heap.size + 2) (i := 0) (by omega) (.int .i64 t)).kept k1
  replace bx_r := (bx_r.far (b' := w.heap.size + 2) (i := 0) (by omega) (.int .i64 t)).kept k1
  replace bx_v := (bx_v.set 0 (.int .i64 t) (by simp)).kept k1
  replace kw := K.Kept.trans kW k1
  clear a0 a1 a2 a3 a4 a5 a6 v0 v1 v2 v3 v4 v5 v6 hww0 k1 kW
  obtain ⟨a0, a1, a2, a3, a4, a5, a6⟩ := BoxN.at3 bx_a
  obtain ⟨v0, v1, v2, v3, v4, v5, v6⟩ := BoxN.at3 bx_v
  have lt2 := own2.lt
  have kW : K.Kept w (w1.setCell ⟨w.heap.size + 2, 1, none⟩ (.slice D2 n2 c2)) := kset kw (by omega) _
  have zs : (w1.setCell ⟨w.heap.size + 2, 1, none⟩ (.slice D2 n2 c2)).heap.size = w1.heap.size := by simp [World.setCell]
  go_wp2_with fail
  refine (toIntS_c _ E ne ce co (rdw R2.out kW) he).mono ?_
  rintro e w2 ⟨E2, n3, c3, rfl, hl3, own3, k2⟩
  have lt3 := own3.lt
  have own2 := K.own_kept (own_set (i := 1) own2 (show w.heap.size + 2 < _ by omega) (.slice D2 n2 c2)) k2
  have hne : Hid (∀ i j, (Value.slice D2 n2 c2).ownBlock = some i → (Value.slice E2 n3 c3).ownBlock = some j → i ≠ j) := fun i j hi hj => by have := (lt2 i hi).2; have := (lt3 j hj).1; omega
  have own3 := own_monoG own3 (show w.heap.size + 3 ≤ _ by have := bx_v.1; simp [World.setCell] at this ⊢; omega)
  replace bx_a := (bx_a.far (b' := w.heap.size + 2) (i := 1) (by omega) (.slice D2 n2 c2)).kept k2
  replace bx_r := (bx_r.far (b' := w.heap.size + 2) (i := 1) (by omega) (.slice D2 n2 c2)).kept k2
  replace bx_v := (bx_v.set 1 (.slice D2 n2 c2) (by simp)).kept k2
  replace kw := K.Kept.trans kW k2
  clear a0 a1 a2 a3 a4 a5 a6 v0 v1 v2 v3 v4 v5 v6 k2 kW lt2 lt3 zs
  obtain ⟨v0, v1, v2, v3, v4, v5, v6⟩ := BoxN.at3 bx_v
  obtain ⟨r0, r1, r2, r3, r4, r5, r6⟩ := BoxN.at3 bx_r
  have br := (((bx_r.far (b' := w.heap.size + 2) (i := 2) (by omega) (.slice E2 n3 c3)).set 0 (.int .i64 t) (by simp)).set 1 (.slice D2 n2 c2) (by simp)).set 2 (.slice E2 n3 c3) (by simp)
  obtain ⟨z0, z1, z2, _⟩ := BoxN.at3 br
  have OW := Lib.hid (own_monoG (own_set (i := 2) (own_set (i := 1) (own_set (i := 0) (own_set (i := 2) own2 (show w.heap.size + 2 < _ by omega) (.slice E2 n3 c3)) (show w.heap.size + 1 < _ by omega) (.int .i64 t)) (show w.heap.size + 1 < _ by omega) (.slice D2 n2 c2)) (show w.heap.size + 1 < _ by omega) (.slice E2 n3 c3)) (show w.heap.size ≤ _ by omega))
  have OX := Lib.hid (own_monoG (own_set (i := 2) (own_set (i := 1) (own_set (i := 0) (own_set (i := 2) own3 (show w.heap.size + 2 < _ by omega) (.slice E2 n3 c3)) (show w.heap.size + 1 < _ by omega) (.int .i64 t)) (show w.heap.size + 1 < _ by omega) (.slice D2 n2 c2)) (show w.heap.size + 1 < _ by omega) (.slice E2 n3 c3)) (show w.heap.size ≤ _ by omega))
  have KW := Lib.hid (kset (i := 2) (kset (i := 1) (kset (i := 0) (kset (i := 2) kw (show w.heap.size ≤ w.heap.size + 2 by omega) (.slice E2 n3 c3)) (show w.heap.size ≤ w.heap.size + 1 by omega) (.int .i64 t)) (show w.heap.size ≤ w.heap.size + 1 by omega) (.slice D2 n2 c2)) (show w.heap.size ≤ w.heap.size + 1 by omega) (.slice E2 n3 c3))
  clear own2 own3 br kw
  go_wp2
  refine bodyPost_ret (by simp [results, Try.results41, go_sem, z0, z1, z2]; try rfl) rfl ?_
  exact ⟨D2, n2, c2, E2, n3, c3, rfl, hl2, hl3, OW.out, OX.out, hne.out, KW.out⟩
end C
end Go.Proofs.Ytapjlbcpfemeiaa

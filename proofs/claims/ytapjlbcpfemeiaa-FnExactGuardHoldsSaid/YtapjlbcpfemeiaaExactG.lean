/-
  The exact laws of guards: the program returns what the reference returns. Conditions: none.
-/
import Derived.Test.YtapjlbcpfemeiaaGuardX
namespace Go.Proofs.Ytapjlbcpfemeiaa
open Go.RowKit
namespace C

set_option maxRecDepth 100000 in
set_option maxHeartbeats 4000000 in
theorem exactValidGuard (w : World) (x y u : Int) (A : Option Addr) (n c : Nat) (l : List (Int × Int)) (hc : n ≤ c ∧ c ≤ maxLen) (h : K.PR w w.heap.size A n l) : Calls Try.prog 6 #[.agg #[.int .i64 x, .int .i64 y, .slice A n c, .int .i64 u]] w fun e w' => e = .returned (.bool true) ∧ Below w.heap.size w w' := by
  have LL := Lib.hid (K.PR.len h)
  have bx_g : BoxN (w.alloc (.cells #[.int .i64 x, .int .i64 y, .slice A n c, .int .i64 u] 51)) w.heap.size (#[.int .i64 x, .int .i64 y, .slice A n c, .int .i64 u] : Array Value).toList := BoxN.new w _ _
  have kw0 := kp1 w (.cells #[.int .i64 x, .int .i64 y, .slice A n c, .int .i64 u] 51)
  generalize hww0 : w.alloc (.cells #[.int .i64 x, .int .i64 y, .slice A n c, .int .i64 u] 51) = w0 at bx_g kw0 
  have kw := kw0
  clear kw0
  by_cases hn : 1048576 < (n : Int)
  case pos =>
    go_enter Try.func6, Try.ntmps6
    obtain ⟨g0, g1, g2, g3, g4, g5, g6, g7, g8⟩ := BoxN.at4 bx_g
    go_wp2_with fail
    refine (szGuard_no _ x y u A n c _ (by omega) hc (by omega)).mono ?_
    rintro e w1 ⟨rfl, kk⟩
    replace bx_g := BoxN.kept bx_g kk
    replace kw := K.Kept.trans kw kk
    clear kk
    clear g0 g1 g2 g3 g4 g5 g6 g7 g8
    go_wp2
    go_ret
    exact ⟨rfl, kw⟩
  have hn' : n ≤ 1048576 := by omega
  clear hn
  have hR := Lib.hid h
  clear h
  go_enter Try.func6, Try.ntmps6
  obtain ⟨g0, g1, g2, g3, g4, g5, g6, g7, g8⟩ := BoxN.at4 bx_g
  go_wp2_with fail
  refine (szGuard_yes _ x y u A n c _ (by omega) (by omega)).mono ?_
  rintro e w1 ⟨rfl, kk⟩
  replace bx_g := BoxN.kept bx_g kk
  replace kw := K.Kept.trans kw kk
  clear kk
  clear g0 g1 g2 g3 g4 g5 g6 g7 g8
  obtain ⟨b, hb⟩ : ∃ b, vG x y l u = b := ⟨_, rfl⟩
  obtain ⟨g0, g1, g2, g3, g4, g5, g6, g7, g8⟩ := BoxN.at4 bx_g
  go_wp2_with fail
  refine (toGuard_c _ x y u A n c l (rdw hR.out kw) (by omega)).mono ?_
  rintro e w2 ⟨At, nt, ct, rfl, hlt, ownt, kk⟩
  replace bx_g := BoxN.kept bx_g kk
  replace kw := K.Kept.trans kw kk
  clear kk
  clear g0 g1 g2 g3 g4 g5 g6 g7 g8
  have hnt : nt ≤ 1099511627776 := by have := LL.out; omega
  obtain ⟨g0, g1, g2, g3, g4, g5, g6, g7, g8⟩ := BoxN.at4 bx_g
  go_wp2_with fail
  refine (ValidGuard_s _ x y u At nt ct l b hb (K.rd_own ownt) hnt).mono ?_
  rintro e w3 ⟨rfl, kk⟩
  replace ownt := K.own_kept ownt kk
  replace bx_g := BoxN.kept bx_g kk
  replace kw := K.Kept.trans kw kk
  clear kk
  clear g0 g1 g2 g3 g4 g5 g6 g7 g8
  clear ownt hlt hnt
  obtain ⟨g0, g1, g2, g3, g4, g5, g6, g7, g8⟩ := BoxN.at4 bx_g
  go_wp2_with fail
  refine (toGuard_c _ x y u A n c l (rdw hR.out kw) (by omega)).mono ?_
  rintro e w4 ⟨Aq, nq, cq, rfl, hlq, ownq, kk⟩
  replace bx_g := BoxN.kept bx_g kk
  replace kw := K.Kept.trans kw kk
  clear kk
  clear g0 g1 g2 g3 g4 g5 g6 g7 g8
  have hnq : nq ≤ 1099511627776 := by have := LL.out; omega
  have bx_v : BoxN (w4.alloc (.cells #[.int .i64 x, .int .i64 y, .slice Aq nq cq, .int .i64 u] 27)) w4.heap.size (#[.int .i64 x, .int .i64 y, .slice Aq nq cq, .int .i64 u] : Array Value).toList := BoxN.new w4 _ _
  have kk := kp1 w4 (.cells #[.int .i64 x, .int .i64 y, .slice Aq nq cq, .int .i64 u] 27)
  replace ownq := K.own_kept ownq kk
  replace bx_g := BoxN.kept bx_g kk
  replace kw := K.Kept.trans kw kk
  generalize hww5 : w4.alloc (.cells #[.int .i64 x, .int .i64 y, .slice Aq nq cq, .int .i64 u] 27) = w5 at ownq bx_g bx_v kw kk
  clear kk
  obtain ⟨g0, g1, g2, g3, g4, g5, g6, g7, g8⟩ := BoxN.at4 bx_g
  obtain ⟨v0, v1, v2, v3, v4, v5, v6, v7, v8⟩ := BoxN.at4 bx_v
  go_wp2_with fail
  refine (validGuard_i _ x y u Aq nq cq l b hb (K.rd_own ownq) hnq).mono ?_
  rintro e w6 ⟨rfl, kk⟩
  replace ownq := K.own_kept ownq kk
  replace bx_g := BoxN.kept bx_g kk
  replace bx_v := BoxN.kept bx_v kk
  replace kw := K.Kept.trans kw kk
  clear kk
  clear g0 g1 g2 g3 g4 g5 g6 g7 g8
  clear v0 v1 v2 v3 v4 v5 v6 v7 v8
  have eb : (b != b) = false := by simp
  clear hww0
  go_wp2_with fail
  obtain ⟨g0, g1, g2, g3, g4, g5, g6, g7, g8⟩ := BoxN.at4 bx_g
  obtain ⟨v0, v1, v2, v3, v4, v5, v6, v7, v8⟩ := BoxN.at4 bx_v
  replace kw := K.Kept.trans kw (kdrew _)
  replace ownq := K.own_kept ownq (kdrew _)
  replace bx_g := BoxN.kept bx_g (kdrew _)
  replace bx_v := BoxN.kept bx_v (kdrew _)
  go_region_held3 (fun w' => w'.cell? ⟨w.heap.size, 0, none⟩ = some (.int .i64 x) ∧ w'.cell? ⟨w.heap.size, 1, none⟩ = some (.int .i64 y) ∧ w'.cell? ⟨w.heap.size, 2, none⟩ = some (.slice A n c) ∧ w'.cell? ⟨w.heap.size, 3, none⟩ = some (.int .i64 u) ∧ w'.cell? ⟨w4.heap.size, 0, none⟩ = some (.int .i64 x) ∧ w'.cell? ⟨w4.heap.size, 1, none⟩ = some (.int .i64 y) ∧ w'.cell? ⟨w4.heap.size, 2, none⟩ = some (.slice Aq nq cq) ∧ w'.cell? ⟨w4.heap.size, 3, none⟩ = some (.int .i64 u)) (first | exact ⟨g0, g1, g2, g3, v0, v1, v2, v3⟩ | go_keep) (first | (go_at_call 29; refine (toGuard_c _ x y u A n c l (rdw hR.out kw) (by omega)).mono ?_; rintro e wv ⟨Az, nz, cz, rfl, hlz, ownz, kk⟩; replace ownq := K.own_kept ownq kk; replace bx_g := BoxN.kept bx_g kk; replace bx_v := BoxN.kept bx_v kk; replace kw := K.Kept.trans kw kk; clear kk; clear g0 g1 g2 g3 g4 g5 g6 g7 g8; clear v0 v1 v2 v3 v4 v5 v6 v7 v8; obtain ⟨g0, g1, g2, g3, g4, g5, g6, g7, g8⟩ := BoxN.at4 bx_g; obtain ⟨v0, v1, v2, v3, v4, v5, v6, v7, v8⟩ := BoxN.at4 bx_v) | (go_at_call 31; refine (eqGuard_yes _ x y u Aq nq cq Az nz cz l (K.rd_own ownq) (K.rd_own ownz) hnq (by have := LL.out; omega)).mono ?_; rintro e wv ⟨rfl, kk⟩; replace ownq := K.own_kept ownq kk; (try replace ownz := K.own_kept ownz kk); replace bx_g := BoxN.kept bx_g kk; replace bx_v := BoxN.kept bx_v kk; replace kw := K.Kept.trans kw kk; clear kk; clear g0 g1 g2 g3 g4 g5 g6 g7 g8; clear v0 v1 v2 v3 v4 v5 v6 v7 v8; obtain ⟨g0, g1, g2, g3, g4, g5, g6, g7, g8⟩ := BoxN.at4 bx_g; obtain ⟨v0, v1, v2, v3, v4, v5, v6, v7, v8⟩ := BoxN.at4 bx_v))
  all_goals go_wp2
  all_goals go_ret
  all_goals exact ⟨rfl, kw⟩
set_option maxRecDepth 100000 in
set_option maxHeartbeats 4000000 in
theorem exactGuardHolds (w : World) (x y u : Int) (A : Option Addr) (n c : Nat) (l : List (Int × Int)) (t : Int) (D : Option Addr) (nd cd : Nat) (cs : List Int) (E : Option Addr) (ne ce : Nat) (co : List Int) (hc : n ≤ c ∧ c ≤ maxLen) (hcd : nd ≤ cd ∧ cd ≤ maxLen) (hce : ne ≤ ce ∧ ce ≤ maxLen) (h : K.PR w w.heap.size A n l) (h1 : K.IR w w.heap.size D nd cs) (h2 : K.IR w w.heap.size E ne co) : Calls Try.prog 13 #[.agg #[.int .i64 x, .int .i64 y, .slice A n c, .int .i64 u], .agg #[.int .i64 t, .slice D nd cd, .slice E ne ce]] w fun e w' => e = .returned (.bool true) ∧ Below w.heap.size w w' := by
  have LL := Lib.hid (K.PR.len h)
  have LD := Lib.hid (K.IR.len h1)
  have LE := Lib.hid (K.IR.len h2)
  have bx_g : BoxN ((w.alloc (.cells #[.int .i64 x, .int .i64 y, .slice A n c, .int .i64 u] 51)).alloc (.cells #[.int .i64 t, .slice D nd cd, .slice E ne ce] 64)) w.heap.size (#[.int .i64 x, .int .i64 y, .slice A n c, .int .i64 u] : Array Value).toList := (BoxN.new w _ _).kept (kp1 _ _)
  have bx_p : BoxN ((w.alloc (.cells #[.int .i64 x, .int .i64 y, .slice A n c, .int .i64 u] 51)).alloc (.cells #[.int .i64 t, .slice D nd cd, .slice E ne ce] 64)) (w.heap.size + 1) (#[.int .i64 t, .slice D nd cd, .slice E ne ce] : Array Value).toList := by have q := BoxN.new (w.alloc (.cells #[.int .i64 x, .int .i64 y, .slice A n c, .int .i64 u] 51)) #[.int .i64 t, .slice D nd cd, .slice E ne ce] 64; rwa [show (w.alloc (.cells #[.int .i64 x, .int .i64 y, .slice A n c, .int .i64 u] 51)).heap.size = w.heap.size + 1 by simp] at q
  have kw0 : K.Kept w ((w.alloc (.cells #[.int .i64 x, .int .i64 y, .slice A n c, .int .i64 u] 51)).alloc (.cells #[.int .i64 t, .slice D nd cd, .slice E ne ce] 64)) := K.Kept.trans (kp1 _ _) (kp1 _ _)
  generalize hww0 : (w.alloc (.cells #[.int .i64 x, .int .i64 y, .slice A n c, .int .i64 u] 51)).alloc (.cells #[.int .i64 t, .slice D nd cd, .slice E ne ce] 64) = w0 at bx_g bx_p kw0
  have kw := kw0
  clear kw0
  by_cases hn : 1048576 < (n : Int)
  case pos =>
    go_enter Try.func13, Try.ntmps13
    obtain ⟨g0, g1, g2, g3, g4, g5, g6, g7, g8⟩ := BoxN.at4 bx_g
    obtain ⟨p0, p1, p2, p3, p4, p5, p6⟩ := BoxN.at3 bx_p
    go_wp2_with fail
    refine (szGuard_no _ x y u A n c _ (by omega) hc (by omega)).mono ?_
    rintro e w1 ⟨rfl, kk⟩
    replace bx_g := BoxN.kept bx_g kk
    replace bx_p := BoxN.kept bx_p kk
    replace kw := K.Kept.trans kw kk
    clear kk
    clear g0 g1 g2 g3 g4 g5 g6 g7 g8
    clear p0 p1 p2 p3 p4 p5 p6
    go_wp2
    go_ret
    exact ⟨rfl, kw⟩
  by_cases hm : 1048576 - (n : Int) < (nd : Int) + ne
  case pos =>
    go_enter Try.func13, Try.ntmps13
    obtain ⟨g0, g1, g2, g3, g4, g5, g6, g7, g8⟩ := BoxN.at4 bx_g
    obtain ⟨p0, p1, p2, p3, p4, p5, p6⟩ := BoxN.at3 bx_p
    go_wp2_with fail
    refine (szGuard_yes _ x y u A n c _ (by omega) (by omega)).mono ?_
    rintro e w1 ⟨rfl, kk⟩
    replace bx_g := BoxN.kept bx_g kk
    replace bx_p := BoxN.kept bx_p kk
    replace kw := K.Kept.trans kw kk
    clear kk
    clear g0 g1 g2 g3 g4 g5 g6 g7 g8
    clear p0 p1 p2 p3 p4 p5 p6
    obtain ⟨g0, g1, g2, g3, g4, g5, g6, g7, g8⟩ := BoxN.at4 bx_g
    obtain ⟨p0, p1, p2, p3, p4, p5, p6⟩ := BoxN.at3 bx_p
    go_wp2_with fail
    refine (szPoint_no _ t D nd cd E ne ce _ (by omega) hcd hce (by omega)).mono ?_
    rintro e w2 ⟨rfl, kk⟩
    replace bx_g := BoxN.kept bx_g kk
    replace bx_p := BoxN.kept bx_p kk
    replace kw := K.Kept.trans kw kk
    clear kk
    clear g0 g1 g2 g3 g4 g5 g6 g7 g8
    clear p0 p1 p2 p3 p4 p5 p6
    go_wp2
    go_ret
    exact ⟨rfl, kw⟩
  have hn' : n ≤ 1048576 := by omega
  have hd' : nd ≤ 1048576 := by omega
  have he' : ne ≤ 1048576 := by omega
  have hR := Lib.hid h
  have hD := Lib.hid h1
  have hE := Lib.hid h2
  clear h h1 h2
  go_enter Try.func13, Try.ntmps13
  obtain ⟨g0, g1, g2, g3, g4, g5, g6, g7, g8⟩ := BoxN.at4 bx_g
  obtain ⟨p0, p1, p2, p3, p4, p5, p6⟩ := BoxN.at3 bx_p
  go_wp2_with fail
  refine (szGuard_yes _ x y u A n c _ (by omega) (by omega)).mono ?_
  rintro e w1 ⟨rfl, kk⟩
  replace bx_g := BoxN.kept bx_g kk
  replace bx_p := BoxN.kept bx_p kk
  replace kw := K.Kept.trans kw kk
  clear kk
  clear g0 g1 g2 g3 g4 g5 g6 g7 g8
  clear p0 p1 p2 p3 p4 p5 p6
  obtain ⟨g0, g1, g2, g3, g4, g5, g6, g7, g8⟩ := BoxN.at4 bx_g
  obtain ⟨p0, p1, p2, p3, p4, p5, p6⟩ := BoxN.at3 bx_p
  go_wp2_with fail
  refine (szPoint_yes _ t D nd cd E ne ce _ (by omega) (by omega) (by omega)).mono ?_
  rintro e w2 ⟨rfl, kk⟩
  replace bx_g := BoxN.kept bx_g kk
  replace bx_p := BoxN.kept bx_p kk
  replace kw := K.Kept.trans kw kk
  clear kk
  clear g0 g1 g2 g3 g4 g5 g6 g7 g8
  clear p0 p1 p2 p3 p4 p5 p6
  obtain ⟨b, hb⟩ : ∃ b, gH x y l u t cs co = b := ⟨_, rfl⟩
  clear hww0
  go_wp2_with fail
  clear hn hm
  obtain ⟨g0, g1, g2, g3, g4, g5, g6, g7, g8⟩ := BoxN.at4 bx_g
  obtain ⟨p0, p1, p2, p3, p4, p5, p6⟩ := BoxN.at3 bx_p
  replace kw := K.Kept.trans kw (kdrew _)
  replace bx_g := BoxN.kept bx_g (kdrew _)
  replace bx_p := BoxN.kept bx_p (kdrew _)
  go_region_held3 (fun w' => w'.cell? ⟨w.heap.size, 0, none⟩ = some (.int .i64 x) ∧ w'.cell? ⟨w.heap.size, 1, none⟩ = some (.int .i64 y) ∧ w'.cell? ⟨w.heap.size, 2, none⟩ = some (.slice A n c) ∧ w'.cell? ⟨w.heap.size, 3, none⟩ = some (.int .i64 u) ∧ w'.cell? ⟨(w.heap.size + 1), 0, none⟩ = some (.int .i64 t) ∧ w'.cell? ⟨(w.heap.size + 1), 1, none⟩ = some (.slice D nd cd) ∧ w'.cell? ⟨(w.heap.size + 1), 2, none⟩ = some (.slice E ne ce)) (first | exact ⟨g0, g1, g2, g3, p0, p1, p2⟩ | go_keep) (first | (go_at_call 29; refine (toGuard_c _ x y u A n c l (rdw hR.out kw) (by omega)).mono ?_; rintro e wv ⟨Az, nz, cz, rfl, hlz, ownz, kk⟩; (try replace ownDz := K.own_kept ownDz kk); (try replace ownEz := K.own_kept ownEz kk); replace bx_g := BoxN.kept bx_g kk; replace bx_p := BoxN.kept bx_p kk; replace kw := K.Kept.trans kw kk; clear kk; clear g0 g1 g2 g3 g4 g5 g6 g7 g8; clear p0 p1 p2 p3 p4 p5 p6; obtain ⟨g0, g1, g2, g3, g4, g5, g6, g7, g8⟩ := BoxN.at4 bx_g; obtain ⟨p0, p1, p2, p3, p4, p5, p6⟩ := BoxN.at3 bx_p) | (go_at_call 41; refine (toPoint_c _ t D nd cd cs E ne ce co (rdw hD.out kw) (by omega) (rdw hE.out kw) (by omega)).mono ?_; rintro e wv ⟨Dz, kz, jz, Ez, mz, iz, rfl, hkz, hmz, ownDz, ownEz, hxz, kk⟩; (try replace ownz := K.own_kept ownz kk); replace bx_g := BoxN.kept bx_g kk; replace bx_p := BoxN.kept bx_p kk; replace kw := K.Kept.trans kw kk; clear kk; clear g0 g1 g2 g3 g4 g5 g6 g7 g8; clear p0 p1 p2 p3 p4 p5 p6; obtain ⟨g0, g1, g2, g3, g4, g5, g6, g7, g8⟩ := BoxN.at4 bx_g; obtain ⟨p0, p1, p2, p3, p4, p5, p6⟩ := BoxN.at3 bx_p) | (go_at_call 16; refine (guardHolds_s _ x y u Az nz cz l t Dz kz jz cs Ez mz iz co b hb (K.rd_own ownz) (by have := LL.out; omega) (K.rd_own ownDz) (by have := LD.out; omega) (K.rd_own ownEz) (by have := LE.out; omega)).mono ?_; rintro e wv ⟨rfl, kk⟩; (try replace ownz := K.own_kept ownz kk); (try replace ownDz := K.own_kept ownDz kk); (try replace ownEz := K.own_kept ownEz kk); replace bx_g := BoxN.kept bx_g kk; replace bx_p := BoxN.kept bx_p kk; replace kw := K.Kept.trans kw kk; clear kk; clear g0 g1 g2 g3 g4 g5 g6 g7 g8; clear p0 p1 p2 p3 p4 p5 p6; obtain ⟨g0, g1, g2, g3, g4, g5, g6, g7, g8⟩ := BoxN.at4 bx_g; obtain ⟨p0, p1, p2, p3, p4, p5, p6⟩ := BoxN.at3 bx_p))
  all_goals
    clear ownz ownDz ownEz hlz hkz hmz hxz
    clear g0 g1 g2 g3 g4 g5 g6 g7 g8
    clear p0 p1 p2 p3 p4 p5 p6
    obtain ⟨g0, g1, g2, g3, g4, g5, g6, g7, g8⟩ := BoxN.at4 bx_g
    obtain ⟨p0, p1, p2, p3, p4, p5, p6⟩ := BoxN.at3 bx_p
    go_wp2_with fail
    refine (toGuard_c _ x y u A n c l (rdw hR.out kw) (by omega)).mono ?_
    rintro e w3 ⟨Aq, nq, cq, rfl, hlq, ownq, kk⟩
    replace bx_g := BoxN.kept bx_g kk
    replace bx_p := BoxN.kept bx_p kk
    replace kw := K.Kept.trans kw kk
    clear kk
    clear g0 g1 g2 g3 g4 g5 g6 g7 g8
    clear p0 p1 p2 p3 p4 p5 p6
    have hnq : nq ≤ 1099511627776 := by have := LL.out; omega
    have bx_v : BoxN (w3.alloc (.cells #[.int .i64 x, .int .i64 y, .slice Aq nq cq, .int .i64 u] 27)) w3.heap.size (#[.int .i64 x, .int .i64 y, .slice Aq nq cq, .int .i64 u] : Array Value).toList := BoxN.new w3 _ _
    have kk := kp1 w3 (.cells #[.int .i64 x, .int .i64 y, .slice Aq nq cq, .int .i64 u] 27)
    replace ownq := K.own_kept ownq kk
    replace bx_g := BoxN.kept bx_g kk
    replace bx_p := BoxN.kept bx_p kk
    replace kw := K.Kept.trans kw kk
    generalize hww4 : w3.alloc (.cells #[.int .i64 x, .int .i64 y, .slice Aq nq cq, .int .i64 u] 27) = w4 at ownq bx_g bx_p bx_v kw kk
    clear kk
    obtain ⟨g0, g1, g2, g3, g4, g5, g6, g7, g8⟩ := BoxN.at4 bx_g
    obtain ⟨p0, p1, p2, p3, p4, p5, p6⟩ := BoxN.at3 bx_p
    obtain ⟨v0, v1, v2, v3, v4, v5, v6, v7, v8⟩ := BoxN.at4 bx_v
    go_wp2_with fail
    refine (toPoint_c _ t D nd cd cs E ne ce co (rdw hD.out kw) (by omega) (rdw hE.out kw) (by omega)).mono ?_
    rintro e w5 ⟨Dq, kq, jq, Eq, mq, iq, rfl, hkq, hmq, ownDq, ownEq, hxq, kk⟩
    replace ownq := K.own_kept ownq kk
    replace bx_g := BoxN.kept bx_g kk
    replace bx_p := BoxN.kept bx_p kk
    replace bx_v := BoxN.kept bx_v kk
    replace kw := K.Kept.trans kw kk
    clear kk
    clear g0 g1 g2 g3 g4 g5 g6 g7 g8
    clear p0 p1 p2 p3 p4 p5 p6
    clear v0 v1 v2 v3 v4 v5 v6 v7 v8
    have hkq' : kq ≤ 1099511627776 := by have := LD.out; omega
    have hmq' : mq ≤ 1099511627776 := by have := LE.out; omega
    have bx_r : BoxN (w5.alloc (.cells #[.int .i64 t, .slice Dq kq jq, .slice Eq mq iq] 30)) w5.heap.size (#[.int .i64 t, .slice Dq kq jq, .slice Eq mq iq] : Array Value).toList := BoxN.new w5 _ _
    have kk := kp1 w5 (.cells #[.int .i64 t, .slice Dq kq jq, .slice Eq mq iq] 30)
    replace ownq := K.own_kept ownq kk
    replace ownDq := K.own_kept ownDq kk
    replace ownEq := K.own_kept ownEq kk
    replace bx_g := BoxN.kept bx_g kk
    replace bx_p := BoxN.kept bx_p kk
    replace bx_v := BoxN.kept bx_v kk
    replace kw := K.Kept.trans kw kk
    generalize hww6 : w5.alloc (.cells #[.int .i64 t, .slice Dq kq jq, .slice Eq mq iq] 30) = w6 at ownq ownDq ownEq bx_g bx_p bx_v bx_r kw kk
    clear kk
    obtain ⟨g0, g1, g2, g3, g4, g5, g6, g7, g8⟩ := BoxN.at4 bx_g
    obtain ⟨p0, p1, p2, p3, p4, p5, p6⟩ := BoxN.at3 bx_p
    obtain ⟨v0, v1, v2, v3, v4, v5, v6, v7, v8⟩ := BoxN.at4 bx_v
    obtain ⟨r0, r1, r2, r3, r4, r5, r6⟩ := BoxN.at3 bx_r
    go_wp2_with fail
    refine (guardHolds_i _ x y u Aq nq cq l t Dq kq jq cs Eq mq iq co b hb (K.rd_own ownq) hnq (K.rd_own ownDq) hkq' (K.rd_own ownEq) hmq').mono ?_
    rintro e w7 ⟨rfl, kk⟩
    replace ownq := K.own_kept ownq kk
    replace ownDq := K.own_kept ownDq kk
    replace ownEq := K.own_kept ownEq kk
    replace bx_g := BoxN.kept bx_g kk
    replace bx_p := BoxN.kept bx_p kk
    replace bx_v := BoxN.kept bx_v kk
    replace bx_r := BoxN.kept bx_r kk
    replace kw := K.Kept.trans kw kk
    clear kk
    clear g0 g1 g2 g3 g4 g5 g6 g7 g8
    clear p0 p1 p2 p3 p4 p5 p6
    clear v0 v1 v2 v3 v4 v5 v6 v7 v8
    clear r0 r1 r2 r3 r4 r5 r6
    have eb : (b != b) = false := by simp
    go_wp2_with fail
    obtain ⟨g0, g1, g2, g3, g4, g5, g6, g7, g8⟩ := BoxN.at4 bx_g
    obtain ⟨p0, p1, p2, p3, p4, p5, p6⟩ := BoxN.at3 bx_p
    obtain ⟨v0, v1, v2, v3, v4, v5, v6, v7, v8⟩ := BoxN.at4 bx_v
    obtain ⟨r0, r1, r2, r3, r4, r5, r6⟩ := BoxN.at3 bx_r
    replace kw := K.Kept.trans kw (kdrew _)
    replace ownq := K.own_kept ownq (kdrew _)
    replace ownDq := K.own_kept ownDq (kdrew _)
    replace ownEq := K.own_kept ownEq (kdrew _)
    replace bx_g := BoxN.kept bx_g (kdrew _)
    replace bx_p := BoxN.kept bx_p (kdrew _)
    replace bx_v := BoxN.kept bx_v (kdrew _)
    replace bx_r := BoxN.kept bx_r (kdrew _)
    go_region_held3 (fun w' => w'.cell? ⟨w.heap.size, 0, none⟩ = some (.int .i64 x) ∧ w'.cell? ⟨w.heap.size, 1, none⟩ = some (.int .i64 y) ∧ w'.cell? ⟨w.heap.size, 2, none⟩ = some (.slice A n c) ∧ w'.cell? ⟨w.heap.size, 3, none⟩ = some (.int .i64 u) ∧ w'.cell? ⟨(w.heap.size + 1), 0, none⟩ = some (.int .i64 t) ∧ w'.cell? ⟨(w.heap.size + 1), 1, none⟩ = some (.slice D nd cd) ∧ w'.cell? ⟨(w.heap.size + 1), 2, none⟩ = some (.slice E ne ce) ∧ w'.cell? ⟨w3.heap.size, 0, none⟩ = some (.int .i64 x) ∧ w'.cell? ⟨w3.heap.size, 1, none⟩ = some (.int .i64 y) ∧ w'.cell? ⟨w3.heap.size, 2, none⟩ = some (.slice Aq nq cq) ∧ w'.cell? ⟨w3.heap.size, 3, none⟩ = some (.int .i64 u) ∧ w'.cell? ⟨w5.heap.size, 0, none⟩ = some (.int .i64 t) ∧ w'.cell? ⟨w5.heap.size, 1, none⟩ = some (.slice Dq kq jq) ∧ w'.cell? ⟨w5.heap.size, 2, none⟩ = some (.slice Eq mq iq)) (first | exact ⟨g0, g1, g2, g3, p0, p1, p2, v0, v1, v2, v3, r0, r1, r2⟩ | go_keep) (first | (go_at_call 29; refine (toGuard_c _ x y u A n c l (rdw hR.out kw) (by omega)).mono ?_; rintro e wv ⟨Az, nz, cz, rfl, hlz, ownz, kk⟩; replace ownq := K.own_kept ownq kk; replace ownDq := K.own_kept ownDq kk; replace ownEq := K.own_kept ownEq kk; replace bx_g := BoxN.kept bx_g kk; replace bx_p := BoxN.kept bx_p kk; replace bx_v := BoxN.kept bx_v kk; replace bx_r := BoxN.kept bx_r kk; replace kw := K.Kept.trans kw kk; clear kk; clear g0 g1 g2 g3 g4 g5 g6 g7 g8; clear p0 p1 p2 p3 p4 p5 p6; clear v0 v1 v2 v3 v4 v5 v6 v7 v8; clear r0 r1 r2 r3 r4 r5 r6; obtain ⟨g0, g1, g2, g3, g4, g5, g6, g7, g8⟩ := BoxN.at4 bx_g; obtain ⟨p0, p1, p2, p3, p4, p5, p6⟩ := BoxN.at3 bx_p; obtain ⟨v0, v1, v2, v3, v4, v5, v6, v7, v8⟩ := BoxN.at4 bx_v; obtain ⟨r0, r1, r2, r3, r4, r5, r6⟩ := BoxN.at3 bx_r) | (go_at_call 31; refine (eqGuard_yes _ x y u Aq nq cq Az nz cz l (K.rd_own ownq) (K.rd_own ownz) hnq (by have := LL.out; omega)).mono ?_; rintro e wv ⟨rfl, kk⟩; replace ownq := K.own_kept ownq kk; replace ownDq := K.own_kept ownDq kk; replace ownEq := K.own_kept ownEq kk; (try replace ownz := K.own_kept ownz kk); replace bx_g := BoxN.kept bx_g kk; replace bx_p := BoxN.kept bx_p kk; replace bx_v := BoxN.kept bx_v kk; replace bx_r := BoxN.kept bx_r kk; replace kw := K.Kept.trans kw kk; clear kk; clear g0 g1 g2 g3 g4 g5 g6 g7 g8; clear p0 p1 p2 p3 p4 p5 p6; clear v0 v1 v2 v3 v4 v5 v6 v7 v8; clear r0 r1 r2 r3 r4 r5 r6; obtain ⟨g0, g1, g2, g3, g4, g5, g6, g7, g8⟩ := BoxN.at4 bx_g; obtain ⟨p0, p1, p2, p3, p4, p5, p6⟩ := BoxN.at3 bx_p; obtain ⟨v0, v1, v2, v3, v4, v5, v6, v7, v8⟩ := BoxN.at4 bx_v; obtain ⟨r0, r1, r2, r3, r4, r5, r6⟩ := BoxN.at3 bx_r))
    all_goals
      clear ownz hlz
      clear g0 g1 g2 g3 g4 g5 g6 g7 g8
      clear p0 p1 p2 p3 p4 p5 p6
      clear v0 v1 v2 v3 v4 v5 v6 v7 v8
      clear r0 r1 r2 r3 r4 r5 r6
      go_wp2_with fail
      obtain ⟨g0, g1, g2, g3, g4, g5, g6, g7, g8⟩ := BoxN.at4 bx_g
      obtain ⟨p0, p1, p2, p3, p4, p5, p6⟩ := BoxN.at3 bx_p
      obtain ⟨v0, v1, v2, v3, v4, v5, v6, v7, v8⟩ := BoxN.at4 bx_v
      obtain ⟨r0, r1, r2, r3, r4, r5, r6⟩ := BoxN.at3 bx_r
      replace kw := K.Kept.trans kw (kdrew _)
      replace ownq := K.own_kept ownq (kdrew _)
      replace ownDq := K.own_kept ownDq (kdrew _)
      replace ownEq := K.own_kept ownEq (kdrew _)
      replace bx_g := BoxN.kept bx_g (kdrew _)
      replace bx_p := BoxN.kept bx_p (kdrew _)
      replace bx_v := BoxN.kept bx_v (kdrew _)
      replace bx_r := BoxN.kept bx_r (kdrew _)
      go_region_held3 (fun w' => w'.cell? ⟨w.heap.size, 0, none⟩ = some (.int .i64 x) ∧ w'.cell? ⟨w.heap.size, 1, none⟩ = some (.int .i64 y) ∧ w'.cell? ⟨w.heap.size, 2, none⟩ = some (.slice A n c) ∧ w'.cell? ⟨w.heap.size, 3, none⟩ = some (.int .i64 u) ∧ w'.cell? ⟨(w.heap.size + 1), 0, none⟩ = some (.int .i64 t) ∧ w'.cell? ⟨(w.heap.size + 1), 1, none⟩ = some (.slice D nd cd) ∧ w'.cell? ⟨(w.heap.size + 1), 2, none⟩ = some (.slice E ne ce) ∧ w'.cell? ⟨w3.heap.size, 0, none⟩ = some (.int .i64 x) ∧ w'.cell? ⟨w3.heap.size, 1, none⟩ = some (.int .i64 y) ∧ w'.cell? ⟨w3.heap.size, 2, none⟩ = some (.slice Aq nq cq) ∧ w'.cell? ⟨w3.heap.size, 3, none⟩ = some (.int .i64 u) ∧ w'.cell? ⟨w5.heap.size, 0, none⟩ = some (.int .i64 t) ∧ w'.cell? ⟨w5.heap.size, 1, none⟩ = some (.slice Dq kq jq) ∧ w'.cell? ⟨w5.heap.size, 2, none⟩ = some (.slice Eq mq iq)) (first | exact ⟨g0, g1, g2, g3, p0, p1, p2, v0, v1, v2, v3, r0, r1, r2⟩ | go_keep) (first | (go_at_call 41; refine (toPoint_c _ t D nd cd cs E ne ce co (rdw hD.out kw) (by omega) (rdw hE.out kw) (by omega)).mono ?_; rintro e wv ⟨Dz, kz, jz, Ez, mz, iz, rfl, hkz, hmz, ownDz, ownEz, hxz, kk⟩; replace ownq := K.own_kept ownq kk; replace ownDq := K.own_kept ownDq kk; replace ownEq := K.own_kept ownEq kk; replace bx_g := BoxN.kept bx_g kk; replace bx_p := BoxN.kept bx_p kk; replace bx_v := BoxN.kept bx_v kk; replace bx_r := BoxN.kept bx_r kk; replace kw := K.Kept.trans kw kk; clear kk; clear g0 g1 g2 g3 g4 g5 g6 g7 g8; clear p0 p1 p2 p3 p4 p5 p6; clear v0 v1 v2 v3 v4 v5 v6 v7 v8; clear r0 r1 r2 r3 r4 r5 r6; obtain ⟨g0, g1, g2, g3, g4, g5, g6, g7, g8⟩ := BoxN.at4 bx_g; obtain ⟨p0, p1, p2, p3, p4, p5, p6⟩ := BoxN.at3 bx_p; obtain ⟨v0, v1, v2, v3, v4, v5, v6, v7, v8⟩ := BoxN.at4 bx_v; obtain ⟨r0, r1, r2, r3, r4, r5, r6⟩ := BoxN.at3 bx_r) | (go_at_call 36; refine (eqPoint_yes _ t Dq kq jq Eq mq iq Dz kz jz Ez mz iz cs co (K.rd_own ownDq) (K.rd_own ownEq) (K.rd_own ownDz) (K.rd_own ownEz) hkq' hmq' (by have := LD.out; omega) (by have := LE.out; omega)).mono ?_; rintro e wv ⟨rfl, kk⟩; replace ownq := K.own_kept ownq kk; replace ownDq := K.own_kept ownDq kk; replace ownEq := K.own_kept ownEq kk; (try replace ownDz := K.own_kept ownDz kk); (try replace ownEz := K.own_kept ownEz kk); replace bx_g := BoxN.kept bx_g kk; replace bx_p := BoxN.kept bx_p kk; replace bx_v := BoxN.kept bx_v kk; replace bx_r := BoxN.kept bx_r kk; replace kw := K.Kept.trans kw kk; clear kk; clear g0 g1 g2 g3 g4 g5 g6 g7 g8; clear p0 p1 p2 p3 p4 p5 p6; clear v0 v1 v2 v3 v4 v5 v6 v7 v8; clear r0 r1 r2 r3 r4 r5 r6; obtain ⟨g0, g1, g2, g3, g4, g5, g6, g7, g8⟩ := BoxN.at4 bx_g; obtain ⟨p0, p1, p2, p3, p4, p5, p6⟩ := BoxN.at3 bx_p; obtain ⟨v0, v1, v2, v3, v4, v5, v6, v7, v8⟩ := BoxN.at4 bx_v; obtain ⟨r0, r1, r2, r3, r4, r5, r6⟩ := BoxN.at3 bx_r))
      all_goals go_wp2
      all_goals go_ret
      all_goals exact ⟨rfl, kw⟩
end C
end Go.Proofs.Ytapjlbcpfemeiaa

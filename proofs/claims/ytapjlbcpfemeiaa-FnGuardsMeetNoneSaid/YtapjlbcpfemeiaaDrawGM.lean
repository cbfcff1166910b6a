/-
  Contract of the generator of the arguments of GuardsMeet. Conditions: none.
-/
import Derived.Test.YtapjlbcpfemeiaaDrawH
namespace Go.Proofs.Ytapjlbcpfemeiaa
open Go.RowKit
namespace C

/-- Two guards have been drawn; all that was there is as it was. -/
def DrawnGG (w : World) (e : Ending) (w' : World) : Prop := ∃ (x y u : Int) (A : Option Addr) (n c : Nat) (l : List (Int × Int)) (x2 y2 u2 : Int) (B : Option Addr) (m d : Nat) (l2 : List (Int × Int)), e = .returned (.tuple #[.agg #[.int .i64 x, .int .i64 y, .slice A n c, .int .i64 u], .agg #[.int .i64 x2, .int .i64 y2, .slice B m d, .int .i64 u2]]) ∧ (n ≤ 4 ∧ m ≤ 4) ∧ w'.ownsRow w.heap.size 24 2 (.slice A n c) n (K.prs l) ∧ w'.ownsRow w.heap.size 24 2 (.slice B m d) m (K.prs l2) ∧ K.Kept w w'
theorem k4 {W : World} {a : Nat} {v0 v1 v2 v3 : Value} (hv : BoxN W a [v0, v1, v2, v3]) : W.cell? ⟨a, 0, none⟩ = some v0 ∧ W.cell? ⟨a, 1, none⟩ = some v1 ∧ W.cell? ⟨a, 2, none⟩ = some v2 ∧ W.cell? ⟨a, 3, none⟩ = some v3 := by
  obtain ⟨q0, q1, q2, q3, _⟩ := BoxN.at4 hv
  exact ⟨q0, q1, q2, q3⟩
theorem own_st4 {T : TypeId} {size : Nat} {w : World} {base b n : Nat} {v : Value} {xs : List Value} (h : w.ownsRow base T size v n xs) (hb : b < base) (a0 a1 a2 a3 : Value) : (st4 w b a0 a1 a2 a3).ownsRow base T size v n xs := own_set (own_set (own_set (own_set h hb a0) hb a1) hb a2) hb a3
theorem kst4 {B : Nat} {w w' : World} {b : Nat} (h : Below B w w') (hb : B ≤ b) (a0 a1 a2 a3 : Value) : Below B w (st4 w' b a0 a1 a2 a3) := kset (kset (kset (kset h hb a0) hb a1) hb a2) hb a3
theorem rdr_st4 {w : World} {B g p b : Nat} (h : Rdr w B g p) (hb : b ≠ g) (hB : B ≤ b) (a0 a1 a2 a3 : Value) : Rdr (st4 w b a0 a1 a2 a3) B g p := rdr_set (rdr_set (rdr_set (rdr_set h hb hB a0) hb hB a1) hb hB a2) hb hB a3
theorem st4_size (w : World) (b : Nat) (a0 a1 a2 a3 : Value) : (st4 w b a0 a1 a2 a3).heap.size = w.heap.size := by simp [st4, World.setCell]
theorem anyGuard_at (E w : World) (B g p : Nat) (hE : w = E) (hp : p ≤ 600000) (hB : B ≤ E.heap.size) (h0 : Rdr E B g p) : Calls Try.prog 43 #[.pointer (some ⟨g, 0, none⟩)] w (GuardD 24 4 12 E B g p) := by
  subst hE
  exact anyGuard_c w B g p hp hB h0
set_option maxRecDepth 100000 in
set_option maxHeartbeats 8000000 in
theorem drawGuardsMeet_c (w : World) (n c : Nat) (A : Option Addr) (h : Code w w.heap.size A n c) : Calls Try.prog 33 #[.slice A n c] w (DrawnGG w) := by
  have bx_r : BoxN ((w.alloc (.cells #[.int .i64 0, .int .i64 0, .slice none 0 0, .int .i64 0] 27)).alloc (.cells #[.int .i64 0, .int .i64 0, .slice none 0 0, .int .i64 0] 27)) w.heap.size (#[.int .i64 0, .int .i64 0, .slice none 0 0, .int .i64 0] : Array Value).toList := (BoxN.new w _ _).kept (kp1 _ _)
  have bx_s : BoxN ((w.alloc (.cells #[.int .i64 0, .int .i64 0, .slice none 0 0, .int .i64 0] 27)).alloc (.cells #[.int .i64 0, .int .i64 0, .slice none 0 0, .int .i64 0] 27)) (w.heap.size + 1) (#[.int .i64 0, .int .i64 0, .slice none 0 0, .int .i64 0] : Array Value).toList := by have q := BoxN.new (w.alloc (.cells #[.int .i64 0, .int .i64 0, .slice none 0 0, .int .i64 0] 27)) #[.int .i64 0, .int .i64 0, .slice none 0 0, .int .i64 0] 27; rwa [show (w.alloc (.cells #[.int .i64 0, .int .i64 0, .slice none 0 0, .int .i64 0] 27)).heap.size = w.heap.size + 1 by simp] at q
  have kw : K.Kept w ((w.alloc (.cells #[.int .i64 0, .int .i64 0, .slice none 0 0, .int .i64 0] 27)).alloc (.cells #[.int .i64 0, .int .i64 0, .slice none 0 0, .int .i64 0] 27)) := K.Kept.trans (kp1 _ _) (kp1 _ _)
  have hz0 : ((w.alloc (.cells #[.int .i64 0, .int .i64 0, .slice none 0 0, .int .i64 0] 27)).alloc (.cells #[.int .i64 0, .int .i64 0, .slice none 0 0, .int .i64 0] 27)).heap.size = w.heap.size + 2 := by simp
  have hc0 := h.kept kw
  generalize hww0 : ((w.alloc (.cells #[.int .i64 0, .int .i64 0, .slice none 0 0, .int .i64 0] 27)).alloc (.cells #[.int .i64 0, .int .i64 0, .slice none 0 0, .int .i64 0] 27)) = w0 at bx_r bx_s kw hz0 hc0
  clear h
  go_enter Try.func33, Try.ntmps33
  go_wp2_with fail
  refine (newReader_c w0 w.heap.size n c A kw.size hc0).mono ?_
  rintro e w1 ⟨rfl, rr, hk1⟩
  rw [hz0] at rr
  have hg1 := rr.lt
  replace bx_r := bx_r.kept hk1
  replace bx_s := bx_s.kept hk1
  replace kw := K.Kept.trans kw hk1
  have bw := K.But.refl (w.heap.size + 2) w1
  clear hc0 hk1 hww0
  go_wp2_with fail
  refine (anyGuard_c w1 _ _ 0 (by omega) (by omega) rr).mono ?_
  rintro e w2 ⟨x, y, u, A', n', c', l, q, rfl, hn, hx, owna, rn, hq, bb⟩
  replace owna := own_monoG owna (show w.heap.size + 3 ≤ _ by omega)
  have lta := owna.lt
  replace bx_r := BoxN.but bx_r bb (by omega)
  replace bx_s := BoxN.but bx_s bb (by omega)
  replace bw := K.But.trans bw bb
  have zb := bb.size
  clear bb rr
  have rr := rn
  clear rn
  have bx_v : BoxN (w2.alloc (.cells #[.int .i64 x, .int .i64 y, .slice A' n' c', .int .i64 u] 27)) w2.heap.size (#[.int .i64 x, .int .i64 y, .slice A' n' c', .int .i64 u] : Array Value).toList := BoxN.new w2 _ _
  have kk := kp1 w2 (.cells #[.int .i64 x, .int .i64 y, .slice A' n' c', .int .i64 u] 27)
  replace owna := K.own_kept owna kk
  replace bx_r := bx_r.kept kk
  replace bx_s := bx_s.kept kk
  replace rr := rr.kept kk
  replace bw := K.But.trans bw (K.But.of_kept kk)
  have zk := kk.size
  generalize hw3 : w2.alloc (.cells #[.int .i64 x, .int .i64 y, .slice A' n' c', .int .i64 u] 27) = w3 at bx_v zk rr bw owna bx_r bx_s
  clear kk
  have zv := bx_v.1
  go_wp2_with fail
  clear hw3
  have kf := K.But.below kw bw (show w.heap.size ≤ _ by omega) (show w.heap.size ≤ w.heap.size + 2 by omega)
  clear bw kw
  have l0 : w.heap.size ≤ w.heap.size := Nat.le_refl _
  have l1 : w.heap.size ≤ w.heap.size + 1 := by omega
  have m0 : w.heap.size < w.heap.size + 3 := by omega
  have m1 : w.heap.size + 1 < w.heap.size + 3 := by omega
  have n0 : w.heap.size ≠ w.heap.size + 1 := by omega
  have n1 : w.heap.size ≠ w2.heap.size := by omega
  have n3 : w.heap.size + 1 ≠ w2.heap.size := by omega
  have g0 : w.heap.size ≠ w.heap.size + 2 := by omega
  have g1 : w.heap.size + 1 ≠ w.heap.size + 2 := by omega
  have V0 := k4 bx_v.drew
  have VR := k4 (bx_v.far4 n1 (.int .i64 x) (.int .i64 y) (.slice A' n' c') (.int .i64 u)).drew
  have R0 := rr.kept (kdrew _)
  have R1 := (rdr_st4 rr g0 l0 (.int .i64 x) (.int .i64 y) (.slice A' n' c') (.int .i64 u)).kept (kdrew _)
  have Q0 := Lib.hid (And.intro (K.own_kept owna (kdrew _)) (And.intro bx_r.drew (And.intro bx_s.drew (And.intro bx_v.drew kf.drew))))
  have Q1 := Lib.hid (And.intro (K.own_kept (own_st4 owna m0 (.int .i64 x) (.int .i64 y) (.slice A' n' c') (.int .i64 u)) (kdrew _)) (And.intro (BoxN.put4 bx_r (.int .i64 x) (.int .i64 y) (.slice A' n' c') (.int .i64 u)).drew (And.intro (bx_s.far4 n0 (.int .i64 x) (.int .i64 y) (.slice A' n' c') (.int .i64 u)).drew (And.intro (bx_v.far4 n1 (.int .i64 x) (.int .i64 y) (.slice A' n' c') (.int .i64 u)).drew (kst4 kf l0 (.int .i64 x) (.int .i64 y) (.slice A' n' c') (.int .i64 u)).drew))))
  have z1 : w.heap.size ≤ (st4 w3 w.heap.size (.int .i64 x) (.int .i64 y) (.slice A' n' c') (.int .i64 u)).drew.heap.size := by show _ ≤ (st4 w3 w.heap.size (.int .i64 x) (.int .i64 y) (.slice A' n' c') (.int .i64 u)).heap.size; rw [st4_size]; omega
  have z0 : w.heap.size ≤ w3.drew.heap.size := by show _ ≤ w3.heap.size; omega
  have y1 : w2.heap.size < (st4 w3 w.heap.size (.int .i64 x) (.int .i64 y) (.slice A' n' c') (.int .i64 u)).drew.heap.size := by show _ < (st4 w3 w.heap.size (.int .i64 x) (.int .i64 y) (.slice A' n' c') (.int .i64 u)).heap.size; rw [st4_size]; omega
  have y0 : w2.heap.size < w3.drew.heap.size := zv
  unfold st4 at VR R1 Q1 z1 y1
  obtain ⟨r0, r1, r2, r3, r4, r5, r6, r7, r8⟩ := BoxN.at4 bx_r
  obtain ⟨s0, s1, s2, s3, s4, s5, s6, s7, s8⟩ := BoxN.at4 bx_s
  clear owna bx_r bx_s bx_v rr kf
  go_region_held3 (fun w' => w'.cell? ⟨w2.heap.size, 0, none⟩ = some (.int .i64 x) ∧ w'.cell? ⟨w2.heap.size, 1, none⟩ = some (.int .i64 y) ∧ w'.cell? ⟨w2.heap.size, 2, none⟩ = some (.slice A' n' c') ∧ w'.cell? ⟨w2.heap.size, 3, none⟩ = some (.int .i64 u)) (first | (with_reducible exact V0) | (with_reducible exact VR) | (with_reducible exact VV) | (with_reducible exact VVr) | (with_reducible exact VVs) | (with_reducible exact VVt) | (with_reducible exact VVu)) (first | (go_at_call 43; (first | (refine (anyGuard_at w3.drew _ _ _ q (by with_reducible rfl) (by omega) z0 R0).mono ?_; rintro e wv ⟨x2, y2, u2, B', m', d', l2, q2, rfl, hm, hx2, ownb, rn, hq2, bb⟩; have hwv : w2.heap.size < wv.heap.size := Nat.lt_of_lt_of_le y0 bb.size; replace ownb := own_monoG ownb (show w.heap.size + 3 ≤ _ from Nat.le_trans (show w.heap.size + 3 ≤ w2.heap.size + 1 by omega) y0); obtain ⟨owna, bx_r, bx_s, bx_v, kf⟩ := Q0.out; replace owna := owna.kept bb (.inr (fun e => by have := lta _ e; omega)); replace bx_r := BoxN.but bx_r bb (by omega); replace bx_s := BoxN.but bx_s bb (by omega); replace bx_v := BoxN.but bx_v bb (by omega); replace kf := K.But.below kf bb z0 (show w.heap.size ≤ w.heap.size + 2 by omega); clear bb rn Q0 Q1 R0 R1) | (refine (anyGuard_at ((((w3.setCell ⟨w.heap.size, 0, none⟩ (.int .i64 x)).setCell ⟨w.heap.size, 1, none⟩ (.int .i64 y)).setCell ⟨w.heap.size, 2, none⟩ (.slice A' n' c')).setCell ⟨w.heap.size, 3, none⟩ (.int .i64 u)).drew _ _ _ q (by with_reducible rfl) (by omega) z1 R1).mono ?_; rintro e wv ⟨x2, y2, u2, B', m', d', l2, q2, rfl, hm, hx2, ownb, rn, hq2, bb⟩; have hwv : w2.heap.size < wv.heap.size := Nat.lt_of_lt_of_le y1 bb.size; replace ownb := own_monoG ownb (show w.heap.size + 3 ≤ _ from Nat.le_trans (show w.heap.size + 3 ≤ w2.heap.size + 1 by omega) y1); obtain ⟨owna, bx_r, bx_s, bx_v, kf⟩ := Q1.out; replace owna := owna.kept bb (.inr (fun e => by have := lta _ e; omega)); replace bx_r := BoxN.but bx_r bb (by omega); replace bx_s := BoxN.but bx_s bb (by omega); replace bx_v := BoxN.but bx_v bb (by omega); replace kf := K.But.below kf bb z1 (show w.heap.size ≤ w.heap.size + 2 by omega); clear bb rn Q0 Q1 R0 R1)); have VV := k4 bx_v; have VVr := k4 (bx_v.far4 n1 (.int .i64 x) (.int .i64 y) (.slice A' n' c') (.int .i64 u)); have VVs := k4 (bx_v.far4 n3 (.int .i64 x2) (.int .i64 y2) (.slice B' m' d') (.int .i64 u2)); have VVt := k4 ((bx_v.far4 n1 (.int .i64 x) (.int .i64 y) (.slice A' n' c') (.int .i64 u)).far4 n3 (.int .i64 x2) (.int .i64 y2) (.slice B' m' d') (.int .i64 u2)); have VVu := k4 ((bx_v.far4 n3 (.int .i64 x2) (.int .i64 y2) (.slice B' m' d') (.int .i64 u2)).far4 n1 (.int .i64 x) (.int .i64 y) (.slice A' n' c') (.int .i64 u)); unfold st4 at VVr VVs VVt VVu; clear r0 r1 r2 r3 r4 r5 r6 r7 r8 s0 s1 s2 s3 s4 s5 s6 s7 s8; obtain ⟨r0, r1, r2, r3, r4, r5, r6, r7, r8⟩ := BoxN.at4 bx_r; obtain ⟨s0, s1, s2, s3, s4, s5, s6, s7, s8⟩ := BoxN.at4 bx_s))
  all_goals (try go_wp2)
  all_goals first | (obtain ⟨z0, z1, z2, z3, _⟩ := BoxN.at4 ((BoxN.put4 bx_r (.int .i64 x) (.int .i64 y) (.slice A' n' c') (.int .i64 u)).far4 n0.symm (.int .i64 x2) (.int .i64 y2) (.slice B' m' d') (.int .i64 u2)); obtain ⟨t0, t1, t2, t3, _⟩ := BoxN.at4 (BoxN.put4 (bx_s.far4 n0 (.int .i64 x) (.int .i64 y) (.slice A' n' c') (.int .i64 u)) (.int .i64 x2) (.int .i64 y2) (.slice B' m' d') (.int .i64 u2)); have OA := (own_st4 (own_st4 owna m0 (.int .i64 x) (.int .i64 y) (.slice A' n' c') (.int .i64 u)) m1 (.int .i64 x2) (.int .i64 y2) (.slice B' m' d') (.int .i64 u2)); have OB := (own_st4 (own_st4 ownb m0 (.int .i64 x) (.int .i64 y) (.slice A' n' c') (.int .i64 u)) m1 (.int .i64 x2) (.int .i64 y2) (.slice B' m' d') (.int .i64 u2)); have KF := (kst4 (kst4 kf l0 (.int .i64 x) (.int .i64 y) (.slice A' n' c') (.int .i64 u)) l1 (.int .i64 x2) (.int .i64 y2) (.slice B' m' d') (.int .i64 u2)); unfold st4 at z0 z1 z2 z3 t0 t1 t2 t3 OA OB KF; refine bodyPost_ret (by simp [results, Try.results33, go_sem, z0, z1, z2, z3, t0, t1, t2, t3]; try rfl) rfl ?_; exact ⟨_, _, _, _, _, _, _, _, _, _, _, _, _, _, rfl, ⟨hn.2, hm.2⟩, own_monoG OA (show w.heap.size ≤ w.heap.size + 3 by omega), own_monoG OB (show w.heap.size ≤ w.heap.size + 3 by omega), KF⟩) | (obtain ⟨z0, z1, z2, z3, _⟩ := BoxN.at4 (BoxN.put4 (bx_r.far4 n0.symm (.int .i64 x2) (.int .i64 y2) (.slice B' m' d') (.int .i64 u2)) (.int .i64 x) (.int .i64 y) (.slice A' n' c') (.int .i64 u)); obtain ⟨t0, t1, t2, t3, _⟩ := BoxN.at4 ((BoxN.put4 bx_s (.int .i64 x2) (.int .i64 y2) (.slice B' m' d') (.int .i64 u2)).far4 n0 (.int .i64 x) (.int .i64 y) (.slice A' n' c') (.int .i64 u)); have OA := (own_st4 (own_st4 owna m1 (.int .i64 x2) (.int .i64 y2) (.slice B' m' d') (.int .i64 u2)) m0 (.int .i64 x) (.int .i64 y) (.slice A' n' c') (.int .i64 u)); have OB := (own_st4 (own_st4 ownb m1 (.int .i64 x2) (.int .i64 y2) (.slice B' m' d') (.int .i64 u2)) m0 (.int .i64 x) (.int .i64 y) (.slice A' n' c') (.int .i64 u)); have KF := (kst4 (kst4 kf l1 (.int .i64 x2) (.int .i64 y2) (.slice B' m' d') (.int .i64 u2)) l0 (.int .i64 x) (.int .i64 y) (.slice A' n' c') (.int .i64 u)); unfold st4 at z0 z1 z2 z3 t0 t1 t2 t3 OA OB KF; refine bodyPost_ret (by simp [results, Try.results33, go_sem, z0, z1, z2, z3, t0, t1, t2, t3]; try rfl) rfl ?_; exact ⟨_, _, _, _, _, _, _, _, _, _, _, _, _, _, rfl, ⟨hn.2, hm.2⟩, own_monoG OA (show w.heap.size ≤ w.heap.size + 3 by omega), own_monoG OB (show w.heap.size ≤ w.heap.size + 3 by omega), KF⟩)
end C
end Go.Proofs.Ytapjlbcpfemeiaa

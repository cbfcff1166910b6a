/-
  Contracts of GuardsMeet, of the program and of the reference. Conditions: lengths below 2^40.
-/
import Derived.Test.YtapjlbcpfemeiaaPoints
namespace Go.Proofs.Ytapjlbcpfemeiaa
open Go.RowKit
namespace C

def mtF (p q : Int × Int) : Bool := mt p.1 p.2 q.1 q.2
def mfF (p q : Int × Int) : Bool := decide (max p.1 q.1 ≤ min p.2 q.2)
def mlF (p q : Int × Int) : Int := mlo p.1 p.2 q.1 q.2
def mxF (p q : Int × Int) : Int := max p.1 q.1
/-- The greatest of the least numbers, and whether all spans meet. -/
def mxs (l m : List (Int × Int)) : List Int := List.zipWith mxF l m
def mto (l m : List (Int × Int)) : Bool := (List.zipWith mtF l m).all id
/-- The coupons of one of two guards up to k. -/
def cpT (u v : Int) (k : Nat) : List Int := ((List.range k).map (fun i : Nat => (i : Int) + 1)).filter (fun n => u == n || v == n)
def gmOk (x y u x2 y2 u2 : Int) (l m : List (Int × Int)) : Bool := vG x y l u && vG x2 y2 m u2 && (mt x y x2 y2 && mto l m)
def gmT (x y u x2 y2 u2 : Int) (l m : List (Int × Int)) : Int := if gmOk x y u x2 y2 u2 l m = true then max x x2 else 0
def gmC (x y u x2 y2 u2 : Int) (l m : List (Int × Int)) : List Int := if gmOk x y u x2 y2 u2 l m = true then mxs l m else []
def gmK (x y u x2 y2 u2 : Int) (l m : List (Int × Int)) : List Int := if gmOk x y u x2 y2 u2 l m = true then cpT u u2 9 else []
theorem gm_no {x y u x2 y2 u2 : Int} {l m : List (Int × Int)} {T : Int} {X Y : List Int} {b : Bool} (h : gmOk x y u x2 y2 u2 l m = false) (hb : gmOk x y u x2 y2 u2 l m = b) (hT : gmT x y u x2 y2 u2 l m = T) (hX : gmC x y u x2 y2 u2 l m = X) (hY : gmK x y u x2 y2 u2 l m = Y) : b = false ∧ T = 0 ∧ X = [] ∧ Y = [] := by
  simp only [gmT, gmC, gmK, h] at hT hX hY
  rw [h] at hb
  exact ⟨hb.symm, hT.symm, hX.symm, hY.symm⟩
theorem gm_yes {x y u x2 y2 u2 : Int} {l m : List (Int × Int)} {T : Int} {X Y : List Int} {b : Bool} (h : gmOk x y u x2 y2 u2 l m = true) (hb : gmOk x y u x2 y2 u2 l m = b) (hT : gmT x y u x2 y2 u2 l m = T) (hX : gmC x y u x2 y2 u2 l m = X) (hY : gmK x y u x2 y2 u2 l m = Y) : b = true ∧ T = max x x2 ∧ X = mxs l m ∧ Y = cpT u u2 9 := by
  simp only [gmT, gmC, gmK, h, if_true] at hT hX hY
  rw [h] at hb
  exact ⟨hb.symm, hT.symm, hX.symm, hY.symm⟩
theorem gmOk_no1 {x y u x2 y2 u2 : Int} {l m : List (Int × Int)} (h : vG x y l u = false) : gmOk x y u x2 y2 u2 l m = false := by unfold gmOk; rw [h]; rfl
theorem gmOk_no2 {x y u x2 y2 u2 : Int} {l m : List (Int × Int)} (h : vG x2 y2 m u2 = false) : gmOk x y u x2 y2 u2 l m = false := by unfold gmOk; rw [h]; simp
theorem gmOk_eq {x y u x2 y2 u2 : Int} {l m : List (Int × Int)} (h : vG x y l u = true) (h2 : vG x2 y2 m u2 = true) : gmOk x y u x2 y2 u2 l m = (mt x y x2 y2 && mto l m) := by unfold gmOk; rw [h, h2]; rfl
theorem zip_at {α : Type} (f : Int × Int → Int × Int → α) {l m : List (Int × Int)} {k : Nat} {a b : Int × Int} (h1 : l[k]? = some a) (h2 : m[k]? = some b) : (List.zipWith f l m)[k]? = some (f a b) := by
  rw [List.getElem?_zipWith, h1, h2]
theorem zip_len {α : Type} (f : Int × Int → Int × Int → α) {l m : List (Int × Int)} {n : Nat} (h1 : l.length = n) (h2 : m.length = n) : (List.zipWith f l m).length = n := by
  rw [List.length_zipWith, h1, h2, Nat.min_self]
theorem all_snoc {l : List Bool} {k : Nat} {b : Bool} (h : l[k]? = some b) : (l.take (k + 1)).all id = ((l.take k).all id && b) := by
  rw [K.take_snoc h, List.all_append]; simp
theorem row_snoc {l : List Int} {k : Nat} {x : Int} (h : l[k]? = some x) : (l.take (k + 1)).map (Value.int .i64) = (l.take k).map (Value.int .i64) ++ [.int .i64 x] := by
  rw [K.take_snoc h, List.map_append]; rfl
theorem zip_congr {α : Type} {f g : Int × Int → Int × Int → α} {l m : List (Int × Int)} (h : ∀ (k : Nat) (a b : Int × Int), l[k]? = some a → m[k]? = some b → f a b = g a b) : List.zipWith f l m = List.zipWith g l m := by
  apply List.ext_getElem?
  intro k
  rw [List.getElem?_zipWith, List.getElem?_zipWith]
  cases h1 : l[k]? with
  | none => rfl
  | some a =>
    cases h2 : m[k]? with
    | none => rfl
    | some b => simp only; rw [h k a b h1 h2]
/-- Where the guards are valid, spans meet where the greater low is not above the lesser high. -/
theorem mf_mt {x y x2 y2 u u2 : Int} {l m : List (Int × Int)} (h : vG x y l u = true) (h2 : vG x2 y2 m u2 = true) : List.zipWith mtF l m = List.zipWith mfF l m := by
  refine zip_congr fun k a b ha hb => ?_
  obtain ⟨a1, a2⟩ := a
  obtain ⟨b1, b2⟩ := b
  unfold mtF mfF mt
  rw [vG_at h ha, vG_at h2 hb]
  rfl
theorem ml_mx {l m : List (Int × Int)} (h : mto l m = true) : List.zipWith mlF l m = mxs l m := by
  refine zip_congr fun k a b ha hb => ?_
  have := List.all_eq_true.1 h (mtF a b) (List.mem_of_getElem? (zip_at mtF ha hb))
  exact (mt_yes this).1
theorem cpT_yes {u v : Int} {k : Nat} (h : (u == (k : Int) + 1 || v == (k : Int) + 1) = true) : (cpT u v (k + 1)).map (Value.int .i64) = (cpT u v k).map (Value.int .i64) ++ [.int .i64 ((k : Int) + 1)] := by
  unfold cpT
  rw [List.range_succ, List.map_append, List.filter_append, List.map_append]
  simp only [List.map_cons, List.map_nil, List.filter_cons, h, if_true, List.filter_nil]
theorem cpT_no {u v : Int} {k : Nat} (h : (u == (k : Int) + 1 || v == (k : Int) + 1) = false) : cpT u v (k + 1) = cpT u v k := by
  unfold cpT
  rw [List.range_succ, List.map_append, List.filter_append]
  simp only [List.map_cons, List.map_nil, List.filter_cons, h, List.filter_nil]
  simp
/-- A region has laid a variable of two cells; what was there is as it was. -/
def LaidG (w : World) (p q : Int) (wx : World) (d : Nat) : Prop := w.heap.size ≤ d ∧ Box2 wx d (.int .i64 p) (.int .i64 q) ∧ K.Kept w wx
theorem LaidG.put {w wx : World} {b : Nat} {u v : Value} (y0 : Box2 wx b u v) (hb : w.heap.size ≤ b) (kx : K.Kept w wx) (p q : Int) : LaidG w p q ((wx.setCell ⟨b, 0, none⟩ (.int .i64 p)).setCell ⟨b, 1, none⟩ (.int .i64 q)) b :=
  ⟨hb, y0.put _ _, (kx.setCell (p := ⟨b, 0, none⟩) hb _).setCell (p := ⟨b, 1, none⟩) hb _⟩
theorem LaidG.new {w wx : World} {T : TypeId} (kx : K.Kept w wx) (p q : Int) : LaidG w p q (wx.alloc (.cells #[.int .i64 p, .int .i64 q] T)) wx.heap.size := ⟨kx.size, Box2.new _ _ _ _, K.Kept.trans kx (kp1 _ _)⟩
theorem six {w w' : World} (k : K.Kept w w') {a1 a2 a3 a4 a5 a6 : Addr} {v1 v2 v3 v4 v5 v6 : Value} (h : w.cell? a1 = some v1 ∧ w.cell? a2 = some v2 ∧ w.cell? a3 = some v3 ∧ w.cell? a4 = some v4 ∧ w.cell? a5 = some v5 ∧ w.cell? a6 = some v6) : w'.cell? a1 = some v1 ∧ w'.cell? a2 = some v2 ∧ w'.cell? a3 = some v3 ∧ w'.cell? a4 = some v4 ∧ w'.cell? a5 = some v5 ∧ w'.cell? a6 = some v6 := by
  obtain ⟨h1, h2, h3, h4, h5, h6⟩ := h
  exact ⟨kcell k _ _ h1, kcell k _ _ h2, kcell k _ _ h3, kcell k _ _ h4, kcell k _ _ h5, kcell k _ _ h6⟩
theorem own_sneM {T : TypeId} {size : Nat} {w : World} {base b n i : Nat} {v : Value} {xs : List Value} (h : w.ownsRow base T size v n xs) (hne : ∀ j, v.ownBlock = some j → j ≠ b) (x : Value) : (w.setCell ⟨b, i, none⟩ x).ownsRow base T size v n xs := by
  have k : K.But b w (w.setCell ⟨b, i, none⟩ x) := (K.But.refl _ _).setCell (p := ⟨b, i, none⟩) (.inl rfl) _
  refine h.kept k ?_
  cases hO : v.ownBlock with
  | none => exact .inl rfl
  | some j => exact .inr (fun e => hne j hO (by injection e))
theorem own_grownM {T : TypeId} {size n : Nat} {w w' : World} {base : Nat} {v v' : Value} {xs : List Value} (h : w.ownsRow base T size v n xs) (hg : w.grownBy w' v'.ownBlock) (hne : ∀ i j, v.ownBlock = some i → v'.ownBlock = some j → i ≠ j) : w'.ownsRow base T size v n xs := K.own_other h hg hne
theorem ob_some {b n c j : Nat} (h : (Value.slice (some ⟨b, 0, none⟩) n c).ownBlock = some j) : b = j := by simpa [Value.ownBlock] using h
theorem kgrown {B : Nat} {w a b : World} {row : Option Nat} (h : Below B w a) (k : a.grownBy b row) (hB : B ≤ a.heap.size) (hr : ∀ i, row = some i → B ≤ i) : Below B w b := h.grown k hB hr
theorem meetG_i (x y u v p q : Int) (b : Bool) (w : World) (hb : mt x y u v = b) (hp : mlo x y u v = p) (hq : mhi x y u v = q) : Calls Try.prog 72 #[.agg #[.int .i64 x, .int .i64 y], .agg #[.int .i64 u, .int .i64 v]] w fun e w' => e = .returned (.tuple #[.agg #[.int .i64 p, .int .i64 q], .bool b]) ∧ K.Kept w w' := by
  subst hb hp hq
  exact meetSpans_i x y u v w
theorem meetG_s (x y u v p q : Int) (b : Bool) (w : World) (hb : decide (max x u ≤ min y v) = b) (hp : max x u = p) (hq : min y v = q) : Calls Try.prog 92 #[.agg #[.int .i64 x, .int .i64 y], .agg #[.int .i64 u, .int .i64 v]] w fun e w' => e = .returned (.tuple #[.agg #[.int .i64 p, .int .i64 q], .bool b]) ∧ K.Kept w w' := by
  subst hb hp hq
  exact meet_c x y u v w
set_option maxRecDepth 100000 in
set_option maxHeartbeats 4000000 in
theorem guardsMeet_i (w : World) (x y u : Int) (A : Option Addr) (n c : Nat) (l : List (Int × Int)) (x2 y2 u2 : Int) (B : Option Addr) (m d : Nat) (l2 : List (Int × Int)) (T : Int) (X Y : List Int) (b : Bool) (hb : gmOk x y u x2 y2 u2 l l2 = b) (hT : gmT x y u x2 y2 u2 l l2 = T) (hX : gmC x y u x2 y2 u2 l l2 = X) (hY : gmK x y u x2 y2 u2 l l2 = Y) (h : K.PR w w.heap.size A n l) (hn : n ≤ 1099511627776) (h2 : K.PR w w.heap.size B m l2) (hm : m ≤ 1099511627776) : Calls Try.prog 34 #[.agg #[.int .i64 x, .int .i64 y, .slice A n c, .int .i64 u], .agg #[.int .i64 x2, .int .i64 y2, .slice B m d, .int .i64 u2]] w (PointB w T X Y b) := by
  have bx_g : BoxN (((w.alloc (.cells #[.int .i64 x, .int .i64 y, .slice A n c, .int .i64 u] 27)).alloc (.cells #[.int .i64 x2, .int .i64 y2, .slice B m d, .int .i64 u2] 27)).alloc (.cells #[.int .i64 0, .slice none 0 0, .slice none 0 0] 30)) w.heap.size (#[.int .i64 x, .int .i64 y, .slice A n c, .int .i64 u] : Array Value).toList := ((BoxN.new w _ _).kept (kp1 _ _)).kept (kp1 _ _)
  have bx_h : BoxN (((w.alloc (.cells #[.int .i64 x, .int .i64 y, .slice A n c, .int .i64 u] 27)).alloc (.cells #[.int .i64 x2, .int .i64 y2, .slice B m d, .int .i64 u2] 27)).alloc (.cells #[.int .i64 0, .slice none 0 0, .slice none 0 0] 30)) (w.heap.size + 1) (#[.int .i64 x2, .int .i64 y2, .slice B m d, .int .i64 u2] : Array Value).toList := by have q := (BoxN.new (w.alloc (.cells #[.int .i64 x, .int .i64 y, .slice A n c, .int .i64 u] 27)) #[.int .i64 x2, .int .i64 y2, .slice B m d, .int .i64 u2] 27).kept (kp1 _ (.cells #[.int .i64 0, .slice none 0 0, .slice none 0 0] 30)); rwa [show (w.alloc (.cells #[.int .i64 x, .int .i64 y, .slice A n c, .int .i64 u] 27)).heap.size = w.heap.size + 1 by simp] at q
  have bx_r : BoxN (((w.alloc (.cells #[.int .i64 x, .int .i64 y, .slice A n c, .int .i64 u] 27)).alloc (.cells #[.int .i64 x2, .int .i64 y2, .slice B m d, .int .i64 u2] 27)).alloc (.cells #[.int .i64 0, .slice none 0 0, .slice none 0 0] 30)) (w.heap.size + 2) (#[.int .i64 0, .slice none 0 0, .slice none 0 0] : Array Value).toList := by have q := BoxN.new ((w.alloc (.cells #[.int .i64 x, .int .i64 y, .slice A n c, .int .i64 u] 27)).alloc (.cells #[.int .i64 x2, .int .i64 y2, .slice B m d, .int .i64 u2] 27)) #[.int .i64 0, .slice none 0 0, .slice none 0 0] 30; rwa [show ((w.alloc (.cells #[.int .i64 x, .int .i64 y, .slice A n c, .int .i64 u] 27)).alloc (.cells #[.int .i64 x2, .int .i64 y2, .slice B m d, .int .i64 u2] 27)).heap.size = w.heap.size + 2 by simp] at q
  have kw : K.Kept w (((w.alloc (.cells #[.int .i64 x, .int .i64 y, .slice A n c, .int .i64 u] 27)).alloc (.cells #[.int .i64 x2, .int .i64 y2, .slice B m d, .int .i64 u2] 27)).alloc (.cells #[.int .i64 0, .slice none 0 0, .slice none 0 0] 30)) := K.Kept.trans (kp1 _ _) (K.Kept.trans (kp1 _ _) (kp1 _ _))
  have hz : (((w.alloc (.cells #[.int .i64 x, .int .i64 y, .slice A n c, .int .i64 u] 27)).alloc (.cells #[.int .i64 x2, .int .i64 y2, .slice B m d, .int .i64 u2] 27)).alloc (.cells #[.int .i64 0, .slice none 0 0, .slice none 0 0] 30)).heap.size = w.heap.size + 3 := by simp
  generalize hww0 : (((w.alloc (.cells #[.int .i64 x, .int .i64 y, .slice A n c, .int .i64 u] 27)).alloc (.cells #[.int .i64 x2, .int .i64 y2, .slice B m d, .int .i64 u2] 27)).alloc (.cells #[.int .i64 0, .slice none 0 0, .slice none 0 0] 30)) = w0 at bx_g bx_h bx_r kw hz
  have HR := Lib.hid h
  have HQ := Lib.hid h2
  have L1 := Lib.hid (K.PR.len h)
  have L2 := Lib.hid (K.PR.len h2)
  clear h h2
  cases q1 : vG x y l u
  case false =>
    obtain ⟨rfl, rfl, rfl, rfl⟩ := gm_no (gmOk_no1 q1) hb hT hX hY
    go_enter Try.func34, Try.ntmps34
    obtain ⟨g0, g1, g2, g3, g4, g5, g6, g7, g8⟩ := BoxN.at4 bx_g
    obtain ⟨h0, h1, h2, h3, h4, h5, h6, h7, h8⟩ := BoxN.at4 bx_h
    go_wp2_with fail
    refine (validGuard_i _ x y u A n c l false q1 (rdw HR.out kw) hn).mono ?_
    rintro e w1 ⟨rfl, kk⟩
    clear g0 g1 g2 g3 g4 g5 g6 g7 g8 h0 h1 h2 h3 h4 h5 h6 h7 h8
    replace bx_g := bx_g.kept kk
    replace bx_h := bx_h.kept kk
    replace bx_r := bx_r.kept kk
    replace kw := K.Kept.trans kw kk
    clear kk
    have br := ((bx_r.set 0 (.int .i64 0) (by simp)).set 1 (.slice none 0 0) (by simp)).set 2 (.slice none 0 0) (by simp)
    obtain ⟨z0, z1, z2, _⟩ := BoxN.at3 br
    obtain ⟨r0, r1, r2, r3, r4, r5, r6⟩ := BoxN.at3 bx_r
    go_wp2
    refine bodyPost_ret (by simp [results, Try.results34, go_sem, z0, z1, z2]; try rfl) rfl ?_
    have lS : w.heap.size ≤ w.heap.size + 2 := by omega
    exact PointB.zero (kset (kset (kset kw lS _) lS _) lS _)
  cases q2 : vG x2 y2 l2 u2
  case false =>
    obtain ⟨rfl, rfl, rfl, rfl⟩ := gm_no (gmOk_no2 q2) hb hT hX hY
    go_enter Try.func34, Try.ntmps34
    obtain ⟨g0, g1, g2, g3, g4, g5, g6, g7, g8⟩ := BoxN.at4 bx_g
    obtain ⟨h0, h1, h2, h3, h4, h5, h6, h7, h8⟩ := BoxN.at4 bx_h
    go_wp2_with fail
    refine (validGuard_i _ x y u A n c l true q1 (rdw HR.out kw) hn).mono ?_
    rintro e w1 ⟨rfl, kk⟩
    clear g0 g1 g2 g3 g4 g5 g6 g7 g8 h0 h1 h2 h3 h4 h5 h6 h7 h8
    replace bx_g := bx_g.kept kk
    replace bx_h := bx_h.kept kk
    replace bx_r := bx_r.kept kk
    replace kw := K.Kept.trans kw kk
    clear kk
    obtain ⟨g0, g1, g2, g3, g4, g5, g6, g7, g8⟩ := BoxN.at4 bx_g
    obtain ⟨h0, h1, h2, h3, h4, h5, h6, h7, h8⟩ := BoxN.at4 bx_h
    go_wp2_with fail
    refine (validGuard_i _ x2 y2 u2 B m d l2 false q2 (rdw HQ.out kw) hm).mono ?_
    rintro e w2 ⟨rfl, kk⟩
    clear g0 g1 g2 g3 g4 g5 g6 g7 g8 h0 h1 h2 h3 h4 h5 h6 h7 h8
    replace bx_g := bx_g.kept kk
    replace bx_h := bx_h.kept kk
    replace bx_r := bx_r.kept kk
    replace kw := K.Kept.trans kw kk
    clear kk
    have br := ((bx_r.set 0 (.int .i64 0) (by simp)).set 1 (.slice none 0 0) (by simp)).set 2 (.slice none 0 0) (by simp)
    obtain ⟨z0, z1, z2, _⟩ := BoxN.at3 br
    obtain ⟨r0, r1, r2, r3, r4, r5, r6⟩ := BoxN.at3 bx_r
    go_wp2
    refine bodyPost_ret (by simp [results, Try.results34, go_sem, z0, z1, z2]; try rfl) rfl ?_
    have lS : w.heap.size ≤ w.heap.size + 2 := by omega
    exact PointB.zero (kset (kset (kset kw lS _) lS _) lS _)
  have n3 : n = 3 := by have := vG_len q1; have := L1.out; omega
  have m3 : m = 3 := by have := vG_len q2; have := L2.out; omega
  subst n3 m3
  have GO := Lib.hid (gmOk_eq q1 q2)
  obtain ⟨t0, ht0⟩ : ∃ b, mt x y x2 y2 = b := ⟨_, rfl⟩
  obtain ⟨lo0, hlo0⟩ : ∃ b, mlo x y x2 y2 = b := ⟨_, rfl⟩
  obtain ⟨hi0', hhi0⟩ : ∃ b, mhi x y x2 y2 = b := ⟨_, rfl⟩
  obtain ⟨i0, hi0, hz0, hz1, hz2⟩ := info_parts info_int
  go_enter Try.func34, Try.ntmps34
  obtain ⟨g0, g1, g2, g3, g4, g5, g6, g7, g8⟩ := BoxN.at4 bx_g
  obtain ⟨h0, h1, h2, h3, h4, h5, h6, h7, h8⟩ := BoxN.at4 bx_h
  go_wp2_with fail
  refine (validGuard_i _ x y u A 3 c l true q1 (rdw HR.out kw) hn).mono ?_
  rintro e w1 ⟨rfl, kk⟩
  clear g0 g1 g2 g3 g4 g5 g6 g7 g8 h0 h1 h2 h3 h4 h5 h6 h7 h8
  replace bx_g := bx_g.kept kk
  replace bx_h := bx_h.kept kk
  replace bx_r := bx_r.kept kk
  replace kw := K.Kept.trans kw kk
  clear kk
  obtain ⟨g0, g1, g2, g3, g4, g5, g6, g7, g8⟩ := BoxN.at4 bx_g
  obtain ⟨h0, h1, h2, h3, h4, h5, h6, h7, h8⟩ := BoxN.at4 bx_h
  go_wp2_with fail
  refine (validGuard_i _ x2 y2 u2 B 3 d l2 true q2 (rdw HQ.out kw) hm).mono ?_
  rintro e w2 ⟨rfl, kk⟩
  clear g0 g1 g2 g3 g4 g5 g6 g7 g8 h0 h1 h2 h3 h4 h5 h6 h7 h8
  replace bx_g := bx_g.kept kk
  replace bx_h := bx_h.kept kk
  replace bx_r := bx_r.kept kk
  replace kw := K.Kept.trans kw kk
  clear kk
  obtain ⟨g0, g1, g2, g3, g4, g5, g6, g7, g8⟩ := BoxN.at4 bx_g
  obtain ⟨h0, h1, h2, h3, h4, h5, h6, h7, h8⟩ := BoxN.at4 bx_h
  go_wp2_with fail
  refine (meetG_i x y x2 y2 lo0 hi0' t0 _ ht0 hlo0 hhi0).mono ?_
  rintro e w3 ⟨rfl, kk⟩
  clear g0 g1 g2 g3 g4 g5 g6 g7 g8 h0 h1 h2 h3 h4 h5 h6 h7 h8
  replace bx_g := bx_g.kept kk
  replace bx_h := bx_h.kept kk
  replace bx_r := bx_r.kept kk
  replace kw := K.Kept.trans kw kk
  clear kk
  have zw0 := kw.size
  have zr0 := bx_r.1
  have y0 : Box2 (w3.alloc (.cells #[.int .i64 lo0, .int .i64 hi0'] 24)) w3.heap.size (.int .i64 lo0) (.int .i64 hi0') := Box2.new w3 _ _ _
  have zk4 : w3.heap.size < (w3.alloc (.cells #[.int .i64 lo0, .int .i64 hi0'] 24)).heap.size := by simp
  have kk := kp1 w3 (.cells #[.int .i64 lo0, .int .i64 hi0'] 24)
  replace bx_g := bx_g.kept kk
  replace bx_h := bx_h.kept kk
  replace bx_r := bx_r.kept kk
  replace kw := K.Kept.trans kw kk
  generalize hw4 : w3.alloc (.cells #[.int .i64 lo0, .int .i64 hi0'] 24) = w4 at y0 bx_g bx_h bx_r kw kk zk4
  clear kk
  have ownD : (w4.alloc (.cells #[] 3)).ownsRow (w.heap.size + 3) 3 1 (.slice (some ⟨w4.heap.size, 0, none⟩) 0 0) 0 (([] : List Int).map (Value.int .i64)) := World.ownsRow_lit w4 #[] 0 (by omega) (by unfold maxLen; omega) rfl
  have zk5 : w4.heap.size < (w4.alloc (.cells #[] 3)).heap.size := by simp
  have kk := kp1 w4 (.cells #[] 3)
  replace bx_g := bx_g.kept kk
  replace bx_h := bx_h.kept kk
  replace bx_r := bx_r.kept kk
  replace kw := K.Kept.trans kw kk
  generalize hw5 : w4.alloc (.cells #[] 3) = w5 at ownD bx_g bx_h bx_r kw kk zk5
  clear kk
  obtain ⟨y1, y2, y3, y4, y5⟩ := y0
  have ownE : (w5.alloc (.cells #[] 3)).ownsRow (w.heap.size + 3) 3 1 (.slice (some ⟨w5.heap.size, 0, none⟩) 0 0) 0 (([] : List Int).map (Value.int .i64)) := World.ownsRow_lit w5 #[] 0 (by omega) (by unfold maxLen; omega) rfl
  have zk6 : w5.heap.size < (w5.alloc (.cells #[] 3)).heap.size := by simp
  have kk := kp1 w5 (.cells #[] 3)
  replace bx_g := bx_g.kept kk
  replace bx_h := bx_h.kept kk
  replace bx_r := bx_r.kept kk
  replace ownD := K.own_kept ownD kk
  replace kw := K.Kept.trans kw kk
  generalize hw6 : w5.alloc (.cells #[] 3) = w6 at ownE bx_g bx_h bx_r ownD kw kk zk6
  clear kk
  have bx_p : BoxN (w6.alloc (.cells #[.int .i64 lo0, .slice (some ⟨w4.heap.size, 0, none⟩) 0 0, .slice (some ⟨w5.heap.size, 0, none⟩) 0 0] 30)) w6.heap.size (#[.int .i64 lo0, .slice (some ⟨w4.heap.size, 0, none⟩) 0 0, .slice (some ⟨w5.heap.size, 0, none⟩) 0 0] : Array Value).toList := BoxN.new w6 _ _
  have zk7 : w6.heap.size < (w6.alloc (.cells #[.int .i64 lo0, .slice (some ⟨w4.heap.size, 0, none⟩) 0 0, .slice (some ⟨w5.heap.size, 0, none⟩) 0 0] 30)).heap.size := by simp
  have kk := kp1 w6 (.cells #[.int .i64 lo0, .slice (some ⟨w4.heap.size, 0, none⟩) 0 0, .slice (some ⟨w5.heap.size, 0, none⟩) 0 0] 30)
  replace bx_g := bx_g.kept kk
  replace bx_h := bx_h.kept kk
  replace bx_r := bx_r.kept kk
  replace ownD := K.own_kept ownD kk
  replace ownE := K.own_kept ownE kk
  replace kw := K.Kept.trans kw kk
  generalize hw7 : w6.alloc (.cells #[.int .i64 lo0, .slice (some ⟨w4.heap.size, 0, none⟩) 0 0, .slice (some ⟨w5.heap.size, 0, none⟩) 0 0] 30) = w7 at bx_p bx_g bx_h bx_r ownD ownE kw kk zk7
  clear kk
  obtain ⟨g0, g1, g2, g3, g4, g5, g6, g7, g8⟩ := BoxN.at4 bx_g
  obtain ⟨h0, h1, h2, h3, h4, h5, h6, h7, h8⟩ := BoxN.at4 bx_h
  obtain ⟨r0, r1, r2, r3, r4, r5, r6⟩ := BoxN.at3 bx_r
  obtain ⟨p0, p1, p2, p3, p4, p5, p6⟩ := BoxN.at3 bx_p
  go_wp2_with fail
  clear y1 y2 y3 y4 y5
  have neD : ∀ i, (Value.slice (some ⟨w4.heap.size, 0, none⟩) 0 0).ownBlock = some i → i ≠ w6.heap.size ∧ i ≠ w5.heap.size := fun i hi => by have := ob_some hi; omega
  clear g0 g1 g2 g3 g4 g5 g6 g7 g8 h0 h1 h2 h3 h4 h5 h6 h7 h8 r0 r1 r2 r3 r4 r5 r6 p0 p1 p2 p3 p4 p5 p6
  have zpb := bx_p.1
  clear hw4 hw5 hw6 hw7 hww0
  have lD : (w4.heap.size : Nat) < w6.heap.size ∧ w5.heap.size < w6.heap.size ∧ w.heap.size + 3 ≤ w4.heap.size ∧ w.heap.size + 3 ≤ w5.heap.size ∧ (w4.heap.size : Nat) ≠ w5.heap.size := by omega
  go_loopw [7, 35] (fun o i wr => ∃ (k c' : Nat) (A' : Option Addr) (b1 : Bool), k ≤ 3 ∧ i = .int .i64 k ∧ o = .bool b1 ∧ Hid (b1 = (t0 && ((List.zipWith mtF l l2).take k).all id)) ∧ wr.ownsRow (w.heap.size + 3) 3 1 (.slice A' k c') k (((List.zipWith mlF l l2).take k).map (Value.int .i64)) ∧ (∀ i, (Value.slice A' k c').ownBlock = some i → i ≠ w6.heap.size ∧ i ≠ w5.heap.size) ∧ wr.ownsRow (w.heap.size + 3) 3 1 (.slice (some ⟨w5.heap.size, 0, none⟩) 0 0) 0 [] ∧ BoxN wr w.heap.size (#[.int .i64 x, .int .i64 y, .slice A 3 c, .int .i64 u] : Array Value).toList ∧ BoxN wr (w.heap.size + 1) (#[.int .i64 x2, .int .i64 y2, .slice B 3 d, .int .i64 u2] : Array Value).toList ∧ BoxN wr (w.heap.size + 2) (#[.int .i64 0, .slice none 0 0, .slice none 0 0] : Array Value).toList ∧ BoxN wr w6.heap.size (#[.int .i64 lo0, .slice A' k c', .slice (some ⟨w5.heap.size, 0, none⟩) 0 0] : Array Value).toList ∧ K.Kept w wr) (fun _ i _ => 3 - (intOf i).toNat)
  case atStart => exact ⟨0, _, _, t0, by omega, rfl, rfl, by unfold Hid; simp, ownD, neD, ownE, bx_g, bx_h, bx_r, bx_p, kw⟩
  case round =>
    clear ownD neD ownE bx_g bx_h bx_r bx_p kw
    obtain ⟨k, c', A', b1, hk, rfl, rfl, hb1, ownD, neD, ownE, bx_g, bx_h, bx_r, bx_p, kw⟩ := hrel
    have zpr := bx_p.1
    by_cases hlt : k < 3
    · obtain ⟨ba, oa, p1, q1, rfl, hba, c1, c2, hx⟩ := K.PR.cell (rdw HR.out kw) hlt
      obtain ⟨bb, ob, p2, q2, rfl, hbb, d1, d2, hy⟩ := K.PR.cell (rdw HQ.out kw) hlt
      obtain ⟨tk, htk⟩ : ∃ b, mt p1 q1 p2 q2 = b := ⟨_, rfl⟩
      obtain ⟨lo, hlo⟩ : ∃ b, mlo p1 q1 p2 q2 = b := ⟨_, rfl⟩
      obtain ⟨hi, hhi⟩ : ∃ b, mhi p1 q1 p2 q2 = b := ⟨_, rfl⟩
      have AK := Lib.hid (all_snoc (zip_at mtF hx.out hy.out))
      have RK := Lib.hid (row_snoc (zip_at mlF hx.out hy.out))
      rw [show mtF (p1, q1) (p2, q2) = tk from htk] at AK
      rw [show mlF (p1, q1) (p2, q2) = lo from hlo] at RK
      have hki : (k : Int) < 3 := by omega
      have hd1 : decide ((3 : Int) ≤ (k : Int)) = false := by simp; omega
      have hd2 : decide (3 ≤ k) = false := by simp; omega
      obtain ⟨g0, g1, g2, g3, g4, g5, g6, g7, g8⟩ := BoxN.at4 bx_g
      obtain ⟨h0, h1, h2, h3, h4, h5, h6, h7, h8⟩ := BoxN.at4 bx_h
      have HS0 := Lib.hid (And.intro g2 (And.intro h2 (And.intro c1 (And.intro c2 (And.intro d1 d2)))))
      go_upto_region 8 with fail
      go_cut [10, 11] from 38 to 63 (fun p q wx => ∃ dd, p = .pointer (some ⟨dd, 0, none⟩) ∧ q = .bool tk ∧ LaidG wr lo hi wx dd)
      case first =>
        have kx := kdrew wr
        have HS := six kx ⟨g2, h2, c1, c2, d1, d2⟩
        clear g0 g1 g2 g3 g4 g5 g6 g7 g8 h0 h1 h2 h3 h4 h5 h6 h7 h8
        clear c1 c2 d1 d2 bx_g bx_h bx_r bx_p ownD ownE kw neD
        obtain ⟨e1, e2, e3, e4, e5, e6⟩ := id HS
        go_region_held3 (fun w' => w'.cell? ⟨w.heap.size, 2, none⟩ = some (.slice (some ⟨ba, oa, none⟩) 3 c) ∧ w'.cell? ⟨w.heap.size + 1, 2, none⟩ = some (.slice (some ⟨bb, ob, none⟩) 3 d) ∧ w'.cell? ⟨ba, oa + k * 2, none⟩ = some (.int .i64 p1) ∧ w'.cell? ⟨ba, oa + k * 2 + 1, none⟩ = some (.int .i64 q1) ∧ w'.cell? ⟨bb, ob + k * 2, none⟩ = some (.int .i64 p2) ∧ w'.cell? ⟨bb, ob + k * 2 + 1, none⟩ = some (.int .i64 q2)) (first | exact HS | exact six (kp1 _ _) HS | exact six (LaidG.put y0 (Nat.le_refl _) kz lo hi).2.2 HS0.out | exact six (LaidG.new kz lo hi).2.2 HS0.out | go_keep) (first | (go_at_call 72; refine (meetG_i p1 q1 p2 q2 lo hi tk _ htk hlo hhi).mono ?_; rintro e wv ⟨rfl, kk⟩; (first | (have kz : K.Kept wr wv := K.Kept.trans kx kk) | (have y0 : Box2 wv wr.heap.size (.int .i64 0) (.int .i64 0) := Box2.kept (Box2.new wr.drew _ _ _) kk; have kz : K.Kept wr wv := K.Kept.trans kx (K.Kept.trans (kp1 _ _) kk); obtain ⟨y1, y2, y3, y4, y5⟩ := id y0)); clear kk; replace HS := six kz ⟨e1, e2, e3, e4, e5, e6⟩; clear e1 e2 e3 e4 e5 e6; obtain ⟨e1, e2, e3, e4, e5, e6⟩ := id HS))
        all_goals go_wp2
        all_goals go_meet
        all_goals first | exact ⟨_, rfl, rfl, LaidG.put y0 (Nat.le_refl _) kz _ _⟩ | exact ⟨_, rfl, rfl, LaidG.new kz _ _⟩
      case rest =>
        clear g0 g1 g2 g3 g4 g5 g6 g7 g8 h0 h1 h2 h3 h4 h5 h6 h7 h8
        clear c1 c2 d1 d2 HS0 hx hy htk hlo hhi
        obtain ⟨dd, rfl, rfl, hdd, y0, kx⟩ := hcut
        replace bx_g := bx_g.kept kx
        replace bx_h := bx_h.kept kx
        replace bx_r := bx_r.kept kx
        replace bx_p := bx_p.kept kx
        replace ownD := K.own_kept ownD kx
        replace ownE := K.own_kept ownE kx
        replace kw := K.Kept.trans kw kx
        have zkx := kx.size
        clear kx
        have ltD := ownD.lt
        obtain ⟨y1, y2, y3, y4, y5⟩ := y0
        obtain ⟨p0, p1, p2, p3, p4, p5, p6⟩ := BoxN.at3 bx_p
        cases b1
        all_goals
          go_wp2_with (at_builtin; refine app3 rfl _ _ 28 rfl (w.heap.size + 3) 3 1 8 i0 (.int .i64 0) Try.underlying28 hi0 hz0 hz1 hz2 rfl (by decide) wc _ k _ (by rfl) ownD _ _ (by rfl) (by first | rfl | simp) (by rfl) (by rfl) (by unfold maxLen; omega) (by omega) (by omega) ?_; intro A4 c4 v4 own4 hg4 hn4; replace bx_p := BoxN.grown bx_p hg4 (fun e => (neD _ e).1 rfl); clear y1 y2 y3 y4 y5; clear p0 p1 p2 p3 p4 p5 p6; obtain ⟨p0, p1, p2, p3, p4, p5, p6⟩ := BoxN.at3 bx_p)
          have own5 := (show v4.ownsRow _ _ 1 _ _ (((List.zipWith mlF l l2).take (k + 1)).map (Value.int .i64)) by rw [RK.out]; exact own4)
          clear own4 RK
          have neD4 : ∀ i, (Value.slice A4 (k + 1) c4).ownBlock = some i → i ≠ w6.heap.size ∧ i ≠ w5.heap.size := fun i hi => by
            rcases hn4 i hi with h | h
            · exact neD i h
            · constructor <;> omega
          replace ownE := K.own_other ownE hg4 (fun i j hi hj e => by subst e; exact (neD _ hj).2 (ob_some hi).symm)
          replace bx_g := BoxN.grown bx_g hg4 (fun e => by have := (ltD _ e).1; omega)
          replace bx_h := BoxN.grown bx_h hg4 (fun e => by have := (ltD _ e).1; omega)
          replace bx_r := BoxN.grown bx_r hg4 (fun e => by have := (ltD _ e).1; omega)
          replace kw := kgrown kw hg4 (Nat.le_trans (Nat.le_of_lt (by omega)) (Nat.le_refl _)) (fun i hi => by have := (ltD i hi).1; omega)
          have own6 := own_sneM (i := 1) own5 (fun j hj => (neD4 j hj).1) (.slice A4 (k + 1) c4)
          replace ownE := own_sneM (i := 1) (b := w6.heap.size) ownE (fun j hj => by have := ob_some hj; omega) (.slice A4 (k + 1) c4)
          replace bx_g := BoxN.far (i := 1) bx_g (show w6.heap.size ≠ w.heap.size by omega) (.slice A4 (k + 1) c4)
          replace bx_h := BoxN.far (i := 1) bx_h (show w6.heap.size ≠ w.heap.size + 1 by omega) (.slice A4 (k + 1) c4)
          replace bx_r := BoxN.far (i := 1) bx_r (show w6.heap.size ≠ w.heap.size + 2 by omega) (.slice A4 (k + 1) c4)
          replace bx_p := BoxN.set bx_p 1 (.slice A4 (k + 1) c4) (by simp)
          replace kw := kset (i := 1) kw (show w.heap.size ≤ w6.heap.size by omega) (.slice A4 (k + 1) c4)
          clear p0 p1 p2 p3 p4 p5 p6
          go_wp2
          go_roundw
          case rel => exact ⟨k + 1, c4, A4, _, by omega, by go_num, rfl, by unfold Hid; rw [AK.out, ← Bool.and_assoc, ← hb1.out]; rfl, own6, neD4, ownE, bx_g, bx_h, bx_r, bx_p, kw⟩
          case measure => simp [intOf]; omega
    · have hk3 : k = 3 := by omega
      subst hk3
      rw [K.take_all (zip_len mtF L1.out L2.out)] at hb1
      rw [K.take_all (zip_len mlF L1.out L2.out)] at ownD
      cases b1
      · have hno := GO.out
        rw [ht0] at hno
        rw [show (t0 && mto l l2) = false from hb1.out.symm] at hno
        obtain ⟨rfl, rfl, rfl, rfl⟩ := gm_no hno hb hT hX hY
        have br := ((bx_r.set 0 (.int .i64 0) (by simp)).set 1 (.slice none 0 0) (by simp)).set 2 (.slice none 0 0) (by simp)
        obtain ⟨z0, z1, z2, _⟩ := BoxN.at3 br
        obtain ⟨r0, r1, r2, r3, r4, r5, r6⟩ := BoxN.at3 bx_r
        go_wp2
        refine bodyPost_ret (by simp [results, Try.results34, go_sem, z0, z1, z2]; try rfl) rfl ?_
        have lS : w.heap.size ≤ w.heap.size + 2 := by omega
        exact PointB.zero (kset (kset (kset kw lS _) lS _) lS _)
      have hyes := GO.out
      rw [ht0] at hyes
      rw [show (t0 && mto l l2) = true from hb1.out.symm] at hyes
      obtain ⟨rfl, rfl, rfl, rfl⟩ := gm_yes hyes hb hT hX hY
      have tt : t0 = true ∧ mto l l2 = true := by have := hb1.out; rw [eq_comm, Bool.and_eq_true] at this; exact this
      have hT2 : lo0 = max x x2 := by rw [← hlo0]; exact (mt_yes (ht0.trans tt.1)).1
      rw [ml_mx tt.2] at ownD
      subst hT2
      clear GO hb1 hyes hb hT hX hY hlo0 tt ht0
      have zw := kw.size
      obtain ⟨p0, p1, p2, p3, p4, p5, p6⟩ := BoxN.at3 bx_p
      go_wp2
      clear p0 p1 p2 p3 p4 p5 p6
      have neE : ∀ i, (Value.slice (some ⟨w5.heap.size, 0, none⟩) 0 0).ownBlock = some i → i ≠ w6.heap.size ∧ ∀ j, (Value.slice A' 3 c').ownBlock = some j → j ≠ i := fun i hi => by
        have e : w5.heap.size = i := ob_some hi
        subst e
        exact ⟨by omega, fun j hj => (neD j hj).2⟩
      go_loopw [12] (fun i wr => ∃ (k ne ce : Nat) (E' : Option Addr), k ≤ 9 ∧ i = .int .i64 ((k : Int) + 1) ∧ ne ≤ k ∧ wr.ownsRow (w.heap.size + 3) 3 1 (.slice E' ne ce) ne ((cpT u u2 k).map (Value.int .i64)) ∧ (∀ i, (Value.slice E' ne ce).ownBlock = some i → i ≠ w6.heap.size ∧ ∀ j, (Value.slice A' 3 c').ownBlock = some j → j ≠ i) ∧ wr.ownsRow (w.heap.size + 3) 3 1 (.slice A' 3 c') 3 ((List.zipWith mxF l l2).map (Value.int .i64)) ∧ BoxN wr w.heap.size (#[.int .i64 x, .int .i64 y, .slice A 3 c, .int .i64 u] : Array Value).toList ∧ BoxN wr (w.heap.size + 1) (#[.int .i64 x2, .int .i64 y2, .slice B 3 d, .int .i64 u2] : Array Value).toList ∧ BoxN wr (w.heap.size + 2) (#[.int .i64 0, .slice none 0 0, .slice none 0 0] : Array Value).toList ∧ BoxN wr w6.heap.size (#[.int .i64 (max x x2), .slice A' 3 c', .slice E' ne ce] : Array Value).toList ∧ K.Kept w wr) (fun i _ => 10 - (intOf i).toNat)
      case atStart => exact ⟨0, _, _, _, by omega, rfl, by omega, ownE, neE, ownD, bx_g, bx_h, bx_r, bx_p, kw⟩
      case round =>
        clear ownD ownE neE bx_g bx_h bx_r bx_p kw
        obtain ⟨k, ne, ce, E', hk, rfl, hne, ownE, neE, ownD, bx_g, bx_h, bx_r, bx_p, kw⟩ := hrel
        have ltE := ownE.lt
        have ltD := ownD.lt
        have zpr := bx_p.1
        by_cases hlt : k < 9
        · have hle : decide ((k : Int) + 1 ≤ 9) = true := by simp; omega
          obtain ⟨g0, g1, g2, g3, g4, g5, g6, g7, g8⟩ := BoxN.at4 bx_g
          obtain ⟨h0, h1, h2, h3, h4, h5, h6, h7, h8⟩ := BoxN.at4 bx_h
          obtain ⟨p0, p1, p2, p3, p4, p5, p6⟩ := BoxN.at3 bx_p
          by_cases hu : u = (k : Int) + 1
          · have eu : (u == (k : Int) + 1) = true := by simp [hu]
            have ec : (u == (k : Int) + 1 || u2 == (k : Int) + 1) = true := by rw [eu]; rfl
            clear hu
            go_wp2_with (at_builtin; refine app3 rfl _ _ 28 rfl (w.heap.size + 3) 3 1 8 i0 (.int .i64 0) Try.underlying28 hi0 hz0 hz1 hz2 rfl (by decide) wr _ ne _ (by rfl) ownE _ _ (by rfl) (by first | rfl | simp) (by rfl) (by rfl) (by unfold maxLen; omega) (by omega) (by omega) ?_; intro A4 c4 v4 own4 hg4 hn4; replace bx_p := BoxN.grown bx_p hg4 (fun e => (neE _ e).1 rfl); clear g0 g1 g2 g3 g4 g5 g6 g7 g8 h0 h1 h2 h3 h4 h5 h6 h7 h8 p0 p1 p2 p3 p4 p5 p6; obtain ⟨p0, p1, p2, p3, p4, p5, p6⟩ := BoxN.at3 bx_p)
            have own5 := (show v4.ownsRow _ _ 1 _ _ ((cpT u u2 (k + 1)).map (Value.int .i64)) by rw [cpT_yes ec]; exact own4)
            clear own4
            have neE4 : ∀ i, (Value.slice A4 (ne + 1) c4).ownBlock = some i → i ≠ w6.heap.size ∧ ∀ j, (Value.slice A' 3 c').ownBlock = some j → j ≠ i := fun i hi => by
              rcases hn4 i hi with h | h
              · exact neE i h
              · exact ⟨by omega, fun j hj => by have := (ltD j hj).2; omega⟩
            replace ownD := K.own_other ownD hg4 (fun i j hi hj => (neE j hj).2 i hi)
            replace bx_g := BoxN.grown bx_g hg4 (fun e => by have := (ltE _ e).1; omega)
            replace bx_h := BoxN.grown bx_h hg4 (fun e => by have := (ltE _ e).1; omega)
            replace bx_r := BoxN.grown bx_r hg4 (fun e => by have := (ltE _ e).1; omega)
            replace kw := kgrown kw hg4 kw.size (fun i hi => by have := (ltE i hi).1; omega)
            have own6 := own_sneM (i := 2) own5 (fun j hj => (neE4 j hj).1) (.slice A4 (ne + 1) c4)
            replace ownD := own_sneM (i := 2) (b := w6.heap.size) ownD (fun j hj => (neD j hj).1) (.slice A4 (ne + 1) c4)
            replace bx_g := BoxN.far (i := 2) bx_g (show w6.heap.size ≠ w.heap.size by omega) (.slice A4 (ne + 1) c4)
            replace bx_h := BoxN.far (i := 2) bx_h (show w6.heap.size ≠ w.heap.size + 1 by omega) (.slice A4 (ne + 1) c4)
            replace bx_r := BoxN.far (i := 2) bx_r (show w6.heap.size ≠ w.heap.size + 2 by omega) (.slice A4 (ne + 1) c4)
            replace bx_p := BoxN.set bx_p 2 (.slice A4 (ne + 1) c4) (by simp)
            replace kw := kset (i := 2) kw (show w.heap.size ≤ w6.heap.size by omega) (.slice A4 (ne + 1) c4)
            clear p0 p1 p2 p3 p4 p5 p6
            go_wp2
            go_roundw
            case rel => exact ⟨k + 1, ne + 1, c4, A4, by omega, by go_num, by omega, own6, neE4, ownD, bx_g, bx_h, bx_r, bx_p, kw⟩
            case measure => simp [intOf]; omega
          have eu : (u == (k : Int) + 1) = false := by simp [hu]
          by_cases hv : u2 = (k : Int) + 1
          · have ev : (u2 == (k : Int) + 1) = true := by simp [hv]
            have ec : (u == (k : Int) + 1 || u2 == (k : Int) + 1) = true := by rw [eu, ev]; rfl
            clear hu hv
            go_wp2_with (at_builtin; refine app3 rfl _ _ 28 rfl (w.heap.size + 3) 3 1 8 i0 (.int .i64 0) Try.underlying28 hi0 hz0 hz1 hz2 rfl (by decide) wr _ ne _ (by rfl) ownE _ _ (by rfl) (by first | rfl | simp) (by rfl) (by rfl) (by unfold maxLen; omega) (by omega) (by omega) ?_; intro A4 c4 v4 own4 hg4 hn4; replace bx_p := BoxN.grown bx_p hg4 (fun e => (neE _ e).1 rfl); clear g0 g1 g2 g3 g4 g5 g6 g7 g8 h0 h1 h2 h3 h4 h5 h6 h7 h8 p0 p1 p2 p3 p4 p5 p6; obtain ⟨p0, p1, p2, p3, p4, p5, p6⟩ := BoxN.at3 bx_p)
            have own5 := (show v4.ownsRow _ _ 1 _ _ ((cpT u u2 (k + 1)).map (Value.int .i64)) by rw [cpT_yes ec]; exact own4)
            clear own4
            have neE4 : ∀ i, (Value.slice A4 (ne + 1) c4).ownBlock = some i → i ≠ w6.heap.size ∧ ∀ j, (Value.slice A' 3 c').ownBlock = some j → j ≠ i := fun i hi => by
              rcases hn4 i hi with h | h
              · exact neE i h
              · exact ⟨by omega, fun j hj => by have := (ltD j hj).2; omega⟩
            replace ownD := K.own_other ownD hg4 (fun i j hi hj => (neE j hj).2 i hi)
            replace bx_g := BoxN.grown bx_g hg4 (fun e => by have := (ltE _ e).1; omega)
            replace bx_h := BoxN.grown bx_h hg4 (fun e => by have := (ltE _ e).1; omega)
            replace bx_r := BoxN.grown bx_r hg4 (fun e => by have := (ltE _ e).1; omega)
            replace kw := kgrown kw hg4 kw.size (fun i hi => by have := (ltE i hi).1; omega)
            have own6 := own_sneM (i := 2) own5 (fun j hj => (neE4 j hj).1) (.slice A4 (ne + 1) c4)
            replace ownD := own_sneM (i := 2) (b := w6.heap.size) ownD (fun j hj => (neD j hj).1) (.slice A4 (ne + 1) c4)
            replace bx_g := BoxN.far (i := 2) bx_g (show w6.heap.size ≠ w.heap.size by omega) (.slice A4 (ne + 1) c4)
            replace bx_h := BoxN.far (i := 2) bx_h (show w6.heap.size ≠ w.heap.size + 1 by omega) (.slice A4 (ne + 1) c4)
            replace bx_r := BoxN.far (i := 2) bx_r (show w6.heap.size ≠ w.heap.size + 2 by omega) (.slice A4 (ne + 1) c4)
            replace bx_p := BoxN.set bx_p 2 (.slice A4 (ne + 1) c4) (by simp)
            replace kw := kset (i := 2) kw (show w.heap.size ≤ w6.heap.size by omega) (.slice A4 (ne + 1) c4)
            clear p0 p1 p2 p3 p4 p5 p6
            go_wp2
            go_roundw
            case rel => exact ⟨k + 1, ne + 1, c4, A4, by omega, by go_num, by omega, own6, neE4, ownD, bx_g, bx_h, bx_r, bx_p, kw⟩
            case measure => simp [intOf]; omega
          have ev : (u2 == (k : Int) + 1) = false := by simp [hv]
          have ec : (u == (k : Int) + 1 || u2 == (k : Int) + 1) = false := by rw [eu, ev]; rfl
          clear hu hv
          go_wp2
          clear g0 g1 g2 g3 g4 g5 g6 g7 g8 h0 h1 h2 h3 h4 h5 h6 h7 h8 p0 p1 p2 p3 p4 p5 p6
          go_roundw
          case rel => exact ⟨k + 1, ne, ce, E', by omega, by go_num, by omega, by rw [cpT_no ec]; exact ownE, neE, ownD, bx_g, bx_h, bx_r, bx_p, kw⟩
          case measure => simp [intOf]; omega
        · have hk9 : k = 9 := by omega
          subst hk9
          obtain ⟨p0, p1, p2, p3, p4, p5, p6⟩ := BoxN.at3 bx_p
          obtain ⟨r0, r1, r2, r3, r4, r5, r6⟩ := BoxN.at3 bx_r
          have br := ((bx_r.set 0 (.int .i64 (max x x2)) (by simp)).set 1 (.slice A' 3 c') (by simp)).set 2 (.slice E' ne ce) (by simp)
          obtain ⟨z0, z1, z2, _⟩ := BoxN.at3 br
          have lS : w.heap.size ≤ w.heap.size + 2 := by omega
          have lT : w.heap.size + 2 < w.heap.size + 3 := by omega
          have OD := Lib.hid (own_monoG (own_set (i := 2) (own_set (i := 1) (own_set (i := 0) ownD lT (.int .i64 (max x x2))) lT (.slice A' 3 c')) lT (.slice E' ne ce)) (show w.heap.size ≤ w.heap.size + 3 by omega))
          have OE := Lib.hid (own_monoG (own_set (i := 2) (own_set (i := 1) (own_set (i := 0) ownE lT (.int .i64 (max x x2))) lT (.slice A' 3 c')) lT (.slice E' ne ce)) (show w.heap.size ≤ w.heap.size + 3 by omega))
          have KW := Lib.hid (kset (i := 2) (kset (i := 1) (kset (i := 0) kw lS (.int .i64 (max x x2))) lS (.slice A' 3 c')) lS (.slice E' ne ce))
          have NE := Lib.hid neE
          have LN := Lib.hid (show (cpT u u2 9).length = ne by have := ownE.1; simpa using this)
          clear ownD ownE kw br neE neD ltE ltD
          go_wp2
          refine bodyPost_ret (by simp [results, Try.results34, go_sem, z0, z1, z2]; try rfl) rfl ?_
          exact ⟨A', 3, c', E', ne, ce, rfl, zip_len mxF L1.out L2.out, LN.out, OD.out, OE.out, fun i j hi hj => (NE.out j hj).2 i hi, KW.out⟩
end C
end Go.Proofs.Ytapjlbcpfemeiaa

/-
  Contracts of the generators of guards. Conditions: a position below some hundred thousands.
-/
import Derived.Test.YtapjlbcpfemeiaaGuardX
import Derived.Test.YtapjlbcpfemeiaaDrawS
namespace Go.Proofs.Ytapjlbcpfemeiaa
open Go.RowKit
namespace C

theorem Rdr.grownG {w w' : World} {B g p : Nat} {row : Option Nat} (h : Rdr w B g p) (_hB : B ≤ w.heap.size) (k : w.grownBy w' row) (h1 : row ≠ some g) (h2 : ∀ i, row = some i → B ≤ i) : Rdr w' B g p := by
  have hl := h.lt
  obtain ⟨h0, A, m, c, zs, hg, hr, hm, hz⟩ := h
  exact ⟨h0, A, m, c, zs, (k.block g hl (fun e => h1 e.symm)).trans hg, hr.keep (fun a ha => World.cell?_of_block (k.block a.block (by omega) (fun e => by have := h2 _ e.symm; omega))), hm, hz⟩
theorem rdr_set {w : World} {B g p b i : Nat} (h : Rdr w B g p) (hb : b ≠ g) (hB : B ≤ b) (u : Value) : Rdr (w.setCell ⟨b, i, none⟩ u) B g p := by
  have k : Below b w (w.setCell ⟨b, i, none⟩ u) := (Below.refl b w).setCell (p := ⟨b, i, none⟩) (Nat.le_refl _) u
  obtain ⟨h1, A, m, c, zs, hg, hr, hm, hz⟩ := h
  refine ⟨h1, A, m, c, zs, ?_, hr.below (k.mono hB), hm, hz⟩
  rw [Below.heap_setCell _ _ _ _ (fun e => hb e.symm)]
  exact hg
theorem but_set {w w' : World} {g b i : Nat} (k : K.But g w w') (hb : w.heap.size ≤ b) (u : Value) : K.But g w (w'.setCell ⟨b, i, none⟩ u) := k.setCell (.inr hb) u
/-- A number has been picked out of a list. -/
def Picked1 (w : World) (B g p : Nat) (e : Ending) (w' : World) : Prop := ∃ x : Int, e = .returned (.int .i64 x) ∧ Rdr w' B g (p + 1) ∧ K.But g w w'
/-- A list of three numbers lies in this block, which is not below lo. -/
def L3 (lo : Nat) (w : World) (b : Nat) : Prop := lo ≤ b ∧ ∃ zs : List Int, zs.length = 3 ∧ w.heap[b]? = some (.cells (zs.map (Value.int .i64)).toArray 3 (0, 0))
theorem L3.top (lo : Nat) (w : World) (cs : Array Value) (b : Nat) (hb : b = w.heap.size) (hlo : lo ≤ b) (hq : nums (fun _ => true) cs = true) (hl : cs.size = 3) : L3 lo (w.alloc (.cells cs 3)) b := by
  obtain ⟨zs, hzs, _⟩ := nums_map hq
  refine ⟨hlo, zs, ?_, ?_⟩
  · have := congrArg List.length hzs; simp at this; omega
  · subst hb
    rw [heap_alloc_new]
    congr
    exact Array.ext' (by simpa using hzs)
theorem L3.lt {lo : Nat} {w : World} {b : Nat} (h : L3 lo w b) : b < w.heap.size := by
  obtain ⟨_, zs, _, h⟩ := h
  exact (Array.getElem?_eq_some_iff.1 h).1
theorem L3.keepA {lo : Nat} {w : World} {b : Nat} (h : L3 lo w b) (o : Obj) : L3 lo (w.alloc o) b := by
  have hl := h.lt
  obtain ⟨h0, zs, h1, h2⟩ := h
  exact ⟨h0, zs, h1, (Below.heap_alloc w o b hl).trans h2⟩
theorem L3.but {lo g : Nat} {w w' : World} {b : Nat} (h : L3 lo w b) (k : K.But g w w') (hg : g < lo) : L3 lo w' b := by
  have hl := h.lt
  obtain ⟨h0, zs, h1, h2⟩ := h
  exact ⟨h0, zs, h1, (k.block b hl (by simp; omega)).trans h2⟩
theorem one_g (w : World) (lo B g p b : Nat) (hp : p ≤ 1000000) (h0 : Rdr w B g p) (hL : L3 lo w b) (hg : g < lo) : Calls Try.prog 47 #[.pointer (some ⟨g, 0, none⟩), .slice (some ⟨b, 0, none⟩) 3 3] w (Picked1 w B g p) := by
  obtain ⟨h1, zs, h2, h3⟩ := hL
  exact (one_c w B g p b 3 zs hp h0 (by omega) h2 (by omega) h3).mono fun e w' h => by
    obtain ⟨x, hx, _, hr, hb⟩ := h
    exact ⟨x, hx, hr, hb⟩
theorem one_at (E w : World) (lo B g p b b' : Nat) (hE : w = E) (hb : b' = b) (hp : p ≤ 1000000) (h0 : Rdr E B g p) (hL : L3 lo E b) (hg : g < lo) : Calls Try.prog 47 #[.pointer (some ⟨g, 0, none⟩), .slice (some ⟨b', 0, none⟩) 3 3] w (Picked1 E B g p) := by
  subst hE hb
  exact one_g _ lo B g p _ hp h0 hL hg
theorem pick_at (n : Int) (E w : World) (B g p : Nat) (hE : w = E) (hp : p ≤ 1000000) (h0 : Rdr E B g p) : Calls Try.prog 45 #[.pointer (some ⟨g, 0, none⟩), .int .i64 n] w (Picked n E B g p) := by
  subst hE
  exact pick_c n _ B g p hp h0
theorem dA1 (w : World) (o : Obj) : (w.alloc o).drew = w.drew.alloc o := rfl
theorem dA2 (w : World) (o o' : Obj) : ((w.alloc o).alloc o').drew = (w.drew.alloc o).alloc o' := rfl
theorem dA3 (w : World) (o o' : Obj) : (w.alloc o).drew.alloc o' = (w.drew.alloc o).alloc o' := rfl
theorem glue {g : Nat} {w0 a b c : World} (_h : K.But g w0 a) (k : K.But g b c) (e : K.Kept a b) : K.But g a c := K.But.trans (K.But.of_kept e) k
theorem own_sne {T : TypeId} {size : Nat} {w : World} {base b n i : Nat} {v : Value} {xs : List Value} (h : w.ownsRow base T size v n xs) (hne : v.ownBlock ≠ some b) (x : Value) : (w.setCell ⟨b, i, none⟩ x).ownsRow base T size v n xs := by
  have k : K.But b w (w.setCell ⟨b, i, none⟩ x) := (K.But.refl _ _).setCell (p := ⟨b, i, none⟩) (.inl rfl) _
  exact h.kept k (.inr fun e => hne e)
theorem BoxN.sets {w : World} {b b' i : Nat} {vs : List Value} (h : BoxN w b vs) (hne : b' ≠ b) (u : Value) : BoxN (w.setCell ⟨b', i, none⟩ u) b vs := h.far hne u
theorem gset {T : TypeId} {w wz : World} {B g p s r n c k : Nat} {l : List (Int × Int)} {vs : List Value} (ha : wz.ownsRow (s + 1) T 2 (.slice (some ⟨r, 0, none⟩) n c) n (K.prs l)) (hr : Rdr wz B g p) (hb : K.But g w wz) (hx : BoxN wz s vs) (hg : r ≠ g) (hB : B ≤ r) (hw : w.heap.size ≤ r) (hs : r ≠ s) (x y : Int) :
    ((wz.setCell ⟨r, k * 2, none⟩ (.int .i64 x)).setCell ⟨r, k * 2 + 1, none⟩ (.int .i64 y)).ownsRow (s + 1) T 2 (.slice (some ⟨r, 0, none⟩) n c) n (K.prs (l.set k (x, y))) ∧ Rdr ((wz.setCell ⟨r, k * 2, none⟩ (.int .i64 x)).setCell ⟨r, k * 2 + 1, none⟩ (.int .i64 y)) B g p ∧ K.But g w ((wz.setCell ⟨r, k * 2, none⟩ (.int .i64 x)).setCell ⟨r, k * 2 + 1, none⟩ (.int .i64 y)) ∧ BoxN ((wz.setCell ⟨r, k * 2, none⟩ (.int .i64 x)).setCell ⟨r, k * 2 + 1, none⟩ (.int .i64 y)) s vs :=
  ⟨by
    have s1 := ha.stored (k * 2) (.int .i64 x)
    have s2 := s1.1.stored (k * 2 + 1) (.int .i64 y)
    have e := prs_set l k (x, y)
    simp only at e
    rw [e] at s2
    exact s2.1, rdr_set (rdr_set hr hg hB _) hg hB _, but_set (but_set hb hw _) hw _, (hx.far hs _).far hs _⟩
theorem gfin {T : TypeId} {w wz : World} {B g p s n : Nat} {v : Value} {xs vs : List Value} (ha : wz.ownsRow (s + 1) T 2 v n xs) (hr : Rdr wz B g p) (hb : K.But g w wz) (hx : BoxN wz s vs) (hl : vs.length = 4) (hg : s ≠ g) (hB : B ≤ s) (hw : w.heap.size ≤ s) (a b c d : Value) :
    ((((wz.setCell ⟨s, 0, none⟩ a).setCell ⟨s, 1, none⟩ b).setCell ⟨s, 2, none⟩ c).setCell ⟨s, 3, none⟩ d).ownsRow s T 2 v n xs ∧ Rdr ((((wz.setCell ⟨s, 0, none⟩ a).setCell ⟨s, 1, none⟩ b).setCell ⟨s, 2, none⟩ c).setCell ⟨s, 3, none⟩ d) B g p ∧ K.But g w ((((wz.setCell ⟨s, 0, none⟩ a).setCell ⟨s, 1, none⟩ b).setCell ⟨s, 2, none⟩ c).setCell ⟨s, 3, none⟩ d) ∧ BoxN ((((wz.setCell ⟨s, 0, none⟩ a).setCell ⟨s, 1, none⟩ b).setCell ⟨s, 2, none⟩ c).setCell ⟨s, 3, none⟩ d) s [a, b, c, d] := by
  refine ⟨own_monoG (own_set (own_set (own_set (own_set ha (Nat.lt_succ_self _) a) (Nat.lt_succ_self _) b) (Nat.lt_succ_self _) c) (Nat.lt_succ_self _) d) (Nat.le_succ _), rdr_set (rdr_set (rdr_set (rdr_set hr hg hB a) hg hB b) hg hB c) hg hB d, but_set (but_set (but_set (but_set hb hw a) hw b) hw c) hw d, ?_⟩
  match vs, hl with
  | [_, _, _, _], _ => exact (((hx.set 0 a (by simp)).set 1 b (by simp)).set 2 c (by simp)).set 3 d (by simp)
theorem two_stored {T : TypeId} {w : World} {base g n c k : Nat} {l : List (Int × Int)} (h : w.ownsRow base T 2 (.slice (some ⟨g, 0, none⟩) n c) n (K.prs l)) (x y : Int) : ((w.setCell ⟨g, k * 2, none⟩ (.int .i64 x)).setCell ⟨g, k * 2 + 1, none⟩ (.int .i64 y)).ownsRow base T 2 (.slice (some ⟨g, 0, none⟩) n c) n (K.prs (l.set k (x, y))) := by
  have s1 := h.stored (k * 2) (.int .i64 x)
  have s2 := s1.1.stored (k * 2 + 1) (.int .i64 y)
  have e := prs_set l k (x, y)
  simp only at e
  rw [e] at s2
  exact s2.1
/-- A guard has been drawn: some guard, its list of n spans in memory of the call's own. -/
def GuardD (T : TypeId) (n0 : Nat) (j : Nat) (w : World) (B g p : Nat) (e : Ending) (w' : World) : Prop := ∃ (x y u : Int) (A : Option Addr) (n c : Nat) (l : List (Int × Int)) (q : Nat), e = .returned (.agg #[.int .i64 x, .int .i64 y, .slice A n c, .int .i64 u]) ∧ (3 ≤ n ∧ n ≤ n0) ∧ (-1 ≤ x ∧ x ≤ 2000000) ∧ w'.ownsRow w.heap.size T 2 (.slice A n c) n (K.prs l) ∧ Rdr w' B g q ∧ q ≤ p + j ∧ K.But g w w'
set_option maxRecDepth 100000 in
set_option maxHeartbeats 1000000 in
theorem all_c (w : World) : Calls Try.prog 93 #[] w fun e w' => e = .returned (.agg #[.int .i64 0, .int .i64 1000000]) ∧ K.Kept w w' := by
  have b0 := Box2.new w (.int .i64 0) (.int .i64 0) 24
  have kw := kp1 w (.cells #[.int .i64 0, .int .i64 0] 24)
  generalize hw0 : w.alloc (.cells #[.int .i64 0, .int .i64 0] 24) = w0 at b0 kw
  have r0 := b0.put0
  have r1 := b0.put1
  obtain ⟨c0, c1, f0, f1, n0⟩ := b0
  go_enter Try.func93, Try.ntmps93
  go_wp2
  refine bodyPost_ret (by simp [results, Try.results93, go_sem, r0, r1]; try rfl) rfl ?_
  exact ⟨rfl, kset (kset kw (Nat.le_refl _) _) (Nat.le_refl _) _⟩
set_option maxRecDepth 100000 in
set_option maxHeartbeats 4000000 in
theorem someGuard_c (w : World) (B g p : Nat) (hp : p ≤ 700000) (hB : B ≤ w.heap.size) (h0 : Rdr w B g p) : Calls Try.prog 80 #[.pointer (some ⟨g, 0, none⟩)] w (GuardD 24 3 6 w B g p) := by
  have bx_r : BoxN (w.alloc (.cells #[.int .i64 0, .int .i64 0, .slice none 0 0, .int .i64 0] 27)) w.heap.size (#[.int .i64 0, .int .i64 0, .slice none 0 0, .int .i64 0] : Array Value).toList := BoxN.new w _ _
  have kw := kp1 w (.cells #[.int .i64 0, .int .i64 0, .slice none 0 0, .int .i64 0] 27)
  generalize hww0 : w.alloc (.cells #[.int .i64 0, .int .i64 0, .slice none 0 0, .int .i64 0] 27) = w0 at bx_r kw
  have hgl := h0.lt
  go_enter Try.func80, Try.ntmps80
  go_wp2_with fail
  refine (all_c _).mono ?_
  rintro e w1 ⟨rfl, kk⟩
  replace bx_r := bx_r.kept kk
  replace kw := K.Kept.trans kw kk
  clear kk
  go_wp2_with fail
  refine (all_c _).mono ?_
  rintro e w2 ⟨rfl, kk⟩
  replace bx_r := bx_r.kept kk
  replace kw := K.Kept.trans kw kk
  clear kk
  go_wp2_with fail
  refine (all_c _).mono ?_
  rintro e w3 ⟨rfl, kk⟩
  replace bx_r := bx_r.kept kk
  replace kw := K.Kept.trans kw kk
  clear kk
  go_wp2_with fail
  refine (all_c _).mono ?_
  rintro e w4 ⟨rfl, kk⟩
  replace bx_r := bx_r.kept kk
  replace kw := K.Kept.trans kw kk
  clear kk
  have z4 := bx_r.1
  have owna : (w4.alloc (.cells #[.int .i64 0, .int .i64 1000000, .int .i64 0, .int .i64 1000000, .int .i64 0, .int .i64 1000000] 24)).ownsRow w4.heap.size 24 2 (.slice (some ⟨w4.heap.size, 0, none⟩) 3 3) 3 (K.prs [((0 : Int), (1000000 : Int)), (0, 1000000), (0, 1000000)]) := World.ownsRow_lit w4 #[.int .i64 0, .int .i64 1000000, .int .i64 0, .int .i64 1000000, .int .i64 0, .int .i64 1000000] 3 (Nat.le_refl _) (by unfold maxLen; omega) rfl
  replace owna := own_monoG (K.own_kept owna (kp1 _ (.cells #[.int .i64 0, .int .i64 1000000, .slice (some ⟨w4.heap.size, 0, none⟩) 3 3, .int .i64 0] 27))) (show w.heap.size + 1 ≤ w4.heap.size by omega)
  have bx_v : BoxN ((w4.alloc (.cells #[.int .i64 0, .int .i64 1000000, .int .i64 0, .int .i64 1000000, .int .i64 0, .int .i64 1000000] 24)).alloc (.cells #[.int .i64 0, .int .i64 1000000, .slice (some ⟨w4.heap.size, 0, none⟩) 3 3, .int .i64 0] 27)) (w4.heap.size + 1) (#[.int .i64 0, .int .i64 1000000, .slice (some ⟨w4.heap.size, 0, none⟩) 3 3, .int .i64 0] : Array Value).toList := by have q := BoxN.new (w4.alloc (.cells #[.int .i64 0, .int .i64 1000000, .int .i64 0, .int .i64 1000000, .int .i64 0, .int .i64 1000000] 24)) #[.int .i64 0, .int .i64 1000000, .slice (some ⟨w4.heap.size, 0, none⟩) 3 3, .int .i64 0] 27; rwa [show (w4.alloc (.cells #[.int .i64 0, .int .i64 1000000, .int .i64 0, .int .i64 1000000, .int .i64 0, .int .i64 1000000] 24)).heap.size = w4.heap.size + 1 by simp] at q
  have k6 : K.Kept w4 ((w4.alloc (.cells #[.int .i64 0, .int .i64 1000000, .int .i64 0, .int .i64 1000000, .int .i64 0, .int .i64 1000000] 24)).alloc (.cells #[.int .i64 0, .int .i64 1000000, .slice (some ⟨w4.heap.size, 0, none⟩) 3 3, .int .i64 0] 27)) := K.Kept.trans (kp1 _ _) (kp1 _ _)
  replace bx_r := bx_r.kept k6
  replace kw := K.Kept.trans kw k6
  generalize hw6 : ((w4.alloc (.cells #[.int .i64 0, .int .i64 1000000, .int .i64 0, .int .i64 1000000, .int .i64 0, .int .i64 1000000] 24)).alloc (.cells #[.int .i64 0, .int .i64 1000000, .slice (some ⟨w4.heap.size, 0, none⟩) 3 3, .int .i64 0] 27)) = w6 at owna bx_v bx_r kw
  clear k6 hww0
  have lta := owna.lt
  have nva : ∀ i, (Value.slice (some ⟨w4.heap.size, 0, none⟩) 3 3).ownBlock = some i → i ≠ w4.heap.size + 1 := fun i hi => by simp [Value.ownBlock] at hi; omega
  have lrb := lta w4.heap.size rfl
  have zv := bx_v.1
  have rr := h0.kept kw
  have bw : K.But g w w6 := K.But.of_kept kw
  clear h0 kw
  obtain ⟨v0, v1, v2, v3, v4, v5, v6, v7, v8⟩ := BoxN.at4 bx_v
  obtain ⟨r0, r1, r2, r3, r4, r5, r6, r7, r8⟩ := BoxN.at4 bx_r
  replace owna := own_sne (i := 3) owna (fun e => nva _ e rfl) (.int .i64 0)
  replace rr := rdr_set (i := 3) rr (show w4.heap.size + 1 ≠ g by omega) (by omega) (.int .i64 0)
  replace bw := but_set (i := 3) bw (show w.heap.size ≤ w4.heap.size + 1 by omega) (.int .i64 0)
  replace bx_r := BoxN.sets (i := 3) bx_r (show w4.heap.size + 1 ≠ w.heap.size by omega) (.int .i64 0)
  replace bx_v := BoxN.set bx_v 3 (.int .i64 0) (by simp)
  go_wp2_with fail
  refine (pick_c _ _ B g _ (by omega) rr).mono ?_
  rintro e wq ⟨u, rfl, hu, rn, bb⟩
  clear v0 v1 v2 v3 v4 v5 v6 v7 v8 r0 r1 r2 r3 r4 r5 r6 r7 r8
  replace owna := owna.kept bb (.inr (fun e => by have := lta g e; omega))
  replace bx_r := BoxN.but bx_r bb (by omega)
  replace bx_v := BoxN.but bx_v bb (by omega)
  replace bw := K.But.trans bw bb
  have zb := bb.size
  clear bb rr
  have rr := rn
  clear rn
  have hu_0 := hu.1
  have hu_1 := hu.2.1 (by omega)
  clear hu
  clear hw6
  by_cases hu0 : u = 0
  · subst hu0
    obtain ⟨v0, v1, v2, v3, v4, v5, v6, v7, v8⟩ := BoxN.at4 bx_v
    obtain ⟨r0, r1, r2, r3, r4, r5, r6, r7, r8⟩ := BoxN.at4 bx_r
    go_wp2_with fail
    refine (one_new (fun x => decide (0 ≤ x ∧ x ≤ 2000)) _ B g _ 4 _ (by omega) rr (by omega) rfl rfl).mono ?_
    rintro e wq ⟨x, rfl, hx, rn, bb⟩
    clear v0 v1 v2 v3 v4 v5 v6 v7 v8 r0 r1 r2 r3 r4 r5 r6 r7 r8
    replace owna := owna.kept bb (.inr (fun e => by have := lta g e; omega))
    replace bx_r := BoxN.but bx_r bb (by omega)
    replace bx_v := BoxN.but bx_v bb (by omega)
    replace bw := K.But.trans bw bb
    have zb := bb.size
    clear bb rr
    have rr := rn
    clear rn
    replace hx := of_decide_eq_true hx
    obtain ⟨v0, v1, v2, v3, v4, v5, v6, v7, v8⟩ := BoxN.at4 bx_v
    obtain ⟨r0, r1, r2, r3, r4, r5, r6, r7, r8⟩ := BoxN.at4 bx_r
    replace owna := own_sne (i := 0) owna (fun e => nva _ e rfl) (.int .i64 x)
    replace rr := rdr_set (i := 0) rr (show w4.heap.size + 1 ≠ g by omega) (by omega) (.int .i64 x)
    replace bw := but_set (i := 0) bw (show w.heap.size ≤ w4.heap.size + 1 by omega) (.int .i64 x)
    replace bx_r := BoxN.sets (i := 0) bx_r (show w4.heap.size + 1 ≠ w.heap.size by omega) (.int .i64 x)
    replace bx_v := BoxN.set bx_v 0 (.int .i64 x) (by simp)
    replace owna := own_sne (i := 1) owna (fun e => nva _ e rfl) (.int .i64 1000000)
    replace rr := rdr_set (i := 1) rr (show w4.heap.size + 1 ≠ g by omega) (by omega) (.int .i64 1000000)
    replace bw := but_set (i := 1) bw (show w.heap.size ≤ w4.heap.size + 1 by omega) (.int .i64 1000000)
    replace bx_r := BoxN.sets (i := 1) bx_r (show w4.heap.size + 1 ≠ w.heap.size by omega) (.int .i64 1000000)
    replace bx_v := BoxN.set bx_v 1 (.int .i64 1000000) (by simp)
    replace rr := rdr_set (i := 0) rr (show w.heap.size ≠ g by omega) (by omega) (.int .i64 (x))
    replace bw := but_set (i := 0) bw (Nat.le_refl _) (.int .i64 (x))
    replace owna := own_set (i := 0) owna (show w.heap.size < w.heap.size + 1 by omega) (.int .i64 (x))
    replace bx_r := BoxN.set bx_r 0 (.int .i64 (x)) (by simp)
    replace rr := rdr_set (i := 1) rr (show w.heap.size ≠ g by omega) (by omega) (.int .i64 (1000000))
    replace bw := but_set (i := 1) bw (Nat.le_refl _) (.int .i64 (1000000))
    replace owna := own_set (i := 1) owna (show w.heap.size < w.heap.size + 1 by omega) (.int .i64 (1000000))
    replace bx_r := BoxN.set bx_r 1 (.int .i64 (1000000)) (by simp)
    replace rr := rdr_set (i := 2) rr (show w.heap.size ≠ g by omega) (by omega) (.slice (some ⟨w4.heap.size, 0, none⟩) 3 3)
    replace bw := but_set (i := 2) bw (Nat.le_refl _) (.slice (some ⟨w4.heap.size, 0, none⟩) 3 3)
    replace owna := own_set (i := 2) owna (show w.heap.size < w.heap.size + 1 by omega) (.slice (some ⟨w4.heap.size, 0, none⟩) 3 3)
    replace bx_r := BoxN.set bx_r 2 (.slice (some ⟨w4.heap.size, 0, none⟩) 3 3) (by simp)
    replace rr := rdr_set (i := 3) rr (show w.heap.size ≠ g by omega) (by omega) (.int .i64 (0))
    replace bw := but_set (i := 3) bw (Nat.le_refl _) (.int .i64 (0))
    replace owna := own_set (i := 3) owna (show w.heap.size < w.heap.size + 1 by omega) (.int .i64 (0))
    replace bx_r := BoxN.set bx_r 3 (.int .i64 (0)) (by simp)
    obtain ⟨z0, z1, z2, z3, _⟩ := BoxN.at4 bx_r
    have HA := Lib.hid (own_monoG owna (Nat.le_succ _))
    have HR := Lib.hid rr
    have HB := Lib.hid bw
    clear owna rr bw bx_r bx_v
    go_wp2
    refine bodyPost_ret (by simp [results, Try.results80, go_sem, z0, z1, z2, z3]; try rfl) rfl ?_
    exact ⟨_, _, _, _, _, _, _, _, rfl, by omega, by omega, HA.out, HR.out, by omega, HB.out⟩
  have e0 : (u == 0) = false := by simp [hu0]
  by_cases hu1 : u = 1
  · subst hu1
    obtain ⟨v0, v1, v2, v3, v4, v5, v6, v7, v8⟩ := BoxN.at4 bx_v
    obtain ⟨r0, r1, r2, r3, r4, r5, r6, r7, r8⟩ := BoxN.at4 bx_r
    go_wp2_with fail
    replace rr := rr.kept (kdrew _)
    replace owna := K.own_kept owna (kdrew _)
    replace bx_r := bx_r.kept (kdrew _)
    replace bx_v := bx_v.kept (kdrew _)
    replace bw := K.But.trans bw (K.But.of_kept (kdrew _))
    go_region_held3 (fun w' => w'.cell? ⟨w4.heap.size + 1, 2, none⟩ = some (.slice (some ⟨w4.heap.size, 0, none⟩) 3 3)) (first | exact v2 | go_keep) (first | (go_at_call 45; refine (pick_at _ wq.drew _ B g _ (by first | with_reducible rfl | with_reducible exact dA1 _ _ | with_reducible exact dA2 _ _ _ | with_reducible exact dA3 _ _ _) (by omega) (rr.kept (K.Kept.refl _))).mono ?_; rintro e wp ⟨k0, rfl, hk0, rn, b0⟩; obtain ⟨k, rfl⟩ := Int.eq_ofNat_of_zero_le hk0.1; have hk : k < 3 := (by have := hk0.2.1 (by omega); omega); have hki : (k : Int) < 3 := (by omega); have bb := K.But.trans (K.But.of_kept (K.Kept.refl _)) b0; clear v0 v1 v2 v3 v4 v5 v6 v7 v8 r0 r1 r2 r3 r4 r5 r6 r7 r8; replace owna := owna.kept bb (.inr (fun e => by have := lta g e; omega)); replace bx_r := BoxN.but bx_r bb (by omega); replace bx_v := BoxN.but bx_v bb (by omega); replace bw := K.But.trans bw bb; have zb := bb.size; clear bb rr; have rr := rn; clear rn; obtain ⟨v0, v1, v2, v3, v4, v5, v6, v7, v8⟩ := BoxN.at4 bx_v; obtain ⟨r0, r1, r2, r3, r4, r5, r6, r7, r8⟩ := BoxN.at4 bx_r) | (go_at_call 45; refine (pick_at _ (wq.drew.alloc (.cells #[.int .i64 1, .int .i64 2, .int .i64 3] 3)) _ B g _ (by first | with_reducible rfl | with_reducible exact dA1 _ _ | with_reducible exact dA2 _ _ _ | with_reducible exact dA3 _ _ _) (by omega) (rr.kept (kp1 _ _))).mono ?_; rintro e wp ⟨k0, rfl, hk0, rn, b0⟩; obtain ⟨k, rfl⟩ := Int.eq_ofNat_of_zero_le hk0.1; have hk : k < 3 := (by have := hk0.2.1 (by omega); omega); have hki : (k : Int) < 3 := (by omega); have bb := K.But.trans (K.But.of_kept (kp1 _ _)) b0; have l1 := L3.but (L3.top w.heap.size _ #[.int .i64 1, .int .i64 2, .int .i64 3] (wq.heap.size) (by simp) (by have := bw.size; have dz : wq.drew.heap.size = wq.heap.size := rfl; first | omega | (simp; omega)) rfl rfl) b0 hgl; clear v0 v1 v2 v3 v4 v5 v6 v7 v8 r0 r1 r2 r3 r4 r5 r6 r7 r8; replace owna := owna.kept bb (.inr (fun e => by have := lta g e; omega)); replace bx_r := BoxN.but bx_r bb (by omega); replace bx_v := BoxN.but bx_v bb (by omega); replace bw := K.But.trans bw bb; have zb := bb.size; clear bb rr; have rr := rn; clear rn; obtain ⟨v0, v1, v2, v3, v4, v5, v6, v7, v8⟩ := BoxN.at4 bx_v; obtain ⟨r0, r1, r2, r3, r4, r5, r6, r7, r8⟩ := BoxN.at4 bx_r) | (go_at_call 45; refine (pick_at _ (wq.drew.alloc (.cells #[.int .i64 5, .int .i64 10, .int .i64 1000000] 3)) _ B g _ (by first | with_reducible rfl | with_reducible exact dA1 _ _ | with_reducible exact dA2 _ _ _ | with_reducible exact dA3 _ _ _) (by omega) (rr.kept (kp1 _ _))).mono ?_; rintro e wp ⟨k0, rfl, hk0, rn, b0⟩; obtain ⟨k, rfl⟩ := Int.eq_ofNat_of_zero_le hk0.1; have hk : k < 3 := (by have := hk0.2.1 (by omega); omega); have hki : (k : Int) < 3 := (by omega); have bb := K.But.trans (K.But.of_kept (kp1 _ _)) b0; have l2 := L3.but (L3.top w.heap.size _ #[.int .i64 5, .int .i64 10, .int .i64 1000000] (wq.heap.size) (by simp) (by have := bw.size; have dz : wq.drew.heap.size = wq.heap.size := rfl; first | omega | (simp; omega)) rfl rfl) b0 hgl; clear v0 v1 v2 v3 v4 v5 v6 v7 v8 r0 r1 r2 r3 r4 r5 r6 r7 r8; replace owna := owna.kept bb (.inr (fun e => by have := lta g e; omega)); replace bx_r := BoxN.but bx_r bb (by omega); replace bx_v := BoxN.but bx_v bb (by omega); replace bw := K.But.trans bw bb; have zb := bb.size; clear bb rr; have rr := rn; clear rn; obtain ⟨v0, v1, v2, v3, v4, v5, v6, v7, v8⟩ := BoxN.at4 bx_v; obtain ⟨r0, r1, r2, r3, r4, r5, r6, r7, r8⟩ := BoxN.at4 bx_r) | (go_at_call 45; refine (pick_at _ ((wq.drew.alloc (.cells #[.int .i64 1, .int .i64 2, .int .i64 3] 3)).alloc (.cells #[.int .i64 5, .int .i64 10, .int .i64 1000000] 3)) _ B g _ (by first | with_reducible rfl | with_reducible exact dA1 _ _ | with_reducible exact dA2 _ _ _ | with_reducible exact dA3 _ _ _) (by omega) (rr.kept (K.Kept.trans (kp1 _ _) (kp1 _ _)))).mono ?_; rintro e wp ⟨k0, rfl, hk0, rn, b0⟩; obtain ⟨k, rfl⟩ := Int.eq_ofNat_of_zero_le hk0.1; have hk : k < 3 := (by have := hk0.2.1 (by omega); omega); have hki : (k : Int) < 3 := (by omega); have bb := K.But.trans (K.But.of_kept (K.Kept.trans (kp1 _ _) (kp1 _ _))) b0; have l1 := L3.but ((L3.top w.heap.size _ #[.int .i64 1, .int .i64 2, .int .i64 3] (wq.heap.size) (by simp) (by have := bw.size; have dz : wq.drew.heap.size = wq.heap.size := rfl; first | omega | (simp; omega)) rfl rfl).keepA _) b0 hgl; have l2 := L3.but (L3.top w.heap.size _ #[.int .i64 5, .int .i64 10, .int .i64 1000000] (wq.heap.size + 1) (by simp) (by have := bw.size; have dz : wq.drew.heap.size = wq.heap.size := rfl; first | omega | (simp; omega)) rfl rfl) b0 hgl; clear v0 v1 v2 v3 v4 v5 v6 v7 v8 r0 r1 r2 r3 r4 r5 r6 r7 r8; replace owna := owna.kept bb (.inr (fun e => by have := lta g e; omega)); replace bx_r := BoxN.but bx_r bb (by omega); replace bx_v := BoxN.but bx_v bb (by omega); replace bw := K.But.trans bw bb; have zb := bb.size; clear bb rr; have rr := rn; clear rn; obtain ⟨v0, v1, v2, v3, v4, v5, v6, v7, v8⟩ := BoxN.at4 bx_v; obtain ⟨r0, r1, r2, r3, r4, r5, r6, r7, r8⟩ := BoxN.at4 bx_r) | (go_at_call 45; refine (pick_at _ ((wq.drew.alloc (.cells #[.int .i64 5, .int .i64 10, .int .i64 1000000] 3)).alloc (.cells #[.int .i64 1, .int .i64 2, .int .i64 3] 3)) _ B g _ (by first | with_reducible rfl | with_reducible exact dA1 _ _ | with_reducible exact dA2 _ _ _ | with_reducible exact dA3 _ _ _) (by omega) (rr.kept (K.Kept.trans (kp1 _ _) (kp1 _ _)))).mono ?_; rintro e wp ⟨k0, rfl, hk0, rn, b0⟩; obtain ⟨k, rfl⟩ := Int.eq_ofNat_of_zero_le hk0.1; have hk : k < 3 := (by have := hk0.2.1 (by omega); omega); have hki : (k : Int) < 3 := (by omega); have bb := K.But.trans (K.But.of_kept (K.Kept.trans (kp1 _ _) (kp1 _ _))) b0; have l2 := L3.but ((L3.top w.heap.size _ #[.int .i64 5, .int .i64 10, .int .i64 1000000] (wq.heap.size) (by simp) (by have := bw.size; have dz : wq.drew.heap.size = wq.heap.size := rfl; first | omega | (simp; omega)) rfl rfl).keepA _) b0 hgl; have l1 := L3.but (L3.top w.heap.size _ #[.int .i64 1, .int .i64 2, .int .i64 3] (wq.heap.size + 1) (by simp) (by have := bw.size; have dz : wq.drew.heap.size = wq.heap.size := rfl; first | omega | (simp; omega)) rfl rfl) b0 hgl; clear v0 v1 v2 v3 v4 v5 v6 v7 v8 r0 r1 r2 r3 r4 r5 r6 r7 r8; replace owna := owna.kept bb (.inr (fun e => by have := lta g e; omega)); replace bx_r := BoxN.but bx_r bb (by omega); replace bx_v := BoxN.but bx_v bb (by omega); replace bw := K.But.trans bw bb; have zb := bb.size; clear bb rr; have rr := rn; clear rn; obtain ⟨v0, v1, v2, v3, v4, v5, v6, v7, v8⟩ := BoxN.at4 bx_v; obtain ⟨r0, r1, r2, r3, r4, r5, r6, r7, r8⟩ := BoxN.at4 bx_r) | (go_at_call 47; refine (one_at (wp.alloc (.cells #[.int .i64 1, .int .i64 2, .int .i64 3] 3)) _ w.heap.size B g _ (wp.heap.size) _ (by with_reducible rfl) (by with_reducible rfl) (by omega) (rr.kept (kp1 _ _)) (L3.top w.heap.size _ #[.int .i64 1, .int .i64 2, .int .i64 3] (wp.heap.size) (by simp) (by have := bw.size; have dz : wq.drew.heap.size = wq.heap.size := rfl; first | omega | (simp; omega)) rfl rfl) hgl).mono ?_; rintro e wo ⟨y1, rfl, rn, b0⟩; have bb := K.But.trans (K.But.of_kept (kp1 _ _)) b0; (first | (replace l2 := L3.but (l2.keepA _) b0 hgl) | skip); clear v0 v1 v2 v3 v4 v5 v6 v7 v8 r0 r1 r2 r3 r4 r5 r6 r7 r8; replace owna := owna.kept bb (.inr (fun e => by have := lta g e; omega)); replace bx_r := BoxN.but bx_r bb (by omega); replace bx_v := BoxN.but bx_v bb (by omega); replace bw := K.But.trans bw bb; have zb := bb.size; clear bb rr; have rr := rn; clear rn; obtain ⟨v0, v1, v2, v3, v4, v5, v6, v7, v8⟩ := BoxN.at4 bx_v; obtain ⟨r0, r1, r2, r3, r4, r5, r6, r7, r8⟩ := BoxN.at4 bx_r) | (go_at_call 47; refine (one_at ((wp.alloc (.cells #[.int .i64 1, .int .i64 2, .int .i64 3] 3)).alloc (.cells #[.int .i64 5, .int .i64 10, .int .i64 1000000] 3)) _ w.heap.size B g _ (wp.heap.size) _ (by with_reducible rfl) (by with_reducible rfl) (by omega) (rr.kept (K.Kept.trans (kp1 _ _) (kp1 _ _))) ((L3.top w.heap.size _ #[.int .i64 1, .int .i64 2, .int .i64 3] (wp.heap.size) (by simp) (by have := bw.size; have dz : wq.drew.heap.size = wq.heap.size := rfl; first | omega | (simp; omega)) rfl rfl).keepA _) hgl).mono ?_; rintro e wo ⟨y1, rfl, rn, b0⟩; have bb := K.But.trans (K.But.of_kept (K.Kept.trans (kp1 _ _) (kp1 _ _))) b0; have l2 := L3.but (L3.top w.heap.size _ #[.int .i64 5, .int .i64 10, .int .i64 1000000] (wp.heap.size + 1) (by simp) (by have := bw.size; have dz : wq.drew.heap.size = wq.heap.size := rfl; first | omega | (simp; omega)) rfl rfl) b0 hgl; clear v0 v1 v2 v3 v4 v5 v6 v7 v8 r0 r1 r2 r3 r4 r5 r6 r7 r8; replace owna := owna.kept bb (.inr (fun e => by have := lta g e; omega)); replace bx_r := BoxN.but bx_r bb (by omega); replace bx_v := BoxN.but bx_v bb (by omega); replace bw := K.But.trans bw bb; have zb := bb.size; clear bb rr; have rr := rn; clear rn; obtain ⟨v0, v1, v2, v3, v4, v5, v6, v7, v8⟩ := BoxN.at4 bx_v; obtain ⟨r0, r1, r2, r3, r4, r5, r6, r7, r8⟩ := BoxN.at4 bx_r) | (go_at_call 47; refine (one_at ((wp.alloc (.cells #[.int .i64 5, .int .i64 10, .int .i64 1000000] 3)).alloc (.cells #[.int .i64 1, .int .i64 2, .int .i64 3] 3)) _ w.heap.size B g _ (wp.heap.size + 1) _ (by with_reducible rfl) (by with_reducible rfl) (by omega) (rr.kept (K.Kept.trans (kp1 _ _) (kp1 _ _))) (L3.top w.heap.size _ #[.int .i64 1, .int .i64 2, .int .i64 3] (wp.heap.size + 1) (by simp) (by have := bw.size; have dz : wq.drew.heap.size = wq.heap.size := rfl; first | omega | (simp; omega)) rfl rfl) hgl).mono ?_; rintro e wo ⟨y1, rfl, rn, b0⟩; have bb := K.But.trans (K.But.of_kept (K.Kept.trans (kp1 _ _) (kp1 _ _))) b0; have l2 := L3.but ((L3.top w.heap.size _ #[.int .i64 5, .int .i64 10, .int .i64 1000000] (wp.heap.size) (by simp) (by have := bw.size; have dz : wq.drew.heap.size = wq.heap.size := rfl; first | omega | (simp; omega)) rfl rfl).keepA _) b0 hgl; clear v0 v1 v2 v3 v4 v5 v6 v7 v8 r0 r1 r2 r3 r4 r5 r6 r7 r8; replace owna := owna.kept bb (.inr (fun e => by have := lta g e; omega)); replace bx_r := BoxN.but bx_r bb (by omega); replace bx_v := BoxN.but bx_v bb (by omega); replace bw := K.But.trans bw bb; have zb := bb.size; clear bb rr; have rr := rn; clear rn; obtain ⟨v0, v1, v2, v3, v4, v5, v6, v7, v8⟩ := BoxN.at4 bx_v; obtain ⟨r0, r1, r2, r3, r4, r5, r6, r7, r8⟩ := BoxN.at4 bx_r) | (go_at_call 47; refine (one_at wp _ w.heap.size B g _ (_) _ (by with_reducible rfl) (by with_reducible rfl) (by omega) (rr.kept (K.Kept.refl _)) l1 hgl).mono ?_; rintro e wo ⟨y1, rfl, rn, b0⟩; have bb := K.But.trans (K.But.of_kept (K.Kept.refl _)) b0; (first | (replace l2 := L3.but l2 b0 hgl) | skip); clear l1; clear v0 v1 v2 v3 v4 v5 v6 v7 v8 r0 r1 r2 r3 r4 r5 r6 r7 r8; replace owna := owna.kept bb (.inr (fun e => by have := lta g e; omega)); replace bx_r := BoxN.but bx_r bb (by omega); replace bx_v := BoxN.but bx_v bb (by omega); replace bw := K.But.trans bw bb; have zb := bb.size; clear bb rr; have rr := rn; clear rn; obtain ⟨v0, v1, v2, v3, v4, v5, v6, v7, v8⟩ := BoxN.at4 bx_v; obtain ⟨r0, r1, r2, r3, r4, r5, r6, r7, r8⟩ := BoxN.at4 bx_r) | (go_at_call 47; refine (one_at (wp.alloc (.cells #[.int .i64 5, .int .i64 10, .int .i64 1000000] 3)) _ w.heap.size B g _ (_) _ (by with_reducible rfl) (by with_reducible rfl) (by omega) (rr.kept (kp1 _ _)) (l1.keepA _) hgl).mono ?_; rintro e wo ⟨y1, rfl, rn, b0⟩; have bb := K.But.trans (K.But.of_kept (kp1 _ _)) b0; have l2 := L3.but (L3.top w.heap.size _ #[.int .i64 5, .int .i64 10, .int .i64 1000000] (wp.heap.size) (by simp) (by have := bw.size; have dz : wq.drew.heap.size = wq.heap.size := rfl; first | omega | (simp; omega)) rfl rfl) b0 hgl; clear l1; clear v0 v1 v2 v3 v4 v5 v6 v7 v8 r0 r1 r2 r3 r4 r5 r6 r7 r8; replace owna := owna.kept bb (.inr (fun e => by have := lta g e; omega)); replace bx_r := BoxN.but bx_r bb (by omega); replace bx_v := BoxN.but bx_v bb (by omega); replace bw := K.But.trans bw bb; have zb := bb.size; clear bb rr; have rr := rn; clear rn; obtain ⟨v0, v1, v2, v3, v4, v5, v6, v7, v8⟩ := BoxN.at4 bx_v; obtain ⟨r0, r1, r2, r3, r4, r5, r6, r7, r8⟩ := BoxN.at4 bx_r) | (go_at_call 47; refine (one_at wo _ w.heap.size B g _ (_) _ (by with_reducible rfl) (by with_reducible rfl) (by omega) (rr.kept (K.Kept.refl _)) l2 hgl).mono ?_; rintro e wz ⟨y2, rfl, rn, b0⟩; have bb := K.But.trans (K.But.of_kept (K.Kept.refl _)) b0; clear v0 v1 v2 v3 v4 v5 v6 v7 v8 r0 r1 r2 r3 r4 r5 r6 r7 r8; replace owna := owna.kept bb (.inr (fun e => by have := lta g e; omega)); replace bx_r := BoxN.but bx_r bb (by omega); replace bx_v := BoxN.but bx_v bb (by omega); replace bw := K.But.trans bw bb; have zb := bb.size; clear bb rr; have rr := rn; clear rn; obtain ⟨v0, v1, v2, v3, v4, v5, v6, v7, v8⟩ := BoxN.at4 bx_v; obtain ⟨r0, r1, r2, r3, r4, r5, r6, r7, r8⟩ := BoxN.at4 bx_r; have p0 := K.prs_at (show ([((0 : Int), (1000000 : Int)), (0, 1000000), (0, 1000000)] : List (Int × Int))[k]? = some (([((0 : Int), (1000000 : Int)), (0, 1000000), (0, 1000000)] : List (Int × Int))[k]'hk) from List.getElem?_eq_getElem _); have d1 := owna.cellAt (k * 2) (by omega); have d2 := owna.cellAt (k * 2 + 1) (by omega); rw [p0.1] at d1; rw [p0.2] at d2; have f1 := owna.frozenAt (k * 2); have f2 := owna.frozenAt (k * 2 + 1)) | (go_at_call 47; refine (one_at (wo.alloc (.cells #[.int .i64 5, .int .i64 10, .int .i64 1000000] 3)) _ w.heap.size B g _ (wo.heap.size) _ (by with_reducible rfl) (by with_reducible rfl) (by omega) (rr.kept (kp1 _ _)) (L3.top w.heap.size _ #[.int .i64 5, .int .i64 10, .int .i64 1000000] (wo.heap.size) (by simp) (by have := bw.size; have dz : wq.drew.heap.size = wq.heap.size := rfl; first | omega | (simp; omega)) rfl rfl) hgl).mono ?_; rintro e wz ⟨y2, rfl, rn, b0⟩; have bb := K.But.trans (K.But.of_kept (kp1 _ _)) b0; clear v0 v1 v2 v3 v4 v5 v6 v7 v8 r0 r1 r2 r3 r4 r5 r6 r7 r8; replace owna := owna.kept bb (.inr (fun e => by have := lta g e; omega)); replace bx_r := BoxN.but bx_r bb (by omega); replace bx_v := BoxN.but bx_v bb (by omega); replace bw := K.But.trans bw bb; have zb := bb.size; clear bb rr; have rr := rn; clear rn; obtain ⟨v0, v1, v2, v3, v4, v5, v6, v7, v8⟩ := BoxN.at4 bx_v; obtain ⟨r0, r1, r2, r3, r4, r5, r6, r7, r8⟩ := BoxN.at4 bx_r; have p0 := K.prs_at (show ([((0 : Int), (1000000 : Int)), (0, 1000000), (0, 1000000)] : List (Int × Int))[k]? = some (([((0 : Int), (1000000 : Int)), (0, 1000000), (0, 1000000)] : List (Int × Int))[k]'hk) from List.getElem?_eq_getElem _); have d1 := owna.cellAt (k * 2) (by omega); have d2 := owna.cellAt (k * 2 + 1) (by omega); rw [p0.1] at d1; rw [p0.2] at d2; have f1 := owna.frozenAt (k * 2); have f2 := owna.frozenAt (k * 2 + 1)))
    all_goals
      replace rr := rdr_set (i := k * 2) rr (show w4.heap.size ≠ g by omega) (by omega) (.int .i64 (y1))
      replace bw := but_set (i := k * 2) bw (show w.heap.size ≤ w4.heap.size by omega) (.int .i64 (y1))
      replace bx_r := BoxN.sets (i := k * 2) bx_r (show w4.heap.size ≠ w.heap.size by omega) (.int .i64 (y1))
      replace bx_v := BoxN.sets (i := k * 2) bx_v (show w4.heap.size ≠ w4.heap.size + 1 by omega) (.int .i64 (y1))
      replace rr := rdr_set (i := k * 2 + 1) rr (show w4.heap.size ≠ g by omega) (by omega) (.int .i64 (y2))
      replace bw := but_set (i := k * 2 + 1) bw (show w.heap.size ≤ w4.heap.size by omega) (.int .i64 (y2))
      replace bx_r := BoxN.sets (i := k * 2 + 1) bx_r (show w4.heap.size ≠ w.heap.size by omega) (.int .i64 (y2))
      replace bx_v := BoxN.sets (i := k * 2 + 1) bx_v (show w4.heap.size ≠ w4.heap.size + 1 by omega) (.int .i64 (y2))
      replace owna := two_stored (k := k) owna (y1) (y2)
      replace rr := rdr_set (i := 0) rr (show w.heap.size ≠ g by omega) (by omega) (.int .i64 (0))
      replace bw := but_set (i := 0) bw (Nat.le_refl _) (.int .i64 (0))
      replace owna := own_set (i := 0) owna (show w.heap.size < w.heap.size + 1 by omega) (.int .i64 (0))
      replace bx_r := BoxN.set bx_r 0 (.int .i64 (0)) (by simp)
      replace rr := rdr_set (i := 1) rr (show w.heap.size ≠ g by omega) (by omega) (.int .i64 (1000000))
      replace bw := but_set (i := 1) bw (Nat.le_refl _) (.int .i64 (1000000))
      replace owna := own_set (i := 1) owna (show w.heap.size < w.heap.size + 1 by omega) (.int .i64 (1000000))
      replace bx_r := BoxN.set bx_r 1 (.int .i64 (1000000)) (by simp)
      replace rr := rdr_set (i := 2) rr (show w.heap.size ≠ g by omega) (by omega) (.slice (some ⟨w4.heap.size, 0, none⟩) 3 3)
      replace bw := but_set (i := 2) bw (Nat.le_refl _) (.slice (some ⟨w4.heap.size, 0, none⟩) 3 3)
      replace owna := own_set (i := 2) owna (show w.heap.size < w.heap.size + 1 by omega) (.slice (some ⟨w4.heap.size, 0, none⟩) 3 3)
      replace bx_r := BoxN.set bx_r 2 (.slice (some ⟨w4.heap.size, 0, none⟩) 3 3) (by simp)
      replace rr := rdr_set (i := 3) rr (show w.heap.size ≠ g by omega) (by omega) (.int .i64 (0))
      replace bw := but_set (i := 3) bw (Nat.le_refl _) (.int .i64 (0))
      replace owna := own_set (i := 3) owna (show w.heap.size < w.heap.size + 1 by omega) (.int .i64 (0))
      replace bx_r := BoxN.set bx_r 3 (.int .i64 (0)) (by simp)
      obtain ⟨z0, z1, z2, z3, _⟩ := BoxN.at4 bx_r
      have HA := Lib.hid (own_monoG owna (Nat.le_succ _))
      have HR := Lib.hid rr
      have HB := Lib.hid bw
      clear owna rr bw bx_r bx_v
      go_wp2
      refine bodyPost_ret (by simp [results, Try.results80, go_sem, z0, z1, z2, z3]; try rfl) rfl ?_
      exact ⟨_, _, _, _, _, _, _, _, rfl, by omega, by omega, HA.out, HR.out, by omega, HB.out⟩
  have e1 : (u == 1) = false := by simp [hu1]
  by_cases hu2 : u = 2
  · subst hu2
    obtain ⟨v0, v1, v2, v3, v4, v5, v6, v7, v8⟩ := BoxN.at4 bx_v
    obtain ⟨r0, r1, r2, r3, r4, r5, r6, r7, r8⟩ := BoxN.at4 bx_r
    go_wp2_with fail
    refine (pick_c _ _ B g _ (by omega) rr).mono ?_
    rintro e wq ⟨z, rfl, hz, rn, bb⟩
    clear v0 v1 v2 v3 v4 v5 v6 v7 v8 r0 r1 r2 r3 r4 r5 r6 r7 r8
    replace owna := owna.kept bb (.inr (fun e => by have := lta g e; omega))
    replace bx_r := BoxN.but bx_r bb (by omega)
    replace bx_v := BoxN.but bx_v bb (by omega)
    replace bw := K.But.trans bw bb
    have zb := bb.size
    clear bb rr
    have rr := rn
    clear rn
    have hz0 := hz.1
    have hz1 := hz.2.1 (by omega)
    clear hz
    have W1 : IntKind.i64.wrap (1 + z) = 1 + z := by rw [IntKind.wrap_i64]; omega
    obtain ⟨v0, v1, v2, v3, v4, v5, v6, v7, v8⟩ := BoxN.at4 bx_v
    obtain ⟨r0, r1, r2, r3, r4, r5, r6, r7, r8⟩ := BoxN.at4 bx_r
    replace owna := own_sne (i := 3) owna (fun e => nva _ e rfl) (.int .i64 (1 + z))
    replace rr := rdr_set (i := 3) rr (show w4.heap.size + 1 ≠ g by omega) (by omega) (.int .i64 (1 + z))
    replace bw := but_set (i := 3) bw (show w.heap.size ≤ w4.heap.size + 1 by omega) (.int .i64 (1 + z))
    replace bx_r := BoxN.sets (i := 3) bx_r (show w4.heap.size + 1 ≠ w.heap.size by omega) (.int .i64 (1 + z))
    replace bx_v := BoxN.set bx_v 3 (.int .i64 (1 + z)) (by simp)
    replace rr := rdr_set (i := 0) rr (show w.heap.size ≠ g by omega) (by omega) (.int .i64 (0))
    replace bw := but_set (i := 0) bw (Nat.le_refl _) (.int .i64 (0))
    replace owna := own_set (i := 0) owna (show w.heap.size < w.heap.size + 1 by omega) (.int .i64 (0))
    replace bx_r := BoxN.set bx_r 0 (.int .i64 (0)) (by simp)
    replace rr := rdr_set (i := 1) rr (show w.heap.size ≠ g by omega) (by omega) (.int .i64 (1000000))
    replace bw := but_set (i := 1) bw (Nat.le_refl _) (.int .i64 (1000000))
    replace owna := own_set (i := 1) owna (show w.heap.size < w.heap.size + 1 by omega) (.int .i64 (1000000))
    replace bx_r := BoxN.set bx_r 1 (.int .i64 (1000000)) (by simp)
    replace rr := rdr_set (i := 2) rr (show w.heap.size ≠ g by omega) (by omega) (.slice (some ⟨w4.heap.size, 0, none⟩) 3 3)
    replace bw := but_set (i := 2) bw (Nat.le_refl _) (.slice (some ⟨w4.heap.size, 0, none⟩) 3 3)
    replace owna := own_set (i := 2) owna (show w.heap.size < w.heap.size + 1 by omega) (.slice (some ⟨w4.heap.size, 0, none⟩) 3 3)
    replace bx_r := BoxN.set bx_r 2 (.slice (some ⟨w4.heap.size, 0, none⟩) 3 3) (by simp)
    replace rr := rdr_set (i := 3) rr (show w.heap.size ≠ g by omega) (by omega) (.int .i64 (1 + z))
    replace bw := but_set (i := 3) bw (Nat.le_refl _) (.int .i64 (1 + z))
    replace owna := own_set (i := 3) owna (show w.heap.size < w.heap.size + 1 by omega) (.int .i64 (1 + z))
    replace bx_r := BoxN.set bx_r 3 (.int .i64 (1 + z)) (by simp)
    obtain ⟨z0, z1, z2, z3, _⟩ := BoxN.at4 bx_r
    have HA := Lib.hid (own_monoG owna (Nat.le_succ _))
    have HR := Lib.hid rr
    have HB := Lib.hid bw
    clear owna rr bw bx_r bx_v
    go_wp2
    refine bodyPost_ret (by simp [results, Try.results80, go_sem, z0, z1, z2, z3]; try rfl) rfl ?_
    exact ⟨_, _, _, _, _, _, _, _, rfl, by omega, by omega, HA.out, HR.out, by omega, HB.out⟩
  have e2 : (u == 2) = false := by simp [hu2]
  by_cases hu3 : u = 3
  · subst hu3
    obtain ⟨v0, v1, v2, v3, v4, v5, v6, v7, v8⟩ := BoxN.at4 bx_v
    obtain ⟨r0, r1, r2, r3, r4, r5, r6, r7, r8⟩ := BoxN.at4 bx_r
    go_wp2_with fail
    refine (someSpan_c _ B g _ (by omega) rr).mono ?_
    rintro e wq ⟨x, y, q3, rfl, hxy, rn, hq3, bb⟩
    clear v0 v1 v2 v3 v4 v5 v6 v7 v8 r0 r1 r2 r3 r4 r5 r6 r7 r8
    replace owna := owna.kept bb (.inr (fun e => by have := lta g e; omega))
    replace bx_r := BoxN.but bx_r bb (by omega)
    replace bx_v := BoxN.but bx_v bb (by omega)
    replace bw := K.But.trans bw bb
    have zb := bb.size
    clear bb rr
    have rr := rn
    clear rn
    obtain ⟨v0, v1, v2, v3, v4, v5, v6, v7, v8⟩ := BoxN.at4 bx_v
    obtain ⟨r0, r1, r2, r3, r4, r5, r6, r7, r8⟩ := BoxN.at4 bx_r
    replace owna := own_sne (i := 0) owna (fun e => nva _ e rfl) (.int .i64 x)
    replace rr := rdr_set (i := 0) rr (show w4.heap.size + 1 ≠ g by omega) (by omega) (.int .i64 x)
    replace bw := but_set (i := 0) bw (show w.heap.size ≤ w4.heap.size + 1 by omega) (.int .i64 x)
    replace bx_r := BoxN.sets (i := 0) bx_r (show w4.heap.size + 1 ≠ w.heap.size by omega) (.int .i64 x)
    replace bx_v := BoxN.set bx_v 0 (.int .i64 x) (by simp)
    replace owna := own_sne (i := 1) owna (fun e => nva _ e rfl) (.int .i64 y)
    replace rr := rdr_set (i := 1) rr (show w4.heap.size + 1 ≠ g by omega) (by omega) (.int .i64 y)
    replace bw := but_set (i := 1) bw (show w.heap.size ≤ w4.heap.size + 1 by omega) (.int .i64 y)
    replace bx_r := BoxN.sets (i := 1) bx_r (show w4.heap.size + 1 ≠ w.heap.size by omega) (.int .i64 y)
    replace bx_v := BoxN.set bx_v 1 (.int .i64 y) (by simp)
    have zq : wq.heap.size ≤ ((wq.setCell ⟨w4.heap.size + 1, 0, none⟩ (.int .i64 x)).setCell ⟨w4.heap.size + 1, 1, none⟩ (.int .i64 y)).heap.size := by simp [World.setCell]
    go_wp2_with fail
    clear v0 v1 v2 v3 v4 v5 v6 v7 v8 r0 r1 r2 r3 r4 r5 r6 r7 r8
    replace rr := rr.kept (kdrew _)
    replace owna := K.own_kept owna (kdrew _)
    replace bx_r := bx_r.kept (kdrew _)
    replace bx_v := bx_v.kept (kdrew _)
    replace bw := K.But.trans bw (K.But.of_kept (kdrew _))
    obtain ⟨v0, v1, v2, v3, v4, v5, v6, v7, v8⟩ := BoxN.at4 bx_v
    obtain ⟨r0, r1, r2, r3, r4, r5, r6, r7, r8⟩ := BoxN.at4 bx_r
    go_region_held3 (fun w' => w'.cell? ⟨w4.heap.size + 1, 2, none⟩ = some (.slice (some ⟨w4.heap.size, 0, none⟩) 3 3)) (first | exact v2 | go_keep) ((go_at_call 94; refine (someSpan_c _ B g _ (by omega) rr).mono ?_; rintro e wz ⟨x4, y4, q4, rfl, hxy4, rn, hq4, bb⟩; clear v0 v1 v2 v3 v4 v5 v6 v7 v8 r0 r1 r2 r3 r4 r5 r6 r7 r8; replace owna := owna.kept bb (.inr (fun e => by have := lta g e; omega)); replace bx_r := BoxN.but bx_r bb (by omega); replace bx_v := BoxN.but bx_v bb (by omega); replace bw := K.But.trans bw bb; have zb := bb.size; clear bb rr; have rr := rn; clear rn; obtain ⟨v0, v1, v2, v3, v4, v5, v6, v7, v8⟩ := BoxN.at4 bx_v; obtain ⟨r0, r1, r2, r3, r4, r5, r6, r7, r8⟩ := BoxN.at4 bx_r; have p0 := K.prs_at (show ([((0 : Int), (1000000 : Int)), (0, 1000000), (0, 1000000)] : List (Int × Int))[0]? = some (0, 1000000) from rfl); have d1 := owna.cellAt (0 * 2) (by omega); have d2 := owna.cellAt (0 * 2 + 1) (by omega); rw [p0.1] at d1; rw [p0.2] at d2; have f1 := owna.frozenAt (0 * 2); have f2 := owna.frozenAt (0 * 2 + 1)))
    all_goals
      replace rr := rdr_set (i := 0 * 2) rr (show w4.heap.size ≠ g by omega) (by omega) (.int .i64 (x4))
      replace bw := but_set (i := 0 * 2) bw (show w.heap.size ≤ w4.heap.size by omega) (.int .i64 (x4))
      replace bx_r := BoxN.sets (i := 0 * 2) bx_r (show w4.heap.size ≠ w.heap.size by omega) (.int .i64 (x4))
      replace bx_v := BoxN.sets (i := 0 * 2) bx_v (show w4.heap.size ≠ w4.heap.size + 1 by omega) (.int .i64 (x4))
      replace rr := rdr_set (i := 0 * 2 + 1) rr (show w4.heap.size ≠ g by omega) (by omega) (.int .i64 (y4))
      replace bw := but_set (i := 0 * 2 + 1) bw (show w.heap.size ≤ w4.heap.size by omega) (.int .i64 (y4))
      replace bx_r := BoxN.sets (i := 0 * 2 + 1) bx_r (show w4.heap.size ≠ w.heap.size by omega) (.int .i64 (y4))
      replace bx_v := BoxN.sets (i := 0 * 2 + 1) bx_v (show w4.heap.size ≠ w4.heap.size + 1 by omega) (.int .i64 (y4))
      replace owna := two_stored (k := 0) owna (x4) (y4)
      replace rr := rdr_set (i := 0) rr (show w.heap.size ≠ g by omega) (by omega) (.int .i64 (x))
      replace bw := but_set (i := 0) bw (Nat.le_refl _) (.int .i64 (x))
      replace owna := own_set (i := 0) owna (show w.heap.size < w.heap.size + 1 by omega) (.int .i64 (x))
      replace bx_r := BoxN.set bx_r 0 (.int .i64 (x)) (by simp)
      replace rr := rdr_set (i := 1) rr (show w.heap.size ≠ g by omega) (by omega) (.int .i64 (y))
      replace bw := but_set (i := 1) bw (Nat.le_refl _) (.int .i64 (y))
      replace owna := own_set (i := 1) owna (show w.heap.size < w.heap.size + 1 by omega) (.int .i64 (y))
      replace bx_r := BoxN.set bx_r 1 (.int .i64 (y)) (by simp)
      replace rr := rdr_set (i := 2) rr (show w.heap.size ≠ g by omega) (by omega) (.slice (some ⟨w4.heap.size, 0, none⟩) 3 3)
      replace bw := but_set (i := 2) bw (Nat.le_refl _) (.slice (some ⟨w4.heap.size, 0, none⟩) 3 3)
      replace owna := own_set (i := 2) owna (show w.heap.size < w.heap.size + 1 by omega) (.slice (some ⟨w4.heap.size, 0, none⟩) 3 3)
      replace bx_r := BoxN.set bx_r 2 (.slice (some ⟨w4.heap.size, 0, none⟩) 3 3) (by simp)
      replace rr := rdr_set (i := 3) rr (show w.heap.size ≠ g by omega) (by omega) (.int .i64 (0))
      replace bw := but_set (i := 3) bw (Nat.le_refl _) (.int .i64 (0))
      replace owna := own_set (i := 3) owna (show w.heap.size < w.heap.size + 1 by omega) (.int .i64 (0))
      replace bx_r := BoxN.set bx_r 3 (.int .i64 (0)) (by simp)
      obtain ⟨z0, z1, z2, z3, _⟩ := BoxN.at4 bx_r
      have HA := Lib.hid (own_monoG owna (Nat.le_succ _))
      have HR := Lib.hid rr
      have HB := Lib.hid bw
      clear owna rr bw bx_r bx_v
      go_wp2
      refine bodyPost_ret (by simp [results, Try.results80, go_sem, z0, z1, z2, z3]; try rfl) rfl ?_
      exact ⟨_, _, _, _, _, _, _, _, rfl, by omega, by omega, HA.out, HR.out, by omega, HB.out⟩
  have e3 : (u == 3) = false := by simp [hu3]
  clear hu0 hu1 hu2 hu3
  obtain ⟨v0, v1, v2, v3, v4, v5, v6, v7, v8⟩ := BoxN.at4 bx_v
  obtain ⟨r0, r1, r2, r3, r4, r5, r6, r7, r8⟩ := BoxN.at4 bx_r
  replace rr := rdr_set (i := 0) rr (show w.heap.size ≠ g by omega) (by omega) (.int .i64 (0))
  replace bw := but_set (i := 0) bw (Nat.le_refl _) (.int .i64 (0))
  replace owna := own_set (i := 0) owna (show w.heap.size < w.heap.size + 1 by omega) (.int .i64 (0))
  replace bx_r := BoxN.set bx_r 0 (.int .i64 (0)) (by simp)
  replace rr := rdr_set (i := 1) rr (show w.heap.size ≠ g by omega) (by omega) (.int .i64 (1000000))
  replace bw := but_set (i := 1) bw (Nat.le_refl _) (.int .i64 (1000000))
  replace owna := own_set (i := 1) owna (show w.heap.size < w.heap.size + 1 by omega) (.int .i64 (1000000))
  replace bx_r := BoxN.set bx_r 1 (.int .i64 (1000000)) (by simp)
  replace rr := rdr_set (i := 2) rr (show w.heap.size ≠ g by omega) (by omega) (.slice (some ⟨w4.heap.size, 0, none⟩) 3 3)
  replace bw := but_set (i := 2) bw (Nat.le_refl _) (.slice (some ⟨w4.heap.size, 0, none⟩) 3 3)
  replace owna := own_set (i := 2) owna (show w.heap.size < w.heap.size + 1 by omega) (.slice (some ⟨w4.heap.size, 0, none⟩) 3 3)
  replace bx_r := BoxN.set bx_r 2 (.slice (some ⟨w4.heap.size, 0, none⟩) 3 3) (by simp)
  replace rr := rdr_set (i := 3) rr (show w.heap.size ≠ g by omega) (by omega) (.int .i64 (0))
  replace bw := but_set (i := 3) bw (Nat.le_refl _) (.int .i64 (0))
  replace owna := own_set (i := 3) owna (show w.heap.size < w.heap.size + 1 by omega) (.int .i64 (0))
  replace bx_r := BoxN.set bx_r 3 (.int .i64 (0)) (by simp)
  obtain ⟨z0, z1, z2, z3, _⟩ := BoxN.at4 bx_r
  have HA := Lib.hid (own_monoG owna (Nat.le_succ _))
  have HR := Lib.hid rr
  have HB := Lib.hid bw
  clear owna rr bw bx_r bx_v
  go_wp2
  refine bodyPost_ret (by simp [results, Try.results80, go_sem, z0, z1, z2, z3]; try rfl) rfl ?_
  exact ⟨_, _, _, _, _, _, _, _, rfl, by omega, by omega, HA.out, HR.out, by omega, HB.out⟩
end C
end Go.Proofs.Ytapjlbcpfemeiaa

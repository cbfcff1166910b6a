/-
  Contracts of the generators of lists of spans. Conditions: a position below some hundred thousands.
-/
import Derived.Test.YtoooliadnjojeaaDrawS
import Derived.Test.YtoooliadnjojeaaSpansV
namespace Go.Proofs.Ytoooliadnjojeaa
open Go.RowKit
namespace C

theorem Rdr.grown {w w' : World} {B g p : Nat} {row : Option Nat} (h : Rdr w B g p) (_hB : B ≤ w.heap.size) (k : w.grownBy w' row) (h1 : row ≠ some g) (h2 : ∀ i, row = some i → B ≤ i) : Rdr w' B g p := by
  have hl := h.lt
  obtain ⟨h0, A, m, c, zs, hg, hr, hm, hz⟩ := h
  exact ⟨h0, A, m, c, zs, (k.block g hl (fun e => h1 e.symm)).trans hg, hr.keep (fun a ha => World.cell?_of_block (k.block a.block (by omega) (fun e => by have := h2 _ e.symm; omega))), hm, hz⟩
theorem Box2.grownBut {g : Nat} {w w' : World} {b : Nat} {x y : Value} (h : Box2 w b x y) (k : K.But g w w') (hne : b ≠ g) : Box2 w' b x y := h.but k hne
/-- Spans have been drawn: some list in memory of the call's own. -/
def SpansD (T : TypeId) (w : World) (B g p : Nat) (e : Ending) (w' : World) : Prop := ∃ (A : Option Addr) (n c : Nat) (l : List (Int × Int)) (q : Nat), e = .returned (.slice A n c) ∧ n ≤ 7 ∧ w'.ownsRow w.heap.size T 2 (.slice A n c) n (K.prs l) ∧ Rdr w' B g q ∧ q ≤ p + 30 ∧ K.But g w w'
set_option maxHeartbeats 1600000 in
theorem anySpans_c (w : World) (B g p : Nat) (hp : p ≤ 700000) (hB : B ≤ w.heap.size) (h0 : Rdr w B g p) : Calls Try.prog 45 #[.pointer (some ⟨g, 0, none⟩)] w (SpansD 24 w B g p) := by
  obtain ⟨i0, hi, hz0, hz1, hz2⟩ := info_parts infoSpan
  have hgl := h0.lt
  have hnew : (w.alloc (.cells #[] 24)).ownsRow w.heap.size 24 2 (.slice (some ⟨w.heap.size, 0, none⟩) 0 0) 0 [] := World.ownsRow_lit w #[] 0 (Nat.le_refl _) (by unfold maxLen; omega) rfl
  have hk0 := kept1 w (.cells #[] 24)
  have hr0 := h0.kept hk0
  have hb0 : K.But g w (w.alloc (.cells #[] 24)) := K.But.of_kept hk0
  generalize hw0 : w.alloc (.cells #[] 24) = w0 at hnew hr0 hb0
  clear hk0
  go_enter Try.func45, Try.ntmps45
  go_wp2_with fail
  refine (pick_c _ _ B g p (by omega) hr0).mono ?_
  rintro e w1 ⟨a0, rfl, ha0, hr1, hb1⟩
  have own1 := hnew.kept hb1 (.inr (by simp [Value.ownBlock]; omega))
  have hb1 := hb0.trans hb1
  clear hnew hr0 hb0 h0
  go_wp2_with fail
  refine (one_new (fun x => decide (0 ≤ x ∧ x ≤ 7)) w1 B g _ 7 _ (by omega) hr1 (by omega) rfl rfl).mono ?_
  rintro e w2 ⟨N0, rfl, hN0, hr2, hb2⟩
  have own2 := own1.kept hb2 (.inr (by simp [Value.ownBlock]; omega))
  have hb2 := hb1.trans hb2
  have hN' := of_decide_eq_true hN0
  obtain ⟨N, rfl⟩ := Int.eq_ofNat_of_zero_le hN'.1
  have ha := ha0.2.1 (by omega)
  have ha' := ha0.1
  clear own1 hb1 hr1 hN0 ha0
  go_wp2_with fail
  go_loopw [3, 4, 5] (fun v a m wr => ∃ (N j q c : Nat) (at' : Int) (A : Option Addr) (l : List (Int × Int)), m = .int .i64 N ∧ N + j ≤ 7 ∧ q ≤ p + 2 + 2 * j ∧ a = .int .i64 at' ∧ (0 ≤ at' ∧ at' ≤ 5 + 15 * (j : Int)) ∧ v = .slice A j c ∧ wr.ownsRow w.heap.size 24 2 (.slice A j c) j (K.prs l) ∧ Rdr wr B g q ∧ K.But g w wr) (fun _ _ m _ => (intOf m).toNat)
  case atStart => exact ⟨N, 0, _, 0, a0, _, [], rfl, by omega, by omega, rfl, by omega, rfl, own2, hr2, hb2⟩
  case round =>
    clear own2 hr2 hb2 ha ha'
    obtain ⟨N, j, q, c', at', A', l, rfl, hNj, hq, rfl, hat, rfl, own, r, bw⟩ := hrel
    have z := bw.size
    have lt0 := own.lt
    by_cases hN : N = 0
    · subst hN
      by_cases hj : j = 0
      · subst hj
        go_wp2
        go_ret
        exact ⟨_, _, _, l, q, rfl, by omega, own, r, by omega, bw⟩
      · have hj1 : 1 ≤ j := by omega
        have hd : decide (0 < j) = true := by simp; omega
        go_wp2_with fail
        refine (pick_c _ _ B g q (by omega) r).mono ?_
        rintro e w3 ⟨u, rfl, hu, r3, b3⟩
        have own3 := own.kept b3 (.inr (fun e => by have := lt0 g e; omega))
        have bw3 := bw.trans b3
        have z3 := b3.size
        clear own r bw b3
        by_cases hu0 : u = 0
        · subst hu0
          clear hu
          go_wp2_with fail
          refine (pick_c _ _ B g _ (by omega) r3).mono ?_
          rintro e w4 ⟨i, rfl, hi4, r4, b4⟩
          have own4 := own3.kept b4 (.inr (fun e => by have := lt0 g e; omega))
          have bw4 := bw3.trans b4
          have z4 := b4.size
          clear own3 r3 bw3 b4
          go_wp2_with fail
          refine (anySpan_c _ B g _ (by omega) r4).mono ?_
          rintro e w5 ⟨x, y, q5, rfl, hxy, r5, hq5, b5⟩
          have own5 := own4.kept b5 (.inr (fun e => by have := lt0 g e; omega))
          have bw5 := bw4.trans b5
          have z5 := b5.size
          clear own4 r4 bw4 b5
          obtain ⟨k, rfl⟩ := Int.eq_ofNat_of_zero_le hi4.1
          have hk : k < j := by have := hi4.2.1 (by omega); omega
          obtain ⟨gg, rfl⟩ : ∃ gg, A' = some ⟨gg, 0, none⟩ := by
            rcases own5.2 with ⟨hv, h0⟩ | ⟨gg, cap, cur, hv, _⟩
            · exact absurd h0 hj
            · injection hv with h1; exact ⟨gg, h1⟩
          have hll : l.length = j := by have := own5.1; rw [K.prs_len] at this; omega
          have p0 := K.prs_at (show l[k]? = some (l[k]'(by omega)) from List.getElem?_eq_getElem _)
          have d1 := own5.cellAt (k * 2) (by omega)
          have d2 := own5.cellAt (k * 2 + 1) (by omega)
          rw [p0.1] at d1
          rw [p0.2] at d2
          have f1 := own5.frozenAt (k * 2)
          have f2 := own5.frozenAt (k * 2 + 1)
          have s1 := own5.stored (k * 2) (.int .i64 x)
          have s2 := s1.1.stored (k * 2 + 1) (.int .i64 y)
          have e := prs_set l k (x, y)
          simp only at e
          rw [e] at s2
          have lg := lt0 gg rfl
          have bS := K.But.trans s1.2 s2.2
          have r6 := Rdr.grown r5 (by omega) bS (by intro e; injection e with e; omega) (by intro i e; injection e with e; omega)
          have bw6 := bw5.grown bS (by intro i e; injection e with e; right; omega)
          have HS := Lib.hid (And.intro s2.1 (And.intro r6 bw6))
          clear own5 s1 s2 e p0 bS r6 bw6 r5 bw5 lt0
          go_wp2
          go_ret
          exact ⟨_, _, _, l.set k (x, y), q5, rfl, by omega, HS.out.1, HS.out.2.1, by omega, HS.out.2.2⟩
        · have e0 : (u == 0) = false := by simp [hu0]
          clear hu hu0
          go_wp2
          go_ret
          exact ⟨_, _, _, l, q + 1, rfl, by omega, own3, r3, by omega, bw3⟩
    · have hN1 : (1 : Int) ≤ (N : Int) := by omega
      go_wp2_with fail
      refine (pick_c _ _ B g q (by omega) r).mono ?_
      rintro e w3 ⟨u, rfl, hu, r3, b3⟩
      have own3 := own.kept b3 (.inr (fun e => by have := lt0 g e; omega))
      have bw3 := bw.trans b3
      have z3 := b3.size
      have hu1 := hu.1
      have hu2 := hu.2.1 (by omega)
      clear own r bw b3 hu
      go_wp2_with (at_builtin; refine app3 rfl _ _ 33 rfl w.heap.size 24 2 16 i0 (.agg #[.int .i64 0, .int .i64 0]) Try.underlying33 hi hz0 hz1 hz2 rfl (by decide) w3 _ j _ (by rfl) own3 _ _ (by rfl) (by first | rfl | simp) (by rfl) (by rfl) (by unfold maxLen; omega) (by omega) (by omega) ?_; intro A4 c4 w4 own4 hg4 hn4; have r4 := Rdr.grown r3 (by omega) hg4 (fun e => by have := lt0 g e; omega) (fun i e => by have := lt0 i e; omega); have bw4 := bw3.grown hg4 (fun i e => by right; have := lt0 i e; omega); have z4 := hg4.size; clear own3 r3 bw3 hg4 hn4)
      have lt4 := own4.lt
      refine (one_new (fun x => decide (0 ≤ x ∧ x ≤ 10)) w4 B g _ 4 _ (by omega) r4 (by omega) rfl rfl).mono ?_
      rintro e w5 ⟨t, rfl, ht, r5, b5⟩
      have ht' := of_decide_eq_true ht
      have own5 := own4.kept b5 (.inr (fun e => by have := lt4 g e; omega))
      have bw5 := bw4.trans b5
      have OW := Lib.hid (show w5.ownsRow w.heap.size 24 2 (.slice A4 (j + 1) c4) (j + 1) (K.prs (l ++ [(at', at' + u)])) by rw [K.prs_append]; exact own5)
      clear own4 r4 bw4 b5 ht own5 lt4
      go_wp2
      go_roundw
      case rel => exact ⟨N - 1, j + 1, q + 2, c4, _, A4, _, by go_num, by omega, by omega, rfl, by omega, rfl, OW.out, r5, bw5⟩
      case measure => simp [intOf]; omega
theorem own_monoP {w : World} {base base' : Nat} {e : TypeId} {size : Nat} {v : Value} {n : Nat} {xs : List Value} (h : w.ownsRow base e size v n xs) (hb : base' ≤ base) : w.ownsRow base' e size v n xs :=
  ⟨h.1, h.2.imp id fun ⟨g, cap, cur, a, b, c⟩ => ⟨g, cap, cur, a, Nat.le_trans hb b, c⟩⟩
theorem own_put {T : TypeId} {w : World} {base b n : Nat} {v : Value} {xs : List Value} (h : w.ownsRow base T 2 v n xs) (hb : b < base) (x y : Value) : ((w.setCell ⟨b, 0, none⟩ x).setCell ⟨b, 1, none⟩ y).ownsRow base T 2 v n xs := by
  have k : K.But b w ((w.setCell ⟨b, 0, none⟩ x).setCell ⟨b, 1, none⟩ y) := ((K.But.refl _ _).setCell (p := ⟨b, 0, none⟩) (.inl rfl) _).setCell (p := ⟨b, 1, none⟩) (.inl rfl) _
  refine h.kept k (.inr fun e => ?_)
  have := (h.lt _ e).1; omega
theorem drawValidSpans_c (w : World) (n c : Nat) (A : Option Addr) (h : Code w w.heap.size A n c) :
    Calls Try.prog 27 #[.slice A n c] w fun e w' => ∃ (A' : Option Addr) (n' c' : Nat) (l : List (Int × Int)), e = .returned (.slice A' n' c') ∧ n' ≤ 7 ∧ w'.ownsRow w.heap.size 24 2 (.slice A' n' c') n' (K.prs l) ∧ K.Kept w w' := by
  go_enter Try.func27, Try.ntmps27
  go_wp2_with fail
  refine (newReader_c w w.heap.size n c A (Nat.le_refl _) h).mono ?_
  rintro e w1 ⟨rfl, hr1, hk1⟩
  go_wp2_with fail
  refine (anySpans_c w1 _ _ 0 (by omega) hk1.size hr1).mono ?_
  rintro e w2 ⟨A', n', c', l, q, rfl, hn', own2, hr2, hq, hb2⟩
  have kw := K.But.below hk1 hb2 hk1.size (Nat.le_refl _)
  have OW := Lib.hid (own_monoP own2 hk1.size)
  clear own2 hr2 hb2 hr1 h
  go_wp2
  go_ret
  exact ⟨A', n', c', l, rfl, hn', OW.out, kw⟩
/-- A list of spans and one span have been drawn. -/
def DrawnPS (T : TypeId) (w : World) (e : Ending) (w' : World) : Prop := ∃ (A' : Option Addr) (n' c' : Nat) (l : List (Int × Int)) (x y : Int), e = .returned (.tuple #[.slice A' n' c', .agg #[.int .i64 x, .int .i64 y]]) ∧ n' ≤ 7 ∧ w'.ownsRow w.heap.size T 2 (.slice A' n' c') n' (K.prs l) ∧ (-1 ≤ x ∧ x ≤ 2000000 ∧ -1 ≤ y ∧ y ≤ 2000000) ∧ K.Kept w w'
set_option maxHeartbeats 1600000 in
theorem drawUnionSpan_c (w : World) (n c : Nat) (A : Option Addr) (h : Code w w.heap.size A n c) : Calls Try.prog 36 #[.slice A n c] w (DrawnPS 24 w) := by
  have b0 := Box2.new w (.int .i64 0) (.int .i64 0) 24
  have hk0 := kept1 w (.cells #[.int .i64 0, .int .i64 0] 24)
  have hc0 := h.kept hk0
  generalize hw0 : w.alloc (.cells #[.int .i64 0, .int .i64 0] 24) = w0 at b0 hk0 hc0
  have s0 := b0.2.2.2.2
  clear h
  go_enter Try.func36, Try.ntmps36
  go_wp2_with fail
  refine (newReader_c w0 w.heap.size n c A hk0.size hc0).mono ?_
  rintro e w1 ⟨rfl, hr1, hk1⟩
  have b1 := b0.kept hk1
  have z1 := hk1.size
  have kw1 := K.Kept.below hk0 hk1 hk0.size
  clear b0 hk1 hk0 hc0
  go_wp2_with fail
  refine (anySpans_c w1 _ _ 0 (by omega) (by omega) hr1).mono ?_
  rintro e w2 ⟨A', n', c', l, q, rfl, hn', own2, hr2, hq, hb2⟩
  have b2 := b1.but hb2 (by omega)
  have kw2 := K.But.below kw1 hb2 (by omega) (by omega)
  have s1 := hr1.lt
  have lt2 := own2.lt
  have z2 := hb2.size
  clear b1 kw1 hr1 hb2
  go_wp2_with fail
  refine (pick_c _ _ _ _ q (by omega) hr2).mono ?_
  rintro e w3 ⟨u, rfl, hu, hr3, hb3⟩
  have own3 := own2.kept hb3 (.inr (fun e => by have := lt2 _ e; omega))
  have b3 := b2.but hb3 (by omega)
  have kw3 := K.But.below kw2 hb3 (by omega) (by omega)
  have z3 := hb3.size
  clear own2 b2 kw2 hr2 hb3
  by_cases hu0 : u = 0
  · subst hu0
    clear hu
    go_wp2_with fail
    refine (anySpan_c _ _ _ _ (by omega) hr3).mono ?_
    rintro e w4 ⟨x, y, q4, rfl, hxy, hr4, hq4, hb4⟩
    have own4 := own_put (own_monoP (base' := w.heap.size + 1) (own3.kept hb4 (.inr (fun e => by have := lt2 _ e; omega))) (by omega)) (Nat.lt_succ_self _) (.int .i64 x) (.int .i64 y)
    have bb := b3.but hb4 (by omega)
    have kw4 := K.But.below kw3 hb4 (by omega) (by omega)
    have OW := Lib.hid (own_monoP own4 (Nat.le_succ _))
    have r0 := bb.put0
    have r1 := bb.put1
    obtain ⟨i0, i1, j0, j1, l0⟩ := bb
    clear own4 own3 hr3 hr4 kw3 hb4 b3
    go_wp2
    refine bodyPost_ret (by simp [results, Try.results36, go_sem, r0, r1]; try rfl) rfl ?_
    exact ⟨A', n', c', l, x, y, rfl, hn', OW.out, hxy, (kw4.setCell (p := ⟨w.heap.size, 0, none⟩) (Nat.le_refl _) _).setCell (p := ⟨w.heap.size, 1, none⟩) (Nat.le_refl _) _⟩
  · have e0 : (u == 0) = false := by simp [hu0]
    clear hu hu0
    go_wp2_with fail
    refine (pick_c _ _ _ _ _ (by omega) hr3).mono ?_
    rintro e w4 ⟨x, rfl, hx, hr4, hb4⟩
    have own4 := own3.kept hb4 (.inr (fun e => by have := lt2 _ e; omega))
    have b4 := b3.but hb4 (by omega)
    have kw4 := K.But.below kw3 hb4 (by omega) (by omega)
    have z4 := hb4.size
    have x0 := hx.1
    have x1 := hx.2.1 (by omega)
    clear own3 b3 kw3 hr3 hb4 hx
    go_wp2_with fail
    refine (pick_c _ _ _ _ _ (by omega) hr4).mono ?_
    rintro e w5 ⟨d, rfl, hd, hr5, hb5⟩
    have d0 := hd.1
    have d1 := hd.2.1 (by omega)
    have own5 := own_put (own_monoP (base' := w.heap.size + 1) (own4.kept hb5 (.inr (fun e => by have := lt2 _ e; omega))) (by omega)) (Nat.lt_succ_self _) (.int .i64 x) (.int .i64 (x + d))
    have bb := b4.but hb5 (by omega)
    have kw5 := K.But.below kw4 hb5 (by omega) (by omega)
    have OW := Lib.hid (own_monoP own5 (Nat.le_succ _))
    have r0 := bb.put0
    have r1 := bb.put1
    obtain ⟨i0, i1, j0, j1, l0⟩ := bb
    clear own5 own4 hr4 hr5 kw4 hb5 b4 hd
    go_wp2
    refine bodyPost_ret (by simp [results, Try.results36, go_sem, r0, r1]; try rfl) rfl ?_
    exact ⟨A', n', c', l, x, x + d, rfl, hn', OW.out, by omega, (kw5.setCell (p := ⟨w.heap.size, 0, none⟩) (Nat.le_refl _) _).setCell (p := ⟨w.heap.size, 1, none⟩) (Nat.le_refl _) _⟩
theorem drawWithoutSpan_c (w : World) (n c : Nat) (A : Option Addr) (h : Code w w.heap.size A n c) : Calls Try.prog 32 #[.slice A n c] w (DrawnPS 24 w) := by
  have b0 := Box2.new w (.int .i64 0) (.int .i64 0) 24
  have hk0 := kept1 w (.cells #[.int .i64 0, .int .i64 0] 24)
  have hc0 := h.kept hk0
  generalize hw0 : w.alloc (.cells #[.int .i64 0, .int .i64 0] 24) = w0 at b0 hk0 hc0
  have s0 := b0.2.2.2.2
  have hc1 : Code w0 w0.heap.size A n c := by
    obtain ⟨a1, a2, zs, a3, a4⟩ := hc0
    exact ⟨a1, a2, zs, a3.more hk0.size, a4⟩
  clear h hc0
  go_enter Try.func32, Try.ntmps32
  go_wp2_with fail
  refine (drawUnionSpan_c w0 n c A hc1).mono ?_
  rintro e w1 ⟨A', n', c', l, x, y, rfl, hn', own1, hxy, k1⟩
  have bb := b0.kept k1
  have kw := K.Kept.trans hk0 k1
  have own2 := own_put (own_monoP (base' := w.heap.size + 1) own1 (by omega)) (Nat.lt_succ_self _) (.int .i64 x) (.int .i64 y)
  have OW := Lib.hid (own_monoP own2 (Nat.le_succ _))
  have r0 := bb.put0
  have r1 := bb.put1
  obtain ⟨i0, i1, j0, j1, l0⟩ := bb
  clear own1 own2 b0 k1 hk0 hc1
  go_wp2
  refine bodyPost_ret (by simp [results, Try.results32, go_sem, r0, r1]; try rfl) rfl ?_
  exact ⟨A', n', c', l, x, y, rfl, hn', OW.out, hxy, (kw.setCell (p := ⟨w.heap.size, 0, none⟩) (Nat.le_refl _) _).setCell (p := ⟨w.heap.size, 1, none⟩) (Nat.le_refl _) _⟩
end C
end Go.Proofs.Ytoooliadnjojeaa

/-
  Contracts of WithoutSpan, of the program and of the reference: both return the same plain function. Conditions: lengths below 2^40.
-/
import Derived.Test.YtoooliadnjojeaaSpansUS
namespace Go.Proofs.Ytoooliadnjojeaa
open Go.RowKit
namespace C

/-- What WithoutSpan returns. -/
def wOk (l : List (Int × Int)) (s : Int × Int) : Bool := Plain.vSpans l && vsp s.1 s.2 && decide ((Plain.wout l s).length ≤ 6)
def wL (l : List (Int × Int)) (s : Int × Int) : List (Int × Int) := if wOk l s = true then Plain.wout l s else []
theorem wOk_no1 {l : List (Int × Int)} {s : Int × Int} (h : Plain.vSpans l = false) : wOk l s = false := by rw [wOk, h]; rfl
theorem wOk_no2 {l : List (Int × Int)} {s : Int × Int} (h : vsp s.1 s.2 = false) : wOk l s = false := by rw [wOk, h]; simp
theorem wL_no {l : List (Int × Int)} {s : Int × Int} (h : wOk l s = false) : wL l s = [] := by rw [wL, h]; rfl
theorem wL_yes {l : List (Int × Int)} {s : Int × Int} (h : wOk l s = true) : wL l s = Plain.wout l s := by rw [wL, if_pos h]
theorem wOk_eq {l : List (Int × Int)} {x y : Int} (h1 : Plain.vSpans l = true) (h2 : vsp x y = true) : wOk l (x, y) = decide ((Plain.wout l (x, y)).length ≤ 6) := by rw [wOk, h1, h2]; rfl
theorem wo_snoc {l : List (Int × Int)} {k : Nat} {x s : Int × Int} (hx : l[k]? = some x) : Plain.wout (l.take (k + 1)) s = Plain.wout (l.take k) s ++ Plain.pieces s x := by
  rw [K.take_snoc hx, Plain.wout, List.flatMap_append]; simp [Plain.wout]
section
variable {x y p q m1 m2 : Int}
theorem pc_form (hv : 0 ≤ p ∧ p ≤ 1000000 ∧ p ≤ q ∧ q ≤ 1000000) (h1 : m1 = min q (x - 1)) (h2 : m2 = max p (y + 1)) :
    Plain.pieces (x, y) (p, q) = (if p ≤ m1 then [(p, m1)] else []) ++ (if m2 ≤ q then [(m2, q)] else []) := by
  rw [← Plain.pieces_eq (s := (x, y)) (x := (p, q)) hv, h1, h2]; rfl
end
theorem pc_form2 {x y p q m1 m2 : Int} (h1 : m1 = min q (x - 1)) (h2 : m2 = max p (y + 1)) :
    Plain.pieces (x, y) (p, q) = (if p < x then [(p, m1)] else []) ++ (if y < q then [(m2, q)] else []) := by rw [h1, h2]; rfl
theorem wout_vs {l : List (Int × Int)} {s : Int × Int} (h : Plain.Ch l) (hs : Plain.V s) : Plain.vSpans (Plain.wout l s) = decide ((Plain.wout l s).length ≤ 6) := vs_ch (Plain.ch_wout h hs)
set_option maxHeartbeats 4000000 in
theorem withoutSpan_i (w : World) (A : Option Addr) (n c : Nat) (l : List (Int × Int)) (x y : Int) (h : K.PR w w.heap.size A n l) (hn : n ≤ 1099511627776) : Calls Try.prog 29 #[.slice A n c, .agg #[.int .i64 x, .int .i64 y]] w (LB 24 w (wL l (x, y)) (wOk l (x, y))) := by
  have L := Lib.hid (K.PR.len h)
  have b0 := Box2.new w (.int .i64 x) (.int .i64 y) 24
  have k0 := kp1 w (.cells #[.int .i64 x, .int .i64 y] 24)
  generalize hw0 : w.alloc (.cells #[.int .i64 x, .int .i64 y] 24) = w0 at b0 k0
  have h0 := (K.Rd.below h k0).more k0.size
  cases h1 : Plain.vSpans l
  · rw [wOk_no1 h1, wL_no (wOk_no1 h1)]
    go_enter Try.func29, Try.ntmps29
    go_wp2_with fail
    refine (validSpans_i w0 A n c l h0 hn).mono ?_
    rintro e w1 ⟨rfl, k1⟩
    go_wp2
    go_ret2
    exact LB.lit _ _ (K.Kept.trans k0 k1) rfl
  · cases h2 : vsp x y
    · rw [wOk_no2 h2, wL_no (wOk_no2 h2)]
      go_enter Try.func29, Try.ntmps29
      go_wp2_with fail
      refine (validSpans_i w0 A n c l h0 hn).mono ?_
      rintro e w1 ⟨rfl, k1⟩
      obtain ⟨d1, d2, d3, d4, d5⟩ := b0.kept k1
      go_wp2_with (go_at_call 25; refine (validSpan_i _ _ _).mono ?_; rintro e w' ⟨rfl, rfl⟩)
      go_ret2
      exact LB.lit _ _ (K.Kept.trans k0 (K.Kept.trans k1 (kp1 _ _))) (by simp)
    · have C := ch_of h1
      have hn6 : n ≤ 6 := by have := L.out; omega
      obtain ⟨i0, hi, hz0, hz1, hz2⟩ := info_parts infoSpan
      have CH := Lib.hid C.1
      have H1 := Lib.hid h1
      have H2 := Lib.hid h2
      have vs' : 0 ≤ x ∧ x ≤ 1000000 ∧ x ≤ y ∧ y ≤ 1000000 := v_iff.2 h2
      clear C
      go_enter Try.func29, Try.ntmps29
      go_wp2_with fail
      refine (validSpans_i w0 A n c l h0 hn).mono ?_
      rintro e w1 ⟨rfl, k1⟩
      have bx := b0.kept k1
      obtain ⟨d1, d2, d3, d4, d5⟩ := id bx
      go_wp2_with fail
      refine (validSpan_ik x y true w1 h2).mono ?_
      rintro e w2 ⟨rfl, k2⟩
      have I0 := SInv.start (T := 24) (K.Kept.trans k0 (K.Kept.trans k1 k2)) (bx.kept k2) rfl
      clear d1 d2 d3 d4 d5 bx b0 k0 k1 k2 h0 h1 h2
      go_wp2_with fail
      go_loopw [6, 23] (fun v i wr => ∃ (k j c : Nat) (A' : Option Addr), k ≤ n ∧ j ≤ 2 * k ∧ i = .int .i64 k ∧ v = .slice A' j c ∧ SInv 24 w wr A' j c (Plain.wout (l.take k) (x, y)) x y) (fun _ i _ => n - (intOf i).toNat)
      case atStart => exact ⟨0, 0, 0, _, Nat.zero_le _, by omega, rfl, rfl, by simpa [Plain.wout] using I0⟩
      case round =>
        clear I0
        obtain ⟨k, j, c', A', hk, hj, rfl, rfl, I⟩ := hrel
        by_cases hlt : k < n
        · obtain ⟨b, o, p, q, rfl, hb, c1, c2, hx⟩ := K.PR.cell (K.Rd.below h I.2.2) hlt
          have vp : 0 ≤ p ∧ p ≤ 1000000 ∧ p ≤ q ∧ q ≤ 1000000 := ch_at CH.out hx.out
          obtain ⟨m1, hm1⟩ : ∃ m, m = min q (x - 1) := ⟨_, rfl⟩
          obtain ⟨m2, hm2⟩ : ∃ m, m = max p (y + 1) := ⟨_, rfl⟩
          have r1 : (if x - 1 < q then x - 1 else q) = m1 := by rw [hm1]; split <;> omega
          have r2 : (if p < y + 1 then y + 1 else p) = m2 := by rw [hm2]; split <;> omega
          have HP := Lib.hid ((wo_snoc (s := (x, y)) hx.out).trans (congrArg _ (pc_form vp hm1 hm2)))
          have b9 := (Box2.new (wr.alloc (.cells #[.int .i64 p, .int .i64 q] 24)) (.int .i64 p) (.int .i64 m1) 24).kept (kp1 _ (.cells #[.int .i64 m2, .int .i64 q] 24))
          have b10 := Box2.new ((wr.alloc (.cells #[.int .i64 p, .int .i64 q] 24)).alloc (.cells #[.int .i64 p, .int .i64 m1] 24)) (.int .i64 m2) (.int .i64 q) 24
          rw [show (wr.alloc (.cells #[.int .i64 p, .int .i64 q] 24)).heap.size = wr.heap.size + 1 by simp] at b9
          rw [show ((wr.alloc (.cells #[.int .i64 p, .int .i64 q] 24)).alloc (.cells #[.int .i64 p, .int .i64 m1] 24)).heap.size = wr.heap.size + 2 by simp] at b10
          have I1 := I.kept (kp3 wr (.cells #[.int .i64 p, .int .i64 q] 24) (.cells #[.int .i64 p, .int .i64 m1] 24) (.cells #[.int .i64 m2, .int .i64 q] 24))
          have lb := I.1.lt
          obtain ⟨e1, e2, e3, e4, e5⟩ := id I.2.1
          have hy : p ≤ m1 → m2 = y + 1 := by intro t; omega
          have hz : y + 1 ≤ q → m1 = x - 1 := by intro t; omega
          clear hm1 hm2 I
          generalize hwz : ((wr.alloc (.cells #[.int .i64 p, .int .i64 q] 24)).alloc (.cells #[.int .i64 p, .int .i64 m1] 24)).alloc (.cells #[.int .i64 m2, .int .i64 q] 24) = wz at I1 b9 b10
          obtain ⟨f1, f2, f3, f4, f5⟩ := id b9
          obtain ⟨g1, g2, g3, g4, g5⟩ := id b10
          have o1 := I1.1
          by_cases t1 : p ≤ m1
          · have t1' := Lib.hid t1
            obtain rfl := hy t1
            clear hy
            by_cases t2 : y + 1 ≤ q
            · have t2' := Lib.hid t2
              obtain rfl := hz t2
              clear hz
              go_wp2_with (first | (at_builtin; refine app3 rfl _ _ 33 rfl (w.heap.size + 1) 24 2 16 i0 (.agg #[.int .i64 0, .int .i64 0]) Try.underlying33 hi hz0 hz1 hz2 rfl (by decide) wz _ j _ (by rfl) o1 _ _ (by rfl) (by first | rfl | simp) (by rfl) (by rfl) (by unfold maxLen; omega) (by omega) (by first | omega | (simp; omega)) ?_; intro A3 c3 w3 own3 hg3 hn3; have I3 := SInv.app I1 own3 hg3; obtain ⟨x1, x2, x3, x4, x5⟩ := b10.grown hg3 (fun e => by have := lb _ e; omega); have o3 := I3.1; clear own3 hn3 hg3) | (at_builtin; refine app3 rfl _ _ 33 rfl (w.heap.size + 1) 24 2 16 i0 (.agg #[.int .i64 0, .int .i64 0]) Try.underlying33 hi hz0 hz1 hz2 rfl (by decide) w3 _ (j + 1) _ (by rfl) o3 _ _ (by rfl) (by first | rfl | simp) (by rfl) (by rfl) (by unfold maxLen; omega) (by omega) (by first | omega | (simp; omega)) ?_; intro A5 c5 w5 own5 hg5 hn5))
              have IH := Lib.hid (SInv.app I3 own5 hg5)
              clear own5 hg5 hn5 I3 I1 o1 o3 x1 x2 x3 x4 x5 f1 f2 f3 f4 f5 g1 g2 g3 g4 g5 b9 b10
              go_wp2
              go_roundw
              case rel => exact ⟨k + 1, j + 1 + 1, c5, A5, by omega, by omega, by go_num, rfl, by rw [HP.out, if_pos t1'.out, if_pos t2'.out, ← List.append_assoc]; exact IH.out⟩
              case measure => simp [intOf]; omega
            · have t2' := Lib.hid t2
              clear hz
              go_wp2_with (at_builtin; refine app3 rfl _ _ 33 rfl (w.heap.size + 1) 24 2 16 i0 (.agg #[.int .i64 0, .int .i64 0]) Try.underlying33 hi hz0 hz1 hz2 rfl (by decide) wz _ j _ (by rfl) o1 _ _ (by rfl) (by first | rfl | simp) (by rfl) (by rfl) (by unfold maxLen; omega) (by omega) (by first | omega | (simp; omega)) ?_; intro A3 c3 w3 own3 hg3 hn3; have I3 := SInv.app I1 own3 hg3; obtain ⟨x1, x2, x3, x4, x5⟩ := b10.grown hg3 (fun e => by have := lb _ e; omega); have o3 := I3.1; clear own3 hn3 hg3)
              have IH := Lib.hid I3
              clear I3 I1 o1 o3 x1 x2 x3 x4 x5 f1 f2 f3 f4 f5 g1 g2 g3 g4 g5 b9 b10
              go_wp2
              go_roundw
              case rel => exact ⟨k + 1, j + 1, c3, A3, by omega, by omega, by go_num, rfl, by rw [HP.out, if_pos t1'.out, if_neg t2'.out, List.append_nil]; exact IH.out⟩
              case measure => simp [intOf]; omega
          · have t1' := Lib.hid t1
            clear hy
            by_cases t2 : m2 ≤ q
            · have t2' := Lib.hid t2
              clear hz
              go_wp2_with (at_builtin; refine app3 rfl _ _ 33 rfl (w.heap.size + 1) 24 2 16 i0 (.agg #[.int .i64 0, .int .i64 0]) Try.underlying33 hi hz0 hz1 hz2 rfl (by decide) wz _ j _ (by rfl) o1 _ _ (by rfl) (by first | rfl | simp) (by rfl) (by rfl) (by unfold maxLen; omega) (by omega) (by first | omega | (simp; omega)) ?_; intro A3 c3 w3 own3 hg3 hn3)
              have IH := Lib.hid (SInv.app I1 own3 hg3)
              clear own3 hg3 hn3 I1 o1 f1 f2 f3 f4 f5 g1 g2 g3 g4 g5 b9 b10
              go_wp2
              go_roundw
              case rel => exact ⟨k + 1, j + 1, c3, A3, by omega, by omega, by go_num, rfl, by rw [HP.out, if_neg t1'.out, if_pos t2'.out, List.nil_append]; exact IH.out⟩
              case measure => simp [intOf]; omega
            · have t2' := Lib.hid t2
              clear hz
              have IH := Lib.hid I1
              go_wp2
              go_roundw
              case rel => exact ⟨k + 1, j, c', A', by omega, by omega, by go_num, rfl, by rw [HP.out, if_neg t1'.out, if_neg t2'.out, List.nil_append, List.append_nil]; exact IH.out⟩
              case measure => simp [intOf]; omega
        · have hkn : n = k := by omega
          subst hkn
          rw [K.take_all L.out] at I
          have OK := Lib.hid (wOk_eq H1.out H2.out)
          have OL := Lib.hid I.len
          have OW := Lib.hid (own_mono I.1 (Nat.le_succ _))
          have kp := I.2.2
          clear I
          by_cases h6 : j ≤ 6
          · have hok := Lib.hid (OK.out.trans (decide_eq_true (by have := OL.out; omega)))
            go_wp2
            go_ret2
            rw [wL_yes hok.out, hok.out]
            exact ⟨_, _, _, rfl, OL.out, OW.out, kp⟩
          · have hok := Lib.hid (OK.out.trans (decide_eq_false (by have := OL.out; omega)))
            go_wp2
            go_ret2
            rw [wL_no hok.out, hok.out]
            exact LB.lit _ _ kp rfl
theorem gcell {w w' : World} {row : Option Nat} {a : Addr} {v : Value} (k : w.grownBy w' row) (h : w.cell? a = some v) (hne : ¬ row = some a.block) : w'.cell? a = some v := by
  rw [World.cell?_of_block (k.block a.block (World.block_lt_of_cell? w a h) (fun e => hne e.symm))]; exact h
set_option maxHeartbeats 4000000 in
theorem withoutSpan_s (w : World) (A : Option Addr) (n c : Nat) (l : List (Int × Int)) (x y : Int) (h : K.PR w w.heap.size A n l) (hn : n ≤ 1099511627776) : Calls Try.prog 28 #[.slice A n c, .agg #[.int .i64 x, .int .i64 y]] w (LB 24 w (wL l (x, y)) (wOk l (x, y))) := by
  have L := Lib.hid (K.PR.len h)
  have b0 := Box2.new w (.int .i64 x) (.int .i64 y) 24
  have k0 := kp1 w (.cells #[.int .i64 x, .int .i64 y] 24)
  have I0 := SInv.start (T := 24) k0 b0 rfl
  generalize hw0 : (w.alloc (.cells #[.int .i64 x, .int .i64 y] 24)).alloc (.cells #[] 24) = w0 at I0
  rw [show (w.alloc (.cells #[.int .i64 x, .int .i64 y] 24)).heap.size = w.heap.size + 1 by simp] at I0
  have h0 := (K.Rd.below h I0.2.2).more I0.2.2.size
  clear b0 k0
  cases h1 : Plain.vSpans l
  · rw [wOk_no1 h1, wL_no (wOk_no1 h1)]
    go_enter Try.func28, Try.ntmps28
    go_wp2_with fail
    refine (validSpans_s w0 A n c l h0 hn).mono ?_
    rintro e w1 ⟨rfl, k1⟩
    go_wp2
    go_ret2
    exact LB.nil _ _ (K.Kept.trans I0.2.2 k1)
  · cases h2 : vsp x y
    · rw [wOk_no2 h2, wL_no (wOk_no2 h2)]
      go_enter Try.func28, Try.ntmps28
      go_wp2_with fail
      refine (validSpans_s w0 A n c l h0 hn).mono ?_
      rintro e w1 ⟨rfl, k1⟩
      have I1 := I0.kept k1
      obtain ⟨d1, d2, d3, d4, d5⟩ := id I1.2.1
      go_wp2_with fail
      refine (validSpan_sk x y false w1 h2).mono ?_
      rintro e w2 ⟨rfl, k2⟩
      go_wp2
      go_ret2
      exact LB.nil _ _ (K.Kept.trans I1.2.2 k2)
    · have C := ch_of h1
      have hn6 : n ≤ 6 := by have := L.out; omega
      obtain ⟨i0, hi, hz0, hz1, hz2⟩ := info_parts infoSpan
      have CH := Lib.hid C.1
      have H1 := Lib.hid h1
      have H2 := Lib.hid h2
      have vs' : 0 ≤ x ∧ x ≤ 1000000 ∧ x ≤ y ∧ y ≤ 1000000 := v_iff.2 h2
      clear C
      go_enter Try.func28, Try.ntmps28
      go_wp2_with fail
      refine (validSpans_s w0 A n c l h0 hn).mono ?_
      rintro e w1 ⟨rfl, k1⟩
      have I1 := I0.kept k1
      obtain ⟨d1, d2, d3, d4, d5⟩ := id I1.2.1
      go_wp2_with fail
      refine (validSpan_sk x y true w1 h2).mono ?_
      rintro e w2 ⟨rfl, k2⟩
      have I2 := I1.kept k2
      clear d1 d2 d3 d4 d5 I1 I0 k1 k2 h0 h1 h2
      go_wp2_with fail
      go_loopw [6, 7] (fun v i wr => ∃ (k j c : Nat) (A' : Option Addr), k ≤ n ∧ j ≤ 2 * k ∧ i = .int .i64 k ∧ v = .slice A' j c ∧ SInv 24 w wr A' j c (Plain.wout (l.take k) (x, y)) x y) (fun _ i _ => n - (intOf i).toNat)
      case atStart => exact ⟨0, 0, 0, _, Nat.zero_le _, by omega, rfl, rfl, by simpa [Plain.wout] using I2⟩
      case round =>
        clear I2
        obtain ⟨k, j, c', A', hk, hj, rfl, rfl, I⟩ := hrel
        by_cases hlt : k < n
        · obtain ⟨b, o, p, q, rfl, hb, c1, c2, hx⟩ := K.PR.cell (K.Rd.below h I.2.2) hlt
          have vp : 0 ≤ p ∧ p ≤ 1000000 ∧ p ≤ q ∧ q ≤ 1000000 := ch_at CH.out hx.out
          obtain ⟨m1, hm1⟩ : ∃ m, m = min q (x - 1) := ⟨_, rfl⟩
          obtain ⟨m2, hm2⟩ : ∃ m, m = max p (y + 1) := ⟨_, rfl⟩
          have r1 : (if x - 1 < q then x - 1 else q) = m1 := by rw [hm1]; split <;> omega
          have r2 : (if p < y + 1 then y + 1 else p) = m2 := by rw [hm2]; split <;> omega
          have HP := Lib.hid ((wo_snoc (s := (x, y)) hx.out).trans (congrArg _ (pc_form2 (x := x) (y := y) hm1 hm2)))
          have hy : p < x → m2 = y + 1 := by intro t; omega
          have hz : y < q → m1 = x - 1 := by intro t; omega
          obtain ⟨e1, e2, e3, e4, e5⟩ := id I.2.1
          clear hm1 hm2
          have W1 : IntKind.i64.wrap (x - 1) = x - 1 := by rw [IntKind.wrap_i64]; omega
          have W2 : IntKind.i64.wrap (y + 1) = y + 1 := by rw [IntKind.wrap_i64]; omega
          by_cases t1 : p < x
          · have t1' := Lib.hid t1
            obtain rfl := hy t1
            clear hy
            by_cases t2 : y < q
            · have t2' := Lib.hid t2
              obtain rfl := hz t2
              clear hz
              go_wp2_with fail
              go_quiet (fail)
              have J1 := I.drewN nq
              have f1 : (wr.drewN nq).cell? ⟨b, o + k * 2, none⟩ = some (.int .i64 p) := c1
              have f2 : (wr.drewN nq).cell? ⟨b, o + k * 2 + 1, none⟩ = some (.int .i64 q) := c2
              clear I c1 c2 e1 e2 e3 e4 e5
              generalize wr.drewN nq = wd at J1 f1 f2 ⊢
              have c1 := f1
              have c2 := f2
              clear f1 f2
              obtain ⟨e1, e2, e3, e4, e5⟩ := id J1.2.1
              go_wp2_with fail
              have J1 := J1.kept (kdrew _)
              have o3 := J1.1
              have lb3 := J1.1.lt
              have c1 : wd.drew.cell? ⟨b, o + k * 2, none⟩ = some (.int .i64 p) := c1
              have c2 : wd.drew.cell? ⟨b, o + k * 2 + 1, none⟩ = some (.int .i64 q) := c2
              go_region_held3 (fun w' => w'.cell? ⟨b, o + k * 2, none⟩ = some (.int .i64 p) ∧ w'.cell? ⟨b, o + k * 2 + 1, none⟩ = some (.int .i64 q) ∧ w'.cell? ⟨w.heap.size, 0, none⟩ = some (.int .i64 x) ∧ w'.cell? ⟨w.heap.size, 1, none⟩ = some (.int .i64 y)) (first | exact ⟨d1, d2, d3, d4⟩ | go_keep) (((refine step_app3 rfl _ _ 33 rfl (w.heap.size + 1) 24 2 16 i0 (.agg #[.int .i64 0, .int .i64 0]) Try.underlying33 hi hz0 hz1 hz2 rfl (by decide) wd.drew _ j _ (by rfl) o3 _ _ (by rfl) (by first | rfl | simp) (by rfl) (by rfl) (by unfold maxLen; omega) (by omega) (by first | omega | (simp; omega)) ?_; intro A3 c3 w3 own3 hg3 hn3; have I3 := SInv.app J1 own3 hg3; have d1 := gcell hg3 c1 (fun e => by have := lb3 _ e; have hb' := hb; simp at this; omega); have d2 := gcell hg3 c2 (fun e => by have := lb3 _ e; have hb' := hb; simp at this; omega); have d3 := I3.2.1.1; have d4 := I3.2.1.2.1)))
              have c1 := d1
              have c2 := d2
              clear own3 hn3 hg3 o3 J1 e1 e2 e3 e4 e5 lb3 d1 d2 d3 d4
              obtain ⟨e1, e2, e3, e4, e5⟩ := id I3.2.1
              go_wp2_with fail
              go_quiet (fail)
              have J3 := I3.drewN nq
              have f1 : (w3.drewN nq).cell? ⟨b, o + k * 2, none⟩ = some (.int .i64 p) := c1
              have f2 : (w3.drewN nq).cell? ⟨b, o + k * 2 + 1, none⟩ = some (.int .i64 q) := c2
              clear I3 c1 c2 e1 e2 e3 e4 e5
              generalize w3.drewN nq = wf at J3 f1 f2 ⊢
              have c1 := f1
              have c2 := f2
              clear f1 f2
              obtain ⟨e1, e2, e3, e4, e5⟩ := id J3.2.1
              go_wp2_with fail
              have J3 := J3.kept (kdrew _)
              have o5 := J3.1
              have lb5 := J3.1.lt
              have c1 : wf.drew.cell? ⟨b, o + k * 2, none⟩ = some (.int .i64 p) := c1
              have c2 : wf.drew.cell? ⟨b, o + k * 2 + 1, none⟩ = some (.int .i64 q) := c2
              go_region_held3 (fun w' => w'.cell? ⟨b, o + k * 2, none⟩ = some (.int .i64 p) ∧ w'.cell? ⟨b, o + k * 2 + 1, none⟩ = some (.int .i64 q) ∧ w'.cell? ⟨w.heap.size, 0, none⟩ = some (.int .i64 x) ∧ w'.cell? ⟨w.heap.size, 1, none⟩ = some (.int .i64 y)) (first | exact ⟨d1, d2, d3, d4⟩ | go_keep) (((refine step_app3 rfl _ _ 33 rfl (w.heap.size + 1) 24 2 16 i0 (.agg #[.int .i64 0, .int .i64 0]) Try.underlying33 hi hz0 hz1 hz2 rfl (by decide) wf.drew _ (j + 1) _ (by rfl) o5 _ _ (by rfl) (by first | rfl | simp) (by rfl) (by rfl) (by unfold maxLen; omega) (by omega) (by first | omega | (simp; omega)) ?_; intro A5 c5 w5 own5 hg5 hn5; have I5 := SInv.app J3 own5 hg5; have d1 := gcell hg5 c1 (fun e => by have := lb5 _ e; have hb' := hb; simp at this; omega); have d2 := gcell hg5 c2 (fun e => by have := lb5 _ e; have hb' := hb; simp at this; omega); have d3 := I5.2.1.1; have d4 := I5.2.1.2.1)))
              have c1 := d1
              have c2 := d2
              clear own5 hn5 hg5 o5 J3 e1 e2 e3 e4 e5 lb5 d1 d2 d3 d4
              obtain ⟨e1, e2, e3, e4, e5⟩ := id I5.2.1
              have IH := Lib.hid (I5)
              clear I5 c1 c2 e1 e2 e3 e4 e5
              go_wp2
              go_roundw
              case rel => exact ⟨k + 1, j + 1 + 1, c5, A5, by omega, by omega, by go_num, rfl, by rw [HP.out, if_pos t1'.out, if_pos t2'.out, ← List.append_assoc]; exact IH.out⟩
              case measure => simp [intOf]; omega
            · have t2' := Lib.hid t2
              clear hz
              go_wp2_with fail
              go_quiet (fail)
              have J1 := I.drewN nq
              have f1 : (wr.drewN nq).cell? ⟨b, o + k * 2, none⟩ = some (.int .i64 p) := c1
              have f2 : (wr.drewN nq).cell? ⟨b, o + k * 2 + 1, none⟩ = some (.int .i64 q) := c2
              clear I c1 c2 e1 e2 e3 e4 e5
              generalize wr.drewN nq = wd at J1 f1 f2 ⊢
              have c1 := f1
              have c2 := f2
              clear f1 f2
              obtain ⟨e1, e2, e3, e4, e5⟩ := id J1.2.1
              go_wp2_with fail
              have J1 := J1.kept (kdrew _)
              have o3 := J1.1
              have lb3 := J1.1.lt
              have c1 : wd.drew.cell? ⟨b, o + k * 2, none⟩ = some (.int .i64 p) := c1
              have c2 : wd.drew.cell? ⟨b, o + k * 2 + 1, none⟩ = some (.int .i64 q) := c2
              go_region_held3 (fun w' => w'.cell? ⟨b, o + k * 2, none⟩ = some (.int .i64 p) ∧ w'.cell? ⟨b, o + k * 2 + 1, none⟩ = some (.int .i64 q) ∧ w'.cell? ⟨w.heap.size, 0, none⟩ = some (.int .i64 x) ∧ w'.cell? ⟨w.heap.size, 1, none⟩ = some (.int .i64 y)) (first | exact ⟨d1, d2, d3, d4⟩ | go_keep) (((refine step_app3 rfl _ _ 33 rfl (w.heap.size + 1) 24 2 16 i0 (.agg #[.int .i64 0, .int .i64 0]) Try.underlying33 hi hz0 hz1 hz2 rfl (by decide) wd.drew _ j _ (by rfl) o3 _ _ (by rfl) (by first | rfl | simp) (by rfl) (by rfl) (by unfold maxLen; omega) (by omega) (by first | omega | (simp; omega)) ?_; intro A3 c3 w3 own3 hg3 hn3; have I3 := SInv.app J1 own3 hg3; have d1 := gcell hg3 c1 (fun e => by have := lb3 _ e; have hb' := hb; simp at this; omega); have d2 := gcell hg3 c2 (fun e => by have := lb3 _ e; have hb' := hb; simp at this; omega); have d3 := I3.2.1.1; have d4 := I3.2.1.2.1)))
              have c1 := d1
              have c2 := d2
              clear own3 hn3 hg3 o3 J1 e1 e2 e3 e4 e5 lb3 d1 d2 d3 d4
              obtain ⟨e1, e2, e3, e4, e5⟩ := id I3.2.1
              go_wp2_with fail
              go_quiet (fail)
              have IH := Lib.hid (I3.drewN nq)
              clear I3 c1 c2 e1 e2 e3 e4 e5
              go_wp2
              go_roundw
              case rel => exact ⟨k + 1, j + 1, c3, A3, by omega, by omega, by go_num, rfl, by rw [HP.out, if_pos t1'.out, if_neg (show ¬ y < q by have := t2'.out; omega), List.append_nil]; exact IH.out⟩
              case measure => simp [intOf]; omega
          · have t1' := Lib.hid t1
            clear hy
            by_cases t2 : y < q
            · have t2' := Lib.hid t2
              obtain rfl := hz t2
              clear hz
              go_wp2_with fail
              go_quiet (fail)
              have J1 := I.drewN nq
              have f1 : (wr.drewN nq).cell? ⟨b, o + k * 2, none⟩ = some (.int .i64 p) := c1
              have f2 : (wr.drewN nq).cell? ⟨b, o + k * 2 + 1, none⟩ = some (.int .i64 q) := c2
              clear I c1 c2 e1 e2 e3 e4 e5
              generalize wr.drewN nq = wd at J1 f1 f2 ⊢
              have c1 := f1
              have c2 := f2
              clear f1 f2
              obtain ⟨e1, e2, e3, e4, e5⟩ := id J1.2.1
              go_wp2_with fail
              go_quiet (fail)
              have J3 := J1.drewN nq
              have f1 : (wd.drewN nq).cell? ⟨b, o + k * 2, none⟩ = some (.int .i64 p) := c1
              have f2 : (wd.drewN nq).cell? ⟨b, o + k * 2 + 1, none⟩ = some (.int .i64 q) := c2
              clear J1 c1 c2 e1 e2 e3 e4 e5
              generalize wd.drewN nq = wf at J3 f1 f2 ⊢
              have c1 := f1
              have c2 := f2
              clear f1 f2
              obtain ⟨e1, e2, e3, e4, e5⟩ := id J3.2.1
              go_wp2_with fail
              have J3 := J3.kept (kdrew _)
              have o5 := J3.1
              have lb5 := J3.1.lt
              have c1 : wf.drew.cell? ⟨b, o + k * 2, none⟩ = some (.int .i64 p) := c1
              have c2 : wf.drew.cell? ⟨b, o + k * 2 + 1, none⟩ = some (.int .i64 q) := c2
              go_region_held3 (fun w' => w'.cell? ⟨b, o + k * 2, none⟩ = some (.int .i64 p) ∧ w'.cell? ⟨b, o + k * 2 + 1, none⟩ = some (.int .i64 q) ∧ w'.cell? ⟨w.heap.size, 0, none⟩ = some (.int .i64 x) ∧ w'.cell? ⟨w.heap.size, 1, none⟩ = some (.int .i64 y)) (first | exact ⟨d1, d2, d3, d4⟩ | go_keep) (((refine step_app3 rfl _ _ 33 rfl (w.heap.size + 1) 24 2 16 i0 (.agg #[.int .i64 0, .int .i64 0]) Try.underlying33 hi hz0 hz1 hz2 rfl (by decide) wf.drew _ j _ (by rfl) o5 _ _ (by rfl) (by first | rfl | simp) (by rfl) (by rfl) (by unfold maxLen; omega) (by omega) (by first | omega | (simp; omega)) ?_; intro A5 c5 w5 own5 hg5 hn5; have I5 := SInv.app J3 own5 hg5; have d1 := gcell hg5 c1 (fun e => by have := lb5 _ e; have hb' := hb; simp at this; omega); have d2 := gcell hg5 c2 (fun e => by have := lb5 _ e; have hb' := hb; simp at this; omega); have d3 := I5.2.1.1; have d4 := I5.2.1.2.1)))
              have c1 := d1
              have c2 := d2
              clear own5 hn5 hg5 o5 J3 e1 e2 e3 e4 e5 lb5 d1 d2 d3 d4
              obtain ⟨e1, e2, e3, e4, e5⟩ := id I5.2.1
              have IH := Lib.hid (I5)
              clear I5 c1 c2 e1 e2 e3 e4 e5
              go_wp2
              go_roundw
              case rel => exact ⟨k + 1, j + 1, c5, A5, by omega, by omega, by go_num, rfl, by rw [HP.out, if_neg (show ¬ p < x by have := t1'.out; omega), if_pos t2'.out, List.nil_append]; exact IH.out⟩
              case measure => simp [intOf]; omega
            · have t2' := Lib.hid t2
              clear hz
              go_wp2_with fail
              go_quiet (fail)
              have J1 := I.drewN nq
              have f1 : (wr.drewN nq).cell? ⟨b, o + k * 2, none⟩ = some (.int .i64 p) := c1
              have f2 : (wr.drewN nq).cell? ⟨b, o + k * 2 + 1, none⟩ = some (.int .i64 q) := c2
              clear I c1 c2 e1 e2 e3 e4 e5
              generalize wr.drewN nq = wd at J1 f1 f2 ⊢
              have c1 := f1
              have c2 := f2
              clear f1 f2
              obtain ⟨e1, e2, e3, e4, e5⟩ := id J1.2.1
              go_wp2_with fail
              go_quiet (fail)
              have IH := Lib.hid (J1.drewN nq)
              clear J1 c1 c2 e1 e2 e3 e4 e5
              go_wp2
              go_roundw
              case rel => exact ⟨k + 1, j, c', A', by omega, by omega, by go_num, rfl, by rw [HP.out, if_neg (show ¬ p < x by have := t1'.out; omega), if_neg (show ¬ y < q by have := t2'.out; omega), List.nil_append, List.append_nil]; exact IH.out⟩
              case measure => simp [intOf]; omega
        · have hkn : n = k := by omega
          subst hkn
          rw [K.take_all L.out] at I
          have VU := wout_vs CH.out (v_iff.2 H2.out)
          have OK := Lib.hid (wOk_eq H1.out H2.out)
          have OL := Lib.hid I.len
          have OW := Lib.hid (own_mono I.1 (Nat.le_succ _))
          have RA := K.rd_own I.1
          have kp := I.2.2
          clear I
          go_wp2_with fail
          refine (validSpans_s wr A' j c' _ RA (by omega)).mono ?_
          rintro e w5 ⟨rfl, k5⟩
          have OW5 := Lib.hid (K.own_kept OW.out k5)
          have kp5 := K.Kept.trans kp k5
          clear OW RA kp k5
          rw [VU]
          clear VU
          cases h6 : decide ((Plain.wout l (x, y)).length ≤ 6)
          · have hok := Lib.hid (OK.out.trans h6)
            clear h6
            go_wp2
            go_ret2
            rw [wL_no hok.out, hok.out]
            exact LB.nil _ _ kp5
          · have hok := Lib.hid (OK.out.trans h6)
            clear h6
            go_wp2
            go_ret2
            rw [wL_yes hok.out, hok.out]
            exact ⟨_, _, _, rfl, OL.out, OW5.out, kp5⟩
end C
end Go.Proofs.Ytoooliadnjojeaa

/-
  UnionSpan of the reference returns the same plain function as the program's. Conditions: lengths below 2^40.
-/
import Derived.Test.YtoooliadnjojeaaSpansU
namespace Go.Proofs.Ytoooliadnjojeaa
open Go.RowKit
namespace C

theorem mg_snoc (x : Int × Int) : ∀ (l : List (Int × Int)) (s : Int × Int), Plain.mg s (l ++ [x]) = if (Plain.mg s l).1 ≤ x.2 + 1 ∧ x.1 ≤ (Plain.mg s l).2 + 1 then Plain.hull (Plain.mg s l) x else Plain.mg s l := by
  intro l
  induction l with
  | nil => intro s; rfl
  | cons y l ih =>
    intro s
    rw [List.cons_append, Plain.mg, Plain.mg]
    split
    · exact ih _
    · exact ih _
theorem mg_step {l : List (Int × Int)} {k : Nat} {p q s1 s2 : Int} {s0 : Int × Int} (hx : l[k]? = some (p, q)) (h : Plain.mg s0 (l.take k) = (s1, s2)) (h1 : s1 ≤ q + 1) (h2 : p ≤ s2 + 1) {m1 m2 : Int} (e1 : m1 = min s1 p) (e2 : m2 = max s2 q) : Plain.mg s0 (l.take (k + 1)) = (m1, m2) := by
  rw [K.take_snoc hx, mg_snoc, h, if_pos ⟨h1, h2⟩, e1, e2]; rfl
theorem mg_stay {l : List (Int × Int)} {k : Nat} {p q s1 s2 : Int} {s0 : Int × Int} (hx : l[k]? = some (p, q)) (h : Plain.mg s0 (l.take k) = (s1, s2)) (hn : ¬ (s1 ≤ q + 1 ∧ p ≤ s2 + 1)) : Plain.mg s0 (l.take (k + 1)) = (s1, s2) := by
  rw [K.take_snoc hx, mg_snoc, h, if_neg hn]
theorem mg_v {l : List (Int × Int)} {k : Nat} {s0 : Int × Int} {s1 s2 : Int} (hc : Plain.Ch l) (hv : Plain.V s0) (h : Plain.mg s0 (l.take k) = (s1, s2)) : 0 ≤ s1 ∧ s1 ≤ 1000000 ∧ s1 ≤ s2 ∧ s2 ≤ 1000000 := by
  have := Plain.v_mg (l.take k) s0 (fun x hx => hc.1 x (List.mem_of_mem_take hx)) hv
  rw [h] at this
  exact this
theorem fsnoc_yes {f : Int × Int → Bool} {l : List (Int × Int)} {k : Nat} {x : Int × Int} (hx : l[k]? = some x) (h : f x = true) : (l.take (k + 1)).filter f = (l.take k).filter f ++ [x] := by
  rw [K.take_snoc hx, List.filter_append, List.filter_cons, if_pos h]; rfl
theorem fsnoc_no {f : Int × Int → Bool} {l : List (Int × Int)} {k : Nat} {x : Int × Int} (hx : l[k]? = some x) (h : f x = false) : (l.take (k + 1)).filter f = (l.take k).filter f := by
  rw [K.take_snoc hx, List.filter_append, List.filter_cons, if_neg (by rw [h]; simp)]; simp
/-- The state of a loop that collects: a row of the call's own, the span in its block. -/
def SInv (T : TypeId) (w wr : World) (A : Option Addr) (j c : Nat) (out : List (Int × Int)) (s1 s2 : Int) : Prop :=
  wr.ownsRow (w.heap.size + 1) T 2 (.slice A j c) j (K.prs out) ∧ Box2 wr w.heap.size (.int .i64 s1) (.int .i64 s2) ∧ K.Kept w wr
section
variable {T : TypeId} {w wr w3 : World} {j c c3 : Nat} {A A3 : Option Addr} {out : List (Int × Int)} {s1 s2 p q : Int}
theorem SInv.len (H : SInv T w wr A j c out s1 s2) : out.length = j := by have := H.1.1; rw [K.prs_len] at this; omega
theorem SInv.drewN (H : SInv T w wr A j c out s1 s2) (n : Nat) : SInv T w (wr.drewN n) A j c out s1 s2 := ⟨H.1, H.2.1, K.below_drewN H.2.2 n⟩
theorem SInv.app (H : SInv T w wr A j c out s1 s2) (h3 : w3.ownsRow (w.heap.size + 1) T 2 (.slice A3 (j + 1) c3) (j + 1) (K.prs out ++ [.int .i64 p, .int .i64 q])) (hg : wr.grownBy w3 (Value.slice A j c).ownBlock) :
    SInv T w w3 A3 (j + 1) c3 (out ++ [(p, q)]) s1 s2 := by
  obtain ⟨ob, bx, kp⟩ := H
  have lb := ob.lt
  refine ⟨by rw [K.prs_append]; exact h3, bx.grown hg fun e => ?_, kp.grown hg (by have := kp.size; omega) fun i hi => ?_⟩
  · have := lb _ e; omega
  · have := lb i hi; omega
theorem SInv.put (H : SInv T w wr A j c out s1 s2) (m1 m2 : Int) : SInv T w ((wr.setCell ⟨w.heap.size, 0, none⟩ (.int .i64 m1)).setCell ⟨w.heap.size, 1, none⟩ (.int .i64 m2)) A j c out m1 m2 := by
  obtain ⟨ob, bx, kp⟩ := H
  have lb := ob.lt
  have g1 : K.But w.heap.size wr ((wr.setCell ⟨w.heap.size, 0, none⟩ (.int .i64 m1)).setCell ⟨w.heap.size, 1, none⟩ (.int .i64 m2)) :=
    ((K.But.refl _ _).setCell (p := ⟨w.heap.size, 0, none⟩) (.inl rfl) _).setCell (p := ⟨w.heap.size, 1, none⟩) (.inl rfl) _
  refine ⟨ob.kept g1 ?_, bx.put _ _, (kp.setCell (p := ⟨w.heap.size, 0, none⟩) (Nat.le_refl _) _).setCell (p := ⟨w.heap.size, 1, none⟩) (Nat.le_refl _) _⟩
  right; intro e; have := lb _ e; omega
theorem SInv.kept {wr' : World} (H : SInv T w wr A j c out s1 s2) (k : K.Kept wr wr') : SInv T w wr' A j c out s1 s2 := ⟨K.own_kept H.1 k, H.2.1.kept k, K.Kept.trans H.2.2 k⟩
theorem SInv.start {x y : Int} (k : K.Kept w wr) (hB : Box2 wr w.heap.size (.int .i64 x) (.int .i64 y)) {g : Nat} (hg : g = wr.heap.size) : SInv T w (wr.alloc (.cells #[] T)) (some ⟨g, 0, none⟩) 0 0 [] x y := by
  subst hg
  have hb := hB.2.2.2.2
  exact ⟨World.ownsRow_lit wr #[] 0 (by omega) (by unfold maxLen; omega) rfl, hB.kept (kp1 _ _), K.Kept.trans k (kp1 _ _)⟩
end
theorem vs_ch {l : List (Int × Int)} (h : Plain.Ch l) : Plain.vSpans l = decide (l.length ≤ 6) := by
  rw [Bool.eq_iff_iff, Plain.vSpans_iff, decide_eq_true_iff]; exact ⟨fun q => q.2, fun q => ⟨h, q⟩⟩
theorem uni_vs {l : List (Int × Int)} {s : Int × Int} (h : Plain.Ch l) (hs : Plain.V s) : Plain.vSpans (Plain.uni l s) = decide ((Plain.uni l s).length ≤ 6) := vs_ch (Plain.ch_uni h hs)
set_option maxHeartbeats 4000000 in
theorem unionSpan_s (w : World) (A : Option Addr) (n c : Nat) (l : List (Int × Int)) (x y : Int) (h : K.PR w w.heap.size A n l) (hn : n ≤ 1099511627776) : Calls Try.prog 34 #[.slice A n c, .agg #[.int .i64 x, .int .i64 y]] w (LB 24 w (uL l (x, y)) (uOk l (x, y))) := by
  have L := Lib.hid (K.PR.len h)
  have b0 := Box2.new w (.int .i64 x) (.int .i64 y) 24
  have k0 := kp1 w (.cells #[.int .i64 x, .int .i64 y] 24)
  have I0 := SInv.start (T := 24) k0 b0 rfl
  generalize hw0 : (w.alloc (.cells #[.int .i64 x, .int .i64 y] 24)).alloc (.cells #[] 24) = w0 at I0
  rw [show (w.alloc (.cells #[.int .i64 x, .int .i64 y] 24)).heap.size = w.heap.size + 1 by simp] at I0
  have h0 := (K.Rd.below h I0.2.2).more I0.2.2.size
  clear b0 k0
  cases h1 : Plain.vSpans l
  · rw [uOk_no1 h1, uL_no (uOk_no1 h1)]
    go_enter Try.func34, Try.ntmps34
    go_wp2_with fail
    refine (validSpans_s w0 A n c l h0 hn).mono ?_
    rintro e w1 ⟨rfl, k1⟩
    go_wp2
    go_ret2
    exact LB.nil _ _ (K.Kept.trans I0.2.2 k1)
  · cases h2 : vsp x y
    · rw [uOk_no2 h2, uL_no (uOk_no2 h2)]
      go_enter Try.func34, Try.ntmps34
      go_wp2_with fail
      refine (validSpans_s w0 A n c l h0 hn).mono ?_
      rintro e w1 ⟨rfl, k1⟩
      have I1 := I0.kept k1
      obtain ⟨d1, d2, d3, d4, d5⟩ := id I1.2.1
      go_wp2_with fail
      refine (validSpan_sk x y false w1 h2).mono ?_
      rintro e w2 ⟨rfl, k2⟩
      go_wp2
      go_ret2
      exact LB.nil _ _ (K.Kept.trans I1.2.2 k2)
    · have C := ch_of h1
      have hn6 : n ≤ 6 := by have := L.out; omega
      obtain ⟨i0, hi, hz0, hz1, hz2⟩ := info_parts infoSpan
      have CH := Lib.hid C.1
      have H1 := Lib.hid h1
      have H2 := Lib.hid h2
      have vs' : 0 ≤ x ∧ x ≤ 1000000 ∧ x ≤ y ∧ y ≤ 1000000 := v_iff.2 h2
      clear C
      go_enter Try.func34, Try.ntmps34
      go_wp2_with fail
      refine (validSpans_s w0 A n c l h0 hn).mono ?_
      rintro e w1 ⟨rfl, k1⟩
      have I1 := I0.kept k1
      obtain ⟨d1, d2, d3, d4, d5⟩ := id I1.2.1
      go_wp2_with fail
      refine (validSpan_sk x y true w1 h2).mono ?_
      rintro e w2 ⟨rfl, k2⟩
      have I2 := I1.kept k2
      clear d1 d2 d3 d4 d5 I1 I0 k1 k2 h0 h1 h2
      go_wp2_with fail
      go_loopw [6, 7] (fun v i wr => ∃ (k j c : Nat) (A' : Option Addr), k ≤ n ∧ j ≤ k ∧ i = .int .i64 k ∧ v = .slice A' j c ∧ SInv 24 w wr A' j c ((l.take k).filter (Plain.bef (x, y))) x y) (fun _ i _ => n - (intOf i).toNat)
      case atStart => exact ⟨0, 0, 0, _, Nat.zero_le _, Nat.le_refl _, rfl, rfl, by simpa using I2⟩
      case round =>
        clear I2
        obtain ⟨k, j, c', A', hk, hj, rfl, rfl, I⟩ := hrel
        by_cases hlt : k < n
        · obtain ⟨b, o, p, q, rfl, hb, c1, c2, hx⟩ := K.PR.cell (K.Rd.below h I.2.2) hlt
          have vp : 0 ≤ p ∧ p ≤ 1000000 ∧ p ≤ q ∧ q ≤ 1000000 := ch_at CH.out hx.out
          obtain ⟨e1, e2, e3, e4, e5⟩ := id I.2.1
          by_cases t1 : q + 1 < x
          · have HF := Lib.hid (fsnoc_yes (f := Plain.bef (x, y)) hx.out (by simpa [Plain.bef] using t1))
            go_wp2_with fail
            go_quiet (fail)
            have ID := I.drewN nq
            have f1 : (wr.drewN nq).cell? ⟨b, o + k * 2, none⟩ = some (.int .i64 p) := c1
            have f2 : (wr.drewN nq).cell? ⟨b, o + k * 2 + 1, none⟩ = some (.int .i64 q) := c2
            clear I c1 c2 e1 e2 e3 e4 e5
            generalize wr.drewN nq = wd at ID f1 f2 ⊢
            obtain ⟨e1, e2, e3, e4, e5⟩ := id ID.2.1
            have ob := ID.1
            go_wp2_with (at_builtin; refine app3 rfl _ _ 33 rfl (w.heap.size + 1) 24 2 16 i0 (.agg #[.int .i64 0, .int .i64 0]) Try.underlying33 hi hz0 hz1 hz2 rfl (by decide) wd _ j _ (by rfl) ob _ _ (by rfl) (by first | rfl | simp) (by rfl) (by rfl) (by unfold maxLen; omega) (by omega) (by first | omega | (simp; omega)) ?_; intro A3 c3 w3 own3 hg3 hn3)
            have I3 := Lib.hid (SInv.app ID own3 hg3)
            clear own3 hg3 hn3 ob e1 e2 e3 e4 e5 f1 f2 ID
            go_wp2
            go_roundw
            case rel => exact ⟨k + 1, j + 1, c3, A3, by omega, by omega, by go_num, rfl, by rw [HF.out]; exact I3.out⟩
            case measure => simp [intOf]; omega
          · have HF := Lib.hid (fsnoc_no (f := Plain.bef (x, y)) hx.out (by simpa [Plain.bef] using t1))
            go_wp2_with fail
            go_quiet (fail)
            have ID := Lib.hid (I.drewN nq)
            clear I c1 c2 e1 e2 e3 e4 e5
            go_wp2
            go_roundw
            case rel => exact ⟨k + 1, j, c', A', by omega, by omega, by go_num, rfl, by rw [HF.out]; exact ID.out⟩
            case measure => simp [intOf]; omega
        · have hkn : n = k := by omega
          subst hkn
          have I1 : SInv 24 w wr A' j c' (l.filter (Plain.bef (x, y))) x y := by rw [K.take_all L.out] at I; exact I
          clear I
          go_wp2_with fail
          go_loopw [8] (fun i wr => ∃ (k : Nat) (s1 s2 : Int), k ≤ n ∧ i = .int .i64 k ∧ SInv 24 w wr A' j c' (l.filter (Plain.bef (x, y))) s1 s2 ∧ Hid (Plain.mg (x, y) (l.take k) = (s1, s2))) (fun i _ => n - (intOf i).toNat)
          case atStart => exact ⟨0, x, y, Nat.zero_le _, rfl, I1, by unfold Hid; simp [Plain.mg]⟩
          case round =>
            clear I1
            obtain ⟨k, s1, s2, hk, rfl, I, hm⟩ := hrel
            have vm := mg_v CH.out (v_iff.2 H2.out) hm.out
            by_cases hlt : k < n
            · obtain ⟨b, o, p, q, rfl, hb, c1, c2, hx⟩ := K.PR.cell (K.Rd.below h I.2.2) hlt
              have vp : 0 ≤ p ∧ p ≤ 1000000 ∧ p ≤ q ∧ q ≤ 1000000 := ch_at CH.out hx.out
              obtain ⟨e1, e2, e3, e4, e5⟩ := id I.2.1
              cases g1 : decide (s1 ≤ q + 1)
              · have n1 : ¬ s1 ≤ q + 1 := of_decide_eq_false g1
                have HM := Lib.hid (mg_stay hx.out hm.out (by omega))
                clear n1
                go_wp2_with fail
                go_quiet (fail)
                have ID := Lib.hid (I.drewN nq)
                clear I c1 c2 e1 e2 e3 e4 e5 g1
                go_wp2
                go_roundw
                case rel => exact ⟨k + 1, s1, s2, by omega, by go_num, ID.out, HM⟩
                case measure => simp [intOf]; omega
              · have n1 : s1 ≤ q + 1 := of_decide_eq_true g1
                by_cases t2 : p ≤ s2 + 1
                · have HM := Lib.hid (fun m1 m2 => mg_step (m1 := m1) (m2 := m2) hx.out hm.out n1 t2)
                  go_wp2_with fail
                  go_quiet (fail)
                  have ID := I.drewN nq
                  have f1 : (wr.drewN nq).cell? ⟨b, o + k * 2, none⟩ = some (.int .i64 p) := c1
                  have f2 : (wr.drewN nq).cell? ⟨b, o + k * 2 + 1, none⟩ = some (.int .i64 q) := c2
                  clear I c1 c2 e1 e2 e3 e4 e5 g1
                  generalize wr.drewN nq = wd at ID f1 f2 ⊢
                  obtain ⟨e1, e2, e3, e4, e5⟩ := id ID.2.1
                  go_wp2_with fail
                  go_still_tail 17, (by kernel_rfl)
                  change wpList _ _ _ _ _ wd.drew
                  have IE := ID.kept (kdrew _)
                  clear ID f1 f2 e1 e2 e3 e4 e5
                  generalize wd.drew = we at IE ⊢
                  obtain ⟨e1, e2, e3, e4, e5⟩ := id IE.2.1
                  have IP := Lib.hid (fun m1 m2 => IE.put m1 m2)
                  clear IE
                  go_wp2
                  go_roundw
                  case rel => exact ⟨k + 1, _, _, by omega, by go_num, IP.out _ _, HM.out _ _ (by split <;> omega) (by split <;> omega)⟩
                  case measure => simp [intOf]; omega
                · have HM := Lib.hid (mg_stay hx.out hm.out (by omega))
                  go_wp2_with fail
                  go_quiet (fail)
                  have ID := Lib.hid (I.drewN nq)
                  clear I c1 c2 e1 e2 e3 e4 e5 g1
                  go_wp2
                  go_roundw
                  case rel => exact ⟨k + 1, s1, s2, by omega, by go_num, ID.out, HM⟩
                  case measure => simp [intOf]; omega
            · have hkn : n = k := by omega
              subst hkn
              rw [K.take_all L.out] at hm
              obtain ⟨e1, e2, e3, e4, e5⟩ := id I.2.1
              have ob := I.1
              go_wp2_with (at_builtin; refine app3 rfl _ _ 33 rfl (w.heap.size + 1) 24 2 16 i0 (.agg #[.int .i64 0, .int .i64 0]) Try.underlying33 hi hz0 hz1 hz2 rfl (by decide) wr _ j _ (by rfl) ob _ _ (by rfl) (by first | rfl | simp) (by rfl) (by rfl) (by unfold maxLen; omega) (by omega) (by first | omega | (simp; omega)) ?_; intro A3 c3 w3 own3 hg3 hn3)
              have I3 := SInv.app I own3 hg3
              clear own3 hg3 hn3 ob e1 e2 e3 e4 e5 I
              go_wp2_with fail
              go_loopw [6, 9] (fun v i wr => ∃ (k m c : Nat) (A' : Option Addr), k ≤ n ∧ m ≤ j + 1 + k ∧ i = .int .i64 k ∧ v = .slice A' m c ∧ SInv 24 w wr A' m c (l.filter (Plain.bef (x, y)) ++ [(s1, s2)] ++ (l.take k).filter (Plain.aft (s1, s2))) s1 s2) (fun _ i _ => n - (intOf i).toNat)
              case atStart => exact ⟨0, j + 1, c3, A3, Nat.zero_le _, Nat.le_refl _, rfl, rfl, by simpa using I3⟩
              case round =>
                clear I3
                obtain ⟨k, m, c', A', hk, hm', rfl, rfl, I⟩ := hrel
                by_cases hlt : k < n
                · obtain ⟨b, o, p, q, rfl, hb, c1, c2, hx⟩ := K.PR.cell (K.Rd.below h I.2.2) hlt
                  have vp : 0 ≤ p ∧ p ≤ 1000000 ∧ p ≤ q ∧ q ≤ 1000000 := ch_at CH.out hx.out
                  obtain ⟨e1, e2, e3, e4, e5⟩ := id I.2.1
                  by_cases t1 : s2 + 1 < p
                  · have HF := Lib.hid (fsnoc_yes (f := Plain.aft (s1, s2)) hx.out (by simpa [Plain.aft] using t1))
                    go_wp2_with fail
                    go_quiet (fail)
                    have ID := I.drewN nq
                    have f1 : (wr.drewN nq).cell? ⟨b, o + k * 2, none⟩ = some (.int .i64 p) := c1
                    have f2 : (wr.drewN nq).cell? ⟨b, o + k * 2 + 1, none⟩ = some (.int .i64 q) := c2
                    clear I c1 c2 e1 e2 e3 e4 e5
                    generalize wr.drewN nq = wd at ID f1 f2 ⊢
                    obtain ⟨e1, e2, e3, e4, e5⟩ := id ID.2.1
                    have ob := ID.1
                    go_wp2_with (at_builtin; refine app3 rfl _ _ 33 rfl (w.heap.size + 1) 24 2 16 i0 (.agg #[.int .i64 0, .int .i64 0]) Try.underlying33 hi hz0 hz1 hz2 rfl (by decide) wd _ m _ (by rfl) ob _ _ (by rfl) (by first | rfl | simp) (by rfl) (by rfl) (by unfold maxLen; omega) (by omega) (by first | omega | (simp; omega)) ?_; intro A3 c3 w3 own3 hg3 hn3)
                    have I3 := Lib.hid (SInv.app ID own3 hg3)
                    clear own3 hg3 hn3 ob e1 e2 e3 e4 e5 f1 f2 ID
                    go_wp2
                    go_roundw
                    case rel => exact ⟨k + 1, m + 1, c3, A3, by omega, by omega, by go_num, rfl, by rw [HF.out, ← List.append_assoc]; exact I3.out⟩
                    case measure => simp [intOf]; omega
                  · have HF := Lib.hid (fsnoc_no (f := Plain.aft (s1, s2)) hx.out (by simpa [Plain.aft] using t1))
                    go_wp2_with fail
                    go_quiet (fail)
                    have ID := Lib.hid (I.drewN nq)
                    clear I c1 c2 e1 e2 e3 e4 e5
                    go_wp2
                    go_roundw
                    case rel => exact ⟨k + 1, m, c', A', by omega, by omega, by go_num, rfl, by rw [HF.out]; exact ID.out⟩
                    case measure => simp [intOf]; omega
                · have hkn : n = k := by omega
                  subst hkn
                  have e : l.filter (Plain.bef (x, y)) ++ [(s1, s2)] ++ (l.take n).filter (Plain.aft (s1, s2)) = Plain.uni l (x, y) := by
                    rw [K.take_all L.out]; unfold Plain.uni; rw [hm.out]
                  rw [e] at I
                  have VU := uni_vs CH.out (v_iff.2 H2.out)
                  have OK := Lib.hid (uOk_eq H1.out H2.out rfl)
                  have OL := Lib.hid I.len
                  have OW := Lib.hid (own_mono I.1 (Nat.le_succ _))
                  have RA := K.rd_own I.1
                  have kp := I.2.2
                  clear I e
                  go_wp2_with fail
                  refine (validSpans_s wr A' m c' _ RA (by omega)).mono ?_
                  rintro e w5 ⟨rfl, k5⟩
                  have OW5 := Lib.hid (K.own_kept OW.out k5)
                  have kp5 := K.Kept.trans kp k5
                  clear OW RA kp k5
                  rw [VU]
                  clear VU
                  cases h6 : decide ((Plain.uni l (x, y)).length ≤ 6)
                  · have hok := Lib.hid (OK.out.trans h6)
                    clear h6
                    go_wp2
                    go_ret2
                    rw [uL_no hok.out, hok.out]
                    exact LB.nil _ _ kp5
                  · have hok := Lib.hid (OK.out.trans h6)
                    clear h6
                    go_wp2
                    go_ret2
                    rw [uL_yes hok.out, hok.out]
                    exact ⟨_, _, _, rfl, OL.out, OW5.out, kp5⟩
end C
end Go.Proofs.Ytoooliadnjojeaa

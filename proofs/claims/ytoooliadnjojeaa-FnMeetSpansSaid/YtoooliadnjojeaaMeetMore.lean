/-
  The law of MeetSpans, for every code. Conditions: none.
-/
import Derived.Test.YtoooliadnjojeaaSpansV
import Derived.Test.YtoooliadnjojeaaMeetLaws
namespace Go.Proofs.Ytoooliadnjojeaa
open Go.RowKit
namespace C

theorem inSpan_mk (x y n : Int) (b : Bool) (w : World) (h : (vsp x y && wi n x y) = b) : Calls Try.prog 26 #[.agg #[.int .i64 x, .int .i64 y], .int .i64 n] w fun e w' => e = .returned (.bool b) ∧ K.Kept w w' := by
  subst h
  exact (inSpan_i x y n w).mono fun _ _ h => ⟨h.1, h.2 ▸ K.Kept.trans (kp1 _ _) (kp1 _ _)⟩
theorem ints_cell (w : World) (T : TypeId) (cs : Array Value) (hq : nums (fun _ => true) cs = true) (i : Nat) (hi : i < cs.size) : ∃ z : Int, (w.alloc (.cells cs T)).cell? ⟨w.heap.size, i, none⟩ = some (.int .i64 z) := by
  obtain ⟨zs, hzs, _⟩ := nums_map hq
  have hz : i < zs.length := by have := congrArg List.length hzs; simp at this; omega
  refine ⟨zs[i], ?_⟩
  rw [World.cell?_alloc_at _ _ _ _ rfl, ← Array.getElem?_toList, hzs, List.getElem?_map, List.getElem?_eq_getElem hz]
  rfl
theorem meet_wi {x y u v : Int} (z : Int) (h1 : vsp x y = true) (h2 : vsp u v = true) : (mt x y u v && (vsp (mlo x y u v) (mhi x y u v) && wi z (mlo x y u v) (mhi x y u v))) = ((vsp x y && wi z x y) && (vsp u v && wi z u v)) := by
  have a := vsp_true.1 h1
  have b := vsp_true.1 h2
  cases hm : mt x y u v
  · have hn : ¬ max x u ≤ min y v := by
      unfold mt at hm; rw [h1, h2] at hm; simpa using hm
    rw [Bool.false_and, h1, h2, Bool.true_and, Bool.true_and, eq_comm, Bool.and_eq_false_iff, wi_false, wi_false]
    omega
  · obtain ⟨g1, g2⟩ := mt_yes hm
    have hn : max x u ≤ min y v := by
      unfold mt at hm; rw [h1, h2] at hm; simpa using hm
    rw [g1, g2, h1, h2, Bool.true_and, Bool.true_and, Bool.true_and, (vsp_true.2 (by omega) : vsp (max x u) (min y v) = true), Bool.true_and, Bool.eq_iff_iff, Bool.and_eq_true, wi_true, wi_true, wi_true]
    omega
theorem mt_comm (x y u v : Int) : mt u v x y = mt x y u v := by
  unfold mt
  rw [Bool.and_comm (vsp u v), Int.max_comm, Int.min_comm]
theorem ml_comm (x y u v : Int) : mlo u v x y = mlo x y u v ∧ mhi u v x y = mhi x y u v := by
  unfold mlo mhi
  rw [mt_comm, Int.max_comm, Int.min_comm]
  exact ⟨rfl, rfl⟩
theorem mt_bad {x y u v : Int} (h : ¬ (vsp x y = true ∧ vsp u v = true)) : mt x y u v = false := by
  unfold mt
  cases h1 : vsp x y
  · rfl
  · cases h2 : vsp u v
    · rfl
    · exact absurd ⟨h1, h2⟩ h
set_option maxHeartbeats 4000000 in
theorem meetSpansLaw (w : World) (n c : Nat) (A : Option Addr) (h : Code w w.heap.size A n c) : Calls Try.prog 5 #[.slice A n c] w fun e w' => e = .returned (.bool true) ∧ Below w.heap.size w w' := by
  by_cases hn : 1048576 < n
  · go_enter Try.func5, Try.ntmps5
    go_wp2
    go_ret
    exact ⟨rfl, Below.refl _ _⟩
  have hc := h
  unfold Code maxLen at hc
  have hn' : n ≤ 1048576 := by omega
  clear hc hn
  go_enter Try.func5, Try.ntmps5
  go_wp2_with fail
  refine (drawMeetSpans_c w n c A h).mono ?_
  rintro e w1 ⟨⟨x, y, u, v, rfl, hxy, huv⟩, kw⟩
  clear h hn'
  obtain ⟨b, hm⟩ : ∃ b, mt x y u v = b := ⟨_, rfl⟩
  obtain ⟨l, g1⟩ : ∃ l, mlo x y u v = l := ⟨_, rfl⟩
  obtain ⟨k, g2⟩ : ∃ k, mhi x y u v = k := ⟨_, rfl⟩
  by_cases hab : vsp x y = true ∧ vsp u v = true
  case neg =>
    have hb0 := mt_bad hab
    rw [hm] at hb0
    subst hb0
    have e1 : (l == l) = true := by simp
    have e2 : (k == k) = true := by simp
    have bx_a := (Box2.new w1 (.int .i64 x) (.int .i64 y) 24).kept (kp1 _ (.cells #[.int .i64 u, .int .i64 v] 24))
    have bx_b := Box2.new (w1.alloc (.cells #[.int .i64 x, .int .i64 y] 24)) (.int .i64 u) (.int .i64 v) 24
    rw [show (w1.alloc (.cells #[.int .i64 x, .int .i64 y] 24)).heap.size = w1.heap.size + 1 by simp] at bx_b
    have kk : K.Kept w1 ((w1.alloc (.cells #[.int .i64 x, .int .i64 y] 24)).alloc (.cells #[.int .i64 u, .int .i64 v] 24)) := K.Kept.trans (kp1 _ _) (kp1 _ _)
    replace kw := K.Kept.trans kw kk
    generalize hw2 : (w1.alloc (.cells #[.int .i64 x, .int .i64 y] 24)).alloc (.cells #[.int .i64 u, .int .i64 v] 24) = w2 at bx_a bx_b kw kk
    clear kk
    obtain ⟨qa0, qa1, qa2, qa3, qa4⟩ := id bx_a
    obtain ⟨qb0, qb1, qb2, qb3, qb4⟩ := id bx_b
    go_wp2_with fail
    refine (meetI x y u v l k false _ hm g1 g2).mono ?_
    rintro e w3 ⟨rfl, kk⟩
    replace bx_a := Box2.kept bx_a kk
    replace bx_b := Box2.kept bx_b kk
    replace kw := K.Kept.trans kw kk
    clear kk
    clear qa0 qa1 qa2 qa3 qa4
    clear qb0 qb1 qb2 qb3 qb4
    have bx_s := Box2.new w3 (.int .i64 l) (.int .i64 k) 24
    have kk := kp1 w3 (.cells #[.int .i64 l, .int .i64 k] 24)
    replace bx_a := Box2.kept bx_a kk
    replace bx_b := Box2.kept bx_b kk
    replace kw := K.Kept.trans kw kk
    generalize hw4 : w3.alloc (.cells #[.int .i64 l, .int .i64 k] 24) = w4 at bx_a bx_b bx_s kw kk
    clear kk
    obtain ⟨qa0, qa1, qa2, qa3, qa4⟩ := id bx_a
    obtain ⟨qb0, qb1, qb2, qb3, qb4⟩ := id bx_b
    obtain ⟨qs0, qs1, qs2, qs3, qs4⟩ := id bx_s
    go_wp2_with fail
    refine (meetS x y u v l k false _ hm g1 g2).mono ?_
    rintro e w5 ⟨rfl, kk⟩
    replace bx_a := Box2.kept bx_a kk
    replace bx_b := Box2.kept bx_b kk
    replace bx_s := Box2.kept bx_s kk
    replace kw := K.Kept.trans kw kk
    clear kk
    clear qa0 qa1 qa2 qa3 qa4
    clear qb0 qb1 qb2 qb3 qb4
    clear qs0 qs1 qs2 qs3 qs4
    have bx_m := Box2.new w5 (.int .i64 l) (.int .i64 k) 24
    have kk := kp1 w5 (.cells #[.int .i64 l, .int .i64 k] 24)
    replace bx_a := Box2.kept bx_a kk
    replace bx_b := Box2.kept bx_b kk
    replace bx_s := Box2.kept bx_s kk
    replace kw := K.Kept.trans kw kk
    generalize hw6 : w5.alloc (.cells #[.int .i64 l, .int .i64 k] 24) = w6 at bx_a bx_b bx_s bx_m kw kk
    clear kk
    obtain ⟨qa0, qa1, qa2, qa3, qa4⟩ := id bx_a
    obtain ⟨qb0, qb1, qb2, qb3, qb4⟩ := id bx_b
    obtain ⟨qs0, qs1, qs2, qs3, qs4⟩ := id bx_s
    obtain ⟨qm0, qm1, qm2, qm3, qm4⟩ := id bx_m
    cases h1 : vsp x y
    · go_wp2_with (go_at_call 25; refine (validSpan_ik x y false _ h1).mono ?_; rintro e w7 ⟨rfl, kk⟩; replace kw := K.Kept.trans kw kk; obtain ⟨qa0', qa1', qa2', qa3', qa4'⟩ := Box2.kept bx_a kk; obtain ⟨qb0', qb1', qb2', qb3', qb4'⟩ := Box2.kept bx_b kk; obtain ⟨qs0', qs1', qs2', qs3', qs4'⟩ := Box2.kept bx_s kk; obtain ⟨qm0', qm1', qm2', qm3', qm4'⟩ := Box2.kept bx_m kk)
      go_ret
      exact ⟨rfl, kw⟩
    · have h2 : vsp u v = false := by cases h : vsp u v <;> simp_all
      go_wp2_with fail
      refine (validSpan_ik x y true _ h1).mono ?_
      rintro e w7 ⟨rfl, kk⟩
      have bx_b := Box2.kept bx_b kk
      have bx_s := Box2.kept bx_s kk
      have bx_m := Box2.kept bx_m kk
      have kw := K.Kept.trans kw kk
      clear qb0 qb1 qb2 qb3 qb4 qs0 qs1 qs2 qs3 qs4 qm0 qm1 qm2 qm3 qm4
      obtain ⟨qb0, qb1, qb2, qb3, qb4⟩ := id bx_b
      obtain ⟨qs0, qs1, qs2, qs3, qs4⟩ := id bx_s
      obtain ⟨qm0, qm1, qm2, qm3, qm4⟩ := id bx_m
      go_wp2_with fail
      refine (validSpan_ik u v false _ h2).mono ?_
      rintro e w8 ⟨rfl, kk⟩
      obtain ⟨rs0, rs1, rs2, rs3, rs4⟩ := Box2.kept bx_s kk
      obtain ⟨rm0, rm1, rm2, rm3, rm4⟩ := Box2.kept bx_m kk
      go_wp2
      go_ret
      exact ⟨rfl, K.Kept.trans kw kk⟩
  obtain ⟨h1, h2⟩ := hab
  have HM := Lib.hid (fun z => meet_wi z h1 h2)
  rw [hm, g1, g2] at HM
  have c1 := (mt_comm x y u v).trans hm
  have c2 := (ml_comm x y u v).1.trans g1
  have c3 := (ml_comm x y u v).2.trans g2
  have e1 : (l == l) = true := by simp
  have e2 : (k == k) = true := by simp
  have bx_a := (Box2.new w1 (.int .i64 x) (.int .i64 y) 24).kept (kp1 _ (.cells #[.int .i64 u, .int .i64 v] 24))
  have bx_b := Box2.new (w1.alloc (.cells #[.int .i64 x, .int .i64 y] 24)) (.int .i64 u) (.int .i64 v) 24
  rw [show (w1.alloc (.cells #[.int .i64 x, .int .i64 y] 24)).heap.size = w1.heap.size + 1 by simp] at bx_b
  have kk : K.Kept w1 ((w1.alloc (.cells #[.int .i64 x, .int .i64 y] 24)).alloc (.cells #[.int .i64 u, .int .i64 v] 24)) := K.Kept.trans (kp1 _ _) (kp1 _ _)
  replace kw := K.Kept.trans kw kk
  generalize hw2 : (w1.alloc (.cells #[.int .i64 x, .int .i64 y] 24)).alloc (.cells #[.int .i64 u, .int .i64 v] 24) = w2 at bx_a bx_b kw kk
  clear kk
  obtain ⟨qa0, qa1, qa2, qa3, qa4⟩ := id bx_a
  obtain ⟨qb0, qb1, qb2, qb3, qb4⟩ := id bx_b
  go_wp2_with fail
  refine (meetI x y u v l k b _ hm g1 g2).mono ?_
  rintro e w3 ⟨rfl, kk⟩
  replace bx_a := Box2.kept bx_a kk
  replace bx_b := Box2.kept bx_b kk
  replace kw := K.Kept.trans kw kk
  clear kk
  clear qa0 qa1 qa2 qa3 qa4
  clear qb0 qb1 qb2 qb3 qb4
  have bx_s := Box2.new w3 (.int .i64 l) (.int .i64 k) 24
  have kk := kp1 w3 (.cells #[.int .i64 l, .int .i64 k] 24)
  replace bx_a := Box2.kept bx_a kk
  replace bx_b := Box2.kept bx_b kk
  replace kw := K.Kept.trans kw kk
  generalize hw4 : w3.alloc (.cells #[.int .i64 l, .int .i64 k] 24) = w4 at bx_a bx_b bx_s kw kk
  clear kk
  obtain ⟨qa0, qa1, qa2, qa3, qa4⟩ := id bx_a
  obtain ⟨qb0, qb1, qb2, qb3, qb4⟩ := id bx_b
  obtain ⟨qs0, qs1, qs2, qs3, qs4⟩ := id bx_s
  go_wp2_with fail
  refine (meetS x y u v l k b _ hm g1 g2).mono ?_
  rintro e w5 ⟨rfl, kk⟩
  replace bx_a := Box2.kept bx_a kk
  replace bx_b := Box2.kept bx_b kk
  replace bx_s := Box2.kept bx_s kk
  replace kw := K.Kept.trans kw kk
  clear kk
  clear qa0 qa1 qa2 qa3 qa4
  clear qb0 qb1 qb2 qb3 qb4
  clear qs0 qs1 qs2 qs3 qs4
  have bx_m := Box2.new w5 (.int .i64 l) (.int .i64 k) 24
  have kk := kp1 w5 (.cells #[.int .i64 l, .int .i64 k] 24)
  replace bx_a := Box2.kept bx_a kk
  replace bx_b := Box2.kept bx_b kk
  replace bx_s := Box2.kept bx_s kk
  replace kw := K.Kept.trans kw kk
  generalize hw6 : w5.alloc (.cells #[.int .i64 l, .int .i64 k] 24) = w6 at bx_a bx_b bx_s bx_m kw kk
  clear kk
  obtain ⟨qa0, qa1, qa2, qa3, qa4⟩ := id bx_a
  obtain ⟨qb0, qb1, qb2, qb3, qb4⟩ := id bx_b
  obtain ⟨qs0, qs1, qs2, qs3, qs4⟩ := id bx_s
  obtain ⟨qm0, qm1, qm2, qm3, qm4⟩ := id bx_m
  go_wp2_with fail
  refine (validSpan_ik x y true _ h1).mono ?_
  rintro e w7 ⟨rfl, kk⟩
  replace bx_a := Box2.kept bx_a kk
  replace bx_b := Box2.kept bx_b kk
  replace bx_s := Box2.kept bx_s kk
  replace bx_m := Box2.kept bx_m kk
  replace kw := K.Kept.trans kw kk
  clear kk
  clear qa0 qa1 qa2 qa3 qa4
  clear qb0 qb1 qb2 qb3 qb4
  clear qs0 qs1 qs2 qs3 qs4
  clear qm0 qm1 qm2 qm3 qm4
  obtain ⟨qa0, qa1, qa2, qa3, qa4⟩ := id bx_a
  obtain ⟨qb0, qb1, qb2, qb3, qb4⟩ := id bx_b
  obtain ⟨qs0, qs1, qs2, qs3, qs4⟩ := id bx_s
  obtain ⟨qm0, qm1, qm2, qm3, qm4⟩ := id bx_m
  go_wp2_with fail
  refine (validSpan_ik u v true _ h2).mono ?_
  rintro e w8 ⟨rfl, kk⟩
  replace bx_a := Box2.kept bx_a kk
  replace bx_b := Box2.kept bx_b kk
  replace bx_s := Box2.kept bx_s kk
  replace bx_m := Box2.kept bx_m kk
  replace kw := K.Kept.trans kw kk
  clear kk
  clear qa0 qa1 qa2 qa3 qa4
  clear qb0 qb1 qb2 qb3 qb4
  clear qs0 qs1 qs2 qs3 qs4
  clear qm0 qm1 qm2 qm3 qm4
  have LC := Lib.hid (fun i hi => ints_cell w8 3 #[.int .i64 x, .int .i64 y, .int .i64 u, .int .i64 v, .int .i64 (x - 1), .int .i64 (y + 1), .int .i64 (u - 1), .int .i64 (v + 1)] (by simp [nums]) i hi)
  have kk := kp1 w8 (.cells #[.int .i64 x, .int .i64 y, .int .i64 u, .int .i64 v, .int .i64 (x - 1), .int .i64 (y + 1), .int .i64 (u - 1), .int .i64 (v + 1)] 3)
  have LS := Lib.hid (show w8.heap.size < (w8.alloc (.cells #[.int .i64 x, .int .i64 y, .int .i64 u, .int .i64 v, .int .i64 (x - 1), .int .i64 (y + 1), .int .i64 (u - 1), .int .i64 (v + 1)] 3)).heap.size by simp)
  obtain ⟨qa0, qa1, qa2, qa3, qa4⟩ := id bx_a
  obtain ⟨qb0, qb1, qb2, qb3, qb4⟩ := id bx_b
  obtain ⟨qs0, qs1, qs2, qs3, qs4⟩ := id bx_s
  obtain ⟨qm0, qm1, qm2, qm3, qm4⟩ := id bx_m
  generalize hw9 : w8.alloc (.cells #[.int .i64 x, .int .i64 y, .int .i64 u, .int .i64 v, .int .i64 (x - 1), .int .i64 (y + 1), .int .i64 (u - 1), .int .i64 (v + 1)] 3) = w9 at LC kk LS
  go_wp2_with fail
  clear qa0 qa1 qa2 qa3 qa4
  clear qb0 qb1 qb2 qb3 qb4
  clear qs0 qs1 qs2 qs3 qs4
  clear qm0 qm1 qm2 qm3 qm4
  replace bx_a := Box2.kept bx_a kk
  replace bx_b := Box2.kept bx_b kk
  replace bx_s := Box2.kept bx_s kk
  replace bx_m := Box2.kept bx_m kk
  replace kw := K.Kept.trans kw kk
  clear kk
  clear hw9 hw2 hw4 hw6
  go_loopw [10] (fun i wr => ∃ j : Nat, j ≤ 8 ∧ i = .int .i64 j ∧ K.Kept w9 wr) (fun i _ => 8 - (intOf i).toNat)
  case atStart => exact ⟨0, by omega, rfl, Below.refl _ _⟩
  case round =>
    obtain ⟨j, hj, rfl, kr⟩ := hrel
    obtain ⟨a0, a1, a2, a3, a4⟩ := Box2.kept bx_a kr
    obtain ⟨b0, b1, b2, b3, b4⟩ := Box2.kept bx_b kr
    obtain ⟨s0, s1, s2, s3, s4⟩ := Box2.kept bx_s kr
    by_cases hlt : j < 8
    · obtain ⟨z, hz⟩ := LC.out j (by simpa using hlt)
      have hz := kcell kr _ _ hz
      have hmz := HM.out z
      have i1 : (j : Int) < 8 := by omega
      obtain ⟨rs, hrs⟩ : ∃ r, (vsp l k && wi z l k) = r := ⟨_, rfl⟩
      rw [hrs] at hmz
      clear c1 c2 c3 hm g1 g2
      cases hra : (vsp x y && wi z x y) <;> cases hrb : (vsp u v && wi z u v) <;> cases b <;> cases rs
      all_goals (rw [hra, hrb] at hmz)
      all_goals first
        | (exact absurd hmz (by decide))
        | (go_wp2_with fail; (have rg0 := cell_regrown a0; have rg1 := cell_regrown a1; have rg2 := cell_regrown b0; have rg3 := cell_regrown b1; have rg4 := cell_regrown s0; have rg5 := cell_regrown s1; have rg6 := cell_regrown hz; refine wp_region_quiet_below (by kernel_rfl) (by kernel_rfl) ?_; (repeat (go_big_quiet_step ((first | (go_at_call_of 26 (l); exact Calls.regrown_of (inSpan_mk l k z _ _ hrs)) | (go_at_call_of 26 (x); exact Calls.regrown_of (inSpan_mk x y z _ _ hra)) | (go_at_call_of 26 (u); exact Calls.regrown_of (inSpan_mk u v z _ _ hrb)))))); refine wpQuiet_nil ?_; intro wq hw2; have kwq := K.of_regrown hw2; clear hw2 rg0 rg1 rg2 rg3 rg4 rg5 rg6); go_wp2; go_roundw; (case rel => exact ⟨j + 1, by omega, by go_num, K.Kept.trans kr kwq⟩); (case measure => (simp [intOf]; omega)))
    · have hj8 : j = 8 := by omega
      subst hj8
      go_wp2_with fail
      refine (meetI u v x y l k b _ c1 c2 c3).mono ?_
      rintro e wt ⟨rfl, kt⟩
      obtain ⟨t0, t1, t2, t3, t4⟩ := Box2.kept (Box2.kept bx_s kr) kt
      cases b
      all_goals go_wp2
      all_goals go_ret
      all_goals exact ⟨rfl, K.Kept.trans kw (K.Kept.trans kr (K.Kept.trans kt (by go_grown)))⟩
end C
end Go.Proofs.Ytoooliadnjojeaa

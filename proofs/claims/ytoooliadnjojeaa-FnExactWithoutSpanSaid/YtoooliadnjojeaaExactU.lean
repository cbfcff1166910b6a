/-
  UnionSpan and WithoutSpan return what the reference returns, for all arguments, in memory of their own. Conditions: none.
-/
import Derived.Test.YtoooliadnjojeaaSpansW
namespace Go.Proofs.Ytoooliadnjojeaa
open Go.RowKit
namespace C

theorem uL_len (l : List (Int × Int)) (s : Int × Int) : (uL l s).length ≤ 6 := by
  unfold uL
  split
  · rename_i h
    unfold uOk at h
    simp only [Bool.and_eq_true, decide_eq_true_eq] at h
    exact h.2
  · simp
theorem wL_len (l : List (Int × Int)) (s : Int × Int) : (wL l s).length ≤ 6 := by
  unfold wL
  split
  · rename_i h
    unfold wOk at h
    simp only [Bool.and_eq_true, decide_eq_true_eq] at h
    exact h.2
  · simp
set_option maxHeartbeats 4000000 in
theorem exactUnionSpan (w : World) (Al : Option Addr) (nl cl : Nat) (l : List (Int × Int)) (sx sy : Int) (hcl : nl ≤ cl ∧ cl ≤ maxLen) (hl : K.PR w w.heap.size Al nl l) : Calls Try.prog 9 #[.slice Al nl cl, .agg #[.int .i64 sx, .int .i64 sy]] w fun e w' => e = .returned (.bool true) ∧ Below w.heap.size w w' := by
  have bx_s := Box2.new w (.int .i64 sx) (.int .i64 sy) 23
  have kw := kp1 w (.cells #[.int .i64 sx, .int .i64 sy] 23)
  generalize hw0 : w.alloc (.cells #[.int .i64 sx, .int .i64 sy] 23) = w0 at bx_s kw
  have Ll := K.PR.len hl
  by_cases hnl : (nl : Int) ≤ 1048576
  case neg =>
    go_enter Try.func9, Try.ntmps9
    go_wp2_with fail
    refine (szSpanS_no _ Al nl cl _ (by omega) hcl (by omega)).mono ?_
    rintro e wx ⟨rfl, rfl⟩
    go_wp2
    go_ret
    exact ⟨rfl, kw⟩
  have hLen := uL_len l (sx, sy)
  have hLl := Lib.hid Ll
  clear Ll
  go_enter Try.func9, Try.ntmps9
  go_wp2_with fail
  refine (szSpanS_yes _ Al nl cl _ (by omega) (by omega)).mono ?_
  rintro e wx ⟨rfl, rfl⟩
  go_wp2_with fail
  obtain ⟨qs0, qs1, qs2, qs3, qs4⟩ := id bx_s
  replace kw := K.Kept.trans kw (kdrew _)
  replace bx_s := Box2.kept bx_s (kdrew _)
  go_region_held3 (fun w' => w'.cell? ⟨w.heap.size, 0, none⟩ = some (.int .i64 sx) ∧ w'.cell? ⟨w.heap.size, 1, none⟩ = some (.int .i64 sy)) (first | exact ⟨qs0, qs1⟩ | go_keep) (first | (go_at_call 21; refine (toSpanS_c _ Al nl cl l (K.Rd.more (K.Rd.below hl kw) kw.size) (by omega)).mono ?_; rintro e wv ⟨Atl, ntl, ctl, rfl, hltl, owntl, kk⟩; replace bx_s := Box2.kept bx_s kk; replace kw := K.Kept.trans kw kk; clear kk; clear qs0 qs1 qs2 qs3 qs4; obtain ⟨qs0, qs1, qs2, qs3, qs4⟩ := id bx_s) | (go_at_call 16; refine (toSpan_k sx sy _).mono ?_; rintro e wv ⟨rfl, kk⟩; (try replace owntl := K.own_kept owntl kk); replace bx_s := Box2.kept bx_s kk; replace kw := K.Kept.trans kw kk; clear kk; clear qs0 qs1 qs2 qs3 qs4; obtain ⟨qs0, qs1, qs2, qs3, qs4⟩ := id bx_s) | (go_at_call 34; refine (unionSpan_s _ Atl ntl ctl l sx sy (K.rd_own owntl) (by have := hLl.out; omega)).mono ?_; rintro e wv ⟨Ar0, nr0, cr0, rfl, hlr0, ownr0, kk⟩; have Br0 := Lib.hid (fun i hi => show w.heap.size ≤ i from by have := (ownr0.lt i hi).1; have := kw.size; omega); have Xr0s := Lib.hid (fun i hi => show i ≠ w.heap.size from by have := (ownr0.lt i hi).1; have := bx_s.2.2.2.2; omega); replace bx_s := Box2.kept bx_s kk; replace kw := K.Kept.trans kw kk; clear kk; clear qs0 qs1 qs2 qs3 qs4; obtain ⟨qs0, qs1, qs2, qs3, qs4⟩ := id bx_s; clear owntl))
  all_goals
    clear qs0 qs1 qs2 qs3 qs4
    obtain ⟨qs0, qs1, qs2, qs3, qs4⟩ := id bx_s
    go_wp2_with fail
    refine (toSpanS_c _ Al nl cl l (K.Rd.more (K.Rd.below hl kw) kw.size) (by omega)).mono ?_
    rintro e w1 ⟨Axl, nxl, cxl, rfl, hlxl, ownxl, kk⟩
    have Bxl := Lib.hid (fun i hi => show w.heap.size ≤ i from by have := (ownxl.lt i hi).1; have := kw.size; omega)
    have Xxls := Lib.hid (fun i hi => show i ≠ w.heap.size from by have := (ownxl.lt i hi).1; have := bx_s.2.2.2.2; omega)
    have Nr0_xl := Lib.hid (fun i j hi hj => show i ≠ j from by have := (ownr0.lt i hi).2; have := (ownxl.lt j hj).1; omega)
    replace ownr0 := K.own_kept ownr0 kk
    replace bx_s := Box2.kept bx_s kk
    replace kw := K.Kept.trans kw kk
    clear kk
    clear qs0 qs1 qs2 qs3 qs4
    obtain ⟨qs0, qs1, qs2, qs3, qs4⟩ := id bx_s
    go_wp2_with fail
    refine (toSpan_k sx sy _).mono ?_
    rintro e w2 ⟨rfl, kk⟩
    replace ownr0 := K.own_kept ownr0 kk
    replace ownxl := K.own_kept ownxl kk
    replace bx_s := Box2.kept bx_s kk
    replace kw := K.Kept.trans kw kk
    clear kk
    clear qs0 qs1 qs2 qs3 qs4
    obtain ⟨qs0, qs1, qs2, qs3, qs4⟩ := id bx_s
    go_wp2_with fail
    refine (unionSpan_i _ Axl nxl cxl l sx sy (K.rd_own ownxl) (by have := hLl.out; omega)).mono ?_
    rintro e w3 ⟨Ag0, ng0, cg0, rfl, hlg0, owng0, kk⟩
    have Bg0 := Lib.hid (fun i hi => show w.heap.size ≤ i from by have := (owng0.lt i hi).1; have := kw.size; omega)
    have Xg0s := Lib.hid (fun i hi => show i ≠ w.heap.size from by have := (owng0.lt i hi).1; have := bx_s.2.2.2.2; omega)
    have Nr0_g0 := Lib.hid (fun i j hi hj => show i ≠ j from by have := (ownr0.lt i hi).2; have := (owng0.lt j hj).1; omega)
    have Nxl_g0 := Lib.hid (fun i j hi hj => show i ≠ j from by have := (ownxl.lt i hi).2; have := (owng0.lt j hj).1; omega)
    replace ownr0 := K.own_kept ownr0 kk
    replace ownxl := K.own_kept ownxl kk
    replace bx_s := Box2.kept bx_s kk
    replace kw := K.Kept.trans kw kk
    clear kk
    clear qs0 qs1 qs2 qs3 qs4
    obtain ⟨qs0, qs1, qs2, qs3, qs4⟩ := id bx_s
    go_wp2_with fail
    refine (eqSpanS_c _ _ _ _ _ _ _ (uL l (sx, sy)) (uL l (sx, sy)) (K.rd_own owng0) (K.rd_own ownr0) (by omega) (by omega)).mono ?_
    rintro e w4 ⟨rfl, kk⟩
    replace ownr0 := K.own_kept ownr0 kk
    replace ownxl := K.own_kept ownxl kk
    replace owng0 := K.own_kept owng0 kk
    replace bx_s := Box2.kept bx_s kk
    replace kw := K.Kept.trans kw kk
    clear kk
    clear qs0 qs1 qs2 qs3 qs4
    obtain ⟨qs0, qs1, qs2, qs3, qs4⟩ := id bx_s
    go_wp2_with fail
    refine (toSpanS_c _ Al nl cl l (K.Rd.more (K.Rd.below hl kw) kw.size) (by omega)).mono ?_
    rintro e w5 ⟨Ay, ny, cy, rfl, hly, owny, kk⟩
    replace ownr0 := K.own_kept ownr0 kk
    replace ownxl := K.own_kept ownxl kk
    replace owng0 := K.own_kept owng0 kk
    replace bx_s := Box2.kept bx_s kk
    replace kw := K.Kept.trans kw kk
    clear kk
    clear qs0 qs1 qs2 qs3 qs4
    obtain ⟨qs0, qs1, qs2, qs3, qs4⟩ := id bx_s
    go_wp2_with fail
    refine (eqSpanS_c _ _ _ _ _ _ _ l l (K.rd_own ownxl) (K.rd_own owny) (by have := hLl.out; omega) (by have := hLl.out; omega)).mono ?_
    rintro e w6 ⟨rfl, kk⟩
    replace ownr0 := K.own_kept ownr0 kk
    replace ownxl := K.own_kept ownxl kk
    replace owng0 := K.own_kept owng0 kk
    replace owny := K.own_kept owny kk
    replace bx_s := Box2.kept bx_s kk
    replace kw := K.Kept.trans kw kk
    clear kk
    clear qs0 qs1 qs2 qs3 qs4
    clear owny hly
    obtain ⟨qs0, qs1, qs2, qs3, qs4⟩ := id bx_s
    go_wp2_with fail
    refine (markSpanS_c _ _ _ _ _ _ _ ownxl (by have := hLl.out; omega) (by omega)).mono ?_
    rintro e w7 ⟨rfl, ownN, gg⟩
    replace ownr0 := K.own_other ownr0 gg (fun i j hi hj => Nr0_xl.out i j hi hj)
    replace owng0 := K.own_other owng0 gg (fun i j hi hj e => Nxl_g0.out j i hj hi e.symm)
    replace bx_s := Box2.grown bx_s gg (fun e => Xxls.out _ e rfl)
    replace kw : K.Kept w _ := Below.grown kw gg kw.size (fun i hi => Bxl.out i hi)
    clear gg
    clear ownxl
    have ownxl := ownN
    clear ownN
    clear qs0 qs1 qs2 qs3 qs4
    obtain ⟨qs0, qs1, qs2, qs3, qs4⟩ := id bx_s
    go_wp2_with fail
    refine (eqSpanS_c _ _ _ _ _ _ _ (uL l (sx, sy)) (uL l (sx, sy)) (K.rd_own owng0) (K.rd_own ownr0) (by omega) (by omega)).mono ?_
    rintro e w8 ⟨rfl, kk⟩
    replace ownr0 := K.own_kept ownr0 kk
    replace ownxl := K.own_kept ownxl kk
    replace owng0 := K.own_kept owng0 kk
    replace bx_s := Box2.kept bx_s kk
    replace kw := K.Kept.trans kw kk
    clear kk
    clear qs0 qs1 qs2 qs3 qs4
    clear ownxl
    obtain ⟨qs0, qs1, qs2, qs3, qs4⟩ := id bx_s
    go_wp2_with fail
    refine (markSpanS_c _ _ _ _ _ _ _ owng0 (by omega) (by omega)).mono ?_
    rintro e w9 ⟨rfl, ownN, gg⟩
    replace ownr0 := K.own_other ownr0 gg (fun i j hi hj => Nr0_g0.out i j hi hj)
    replace bx_s := Box2.grown bx_s gg (fun e => Xg0s.out _ e rfl)
    replace kw : K.Kept w _ := Below.grown kw gg kw.size (fun i hi => Bg0.out i hi)
    clear gg
    clear owng0
    have owng0 := ownN
    clear ownN
    clear qs0 qs1 qs2 qs3 qs4
    obtain ⟨qs0, qs1, qs2, qs3, qs4⟩ := id bx_s
    go_wp2_with fail
    refine (heldSpanS_c _ _ _ _ 1 (K.rd_own owng0) (by omega) (by omega)).mono ?_
    rintro e w10 ⟨rfl, rfl⟩
    clear qs0 qs1 qs2 qs3 qs4
    go_wp2_with fail
    obtain ⟨qs0, qs1, qs2, qs3, qs4⟩ := id bx_s
    replace kw := K.Kept.trans kw (kdrew _)
    replace bx_s := Box2.kept bx_s (kdrew _)
    replace ownr0 := K.own_kept ownr0 (kdrew _)
    replace owng0 := K.own_kept owng0 (kdrew _)
    go_region_held3 (fun w' => w'.cell? ⟨w.heap.size, 0, none⟩ = some (.int .i64 sx) ∧ w'.cell? ⟨w.heap.size, 1, none⟩ = some (.int .i64 sy)) (first | exact ⟨qs0, qs1⟩ | go_keep) (first | (go_at_call 21; refine (toSpanS_c _ Al nl cl l (K.Rd.more (K.Rd.below hl kw) kw.size) (by omega)).mono ?_; rintro e wv ⟨Atl, ntl, ctl, rfl, hltl, owntl, kk⟩; replace ownr0 := K.own_kept ownr0 kk; replace owng0 := K.own_kept owng0 kk; replace bx_s := Box2.kept bx_s kk; replace kw := K.Kept.trans kw kk; clear kk; clear qs0 qs1 qs2 qs3 qs4; obtain ⟨qs0, qs1, qs2, qs3, qs4⟩ := id bx_s) | (go_at_call 16; refine (toSpan_k sx sy _).mono ?_; rintro e wv ⟨rfl, kk⟩; replace ownr0 := K.own_kept ownr0 kk; replace owng0 := K.own_kept owng0 kk; (try replace owntl := K.own_kept owntl kk); replace bx_s := Box2.kept bx_s kk; replace kw := K.Kept.trans kw kk; clear kk; clear qs0 qs1 qs2 qs3 qs4; obtain ⟨qs0, qs1, qs2, qs3, qs4⟩ := id bx_s) | (go_at_call 35; refine (unionSpan_i _ Atl ntl ctl l sx sy (K.rd_own owntl) (by have := hLl.out; omega)).mono ?_; rintro e wv ⟨Ah0, nh0, ch0, rfl, hlh0, ownh0, kk⟩; have Bh0 := Lib.hid (fun i hi => show w.heap.size ≤ i from by have := (ownh0.lt i hi).1; have := kw.size; omega); have Xh0s := Lib.hid (fun i hi => show i ≠ w.heap.size from by have := (ownh0.lt i hi).1; have := bx_s.2.2.2.2; omega); have Nr0_h0 := Lib.hid (fun i j hi hj => show i ≠ j from by have := (ownr0.lt i hi).2; have := (ownh0.lt j hj).1; omega); have Ng0_h0 := Lib.hid (fun i j hi hj => show i ≠ j from by have := (owng0.lt i hi).2; have := (ownh0.lt j hj).1; omega); replace ownr0 := K.own_kept ownr0 kk; replace owng0 := K.own_kept owng0 kk; replace bx_s := Box2.kept bx_s kk; replace kw := K.Kept.trans kw kk; clear kk; clear qs0 qs1 qs2 qs3 qs4; obtain ⟨qs0, qs1, qs2, qs3, qs4⟩ := id bx_s; clear owntl))
    all_goals
      clear qs0 qs1 qs2 qs3 qs4
      obtain ⟨qs0, qs1, qs2, qs3, qs4⟩ := id bx_s
      go_wp2_with fail
      refine (eqSpanS_c _ _ _ _ _ _ _ (uL l (sx, sy)) (uL l (sx, sy)) (K.rd_own ownh0) (K.rd_own ownr0) (by omega) (by omega)).mono ?_
      rintro e w11 ⟨rfl, kk⟩
      replace ownr0 := K.own_kept ownr0 kk
      replace owng0 := K.own_kept owng0 kk
      replace ownh0 := K.own_kept ownh0 kk
      replace bx_s := Box2.kept bx_s kk
      replace kw := K.Kept.trans kw kk
      clear kk
      clear qs0 qs1 qs2 qs3 qs4
      obtain ⟨qs0, qs1, qs2, qs3, qs4⟩ := id bx_s
      go_wp2_with fail
      refine (heldSpanS_c _ _ _ _ 1 (K.rd_own owng0) (by omega) (by omega)).mono ?_
      rintro e w12 ⟨rfl, rfl⟩
      clear qs0 qs1 qs2 qs3 qs4
      go_wp2
      go_ret
      exact ⟨rfl, kw⟩
set_option maxHeartbeats 4000000 in
theorem exactWithoutSpan (w : World) (Al : Option Addr) (nl cl : Nat) (l : List (Int × Int)) (sx sy : Int) (hcl : nl ≤ cl ∧ cl ≤ maxLen) (hl : K.PR w w.heap.size Al nl l) : Calls Try.prog 7 #[.slice Al nl cl, .agg #[.int .i64 sx, .int .i64 sy]] w fun e w' => e = .returned (.bool true) ∧ Below w.heap.size w w' := by
  have bx_s := Box2.new w (.int .i64 sx) (.int .i64 sy) 23
  have kw := kp1 w (.cells #[.int .i64 sx, .int .i64 sy] 23)
  generalize hw0 : w.alloc (.cells #[.int .i64 sx, .int .i64 sy] 23) = w0 at bx_s kw
  have Ll := K.PR.len hl
  by_cases hnl : (nl : Int) ≤ 1048576
  case neg =>
    go_enter Try.func7, Try.ntmps7
    go_wp2_with fail
    refine (szSpanS_no _ Al nl cl _ (by omega) hcl (by omega)).mono ?_
    rintro e wx ⟨rfl, rfl⟩
    go_wp2
    go_ret
    exact ⟨rfl, kw⟩
  have hLen := wL_len l (sx, sy)
  have hLl := Lib.hid Ll
  clear Ll
  go_enter Try.func7, Try.ntmps7
  go_wp2_with fail
  refine (szSpanS_yes _ Al nl cl _ (by omega) (by omega)).mono ?_
  rintro e wx ⟨rfl, rfl⟩
  go_wp2_with fail
  obtain ⟨qs0, qs1, qs2, qs3, qs4⟩ := id bx_s
  replace kw := K.Kept.trans kw (kdrew _)
  replace bx_s := Box2.kept bx_s (kdrew _)
  go_region_held3 (fun w' => w'.cell? ⟨w.heap.size, 0, none⟩ = some (.int .i64 sx) ∧ w'.cell? ⟨w.heap.size, 1, none⟩ = some (.int .i64 sy)) (first | exact ⟨qs0, qs1⟩ | go_keep) (first | (go_at_call 21; refine (toSpanS_c _ Al nl cl l (K.Rd.more (K.Rd.below hl kw) kw.size) (by omega)).mono ?_; rintro e wv ⟨Atl, ntl, ctl, rfl, hltl, owntl, kk⟩; replace bx_s := Box2.kept bx_s kk; replace kw := K.Kept.trans kw kk; clear kk; clear qs0 qs1 qs2 qs3 qs4; obtain ⟨qs0, qs1, qs2, qs3, qs4⟩ := id bx_s) | (go_at_call 16; refine (toSpan_k sx sy _).mono ?_; rintro e wv ⟨rfl, kk⟩; (try replace owntl := K.own_kept owntl kk); replace bx_s := Box2.kept bx_s kk; replace kw := K.Kept.trans kw kk; clear kk; clear qs0 qs1 qs2 qs3 qs4; obtain ⟨qs0, qs1, qs2, qs3, qs4⟩ := id bx_s) | (go_at_call 28; refine (withoutSpan_s _ Atl ntl ctl l sx sy (K.rd_own owntl) (by have := hLl.out; omega)).mono ?_; rintro e wv ⟨Ar0, nr0, cr0, rfl, hlr0, ownr0, kk⟩; have Br0 := Lib.hid (fun i hi => show w.heap.size ≤ i from by have := (ownr0.lt i hi).1; have := kw.size; omega); have Xr0s := Lib.hid (fun i hi => show i ≠ w.heap.size from by have := (ownr0.lt i hi).1; have := bx_s.2.2.2.2; omega); replace bx_s := Box2.kept bx_s kk; replace kw := K.Kept.trans kw kk; clear kk; clear qs0 qs1 qs2 qs3 qs4; obtain ⟨qs0, qs1, qs2, qs3, qs4⟩ := id bx_s; clear owntl))
  all_goals
    clear qs0 qs1 qs2 qs3 qs4
    obtain ⟨qs0, qs1, qs2, qs3, qs4⟩ := id bx_s
    go_wp2_with fail
    refine (toSpanS_c _ Al nl cl l (K.Rd.more (K.Rd.below hl kw) kw.size) (by omega)).mono ?_
    rintro e w1 ⟨Axl, nxl, cxl, rfl, hlxl, ownxl, kk⟩
    have Bxl := Lib.hid (fun i hi => show w.heap.size ≤ i from by have := (ownxl.lt i hi).1; have := kw.size; omega)
    have Xxls := Lib.hid (fun i hi => show i ≠ w.heap.size from by have := (ownxl.lt i hi).1; have := bx_s.2.2.2.2; omega)
    have Nr0_xl := Lib.hid (fun i j hi hj => show i ≠ j from by have := (ownr0.lt i hi).2; have := (ownxl.lt j hj).1; omega)
    replace ownr0 := K.own_kept ownr0 kk
    replace bx_s := Box2.kept bx_s kk
    replace kw := K.Kept.trans kw kk
    clear kk
    clear qs0 qs1 qs2 qs3 qs4
    obtain ⟨qs0, qs1, qs2, qs3, qs4⟩ := id bx_s
    go_wp2_with fail
    refine (toSpan_k sx sy _).mono ?_
    rintro e w2 ⟨rfl, kk⟩
    replace ownr0 := K.own_kept ownr0 kk
    replace ownxl := K.own_kept ownxl kk
    replace bx_s := Box2.kept bx_s kk
    replace kw := K.Kept.trans kw kk
    clear kk
    clear qs0 qs1 qs2 qs3 qs4
    obtain ⟨qs0, qs1, qs2, qs3, qs4⟩ := id bx_s
    go_wp2_with fail
    refine (withoutSpan_i _ Axl nxl cxl l sx sy (K.rd_own ownxl) (by have := hLl.out; omega)).mono ?_
    rintro e w3 ⟨Ag0, ng0, cg0, rfl, hlg0, owng0, kk⟩
    have Bg0 := Lib.hid (fun i hi => show w.heap.size ≤ i from by have := (owng0.lt i hi).1; have := kw.size; omega)
    have Xg0s := Lib.hid (fun i hi => show i ≠ w.heap.size from by have := (owng0.lt i hi).1; have := bx_s.2.2.2.2; omega)
    have Nr0_g0 := Lib.hid (fun i j hi hj => show i ≠ j from by have := (ownr0.lt i hi).2; have := (owng0.lt j hj).1; omega)
    have Nxl_g0 := Lib.hid (fun i j hi hj => show i ≠ j from by have := (ownxl.lt i hi).2; have := (owng0.lt j hj).1; omega)
    replace ownr0 := K.own_kept ownr0 kk
    replace ownxl := K.own_kept ownxl kk
    replace bx_s := Box2.kept bx_s kk
    replace kw := K.Kept.trans kw kk
    clear kk
    clear qs0 qs1 qs2 qs3 qs4
    obtain ⟨qs0, qs1, qs2, qs3, qs4⟩ := id bx_s
    go_wp2_with fail
    refine (eqSpanS_c _ _ _ _ _ _ _ (wL l (sx, sy)) (wL l (sx, sy)) (K.rd_own owng0) (K.rd_own ownr0) (by omega) (by omega)).mono ?_
    rintro e w4 ⟨rfl, kk⟩
    replace ownr0 := K.own_kept ownr0 kk
    replace ownxl := K.own_kept ownxl kk
    replace owng0 := K.own_kept owng0 kk
    replace bx_s := Box2.kept bx_s kk
    replace kw := K.Kept.trans kw kk
    clear kk
    clear qs0 qs1 qs2 qs3 qs4
    obtain ⟨qs0, qs1, qs2, qs3, qs4⟩ := id bx_s
    go_wp2_with fail
    refine (toSpanS_c _ Al nl cl l (K.Rd.more (K.Rd.below hl kw) kw.size) (by omega)).mono ?_
    rintro e w5 ⟨Ay, ny, cy, rfl, hly, owny, kk⟩
    replace ownr0 := K.own_kept ownr0 kk
    replace ownxl := K.own_kept ownxl kk
    replace owng0 := K.own_kept owng0 kk
    replace bx_s := Box2.kept bx_s kk
    replace kw := K.Kept.trans kw kk
    clear kk
    clear qs0 qs1 qs2 qs3 qs4
    obtain ⟨qs0, qs1, qs2, qs3, qs4⟩ := id bx_s
    go_wp2_with fail
    refine (eqSpanS_c _ _ _ _ _ _ _ l l (K.rd_own ownxl) (K.rd_own owny) (by have := hLl.out; omega) (by have := hLl.out; omega)).mono ?_
    rintro e w6 ⟨rfl, kk⟩
    replace ownr0 := K.own_kept ownr0 kk
    replace ownxl := K.own_kept ownxl kk
    replace owng0 := K.own_kept owng0 kk
    replace owny := K.own_kept owny kk
    replace bx_s := Box2.kept bx_s kk
    replace kw := K.Kept.trans kw kk
    clear kk
    clear qs0 qs1 qs2 qs3 qs4
    clear owny hly
    obtain ⟨qs0, qs1, qs2, qs3, qs4⟩ := id bx_s
    go_wp2_with fail
    refine (markSpanS_c _ _ _ _ _ _ _ ownxl (by have := hLl.out; omega) (by omega)).mono ?_
    rintro e w7 ⟨rfl, ownN, gg⟩
    replace ownr0 := K.own_other ownr0 gg (fun i j hi hj => Nr0_xl.out i j hi hj)
    replace owng0 := K.own_other owng0 gg (fun i j hi hj e => Nxl_g0.out j i hj hi e.symm)
    replace bx_s := Box2.grown bx_s gg (fun e => Xxls.out _ e rfl)
    replace kw : K.Kept w _ := Below.grown kw gg kw.size (fun i hi => Bxl.out i hi)
    clear gg
    clear ownxl
    have ownxl := ownN
    clear ownN
    clear qs0 qs1 qs2 qs3 qs4
    obtain ⟨qs0, qs1, qs2, qs3, qs4⟩ := id bx_s
    go_wp2_with fail
    refine (eqSpanS_c _ _ _ _ _ _ _ (wL l (sx, sy)) (wL l (sx, sy)) (K.rd_own owng0) (K.rd_own ownr0) (by omega) (by omega)).mono ?_
    rintro e w8 ⟨rfl, kk⟩
    replace ownr0 := K.own_kept ownr0 kk
    replace ownxl := K.own_kept ownxl kk
    replace owng0 := K.own_kept owng0 kk
    replace bx_s := Box2.kept bx_s kk
    replace kw := K.Kept.trans kw kk
    clear kk
    clear qs0 qs1 qs2 qs3 qs4
    clear ownxl
    obtain ⟨qs0, qs1, qs2, qs3, qs4⟩ := id bx_s
    go_wp2_with fail
    refine (markSpanS_c _ _ _ _ _ _ _ owng0 (by omega) (by omega)).mono ?_
    rintro e w9 ⟨rfl, ownN, gg⟩
    replace ownr0 := K.own_other ownr0 gg (fun i j hi hj => Nr0_g0.out i j hi hj)
    replace bx_s := Box2.grown bx_s gg (fun e => Xg0s.out _ e rfl)
    replace kw : K.Kept w _ := Below.grown kw gg kw.size (fun i hi => Bg0.out i hi)
    clear gg
    clear owng0
    have owng0 := ownN
    clear ownN
    clear qs0 qs1 qs2 qs3 qs4
    obtain ⟨qs0, qs1, qs2, qs3, qs4⟩ := id bx_s
    go_wp2_with fail
    refine (heldSpanS_c _ _ _ _ 1 (K.rd_own owng0) (by omega) (by omega)).mono ?_
    rintro e w10 ⟨rfl, rfl⟩
    clear qs0 qs1 qs2 qs3 qs4
    go_wp2_with fail
    obtain ⟨qs0, qs1, qs2, qs3, qs4⟩ := id bx_s
    replace kw := K.Kept.trans kw (kdrew _)
    replace bx_s := Box2.kept bx_s (kdrew _)
    replace ownr0 := K.own_kept ownr0 (kdrew _)
    replace owng0 := K.own_kept owng0 (kdrew _)
    go_region_held3 (fun w' => w'.cell? ⟨w.heap.size, 0, none⟩ = some (.int .i64 sx) ∧ w'.cell? ⟨w.heap.size, 1, none⟩ = some (.int .i64 sy)) (first | exact ⟨qs0, qs1⟩ | go_keep) (first | (go_at_call 21; refine (toSpanS_c _ Al nl cl l (K.Rd.more (K.Rd.below hl kw) kw.size) (by omega)).mono ?_; rintro e wv ⟨Atl, ntl, ctl, rfl, hltl, owntl, kk⟩; replace ownr0 := K.own_kept ownr0 kk; replace owng0 := K.own_kept owng0 kk; replace bx_s := Box2.kept bx_s kk; replace kw := K.Kept.trans kw kk; clear kk; clear qs0 qs1 qs2 qs3 qs4; obtain ⟨qs0, qs1, qs2, qs3, qs4⟩ := id bx_s) | (go_at_call 16; refine (toSpan_k sx sy _).mono ?_; rintro e wv ⟨rfl, kk⟩; replace ownr0 := K.own_kept ownr0 kk; replace owng0 := K.own_kept owng0 kk; (try replace owntl := K.own_kept owntl kk); replace bx_s := Box2.kept bx_s kk; replace kw := K.Kept.trans kw kk; clear kk; clear qs0 qs1 qs2 qs3 qs4; obtain ⟨qs0, qs1, qs2, qs3, qs4⟩ := id bx_s) | (go_at_call 29; refine (withoutSpan_i _ Atl ntl ctl l sx sy (K.rd_own owntl) (by have := hLl.out; omega)).mono ?_; rintro e wv ⟨Ah0, nh0, ch0, rfl, hlh0, ownh0, kk⟩; have Bh0 := Lib.hid (fun i hi => show w.heap.size ≤ i from by have := (ownh0.lt i hi).1; have := kw.size; omega); have Xh0s := Lib.hid (fun i hi => show i ≠ w.heap.size from by have := (ownh0.lt i hi).1; have := bx_s.2.2.2.2; omega); have Nr0_h0 := Lib.hid (fun i j hi hj => show i ≠ j from by have := (ownr0.lt i hi).2; have := (ownh0.lt j hj).1; omega); have Ng0_h0 := Lib.hid (fun i j hi hj => show i ≠ j from by have := (owng0.lt i hi).2; have := (ownh0.lt j hj).1; omega); replace ownr0 := K.own_kept ownr0 kk; replace owng0 := K.own_kept owng0 kk; replace bx_s := Box2.kept bx_s kk; replace kw := K.Kept.trans kw kk; clear kk; clear qs0 qs1 qs2 qs3 qs4; obtain ⟨qs0, qs1, qs2, qs3, qs4⟩ := id bx_s; clear owntl))
    all_goals
      clear qs0 qs1 qs2 qs3 qs4
      obtain ⟨qs0, qs1, qs2, qs3, qs4⟩ := id bx_s
      go_wp2_with fail
      refine (eqSpanS_c _ _ _ _ _ _ _ (wL l (sx, sy)) (wL l (sx, sy)) (K.rd_own ownh0) (K.rd_own ownr0) (by omega) (by omega)).mono ?_
      rintro e w11 ⟨rfl, kk⟩
      replace ownr0 := K.own_kept ownr0 kk
      replace owng0 := K.own_kept owng0 kk
      replace ownh0 := K.own_kept ownh0 kk
      replace bx_s := Box2.kept bx_s kk
      replace kw := K.Kept.trans kw kk
      clear kk
      clear qs0 qs1 qs2 qs3 qs4
      obtain ⟨qs0, qs1, qs2, qs3, qs4⟩ := id bx_s
      go_wp2_with fail
      refine (heldSpanS_c _ _ _ _ 1 (K.rd_own owng0) (by omega) (by omega)).mono ?_
      rintro e w12 ⟨rfl, rfl⟩
      clear qs0 qs1 qs2 qs3 qs4
      go_wp2
      go_ret
      exact ⟨rfl, kw⟩
end C
end Go.Proofs.Ytoooliadnjojeaa

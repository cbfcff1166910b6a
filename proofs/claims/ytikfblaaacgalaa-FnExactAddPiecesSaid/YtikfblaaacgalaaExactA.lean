/-
  AddPieces returns what the reference returns, for all arguments, in memory of its own. Conditions: none.
-/
import Derived.Test.YtikfblaaacgalaaAdds
namespace Go.Proofs.Ytikfblaaacgalaa
open Go.RowKit
namespace C

theorem adL_len (s : List K.Q4) (c : List (Int × Int)) (a z : Int) : (adL s c a z).length ≤ 8 := by
  unfold adL
  split
  · rename_i h
    unfold adOk at h
    simp only [Bool.and_eq_true] at h
    exact (vCart_parts h.2).2.2
  · simp
set_option maxHeartbeats 4000000 in
theorem exactAddPieces (w : World) (As : Option Addr) (ns cs : Nat) (s : List K.Q4) (Ac : Option Addr) (nc cc : Nat) (c : List (Int × Int)) (a : Int) (z : Int) (hcs : ns ≤ cs ∧ cs ≤ maxLen) (hs : K.QR w w.heap.size As ns s) (hcc : nc ≤ cc ∧ cc ≤ maxLen) (hc : K.PR w w.heap.size Ac nc c) : Calls Try.prog 21 #[.slice As ns cs, .slice Ac nc cc, .int .i64 a, .int .i64 z] w fun e w' => e = .returned (.bool true) ∧ Below w.heap.size w w' := by
  have kw := K.Kept.refl w
  have Ls := K.QR.len hs
  have Lc := K.PR.len hc
  by_cases hns : (ns : Int) ≤ 1048576
  case neg =>
    go_enter Try.func21, Try.ntmps21
    go_wp2_with fail
    refine (szArticleS_no _ As ns cs _ (by omega) hcs (by omega)).mono ?_
    rintro e wx ⟨rfl, rfl⟩
    go_wp2
    go_ret
    exact ⟨rfl, kw⟩
  by_cases hnc : (nc : Int) ≤ 1048576 - (ns : Int)
  case neg =>
    go_enter Try.func21, Try.ntmps21
    go_wp2_with fail
    refine (szArticleS_yes _ As ns cs _ (by omega) (by omega)).mono ?_
    rintro e wx ⟨rfl, rfl⟩
    go_wp2_with fail
    refine (szLineS_no _ Ac nc cc _ (by omega) hcc (by omega)).mono ?_
    rintro e wx ⟨rfl, rfl⟩
    go_wp2
    go_ret
    exact ⟨rfl, kw⟩
  have hLen := adL_len s c a z
  have hLs := Lib.hid Ls
  clear Ls
  have hLc := Lib.hid Lc
  clear Lc
  go_enter Try.func21, Try.ntmps21
  go_wp2_with fail
  refine (szArticleS_yes _ As ns cs _ (by omega) (by omega)).mono ?_
  rintro e wx ⟨rfl, rfl⟩
  go_wp2_with fail
  refine (szLineS_yes _ Ac nc cc _ (by omega) (by omega)).mono ?_
  rintro e wx ⟨rfl, rfl⟩
  go_wp2_with fail
  refine (toArticleS_c _ As ns cs s (K.Rd.more (K.Rd.below hs kw) kw.size) (by omega)).mono ?_
  rintro e w1 ⟨Ats, nts, cts, rfl, hlts, ownts, kk⟩
  replace kw := K.Kept.trans kw kk
  clear kk
  go_wp2_with fail
  refine (toLineS_c _ Ac nc cc c (K.Rd.more (K.Rd.below hc kw) kw.size) (by omega)).mono ?_
  rintro e w2 ⟨Atc, ntc, ctc, rfl, hltc, owntc, kk⟩
  (try replace ownts := K.own_kept ownts kk)
  replace kw := K.Kept.trans kw kk
  clear kk
  go_wp2_with fail
  refine (addPieces_s _ Ats nts cts s Atc ntc ctc c a z (K.rd_own ownts) (by have := hLs.out; omega) (K.rd_own owntc) (by have := hLc.out; omega)).mono ?_
  rintro e w3 ⟨Ar0, nr0, cr0, rfl, hlr0, ownr0, kk⟩
  have Br0 := Lib.hid (fun i hi => show w.heap.size ≤ i from by have := (ownr0.lt i hi).1; have := kw.size; omega)
  replace kw := K.Kept.trans kw kk
  clear kk
  clear ownts
  clear owntc
  go_wp2_with fail
  refine (toArticleS_c _ As ns cs s (K.Rd.more (K.Rd.below hs kw) kw.size) (by omega)).mono ?_
  rintro e w4 ⟨Axs, nxs, cxs, rfl, hlxs, ownxs, kk⟩
  have Bxs := Lib.hid (fun i hi => show w.heap.size ≤ i from by have := (ownxs.lt i hi).1; have := kw.size; omega)
  have Nr0_xs := Lib.hid (fun i j hi hj => show i ≠ j from by have := (ownr0.lt i hi).2; have := (ownxs.lt j hj).1; omega)
  replace ownr0 := K.own_kept ownr0 kk
  replace kw := K.Kept.trans kw kk
  clear kk
  go_wp2_with fail
  refine (toLineS_c _ Ac nc cc c (K.Rd.more (K.Rd.below hc kw) kw.size) (by omega)).mono ?_
  rintro e w5 ⟨Axc, nxc, cxc, rfl, hlxc, ownxc, kk⟩
  have Bxc := Lib.hid (fun i hi => show w.heap.size ≤ i from by have := (ownxc.lt i hi).1; have := kw.size; omega)
  have Nr0_xc := Lib.hid (fun i j hi hj => show i ≠ j from by have := (ownr0.lt i hi).2; have := (ownxc.lt j hj).1; omega)
  have Nxs_xc := Lib.hid (fun i j hi hj => show i ≠ j from by have := (ownxs.lt i hi).2; have := (ownxc.lt j hj).1; omega)
  replace ownr0 := K.own_kept ownr0 kk
  replace ownxs := K.own_kept ownxs kk
  replace kw := K.Kept.trans kw kk
  clear kk
  go_wp2_with fail
  refine (addPieces_i _ Axs nxs cxs s Axc nxc cxc c a z (K.rd_own ownxs) (by have := hLs.out; omega) (K.rd_own ownxc) (by have := hLc.out; omega)).mono ?_
  rintro e w6 ⟨Ag0, ng0, cg0, rfl, hlg0, owng0, kk⟩
  have Bg0 := Lib.hid (fun i hi => show w.heap.size ≤ i from by have := (owng0.lt i hi).1; have := kw.size; omega)
  have Nr0_g0 := Lib.hid (fun i j hi hj => show i ≠ j from by have := (ownr0.lt i hi).2; have := (owng0.lt j hj).1; omega)
  have Nxs_g0 := Lib.hid (fun i j hi hj => show i ≠ j from by have := (ownxs.lt i hi).2; have := (owng0.lt j hj).1; omega)
  have Nxc_g0 := Lib.hid (fun i j hi hj => show i ≠ j from by have := (ownxc.lt i hi).2; have := (owng0.lt j hj).1; omega)
  replace ownr0 := K.own_kept ownr0 kk
  replace ownxs := K.own_kept ownxs kk
  replace ownxc := K.own_kept ownxc kk
  replace kw := K.Kept.trans kw kk
  clear kk
  go_wp2_with fail
  refine (eqLineS_c _ _ _ _ _ _ _ (adL s c a z) (adL s c a z) (K.rd_own owng0) (K.rd_own ownr0) (by omega) (by omega)).mono ?_
  rintro e w7 ⟨rfl, kk⟩
  replace ownr0 := K.own_kept ownr0 kk
  replace ownxs := K.own_kept ownxs kk
  replace ownxc := K.own_kept ownxc kk
  replace owng0 := K.own_kept owng0 kk
  replace kw := K.Kept.trans kw kk
  clear kk
  go_wp2_with fail
  refine (toArticleS_c _ As ns cs s (K.Rd.more (K.Rd.below hs kw) kw.size) (by omega)).mono ?_
  rintro e w8 ⟨Ay, ny, cy, rfl, hly, owny, kk⟩
  replace ownr0 := K.own_kept ownr0 kk
  replace ownxs := K.own_kept ownxs kk
  replace ownxc := K.own_kept ownxc kk
  replace owng0 := K.own_kept owng0 kk
  replace kw := K.Kept.trans kw kk
  clear kk
  go_wp2_with fail
  refine (eqArticleS_c _ _ _ _ _ _ _ s s (K.rd_own ownxs) (K.rd_own owny) (by have := hLs.out; omega) (by have := hLs.out; omega)).mono ?_
  rintro e w9 ⟨rfl, kk⟩
  replace ownr0 := K.own_kept ownr0 kk
  replace ownxs := K.own_kept ownxs kk
  replace ownxc := K.own_kept ownxc kk
  replace owng0 := K.own_kept owng0 kk
  replace owny := K.own_kept owny kk
  replace kw := K.Kept.trans kw kk
  clear kk
  clear owny hly
  go_wp2_with fail
  refine (toLineS_c _ Ac nc cc c (K.Rd.more (K.Rd.below hc kw) kw.size) (by omega)).mono ?_
  rintro e w10 ⟨Ay, ny, cy, rfl, hly, owny, kk⟩
  replace ownr0 := K.own_kept ownr0 kk
  replace ownxs := K.own_kept ownxs kk
  replace ownxc := K.own_kept ownxc kk
  replace owng0 := K.own_kept owng0 kk
  replace kw := K.Kept.trans kw kk
  clear kk
  go_wp2_with fail
  refine (eqLineS_c _ _ _ _ _ _ _ c c (K.rd_own ownxc) (K.rd_own owny) (by have := hLc.out; omega) (by have := hLc.out; omega)).mono ?_
  rintro e w11 ⟨rfl, kk⟩
  replace ownr0 := K.own_kept ownr0 kk
  replace ownxs := K.own_kept ownxs kk
  replace ownxc := K.own_kept ownxc kk
  replace owng0 := K.own_kept owng0 kk
  replace owny := K.own_kept owny kk
  replace kw := K.Kept.trans kw kk
  clear kk
  clear owny hly
  go_wp2_with fail
  refine (markArticleS_c _ _ _ _ _ _ _ ownxs (by have := hLs.out; omega) (by have := hLs.out; have := hLc.out; omega)).mono ?_
  rintro e w12 ⟨rfl, ownN, gg⟩
  replace ownr0 := K.own_other ownr0 gg (fun i j hi hj => Nr0_xs.out i j hi hj)
  replace ownxc := K.own_other ownxc gg (fun i j hi hj e => Nxs_xc.out j i hj hi e.symm)
  replace owng0 := K.own_other owng0 gg (fun i j hi hj e => Nxs_g0.out j i hj hi e.symm)
  replace kw : K.Kept w _ := Below.grown kw gg kw.size (fun i hi => Bxs.out i hi)
  clear gg
  clear ownxs
  have ownxs := ownN
  clear ownN
  go_wp2_with fail
  refine (markLineS_c _ _ _ _ _ _ _ ownxc (by have := hLc.out; omega) (by have := hLs.out; have := hLc.out; omega)).mono ?_
  rintro e w13 ⟨rfl, ownN, gg⟩
  replace ownr0 := K.own_other ownr0 gg (fun i j hi hj => Nr0_xc.out i j hi hj)
  replace ownxs := K.own_other ownxs gg (fun i j hi hj => Nxs_xc.out i j hi hj)
  replace owng0 := K.own_other owng0 gg (fun i j hi hj e => Nxc_g0.out j i hj hi e.symm)
  replace kw : K.Kept w _ := Below.grown kw gg kw.size (fun i hi => Bxc.out i hi)
  clear gg
  clear ownxc
  have ownxc := ownN
  clear ownN
  go_wp2_with fail
  refine (eqLineS_c _ _ _ _ _ _ _ (adL s c a z) (adL s c a z) (K.rd_own owng0) (K.rd_own ownr0) (by omega) (by omega)).mono ?_
  rintro e w14 ⟨rfl, kk⟩
  replace ownr0 := K.own_kept ownr0 kk
  replace ownxs := K.own_kept ownxs kk
  replace ownxc := K.own_kept ownxc kk
  replace owng0 := K.own_kept owng0 kk
  replace kw := K.Kept.trans kw kk
  clear kk
  clear ownxs
  clear ownxc
  go_wp2_with fail
  refine (markLineS_c _ _ _ _ _ _ _ owng0 (by omega) (by have := hLs.out; have := hLc.out; omega)).mono ?_
  rintro e w15 ⟨rfl, ownN, gg⟩
  replace ownr0 := K.own_other ownr0 gg (fun i j hi hj => Nr0_g0.out i j hi hj)
  replace kw : K.Kept w _ := Below.grown kw gg kw.size (fun i hi => Bg0.out i hi)
  clear gg
  clear owng0
  have owng0 := ownN
  clear ownN
  go_wp2_with fail
  refine (heldLineS_c _ _ _ _ 1 (K.rd_own owng0) (by omega) (by omega)).mono ?_
  rintro e w16 ⟨rfl, rfl⟩
  go_wp2_with fail
  refine (toArticleS_c _ As ns cs s (K.Rd.more (K.Rd.below hs kw) kw.size) (by omega)).mono ?_
  rintro e w17 ⟨Ats, nts, cts, rfl, hlts, ownts, kk⟩
  replace ownr0 := K.own_kept ownr0 kk
  replace owng0 := K.own_kept owng0 kk
  replace kw := K.Kept.trans kw kk
  clear kk
  go_wp2_with fail
  refine (toLineS_c _ Ac nc cc c (K.Rd.more (K.Rd.below hc kw) kw.size) (by omega)).mono ?_
  rintro e w18 ⟨Atc, ntc, ctc, rfl, hltc, owntc, kk⟩
  replace ownr0 := K.own_kept ownr0 kk
  replace owng0 := K.own_kept owng0 kk
  (try replace ownts := K.own_kept ownts kk)
  replace kw := K.Kept.trans kw kk
  clear kk
  go_wp2_with fail
  refine (addPieces_i _ Ats nts cts s Atc ntc ctc c a z (K.rd_own ownts) (by have := hLs.out; omega) (K.rd_own owntc) (by have := hLc.out; omega)).mono ?_
  rintro e w19 ⟨Ah0, nh0, ch0, rfl, hlh0, ownh0, kk⟩
  have Bh0 := Lib.hid (fun i hi => show w.heap.size ≤ i from by have := (ownh0.lt i hi).1; have := kw.size; omega)
  have Nr0_h0 := Lib.hid (fun i j hi hj => show i ≠ j from by have := (ownr0.lt i hi).2; have := (ownh0.lt j hj).1; omega)
  have Ng0_h0 := Lib.hid (fun i j hi hj => show i ≠ j from by have := (owng0.lt i hi).2; have := (ownh0.lt j hj).1; omega)
  replace ownr0 := K.own_kept ownr0 kk
  replace owng0 := K.own_kept owng0 kk
  replace kw := K.Kept.trans kw kk
  clear kk
  clear ownts
  clear owntc
  go_wp2_with fail
  refine (eqLineS_c _ _ _ _ _ _ _ (adL s c a z) (adL s c a z) (K.rd_own ownh0) (K.rd_own ownr0) (by omega) (by omega)).mono ?_
  rintro e w20 ⟨rfl, kk⟩
  replace ownr0 := K.own_kept ownr0 kk
  replace owng0 := K.own_kept owng0 kk
  replace ownh0 := K.own_kept ownh0 kk
  replace kw := K.Kept.trans kw kk
  clear kk
  go_wp2_with fail
  refine (heldLineS_c _ _ _ _ 1 (K.rd_own owng0) (by omega) (by omega)).mono ?_
  rintro e w21 ⟨rfl, rfl⟩
  go_wp2
  go_ret
  exact ⟨rfl, kw⟩
end C
end Go.Proofs.Ytikfblaaacgalaa

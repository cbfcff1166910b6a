/-
  ValidShop and ValidCart return what the reference returns, for all arguments. Conditions: none.
-/
import Derived.Test.YtikfblaaacgalaaShop
namespace Go.Proofs.Ytikfblaaacgalaa
open Go.RowKit
namespace C

set_option maxHeartbeats 4000000 in
theorem exactValidShop (w : World) (Al : Option Addr) (nl cl : Nat) (l : List K.Q4) (hcl : nl ≤ cl ∧ cl ≤ maxLen) (hl : K.QR w w.heap.size Al nl l) : Calls Try.prog 3 #[.slice Al nl cl] w fun e w' => e = .returned (.bool true) ∧ Below w.heap.size w w' := by
  have kw := K.Kept.refl w
  have Ll := K.QR.len hl
  by_cases hnl : (nl : Int) ≤ 1048576
  case neg =>
    go_enter Try.func3, Try.ntmps3
    go_wp2_with fail
    refine (szArticleS_no _ Al nl cl _ (by omega) hcl (by omega)).mono ?_
    rintro e wx ⟨rfl, rfl⟩
    go_wp2
    go_ret
    exact ⟨rfl, kw⟩
  have hLl := Lib.hid Ll
  clear Ll
  go_enter Try.func3, Try.ntmps3
  go_wp2_with fail
  refine (szArticleS_yes _ Al nl cl _ (by omega) (by omega)).mono ?_
  rintro e wx ⟨rfl, rfl⟩
  go_wp2_with fail
  refine (toArticleS_c _ Al nl cl l (K.Rd.more (K.Rd.below hl kw) kw.size) (by omega)).mono ?_
  rintro e w1 ⟨Atl, ntl, ctl, rfl, hltl, owntl, kk⟩
  replace kw := K.Kept.trans kw kk
  clear kk
  go_wp2_with fail
  refine (ValidShop_s _ Atl ntl ctl l (K.rd_own owntl) (by have := hLl.out; omega)).mono ?_
  rintro e w2 ⟨rfl, kk⟩
  replace kw := K.Kept.trans kw kk
  clear kk
  clear owntl
  go_wp2_with fail
  refine (toArticleS_c _ Al nl cl l (K.Rd.more (K.Rd.below hl kw) kw.size) (by omega)).mono ?_
  rintro e w3 ⟨Axl, nxl, cxl, rfl, hlxl, ownxl, kk⟩
  have Bxl := Lib.hid (fun i hi => show w.heap.size ≤ i from by have := (ownxl.lt i hi).1; have := kw.size; omega)
  replace kw := K.Kept.trans kw kk
  clear kk
  go_wp2_with fail
  refine (validShop_i _ Axl nxl cxl l (K.rd_own ownxl) (by have := hLl.out; omega)).mono ?_
  rintro e w4 ⟨rfl, kk⟩
  replace ownxl := K.own_kept ownxl kk
  replace kw := K.Kept.trans kw kk
  clear kk
  go_wp2_with fail
  refine (toArticleS_c _ Al nl cl l (K.Rd.more (K.Rd.below hl kw) kw.size) (by omega)).mono ?_
  rintro e w5 ⟨Ay, ny, cy, rfl, hly, owny, kk⟩
  replace ownxl := K.own_kept ownxl kk
  replace kw := K.Kept.trans kw kk
  clear kk
  go_wp2_with fail
  refine (eqArticleS_c _ _ _ _ _ _ _ l l (K.rd_own ownxl) (K.rd_own owny) (by have := hLl.out; omega) (by have := hLl.out; omega)).mono ?_
  rintro e w6 ⟨rfl, kk⟩
  replace ownxl := K.own_kept ownxl kk
  replace owny := K.own_kept owny kk
  replace kw := K.Kept.trans kw kk
  clear kk
  clear owny hly
  go_wp2
  go_ret
  exact ⟨rfl, kw⟩
set_option maxHeartbeats 4000000 in
theorem exactValidCart (w : World) (As : Option Addr) (ns cs : Nat) (s : List K.Q4) (Ac : Option Addr) (nc cc : Nat) (c : List (Int × Int)) (hcs : ns ≤ cs ∧ cs ≤ maxLen) (hs : K.QR w w.heap.size As ns s) (hcc : nc ≤ cc ∧ cc ≤ maxLen) (hc : K.PR w w.heap.size Ac nc c) : Calls Try.prog 6 #[.slice As ns cs, .slice Ac nc cc] w fun e w' => e = .returned (.bool true) ∧ Below w.heap.size w w' := by
  have kw := K.Kept.refl w
  have Ls := K.QR.len hs
  have Lc := K.PR.len hc
  by_cases hns : (ns : Int) ≤ 1048576
  case neg =>
    go_enter Try.func6, Try.ntmps6
    go_wp2_with fail
    refine (szArticleS_no _ As ns cs _ (by omega) hcs (by omega)).mono ?_
    rintro e wx ⟨rfl, rfl⟩
    go_wp2
    go_ret
    exact ⟨rfl, kw⟩
  by_cases hnc : (nc : Int) ≤ 1048576 - (ns : Int)
  case neg =>
    go_enter Try.func6, Try.ntmps6
    go_wp2_with fail
    refine (szArticleS_yes _ As ns cs _ (by omega) (by omega)).mono ?_
    rintro e wx ⟨rfl, rfl⟩
    go_wp2_with fail
    refine (szLineS_no _ Ac nc cc _ (by omega) hcc (by omega)).mono ?_
    rintro e wx ⟨rfl, rfl⟩
    go_wp2
    go_ret
    exact ⟨rfl, kw⟩
  have hLs := Lib.hid Ls
  clear Ls
  have hLc := Lib.hid Lc
  clear Lc
  go_enter Try.func6, Try.ntmps6
  go_wp2_with fail
  refine (szArticleS_yes _ As ns cs _ (by omega) (by omega)).mono ?_
  rintro e wx ⟨rfl, rfl⟩
  go_wp2_with fail
  refine (szLineS_yes _ Ac nc cc _ (by omega) (by omega)).mono ?_
  rintro e wx ⟨rfl, rfl⟩
  go_wp2_with fail
  refine (toArticleS_c _ As ns cs s (K.Rd.more (K.Rd.below hs kw) kw.size) (by omega)).mono ?_
  rintro e w1 ⟨Ats, nts, cts, rfl, hlts, ownts, kk⟩
  replace kw := K.Kept.trans kw kk
  clear kk
  go_wp2_with fail
  refine (toLineS_c _ Ac nc cc c (K.Rd.more (K.Rd.below hc kw) kw.size) (by omega)).mono ?_
  rintro e w2 ⟨Atc, ntc, ctc, rfl, hltc, owntc, kk⟩
  (try replace ownts := K.own_kept ownts kk)
  replace kw := K.Kept.trans kw kk
  clear kk
  go_wp2_with fail
  refine (validCart_s _ Ats nts cts s Atc ntc ctc c (vCart s c) rfl (K.rd_own ownts) (by have := hLs.out; omega) (K.rd_own owntc) (by have := hLc.out; omega)).mono ?_
  rintro e w3 ⟨rfl, kk⟩
  replace kw := K.Kept.trans kw kk
  clear kk
  clear ownts
  clear owntc
  go_wp2_with fail
  refine (toArticleS_c _ As ns cs s (K.Rd.more (K.Rd.below hs kw) kw.size) (by omega)).mono ?_
  rintro e w4 ⟨Axs, nxs, cxs, rfl, hlxs, ownxs, kk⟩
  have Bxs := Lib.hid (fun i hi => show w.heap.size ≤ i from by have := (ownxs.lt i hi).1; have := kw.size; omega)
  replace kw := K.Kept.trans kw kk
  clear kk
  go_wp2_with fail
  refine (toLineS_c _ Ac nc cc c (K.Rd.more (K.Rd.below hc kw) kw.size) (by omega)).mono ?_
  rintro e w5 ⟨Axc, nxc, cxc, rfl, hlxc, ownxc, kk⟩
  have Bxc := Lib.hid (fun i hi => show w.heap.size ≤ i from by have := (ownxc.lt i hi).1; have := kw.size; omega)
  have Nxs_xc := Lib.hid (fun i j hi hj => show i ≠ j from by have := (ownxs.lt i hi).2; have := (ownxc.lt j hj).1; omega)
  replace ownxs := K.own_kept ownxs kk
  replace kw := K.Kept.trans kw kk
  clear kk
  go_wp2_with fail
  refine (validCart_i _ Axs nxs cxs s Axc nxc cxc c (vCart s c) rfl (K.rd_own ownxs) (by have := hLs.out; omega) (K.rd_own ownxc) (by have := hLc.out; omega)).mono ?_
  rintro e w6 ⟨rfl, kk⟩
  replace ownxs := K.own_kept ownxs kk
  replace ownxc := K.own_kept ownxc kk
  replace kw := K.Kept.trans kw kk
  clear kk
  go_wp2_with fail
  refine (toArticleS_c _ As ns cs s (K.Rd.more (K.Rd.below hs kw) kw.size) (by omega)).mono ?_
  rintro e w7 ⟨Ay, ny, cy, rfl, hly, owny, kk⟩
  replace ownxs := K.own_kept ownxs kk
  replace ownxc := K.own_kept ownxc kk
  replace kw := K.Kept.trans kw kk
  clear kk
  go_wp2_with fail
  refine (eqArticleS_c _ _ _ _ _ _ _ s s (K.rd_own ownxs) (K.rd_own owny) (by have := hLs.out; omega) (by have := hLs.out; omega)).mono ?_
  rintro e w8 ⟨rfl, kk⟩
  replace ownxs := K.own_kept ownxs kk
  replace ownxc := K.own_kept ownxc kk
  replace owny := K.own_kept owny kk
  replace kw := K.Kept.trans kw kk
  clear kk
  clear owny hly
  go_wp2_with fail
  refine (toLineS_c _ Ac nc cc c (K.Rd.more (K.Rd.below hc kw) kw.size) (by omega)).mono ?_
  rintro e w9 ⟨Ay, ny, cy, rfl, hly, owny, kk⟩
  replace ownxs := K.own_kept ownxs kk
  replace ownxc := K.own_kept ownxc kk
  replace kw := K.Kept.trans kw kk
  clear kk
  go_wp2_with fail
  refine (eqLineS_c _ _ _ _ _ _ _ c c (K.rd_own ownxc) (K.rd_own owny) (by have := hLc.out; omega) (by have := hLc.out; omega)).mono ?_
  rintro e w10 ⟨rfl, kk⟩
  replace ownxs := K.own_kept ownxs kk
  replace ownxc := K.own_kept ownxc kk
  replace owny := K.own_kept owny kk
  replace kw := K.Kept.trans kw kk
  clear kk
  clear owny hly
  go_wp2
  go_ret
  exact ⟨rfl, kw⟩
end C
end Go.Proofs.Ytikfblaaacgalaa

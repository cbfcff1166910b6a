/-
  The laws of added and taken pieces, for every code. Conditions: none.
-/
import Derived.Test.YtdhecblljcdpdaaCartLaws
namespace Go.Proofs.Ytdhecblljcdpdaa
open Go.RowKit
namespace C

theorem addPieces_iv (w : World) (A : Option Addr) (n c : Nat) (sh : List K.Q4) (B : Option Addr) (m d : Nat) (ls : List (Int × Int)) (a z : Int) (v : List (Int × Int)) (b : Bool) (hv : adL sh ls a z = v) (hb : adOk sh ls a z = b) (h : K.QR w w.heap.size A n sh) (hn : n ≤ 1099511627776) (h2 : K.PR w w.heap.size B m ls) (hm : m ≤ 1099511627776) : Calls Try.prog 33 #[.slice A n c, .slice B m d, .int .i64 a, .int .i64 z] w (PB w v b) := by
  subst hv hb
  exact addPieces_i w A n c sh B m d ls a z h hn h2 hm
theorem addPieces_sv (w : World) (A : Option Addr) (n c : Nat) (sh : List K.Q4) (B : Option Addr) (m d : Nat) (ls : List (Int × Int)) (a z : Int) (v : List (Int × Int)) (b : Bool) (hv : adL sh ls a z = v) (hb : adOk sh ls a z = b) (h : K.QR w w.heap.size A n sh) (hn : n ≤ 1099511627776) (h2 : K.PR w w.heap.size B m ls) (hm : m ≤ 1099511627776) : Calls Try.prog 34 #[.slice A n c, .slice B m d, .int .i64 a, .int .i64 z] w (PB w v b) := by
  subst hv hb
  exact addPieces_s w A n c sh B m d ls a z h hn h2 hm
theorem takePieces_iv (w : World) (A : Option Addr) (n c : Nat) (sh : List K.Q4) (B : Option Addr) (m d : Nat) (ls : List (Int × Int)) (a z : Int) (v : List (Int × Int)) (b : Bool) (hv : tkL sh ls a z = v) (hb : tkOk sh ls a z = b) (h : K.QR w w.heap.size A n sh) (hn : n ≤ 1099511627776) (h2 : K.PR w w.heap.size B m ls) (hm : m ≤ 1099511627776) : Calls Try.prog 36 #[.slice A n c, .slice B m d, .int .i64 a, .int .i64 z] w (PB w v b) := by
  subst hv hb
  exact takePieces_i w A n c sh B m d ls a z h hn h2 hm
theorem takePieces_sv (w : World) (A : Option Addr) (n c : Nat) (sh : List K.Q4) (B : Option Addr) (m d : Nat) (ls : List (Int × Int)) (a z : Int) (v : List (Int × Int)) (b : Bool) (hv : tkL sh ls a z = v) (hb : tkOk sh ls a z = b) (h : K.QR w w.heap.size A n sh) (hn : n ≤ 1099511627776) (h2 : K.PR w w.heap.size B m ls) (hm : m ≤ 1099511627776) : Calls Try.prog 38 #[.slice A n c, .slice B m d, .int .i64 a, .int .i64 z] w (PB w v b) := by
  subst hv hb
  exact takePieces_s w A n c sh B m d ls a z h hn h2 hm
theorem adL_len9 (sh : List K.Q4) (l : List (Int × Int)) (a z : Int) : (adL sh l a z).length ≤ 8 := by
  cases h : adOk sh l a z
  · rw [adL_no h]; simp
  · rw [adL_yes h]; exact (vCart_parts (adOk_parts h).2.2.2).2.2
theorem tkL_len9 (sh : List K.Q4) (l : List (Int × Int)) (a z : Int) : (tkL sh l a z).length ≤ 8 := by
  cases h : tkOk sh l a z
  · rw [tkL_no h]; simp
  · rw [tkL_yes h]; exact (vCart_parts (take_law h).2.1).2.2
theorem gc_get {sh : List K.Q4} {c : List (Int × Int)} {k : Nat} {x : Int} (h : (gc sh c)[k]? = some x) (hk : k < 3) : x = gAt sh (k : Int) c := by
  rcases (by omega : k = 0 ∨ k = 1 ∨ k = 2) with rfl | rfl | rfl <;> simp [gc] at h <;> exact h.symm
set_option maxHeartbeats 4000000 in
theorem addPiecesLaw (w : World) (n c : Nat) (A : Option Addr) (h : Code w w.heap.size A n c) : Calls Try.prog 12 #[.slice A n c] w fun e w' => e = .returned (.bool true) ∧ Below w.heap.size w w' := by
  by_cases hn : 1048576 < n
  · go_enter Try.func12, Try.ntmps12
    go_wp2
    go_ret
    exact ⟨rfl, Below.refl _ _⟩
  have hc := h
  unfold Code maxLen at hc
  have hn' : n ≤ 1048576 := by omega
  clear hc hn
  go_enter Try.func12, Try.ntmps12
  go_wp2_with fail
  refine (drawAddPieces_c w n c A h).mono ?_
  rintro e w1 ⟨S, sn, sc, sh, Al, nl, cl, l, a, z, rfl, hsn, hnl, haz, owns, ownl, kw⟩
  clear h
  have LS := Lib.hid (show sh.length = sn from K.QR.len (K.rd_own owns))
  have LL := Lib.hid (show l.length = nl from K.PR.len (K.rd_own ownl))
  have h8 := adL_len9 sh l a z
  cases hB : adOk sh l a z
  case false =>
    have hU : adL sh l a z = [] := adL_no hB
    have h6 : ([] : List (Int × Int)).length ≤ 8 := by simp
    go_wp2_with fail
    refine (addPieces_iv _ S sn sc sh Al nl cl l a z [] false hU hB (K.rd_own owns) (by omega) (K.rd_own ownl) (by omega)).mono ?_
    rintro e w2 ⟨Ao, no, co, rfl, hlo, owno, kk⟩
    replace owns := K.own_kept owns kk
    replace ownl := K.own_kept ownl kk
    replace kw := K.Kept.trans kw kk
    clear kk
    go_wp2_with fail
    refine (addPieces_sv _ S sn sc sh Al nl cl l a z [] false hU hB (K.rd_own owns) (by omega) (K.rd_own ownl) (by omega)).mono ?_
    rintro e w3 ⟨Av, nv, cv, rfl, hlv, ownv, kk⟩
    replace owns := K.own_kept owns kk
    replace ownl := K.own_kept ownl kk
    replace owno := K.own_kept owno kk
    replace kw := K.Kept.trans kw kk
    clear kk
    go_wp2_with fail
    refine (equalLines_c _ _ _ _ _ _ _ [] [] (K.rd_own owno) (K.rd_own ownv) (by omega) (by omega)).mono ?_
    rintro e w4 ⟨rfl, kk⟩
    replace owns := K.own_kept owns kk
    replace ownl := K.own_kept ownl kk
    replace owno := K.own_kept owno kk
    replace ownv := K.own_kept ownv kk
    replace kw := K.Kept.trans kw kk
    clear kk
    go_wp2_with fail
    refine (equalLines_c _ _ _ _ _ _ _ [] [] (K.rd_own owno) (K.rd_own ownv) (by omega) (by omega)).mono ?_
    rintro e w5 ⟨rfl, kk⟩
    replace owns := K.own_kept owns kk
    replace ownl := K.own_kept ownl kk
    replace owno := K.own_kept owno kk
    replace ownv := K.own_kept ownv kk
    replace kw := K.Kept.trans kw kk
    clear kk
    go_wp2
    go_ret
    exact ⟨rfl, kw⟩
  obtain ⟨U, hU⟩ : ∃ U, adL sh l a z = U := ⟨_, rfl⟩
  have HU := Lib.hid ((adL_yes hB).symm.trans hU)
  rw [hU] at h8
  have HB := Lib.hid hB
  go_wp2_with fail
  refine (addPieces_iv _ S sn sc sh Al nl cl l a z U true hU hB (K.rd_own owns) (by omega) (K.rd_own ownl) (by omega)).mono ?_
  rintro e w2 ⟨Ao, no, co, rfl, hlo, owno, kk⟩
  replace owns := K.own_kept owns kk
  replace ownl := K.own_kept ownl kk
  replace kw := K.Kept.trans kw kk
  clear kk
  go_wp2_with fail
  refine (addPieces_sv _ S sn sc sh Al nl cl l a z U true hU hB (K.rd_own owns) (by omega) (K.rd_own ownl) (by omega)).mono ?_
  rintro e w3 ⟨Av, nv, cv, rfl, hlv, ownv, kk⟩
  replace owns := K.own_kept owns kk
  replace ownl := K.own_kept ownl kk
  replace owno := K.own_kept owno kk
  replace kw := K.Kept.trans kw kk
  clear kk
  go_wp2_with fail
  refine (equalLines_c _ _ _ _ _ _ _ U U (K.rd_own owno) (K.rd_own ownv) (by omega) (by omega)).mono ?_
  rintro e w4 ⟨rfl, kk⟩
  replace owns := K.own_kept owns kk
  replace ownl := K.own_kept ownl kk
  replace owno := K.own_kept owno kk
  replace ownv := K.own_kept ownv kk
  replace kw := K.Kept.trans kw kk
  clear kk
  clear ownv
  clear hlv hU hB
  obtain ⟨hv, ha1, hz1, hw⟩ := adOk_parts HB.out
  obtain ⟨ht, hg1, hg2⟩ := add_law HB.out
  rw [HU.out] at hw ht hg1 hg2
  have HV := Lib.hid hv
  clear hv
  have h1 := to_bd HV.out
  have h2 := to_bd hw
  obtain ⟨T1, e1⟩ : ∃ T, TO sh l = T := ⟨_, rfl⟩
  obtain ⟨T2, e2⟩ : ∃ T, TO sh U = T := ⟨_, rfl⟩
  rw [e1] at ht h1
  rw [e2] at ht h2
  have hsl := LS.out
  have hll := LL.out
  have g1 : nl ≤ no := by omega
  have g2 : no ≤ nl + 1 := by omega
  have g3 : (nl : Int) ≤ (no : Int) := by omega
  have g4 : (no : Int) ≤ (nl : Int) + 1 := by omega
  have d1 : decide (nl ≤ no) = true := decide_eq_true g1
  have d2 : decide (no ≤ nl + 1) = true := decide_eq_true g2
  have d3 : decide ((no : Int) ≤ (nl : Int) + 1) = true := decide_eq_true g4
  obtain ⟨i, rfl⟩ := Int.eq_ofNat_of_zero_le ha1.1
  have hi : i < sn := by omega
  have Ro := Lib.hid (K.rd_own owno)
  have Rs := Lib.hid (K.rd_own owns)
  have Rl := Lib.hid (K.rd_own ownl)
  obtain ⟨b', o', p, g, r, t, rfl, hb', s1, s2, s3, s4, hs'⟩ := K.QR.cell (K.rd_own owns) hi
  have hpb := prc_bd (cart_shop HV.out) (i : Int)
  rw [prc_at hs'.out] at hpb ht
  have hm := mul_bdC hpb.1 hpb.2 (by omega : 0 ≤ z) hz1.2
  have W1 : IntKind.i64.wrap (p * z) = p * z := by rw [IntKind.wrap_i64]; omega
  have W2 : IntKind.i64.wrap (T1 + p * z) = T1 + p * z := by rw [IntKind.wrap_i64]; omega
  have e3 : (T2 == T1 + p * z) = true := by rw [ht]; simp
  have j1 : (i : Int) < (sn : Int) := by omega
  clear s2 s3 s4 ha1 hm hpb ht h1 h2
  go_wp2_with fail
  (have rg0 := cell_regrown s1; refine wp_region_quiet_below (by kernel_rfl) (by kernel_rfl) ?_; (repeat (go_big_quiet_step ((first | (go_at_call 18; exact Calls.regrown_of (validCart_i _ _ sn sc sh Ao no co U true hw (rdk Rs.out (below_regrown _ _ _)) (by omega) (rdk Ro.out (below_regrown _ _ _)) (by omega))) | (go_at_call_of 30 (Value.slice Ao no co); exact Calls.regrown_of (totalOf_iv _ _ sn sc sh Ao no co U T2 e2 (rdk Rs.out (below_regrown _ _ _)) (by omega) (rdk Ro.out (below_regrown _ _ _)) (by omega))) | (go_at_call_of 30 (Value.slice Al nl cl); exact Calls.regrown_of (totalOf_iv _ _ sn sc sh Al nl cl l T1 e1 (rdk Rs.out (below_regrown _ _ _)) (by omega) (rdk Rl.out (below_regrown _ _ _)) (by omega))))))); refine wpQuiet_nil ?_; intro wq hw2; have kwq := K.of_regrown hw2; clear hw2 rg0)
  go_wp2
  go_ret
  exact ⟨rfl, K.Kept.trans kw kwq⟩
set_option maxHeartbeats 4000000 in
theorem addPiecesTake (w : World) (n c : Nat) (A : Option Addr) (h : Code w w.heap.size A n c) : Calls Try.prog 11 #[.slice A n c] w fun e w' => e = .returned (.bool true) ∧ Below w.heap.size w w' := by
  by_cases hn : 1048576 < n
  · go_enter Try.func11, Try.ntmps11
    go_wp2
    go_ret
    exact ⟨rfl, Below.refl _ _⟩
  have hc := h
  unfold Code maxLen at hc
  have hn' : n ≤ 1048576 := by omega
  clear hc hn
  go_enter Try.func11, Try.ntmps11
  go_wp2_with fail
  refine (drawAddPieces_c w n c A h).mono ?_
  rintro e w1 ⟨S, sn, sc, sh, Al, nl, cl, l, a, z, rfl, hsn, hnl, haz, owns, ownl, kw⟩
  clear h
  have LS := Lib.hid (show sh.length = sn from K.QR.len (K.rd_own owns))
  have LL := Lib.hid (show l.length = nl from K.PR.len (K.rd_own ownl))
  have h8 := adL_len9 sh l a z
  cases hB : adOk sh l a z
  case false =>
    have hU : adL sh l a z = [] := adL_no hB
    have h6 : ([] : List (Int × Int)).length ≤ 8 := by simp
    go_wp2_with fail
    refine (addPieces_iv _ S sn sc sh Al nl cl l a z [] false hU hB (K.rd_own owns) (by omega) (K.rd_own ownl) (by omega)).mono ?_
    rintro e w2 ⟨Ao, no, co, rfl, hlo, owno, kk⟩
    replace owns := K.own_kept owns kk
    replace ownl := K.own_kept ownl kk
    replace kw := K.Kept.trans kw kk
    clear kk
    go_wp2_with fail
    refine (addPieces_sv _ S sn sc sh Al nl cl l a z [] false hU hB (K.rd_own owns) (by omega) (K.rd_own ownl) (by omega)).mono ?_
    rintro e w3 ⟨Av, nv, cv, rfl, hlv, ownv, kk⟩
    replace owns := K.own_kept owns kk
    replace ownl := K.own_kept ownl kk
    replace owno := K.own_kept owno kk
    replace kw := K.Kept.trans kw kk
    clear kk
    go_wp2_with fail
    refine (equalLines_c _ _ _ _ _ _ _ [] [] (K.rd_own owno) (K.rd_own ownv) (by omega) (by omega)).mono ?_
    rintro e w4 ⟨rfl, kk⟩
    replace owns := K.own_kept owns kk
    replace ownl := K.own_kept ownl kk
    replace owno := K.own_kept owno kk
    replace ownv := K.own_kept ownv kk
    replace kw := K.Kept.trans kw kk
    clear kk
    go_wp2_with fail
    refine (equalLines_c _ _ _ _ _ _ _ [] [] (K.rd_own owno) (K.rd_own ownv) (by omega) (by omega)).mono ?_
    rintro e w5 ⟨rfl, kk⟩
    replace owns := K.own_kept owns kk
    replace ownl := K.own_kept ownl kk
    replace owno := K.own_kept owno kk
    replace ownv := K.own_kept ownv kk
    replace kw := K.Kept.trans kw kk
    clear kk
    go_wp2
    go_ret
    exact ⟨rfl, kw⟩
  obtain ⟨U, hU⟩ : ∃ U, adL sh l a z = U := ⟨_, rfl⟩
  have HU := Lib.hid ((adL_yes hB).symm.trans hU)
  rw [hU] at h8
  have HB := Lib.hid hB
  go_wp2_with fail
  refine (addPieces_iv _ S sn sc sh Al nl cl l a z U true hU hB (K.rd_own owns) (by omega) (K.rd_own ownl) (by omega)).mono ?_
  rintro e w2 ⟨Ao, no, co, rfl, hlo, owno, kk⟩
  replace owns := K.own_kept owns kk
  replace ownl := K.own_kept ownl kk
  replace kw := K.Kept.trans kw kk
  clear kk
  go_wp2_with fail
  refine (addPieces_sv _ S sn sc sh Al nl cl l a z U true hU hB (K.rd_own owns) (by omega) (K.rd_own ownl) (by omega)).mono ?_
  rintro e w3 ⟨Av, nv, cv, rfl, hlv, ownv, kk⟩
  replace owns := K.own_kept owns kk
  replace ownl := K.own_kept ownl kk
  replace owno := K.own_kept owno kk
  replace kw := K.Kept.trans kw kk
  clear kk
  go_wp2_with fail
  refine (equalLines_c _ _ _ _ _ _ _ U U (K.rd_own owno) (K.rd_own ownv) (by omega) (by omega)).mono ?_
  rintro e w4 ⟨rfl, kk⟩
  replace owns := K.own_kept owns kk
  replace ownl := K.own_kept ownl kk
  replace owno := K.own_kept owno kk
  replace ownv := K.own_kept ownv kk
  replace kw := K.Kept.trans kw kk
  clear kk
  clear ownv
  clear hlv hU hB
  obtain ⟨hb3, hR⟩ := add_back HB.out
  rw [HU.out] at hb3 hR
  go_wp2_with fail
  refine (takePieces_iv _ S sn sc sh Ao no co U a z l true hR hb3 (K.rd_own owns) (by omega) (K.rd_own owno) (by omega)).mono ?_
  rintro e w5 ⟨Ab, nb, cb, rfl, hlb, ownb, kk⟩
  replace owns := K.own_kept owns kk
  replace ownl := K.own_kept ownl kk
  replace owno := K.own_kept owno kk
  replace kw := K.Kept.trans kw kk
  clear kk
  have hll := LL.out
  go_wp2_with fail
  refine (equalLines_c _ _ _ _ _ _ _ l l (K.rd_own ownb) (K.rd_own ownl) (by omega) (by omega)).mono ?_
  rintro e w6 ⟨rfl, kk⟩
  replace owns := K.own_kept owns kk
  replace ownl := K.own_kept ownl kk
  replace owno := K.own_kept owno kk
  replace ownb := K.own_kept ownb kk
  replace kw := K.Kept.trans kw kk
  clear kk
  go_wp2
  go_ret
  exact ⟨rfl, kw⟩
set_option maxHeartbeats 4000000 in
theorem addPiecesOrder (w : World) (n c : Nat) (A : Option Addr) (h : Code w w.heap.size A n c) : Calls Try.prog 9 #[.slice A n c] w fun e w' => e = .returned (.bool true) ∧ Below w.heap.size w w' := by
  by_cases hn : 1048576 < n
  · go_enter Try.func9, Try.ntmps9
    go_wp2
    go_ret
    exact ⟨rfl, Below.refl _ _⟩
  have hc := h
  unfold Code maxLen at hc
  have hn' : n ≤ 1048576 := by omega
  clear hc hn
  go_enter Try.func9, Try.ntmps9
  go_wp2_with fail
  refine (drawAddPieces_c w n c A h).mono ?_
  rintro e w1 ⟨S, sn, sc, sh, Al, nl, cl, l, a, z, rfl, hsn, hnl, haz, owns, ownl, kw⟩
  clear h
  have LS := Lib.hid (show sh.length = sn from K.QR.len (K.rd_own owns))
  have LL := Lib.hid (show l.length = nl from K.PR.len (K.rd_own ownl))
  have h8 := adL_len9 sh l a z
  cases hB : adOk sh l a z
  case false =>
    have hU : adL sh l a z = [] := adL_no hB
    have h6 : ([] : List (Int × Int)).length ≤ 8 := by simp
    go_wp2_with fail
    refine (addPieces_iv _ S sn sc sh Al nl cl l a z [] false hU hB (K.rd_own owns) (by omega) (K.rd_own ownl) (by omega)).mono ?_
    rintro e w2 ⟨Ao, no, co, rfl, hlo, owno, kk⟩
    replace owns := K.own_kept owns kk
    replace ownl := K.own_kept ownl kk
    replace kw := K.Kept.trans kw kk
    clear kk
    go_wp2_with fail
    refine (addPieces_sv _ S sn sc sh Al nl cl l a z [] false hU hB (K.rd_own owns) (by omega) (K.rd_own ownl) (by omega)).mono ?_
    rintro e w3 ⟨Av, nv, cv, rfl, hlv, ownv, kk⟩
    replace owns := K.own_kept owns kk
    replace ownl := K.own_kept ownl kk
    replace owno := K.own_kept owno kk
    replace kw := K.Kept.trans kw kk
    clear kk
    go_wp2_with fail
    refine (equalLines_c _ _ _ _ _ _ _ [] [] (K.rd_own owno) (K.rd_own ownv) (by omega) (by omega)).mono ?_
    rintro e w4 ⟨rfl, kk⟩
    replace owns := K.own_kept owns kk
    replace ownl := K.own_kept ownl kk
    replace owno := K.own_kept owno kk
    replace ownv := K.own_kept ownv kk
    replace kw := K.Kept.trans kw kk
    clear kk
    go_wp2_with fail
    refine (equalLines_c _ _ _ _ _ _ _ [] [] (K.rd_own owno) (K.rd_own ownv) (by omega) (by omega)).mono ?_
    rintro e w5 ⟨rfl, kk⟩
    replace owns := K.own_kept owns kk
    replace ownl := K.own_kept ownl kk
    replace owno := K.own_kept owno kk
    replace ownv := K.own_kept ownv kk
    replace kw := K.Kept.trans kw kk
    clear kk
    go_wp2
    go_ret
    exact ⟨rfl, kw⟩
  obtain ⟨U, hU⟩ : ∃ U, adL sh l a z = U := ⟨_, rfl⟩
  have HU := Lib.hid ((adL_yes hB).symm.trans hU)
  rw [hU] at h8
  have HB := Lib.hid hB
  go_wp2_with fail
  refine (addPieces_iv _ S sn sc sh Al nl cl l a z U true hU hB (K.rd_own owns) (by omega) (K.rd_own ownl) (by omega)).mono ?_
  rintro e w2 ⟨Ao, no, co, rfl, hlo, owno, kk⟩
  replace owns := K.own_kept owns kk
  replace ownl := K.own_kept ownl kk
  replace kw := K.Kept.trans kw kk
  clear kk
  go_wp2_with fail
  refine (addPieces_sv _ S sn sc sh Al nl cl l a z U true hU hB (K.rd_own owns) (by omega) (K.rd_own ownl) (by omega)).mono ?_
  rintro e w3 ⟨Av, nv, cv, rfl, hlv, ownv, kk⟩
  replace owns := K.own_kept owns kk
  replace ownl := K.own_kept ownl kk
  replace owno := K.own_kept owno kk
  replace kw := K.Kept.trans kw kk
  clear kk
  go_wp2_with fail
  refine (equalLines_c _ _ _ _ _ _ _ U U (K.rd_own owno) (K.rd_own ownv) (by omega) (by omega)).mono ?_
  rintro e w4 ⟨rfl, kk⟩
  replace owns := K.own_kept owns kk
  replace ownl := K.own_kept ownl kk
  replace owno := K.own_kept owno kk
  replace ownv := K.own_kept ownv kk
  replace kw := K.Kept.trans kw kk
  clear kk
  clear ownv
  clear hlv hU hB
  obtain ⟨P, hP⟩ : ∃ P, adL sh U 0 1 = P := ⟨_, rfl⟩
  obtain ⟨Q, hQ⟩ : ∃ Q, adL sh l 0 1 = Q := ⟨_, rfl⟩
  have hP8 : P.length ≤ 8 := hP ▸ adL_len9 _ _ _ _
  have hQ8 : Q.length ≤ 8 := hQ ▸ adL_len9 _ _ _ _
  cases hb1 : adOk sh U 0 1 <;> cases hb2 : adOk sh l 0 1
  case false.false =>
    obtain ⟨R, hR⟩ : ∃ R, adL sh Q a z = R := ⟨_, rfl⟩
    obtain ⟨b3, hb3⟩ : ∃ b, adOk sh Q a z = b := ⟨_, rfl⟩
    go_wp2_with fail
    refine (addPieces_iv _ S sn sc sh Ao no co U 0 1 P false hP hb1 (K.rd_own owns) (by omega) (K.rd_own owno) (by omega)).mono ?_
    rintro e w5 ⟨Ax, nx, cx, rfl, hlx, ownx, kk⟩
    replace owns := K.own_kept owns kk
    replace ownl := K.own_kept ownl kk
    replace owno := K.own_kept owno kk
    replace kw := K.Kept.trans kw kk
    clear kk
    go_wp2_with fail
    refine (addPieces_iv _ S sn sc sh Al nl cl l 0 1 Q false hQ hb2 (K.rd_own owns) (by omega) (K.rd_own ownl) (by omega)).mono ?_
    rintro e w6 ⟨Ay, ny, cy, rfl, hly, owny, kk⟩
    replace owns := K.own_kept owns kk
    replace ownl := K.own_kept ownl kk
    replace owno := K.own_kept owno kk
    replace ownx := K.own_kept ownx kk
    replace kw := K.Kept.trans kw kk
    clear kk
    go_wp2_with fail
    refine (addPieces_iv _ S sn sc sh Ay ny cy Q a z R b3 hR hb3 (K.rd_own owns) (by omega) (K.rd_own owny) (by omega)).mono ?_
    rintro e w7 ⟨Au, nu, cu, rfl, hlu, ownu, kk⟩
    replace owns := K.own_kept owns kk
    replace ownl := K.own_kept ownl kk
    replace owno := K.own_kept owno kk
    replace ownx := K.own_kept ownx kk
    replace owny := K.own_kept owny kk
    replace kw := K.Kept.trans kw kk
    clear kk
    go_wp2
    go_ret
    exact ⟨rfl, kw⟩
  case false.true =>
    obtain ⟨R, hR⟩ : ∃ R, adL sh Q a z = R := ⟨_, rfl⟩
    obtain ⟨b3, hb3⟩ : ∃ b, adOk sh Q a z = b := ⟨_, rfl⟩
    go_wp2_with fail
    refine (addPieces_iv _ S sn sc sh Ao no co U 0 1 P false hP hb1 (K.rd_own owns) (by omega) (K.rd_own owno) (by omega)).mono ?_
    rintro e w5 ⟨Ax, nx, cx, rfl, hlx, ownx, kk⟩
    replace owns := K.own_kept owns kk
    replace ownl := K.own_kept ownl kk
    replace owno := K.own_kept owno kk
    replace kw := K.Kept.trans kw kk
    clear kk
    go_wp2_with fail
    refine (addPieces_iv _ S sn sc sh Al nl cl l 0 1 Q true hQ hb2 (K.rd_own owns) (by omega) (K.rd_own ownl) (by omega)).mono ?_
    rintro e w6 ⟨Ay, ny, cy, rfl, hly, owny, kk⟩
    replace owns := K.own_kept owns kk
    replace ownl := K.own_kept ownl kk
    replace owno := K.own_kept owno kk
    replace ownx := K.own_kept ownx kk
    replace kw := K.Kept.trans kw kk
    clear kk
    go_wp2_with fail
    refine (addPieces_iv _ S sn sc sh Ay ny cy Q a z R b3 hR hb3 (K.rd_own owns) (by omega) (K.rd_own owny) (by omega)).mono ?_
    rintro e w7 ⟨Au, nu, cu, rfl, hlu, ownu, kk⟩
    replace owns := K.own_kept owns kk
    replace ownl := K.own_kept ownl kk
    replace owno := K.own_kept owno kk
    replace ownx := K.own_kept ownx kk
    replace owny := K.own_kept owny kk
    replace kw := K.Kept.trans kw kk
    clear kk
    go_wp2
    go_ret
    exact ⟨rfl, kw⟩
  case true.false =>
    obtain ⟨R, hR⟩ : ∃ R, adL sh Q a z = R := ⟨_, rfl⟩
    obtain ⟨b3, hb3⟩ : ∃ b, adOk sh Q a z = b := ⟨_, rfl⟩
    go_wp2_with fail
    refine (addPieces_iv _ S sn sc sh Ao no co U 0 1 P true hP hb1 (K.rd_own owns) (by omega) (K.rd_own owno) (by omega)).mono ?_
    rintro e w5 ⟨Ax, nx, cx, rfl, hlx, ownx, kk⟩
    replace owns := K.own_kept owns kk
    replace ownl := K.own_kept ownl kk
    replace owno := K.own_kept owno kk
    replace kw := K.Kept.trans kw kk
    clear kk
    go_wp2_with fail
    refine (addPieces_iv _ S sn sc sh Al nl cl l 0 1 Q false hQ hb2 (K.rd_own owns) (by omega) (K.rd_own ownl) (by omega)).mono ?_
    rintro e w6 ⟨Ay, ny, cy, rfl, hly, owny, kk⟩
    replace owns := K.own_kept owns kk
    replace ownl := K.own_kept ownl kk
    replace owno := K.own_kept owno kk
    replace ownx := K.own_kept ownx kk
    replace kw := K.Kept.trans kw kk
    clear kk
    go_wp2_with fail
    refine (addPieces_iv _ S sn sc sh Ay ny cy Q a z R b3 hR hb3 (K.rd_own owns) (by omega) (K.rd_own owny) (by omega)).mono ?_
    rintro e w7 ⟨Au, nu, cu, rfl, hlu, ownu, kk⟩
    replace owns := K.own_kept owns kk
    replace ownl := K.own_kept ownl kk
    replace owno := K.own_kept owno kk
    replace ownx := K.own_kept ownx kk
    replace owny := K.own_kept owny kk
    replace kw := K.Kept.trans kw kk
    clear kk
    go_wp2
    go_ret
    exact ⟨rfl, kw⟩
  case true.true =>
    obtain ⟨hb3, hR⟩ : adOk sh Q a z = true ∧ adL sh Q a z = P := by
      have h1 := hb1
      rw [← HU.out] at h1
      have h := add_order HB.out h1 hb2
      rw [HU.out, ← adL_yes hb2, hQ, ← adL_yes hb1, hP] at h
      exact h
    go_wp2_with fail
    refine (addPieces_iv _ S sn sc sh Ao no co U 0 1 P true hP hb1 (K.rd_own owns) (by omega) (K.rd_own owno) (by omega)).mono ?_
    rintro e w5 ⟨Ax, nx, cx, rfl, hlx, ownx, kk⟩
    replace owns := K.own_kept owns kk
    replace ownl := K.own_kept ownl kk
    replace owno := K.own_kept owno kk
    replace kw := K.Kept.trans kw kk
    clear kk
    go_wp2_with fail
    refine (addPieces_iv _ S sn sc sh Al nl cl l 0 1 Q true hQ hb2 (K.rd_own owns) (by omega) (K.rd_own ownl) (by omega)).mono ?_
    rintro e w6 ⟨Ay, ny, cy, rfl, hly, owny, kk⟩
    replace owns := K.own_kept owns kk
    replace ownl := K.own_kept ownl kk
    replace owno := K.own_kept owno kk
    replace ownx := K.own_kept ownx kk
    replace kw := K.Kept.trans kw kk
    clear kk
    go_wp2_with fail
    refine (addPieces_iv _ S sn sc sh Ay ny cy Q a z P true hR hb3 (K.rd_own owns) (by omega) (K.rd_own owny) (by omega)).mono ?_
    rintro e w7 ⟨Au, nu, cu, rfl, hlu, ownu, kk⟩
    replace owns := K.own_kept owns kk
    replace ownl := K.own_kept ownl kk
    replace owno := K.own_kept owno kk
    replace ownx := K.own_kept ownx kk
    replace owny := K.own_kept owny kk
    replace kw := K.Kept.trans kw kk
    clear kk
    go_wp2_with fail
    refine (equalLines_c _ _ _ _ _ _ _ P P (K.rd_own ownx) (K.rd_own ownu) (by omega) (by omega)).mono ?_
    rintro e w8 ⟨rfl, kk⟩
    replace owns := K.own_kept owns kk
    replace ownl := K.own_kept ownl kk
    replace owno := K.own_kept owno kk
    replace ownx := K.own_kept ownx kk
    replace owny := K.own_kept owny kk
    replace ownu := K.own_kept ownu kk
    replace kw := K.Kept.trans kw kk
    clear kk
    go_wp2
    go_ret
    exact ⟨rfl, kw⟩
set_option maxHeartbeats 4000000 in
theorem groupCountsAdd (w : World) (n c : Nat) (A : Option Addr) (h : Code w w.heap.size A n c) : Calls Try.prog 10 #[.slice A n c] w fun e w' => e = .returned (.bool true) ∧ Below w.heap.size w w' := by
  by_cases hn : 1048576 < n
  · go_enter Try.func10, Try.ntmps10
    go_wp2
    go_ret
    exact ⟨rfl, Below.refl _ _⟩
  have hc := h
  unfold Code maxLen at hc
  have hn' : n ≤ 1048576 := by omega
  clear hc hn
  go_enter Try.func10, Try.ntmps10
  go_wp2_with fail
  refine (drawAddPieces_c w n c A h).mono ?_
  rintro e w1 ⟨S, sn, sc, sh, Al, nl, cl, l, a, z, rfl, hsn, hnl, haz, owns, ownl, kw⟩
  clear h
  have LS := Lib.hid (show sh.length = sn from K.QR.len (K.rd_own owns))
  have LL := Lib.hid (show l.length = nl from K.PR.len (K.rd_own ownl))
  have h8 := adL_len9 sh l a z
  cases hB : adOk sh l a z
  case false =>
    have hU : adL sh l a z = [] := adL_no hB
    have h6 : ([] : List (Int × Int)).length ≤ 8 := by simp
    go_wp2_with fail
    refine (addPieces_iv _ S sn sc sh Al nl cl l a z [] false hU hB (K.rd_own owns) (by omega) (K.rd_own ownl) (by omega)).mono ?_
    rintro e w2 ⟨Ao, no, co, rfl, hlo, owno, kk⟩
    replace owns := K.own_kept owns kk
    replace ownl := K.own_kept ownl kk
    replace kw := K.Kept.trans kw kk
    clear kk
    go_wp2_with fail
    refine (addPieces_sv _ S sn sc sh Al nl cl l a z [] false hU hB (K.rd_own owns) (by omega) (K.rd_own ownl) (by omega)).mono ?_
    rintro e w3 ⟨Av, nv, cv, rfl, hlv, ownv, kk⟩
    replace owns := K.own_kept owns kk
    replace ownl := K.own_kept ownl kk
    replace owno := K.own_kept owno kk
    replace kw := K.Kept.trans kw kk
    clear kk
    go_wp2_with fail
    refine (equalLines_c _ _ _ _ _ _ _ [] [] (K.rd_own owno) (K.rd_own ownv) (by omega) (by omega)).mono ?_
    rintro e w4 ⟨rfl, kk⟩
    replace owns := K.own_kept owns kk
    replace ownl := K.own_kept ownl kk
    replace owno := K.own_kept owno kk
    replace ownv := K.own_kept ownv kk
    replace kw := K.Kept.trans kw kk
    clear kk
    go_wp2_with fail
    refine (equalLines_c _ _ _ _ _ _ _ [] [] (K.rd_own owno) (K.rd_own ownv) (by omega) (by omega)).mono ?_
    rintro e w5 ⟨rfl, kk⟩
    replace owns := K.own_kept owns kk
    replace ownl := K.own_kept ownl kk
    replace owno := K.own_kept owno kk
    replace ownv := K.own_kept ownv kk
    replace kw := K.Kept.trans kw kk
    clear kk
    go_wp2
    go_ret
    exact ⟨rfl, kw⟩
  obtain ⟨U, hU⟩ : ∃ U, adL sh l a z = U := ⟨_, rfl⟩
  have HU := Lib.hid ((adL_yes hB).symm.trans hU)
  rw [hU] at h8
  have HB := Lib.hid hB
  go_wp2_with fail
  refine (addPieces_iv _ S sn sc sh Al nl cl l a z U true hU hB (K.rd_own owns) (by omega) (K.rd_own ownl) (by omega)).mono ?_
  rintro e w2 ⟨Ao, no, co, rfl, hlo, owno, kk⟩
  replace owns := K.own_kept owns kk
  replace ownl := K.own_kept ownl kk
  replace kw := K.Kept.trans kw kk
  clear kk
  go_wp2_with fail
  refine (addPieces_sv _ S sn sc sh Al nl cl l a z U true hU hB (K.rd_own owns) (by omega) (K.rd_own ownl) (by omega)).mono ?_
  rintro e w3 ⟨Av, nv, cv, rfl, hlv, ownv, kk⟩
  replace owns := K.own_kept owns kk
  replace ownl := K.own_kept ownl kk
  replace owno := K.own_kept owno kk
  replace kw := K.Kept.trans kw kk
  clear kk
  go_wp2_with fail
  refine (equalLines_c _ _ _ _ _ _ _ U U (K.rd_own owno) (K.rd_own ownv) (by omega) (by omega)).mono ?_
  rintro e w4 ⟨rfl, kk⟩
  replace owns := K.own_kept owns kk
  replace ownl := K.own_kept ownl kk
  replace owno := K.own_kept owno kk
  replace ownv := K.own_kept ownv kk
  replace kw := K.Kept.trans kw kk
  clear kk
  clear ownv
  clear hlv hU hB
  obtain ⟨hv, ha1, hz1, hw⟩ := adOk_parts HB.out
  rw [HU.out] at hw
  have gA : GC sh l = gc sh l := GC_yes hv
  have gB : GC sh U = gc sh U := GC_yes hw
  have GA := Lib.hid (fun i => (congrArg (fun u => gAt sh i u) HU.out.symm).trans (gc_add sh l a z i))
  have BA := Lib.hid (fun i => gAt_bound sh i l (fun y hy => ((vCart_parts hv).2.1.1 y hy).2))
  have h88 := (vCart_parts hv).2.2
  have hsl := LS.out
  have hll := LL.out
  go_wp2_with fail
  refine (groupCounts_iv _ S sn sc sh Al nl cl l (gc sh l) gA (K.rd_own owns) (by omega) (K.rd_own ownl) (by omega)).mono ?_
  rintro e w5 ⟨Ax, nx, cx, rfl, hlx, ownx, kk⟩
  replace owns := K.own_kept owns kk
  replace ownl := K.own_kept ownl kk
  replace owno := K.own_kept owno kk
  replace kw := K.Kept.trans kw kk
  clear kk
  go_wp2_with fail
  refine (groupCounts_iv _ S sn sc sh Ao no co U (gc sh U) gB (K.rd_own owns) (by omega) (K.rd_own owno) (by omega)).mono ?_
  rintro e w6 ⟨Ay, ny, cy, rfl, hly, owny, kk⟩
  replace owns := K.own_kept owns kk
  replace ownl := K.own_kept ownl kk
  replace owno := K.own_kept owno kk
  replace ownx := K.own_kept ownx kk
  replace kw := K.Kept.trans kw kk
  clear kk
  have ex : nx = 3 := by have := hlx; simp [gc] at this; omega
  have ey : ny = 3 := by have := hly; simp [gc] at this; omega
  subst ex ey
  obtain ⟨i, rfl⟩ := Int.eq_ofNat_of_zero_le ha1.1
  have hi : i < sn := by omega
  have j1 : (i : Int) < (sn : Int) := by omega
  clear gA gB hv hw hlx hly hll hsl
  clear owno
  clear ownl
  clear hlo
  have Hs := Lib.hid owns
  clear owns
  have Hx := Lib.hid ownx
  clear ownx
  have Hy := Lib.hid owny
  clear owny
  go_wp2_with fail
  go_loopw [13] (fun v wr => ∃ k : Nat, k ≤ 3 ∧ v = .int .i64 k ∧ K.Kept w6 wr) (fun v _ => 3 - (intOf v).toNat)
  case atStart => exact ⟨0, Nat.zero_le _, rfl, Below.refl _ _⟩
  case round =>
    obtain ⟨k, hk, rfl, kr⟩ := hrel
    by_cases hlt : k < 3
    · obtain ⟨b', o', p, g, r, t, rfl, hb', s1, s2, s3, s4, hs'⟩ := K.QR.cell (K.rd_own (K.own_kept Hs.out kr)) hi
      obtain ⟨b3, o3, x, rfl, hb3, c3, hx⟩ := K.IR.cell (K.rd_own (K.own_kept Hx.out kr)) hlt
      obtain ⟨b4, o4, y, rfl, hb4, c4, hy⟩ := K.IR.cell (K.rd_own (K.own_kept Hy.out kr)) hlt
      have e : y = x + (if g = (k : Int) then z else 0) := by
        have a1 := gc_get hx.out hlt
        have a2 := gc_get hy.out hlt
        have a3 := GA.out (k : Int)
        rw [grp_at hs'.out] at a3
        rw [a1, a2, a3]
      have bx : 0 ≤ x ∧ x ≤ 160 := by
        have a1 := gc_get hx.out hlt
        have a2 := BA.out (k : Int)
        rw [a1]; omega
      clear s1 s3 s4
      by_cases hgk : g = (k : Int)
      · rw [if_pos hgk] at e
        subst hgk
        have eg : ((k : Int) == (k : Int)) = true := by simp
        have W1 : IntKind.i64.wrap (x + z) = x + z := by rw [IntKind.wrap_i64]; omega
        have e3 : (y != x + z) = false := by rw [e]; simp
        have HK := Lib.hid kr
        clear kr
        go_wp2_with fail
        go_quiet (fail)
        go_wp2
        go_roundw
        case rel => exact ⟨k + 1, by omega, by go_num, K.below_drewN HK.out _⟩
        case measure => simp [intOf]; omega
      · rw [if_neg hgk, Int.add_zero] at e
        have eg : ((k : Int) == g) = false := by simp; omega
        have eg2 : (g == (k : Int)) = false := by simp [hgk]
        subst e
        have W1 : IntKind.i64.wrap (y + 0) = y := by rw [IntKind.wrap_i64]; omega
        have W0 : IntKind.i64.wrap y = y := by rw [IntKind.wrap_i64]; omega
        have e3 : (y != y) = false := by simp
        have HK := Lib.hid kr
        clear kr hgk
        go_wp2_with fail
        go_quiet (fail)
        go_wp2
        go_roundw
        case rel => exact ⟨k + 1, by omega, by go_num, K.below_drewN HK.out _⟩
        case measure => simp [intOf]; omega
    · have hkn : k = 3 := by omega
      subst hkn
      go_wp2
      go_ret
      exact ⟨rfl, K.Kept.trans kw kr⟩
end C
end Go.Proofs.Ytdhecblljcdpdaa

/-
  The laws of taken pieces, for every code. Conditions: none.
-/
import Derived.Test.YtdhecblljcdpdaaPieceLaws
import Derived.Test.YtdhecblljcdpdaaDrawTk
namespace Go.Proofs.Ytdhecblljcdpdaa
open Go.RowKit
namespace C

set_option maxHeartbeats 4000000 in
theorem takePiecesLaw (w : World) (n c : Nat) (A : Option Addr) (h : Code w w.heap.size A n c) : Calls Try.prog 13 #[.slice A n c] w fun e w' => e = .returned (.bool true) ∧ Below w.heap.size w w' := by
  by_cases hn : 1048576 < n
  · go_enter Try.func13, Try.ntmps13
    go_wp2
    go_ret
    exact ⟨rfl, Below.refl _ _⟩
  have hc := h
  unfold Code maxLen at hc
  have hn' : n ≤ 1048576 := by omega
  clear hc hn
  go_enter Try.func13, Try.ntmps13
  go_wp2_with fail
  refine (drawTakePieces_c w n c A h).mono ?_
  rintro e w1 ⟨S, sn, sc, sh, Al, nl, cl, l, a, z, rfl, hsn, hnl, owns, ownl, kw⟩
  clear h
  have LS := Lib.hid (show sh.length = sn from K.QR.len (K.rd_own owns))
  have LL := Lib.hid (show l.length = nl from K.PR.len (K.rd_own ownl))
  have h8 := tkL_len9 sh l a z
  cases hB : tkOk sh l a z
  case false =>
    have hU : tkL sh l a z = [] := tkL_no hB
    have h6 : ([] : List (Int × Int)).length ≤ 8 := by simp
    go_wp2_with fail
    refine (takePieces_iv _ S sn sc sh Al nl cl l a z [] false hU hB (K.rd_own owns) (by omega) (K.rd_own ownl) (by omega)).mono ?_
    rintro e w2 ⟨Ao, no, co, rfl, hlo, owno, kk⟩
    replace owns := K.own_kept owns kk
    replace ownl := K.own_kept ownl kk
    replace kw := K.Kept.trans kw kk
    clear kk
    go_wp2_with fail
    refine (takePieces_sv _ S sn sc sh Al nl cl l a z [] false hU hB (K.rd_own owns) (by omega) (K.rd_own ownl) (by omega)).mono ?_
    rintro e w3 ⟨Av, nv, cv, rfl, hlv, ownv, kk⟩
    replace owns := K.own_kept owns kk
    replace ownl := K.own_kept ownl kk
    replace owno := K.own_kept owno kk
    replace kw := K.Kept.trans kw kk
    clear kk
    go_wp2_with fail
    refine (equalLines_c _ _ _ _ _ _ _ [] [] (K.rd_own owno) (K.rd_own ownv) (by omega) (by omega)).mono ?_
    rintro e w4 ⟨rfl, kk⟩
    replace owns := K.own_kept owns kk
    replace ownl := K.own_kept ownl kk
    replace owno := K.own_kept owno kk
    replace ownv := K.own_kept ownv kk
    replace kw := K.Kept.trans kw kk
    clear kk
    go_wp2_with fail
    refine (equalLines_c _ _ _ _ _ _ _ [] [] (K.rd_own owno) (K.rd_own ownv) (by omega) (by omega)).mono ?_
    rintro e w5 ⟨rfl, kk⟩
    replace owns := K.own_kept owns kk
    replace ownl := K.own_kept ownl kk
    replace owno := K.own_kept owno kk
    replace ownv := K.own_kept ownv kk
    replace kw := K.Kept.trans kw kk
    clear kk
    go_wp2
    go_ret
    exact ⟨rfl, kw⟩
  obtain ⟨U, hU⟩ : ∃ U, tkL sh l a z = U := ⟨_, rfl⟩
  have HU := Lib.hid ((tkL_yes hB).symm.trans hU)
  rw [hU] at h8
  have HB := Lib.hid hB
  go_wp2_with fail
  refine (takePieces_iv _ S sn sc sh Al nl cl l a z U true hU hB (K.rd_own owns) (by omega) (K.rd_own ownl) (by omega)).mono ?_
  rintro e w2 ⟨Ao, no, co, rfl, hlo, owno, kk⟩
  replace owns := K.own_kept owns kk
  replace ownl := K.own_kept ownl kk
  replace kw := K.Kept.trans kw kk
  clear kk
  go_wp2_with fail
  refine (takePieces_sv _ S sn sc sh Al nl cl l a z U true hU hB (K.rd_own owns) (by omega) (K.rd_own ownl) (by omega)).mono ?_
  rintro e w3 ⟨Av, nv, cv, rfl, hlv, ownv, kk⟩
  replace owns := K.own_kept owns kk
  replace ownl := K.own_kept ownl kk
  replace owno := K.own_kept owno kk
  replace kw := K.Kept.trans kw kk
  clear kk
  go_wp2_with fail
  refine (equalLines_c _ _ _ _ _ _ _ U U (K.rd_own owno) (K.rd_own ownv) (by omega) (by omega)).mono ?_
  rintro e w4 ⟨rfl, kk⟩
  replace owns := K.own_kept owns kk
  replace ownl := K.own_kept ownl kk
  replace owno := K.own_kept owno kk
  replace ownv := K.own_kept ownv kk
  replace kw := K.Kept.trans kw kk
  clear kk
  clear ownv
  clear hlv hU hB
  have Hs := Lib.hid owns
  clear owns
  have Hl := Lib.hid ownl
  clear ownl
  have Ho := Lib.hid owno
  clear owno
  have hno : no ≤ 8 := by omega
  clear hlo h8
  go_wp2_with fail
  go_loopw [11] (fun i wr => ∃ k : Nat, k ≤ nl ∧ i = .int .i64 k ∧ K.Kept w4 wr) (fun i _ => nl - (intOf i).toNat)
  case atStart => exact ⟨0, Nat.zero_le _, rfl, Below.refl _ _⟩
  case round =>
    obtain ⟨k, hk, rfl, kr⟩ := hrel
    by_cases hlt : k < nl
    · obtain ⟨b, o, x, q, rfl, hb, c1, c2, hx⟩ := K.PR.cell (K.rd_own (K.own_kept Hl.out kr)) hlt
      by_cases hxa : x = a
      · subst hxa
        have ea : (x == x) = true := by simp
        go_wp2_with fail
        go_loopw [12, 13] (fun v i wr => ∃ j : Nat, j ≤ no ∧ i = .int .i64 j ∧ v = .bool true ∧ K.Kept w4 wr) (fun _ i _ => no - (intOf i).toNat)
        case atStart => exact ⟨0, Nat.zero_le _, rfl, rfl, kr⟩
        case round =>
          clear kr c1 c2
          obtain ⟨j, hj, rfl, rfl, kr⟩ := hrel
          by_cases hjt : j < no
          · have HK := Lib.hid kr
            clear kr
            go_wp2_with fail
            go_quiet (fail)
            go_wp2
            go_roundw
            case rel => exact ⟨j + 1, by omega, by go_num, rfl, K.below_drewN HK.out _⟩
            case measure => simp [intOf]; omega
          · have hkn : no = j := by omega
            subst hkn
            go_wp2
            go_roundw
            case rel => exact ⟨k + 1, by omega, by go_num, kr⟩
            case measure => simp [intOf]; omega
      · have hin : (x, q) ∈ U := by rw [← HU.out]; exact Plain.mem_takeL_other (List.mem_of_getElem? hx.out) hxa
        have HI := Lib.hid hin
        have ea : (x == a) = false := by simp [hxa]
        clear hin hxa
        go_wp2_with fail
        go_loopw [12, 13] (fun v i wr => ∃ j : Nat, j ≤ no ∧ i = .int .i64 j ∧ v = .bool (decide ((x, q) ∈ U.take j)) ∧ K.Kept w4 wr) (fun _ i _ => no - (intOf i).toNat)
        case atStart => exact ⟨0, Nat.zero_le _, rfl, by simp, kr⟩
        case round =>
          clear kr c1 c2
          obtain ⟨j, hj, rfl, rfl, kr⟩ := hrel
          by_cases hjt : j < no
          · obtain ⟨b3, o3, u, v, rfl, hb3, d1, d2, hy⟩ := K.PR.cell (K.rd_own (K.own_kept Ho.out kr)) hjt
            obtain ⟨b4, o4, x', q', e4, hb4, c1, c2, hx4⟩ := K.PR.cell (K.rd_own (K.own_kept Hl.out kr)) hlt
            injection e4 with e4
            injection e4 with e41 e42
            subst e41
            subst e42
            have e5 : (x', q') = (x, q) := Option.some.inj (hx4.out.symm.trans hx.out)
            injection e5 with e51 e52
            subst e51
            subst e52
            have HK := Lib.hid kr
            clear kr hx4
            have HT := Lib.hid (K.take_snoc hy.out)
            by_cases hin : (x', q') ∈ U.take j
            · have ht : decide ((x', q') ∈ U.take (j + 1)) = true := by rw [HT.out]; simp [hin]
              rw [decide_eq_true hin]
              clear hin
              have HT2 := Lib.hid ht
              clear ht
              go_wp2_with fail
              go_quiet (fail)
              go_wp2
              go_roundw
              case rel => exact ⟨j + 1, by omega, by go_num, by rw [HT2.out], K.below_drewN HK.out _⟩
              case measure => simp [intOf]; omega
            · rw [decide_eq_false hin]
              have HN := Lib.hid hin
              clear hin
              by_cases h1 : u = x'
              · subst h1
                have e1 : (u == u) = true := by simp
                by_cases h2 : v = q'
                · subst h2
                  have e2 : (v == v) = true := by simp
                  have HT2 := Lib.hid (show decide ((u, v) ∈ U.take (j + 1)) = true by rw [HT.out]; simp)
                  go_wp2_with fail
                  go_quiet (fail)
                  go_wp2
                  go_roundw
                  case rel => exact ⟨j + 1, by omega, by go_num, by rw [HT2.out], K.below_drewN HK.out _⟩
                  case measure => simp [intOf]; omega
                · have e2 : (v == q') = false := by simp [h2]
                  have HT2 := Lib.hid (show decide ((u, q') ∈ U.take (j + 1)) = false by rw [HT.out]; have := HN.out; simp [this]; exact fun e => h2 e.symm)
                  clear h2
                  go_wp2_with fail
                  go_quiet (fail)
                  go_wp2
                  go_roundw
                  case rel => exact ⟨j + 1, by omega, by go_num, by rw [HT2.out], K.below_drewN HK.out _⟩
                  case measure => simp [intOf]; omega
              · have e1 : (u == x') = false := by simp [h1]
                have HT2 := Lib.hid (show decide ((x', q') ∈ U.take (j + 1)) = false by rw [HT.out]; have := HN.out; simp [this]; exact fun e => absurd e.symm h1)
                clear h1
                go_wp2_with fail
                go_quiet (fail)
                go_wp2
                go_roundw
                case rel => exact ⟨j + 1, by omega, by go_num, by rw [HT2.out], K.below_drewN HK.out _⟩
                case measure => simp [intOf]; omega
          · have hkn : no = j := by omega
            subst hkn
            rw [K.take_all (by have := K.PR.len (K.rd_own Ho.out); exact this), decide_eq_true HI.out]
            go_wp2
            go_roundw
            case rel => exact ⟨k + 1, by omega, by go_num, kr⟩
            case measure => simp [intOf]; omega
    · have hkn : nl = k := by omega
      subst hkn
      obtain ⟨ht, hw, _⟩ := take_law HB.out
      rw [HU.out] at ht hw
      obtain ⟨hv, _, _⟩ := tkOk_parts HB.out
      obtain ⟨ha1, hz1⟩ := has_bd HB.out
      have HV := Lib.hid hv
      clear hv
      have h1 := to_bd HV.out
      have h2 := to_bd hw
      obtain ⟨T1, e1⟩ : ∃ T, TO sh l = T := ⟨_, rfl⟩
      obtain ⟨T2, e2⟩ : ∃ T, TO sh U = T := ⟨_, rfl⟩
      rw [e1] at ht h1
      rw [e2] at ht h2
      have hsl := LS.out
      obtain ⟨i, rfl⟩ := Int.eq_ofNat_of_zero_le ha1.1
      have hi : i < sn := by omega
      have Ro := Lib.hid (K.rd_own (K.own_kept Ho.out kr))
      have Rs := Lib.hid (K.rd_own (K.own_kept Hs.out kr))
      have Rl := Lib.hid (K.rd_own (K.own_kept Hl.out kr))
      obtain ⟨b', o', p, g, r, t, rfl, hb', s1, s2, s3, s4, hs'⟩ := K.QR.cell Rs.out hi
      have hpb := prc_bd (cart_shop HV.out) (i : Int)
      rw [prc_at hs'.out] at hpb ht
      have hm := mul_bdC hpb.1 hpb.2 (by omega : 0 ≤ z) hz1.2
      have W1 : IntKind.i64.wrap (p * z) = p * z := by rw [IntKind.wrap_i64]; omega
      have W2 : IntKind.i64.wrap (T1 - p * z) = T1 - p * z := by rw [IntKind.wrap_i64]; omega
      have e3 : (T2 == T1 - p * z) = true := by rw [ht]; simp
      have j1 : (i : Int) < (sn : Int) := by omega
      clear s2 s3 s4 ha1 hm hpb ht h1 h2
      go_wp2_with fail
      (have rg0 := cell_regrown s1; refine wp_region_quiet_below (by kernel_rfl) (by kernel_rfl) ?_; (repeat (go_big_quiet_step ((first | (go_at_call 18; exact Calls.regrown_of (validCart_i _ _ sn sc sh Ao no co U true hw (rdk Rs.out (below_regrown _ _ _)) (by omega) (rdk Ro.out (below_regrown _ _ _)) (by omega))) | (go_at_call_of 30 (Value.slice Ao no co); exact Calls.regrown_of (totalOf_iv _ _ sn sc sh Ao no co U T2 e2 (rdk Rs.out (below_regrown _ _ _)) (by omega) (rdk Ro.out (below_regrown _ _ _)) (by omega))) | (go_at_call_of 30 (Value.slice Al nl cl); exact Calls.regrown_of (totalOf_iv _ _ sn sc sh Al nl cl l T1 e1 (rdk Rs.out (below_regrown _ _ _)) (by omega) (rdk Rl.out (below_regrown _ _ _)) (by omega))))))); refine wpQuiet_nil ?_; intro wq hw2; have kwq := K.of_regrown hw2; clear hw2 rg0)
      go_wp2
      go_ret
      exact ⟨rfl, K.Kept.trans kw (K.Kept.trans kr kwq)⟩
set_option maxHeartbeats 4000000 in
theorem takePiecesAdd (w : World) (n c : Nat) (A : Option Addr) (h : Code w w.heap.size A n c) : Calls Try.prog 14 #[.slice A n c] w fun e w' => e = .returned (.bool true) ∧ Below w.heap.size w w' := by
  by_cases hn : 1048576 < n
  · go_enter Try.func14, Try.ntmps14
    go_wp2
    go_ret
    exact ⟨rfl, Below.refl _ _⟩
  have hc := h
  unfold Code maxLen at hc
  have hn' : n ≤ 1048576 := by omega
  clear hc hn
  go_enter Try.func14, Try.ntmps14
  go_wp2_with fail
  refine (drawTakePieces_c w n c A h).mono ?_
  rintro e w1 ⟨S, sn, sc, sh, Al, nl, cl, l, a, z, rfl, hsn, hnl, owns, ownl, kw⟩
  clear h
  have LS := Lib.hid (show sh.length = sn from K.QR.len (K.rd_own owns))
  have LL := Lib.hid (show l.length = nl from K.PR.len (K.rd_own ownl))
  have h8 := tkL_len9 sh l a z
  cases hB : tkOk sh l a z
  case false =>
    have hU : tkL sh l a z = [] := tkL_no hB
    have h6 : ([] : List (Int × Int)).length ≤ 8 := by simp
    go_wp2_with fail
    refine (takePieces_iv _ S sn sc sh Al nl cl l a z [] false hU hB (K.rd_own owns) (by omega) (K.rd_own ownl) (by omega)).mono ?_
    rintro e w2 ⟨Ao, no, co, rfl, hlo, owno, kk⟩
    replace owns := K.own_kept owns kk
    replace ownl := K.own_kept ownl kk
    replace kw := K.Kept.trans kw kk
    clear kk
    go_wp2_with fail
    refine (takePieces_sv _ S sn sc sh Al nl cl l a z [] false hU hB (K.rd_own owns) (by omega) (K.rd_own ownl) (by omega)).mono ?_
    rintro e w3 ⟨Av, nv, cv, rfl, hlv, ownv, kk⟩
    replace owns := K.own_kept owns kk
    replace ownl := K.own_kept ownl kk
    replace owno := K.own_kept owno kk
    replace kw := K.Kept.trans kw kk
    clear kk
    go_wp2_with fail
    refine (equalLines_c _ _ _ _ _ _ _ [] [] (K.rd_own owno) (K.rd_own ownv) (by omega) (by omega)).mono ?_
    rintro e w4 ⟨rfl, kk⟩
    replace owns := K.own_kept owns kk
    replace ownl := K.own_kept ownl kk
    replace owno := K.own_kept owno kk
    replace ownv := K.own_kept ownv kk
    replace kw := K.Kept.trans kw kk
    clear kk
    go_wp2_with fail
    refine (equalLines_c _ _ _ _ _ _ _ [] [] (K.rd_own owno) (K.rd_own ownv) (by omega) (by omega)).mono ?_
    rintro e w5 ⟨rfl, kk⟩
    replace owns := K.own_kept owns kk
    replace ownl := K.own_kept ownl kk
    replace owno := K.own_kept owno kk
    replace ownv := K.own_kept ownv kk
    replace kw := K.Kept.trans kw kk
    clear kk
    go_wp2
    go_ret
    exact ⟨rfl, kw⟩
  obtain ⟨U, hU⟩ : ∃ U, tkL sh l a z = U := ⟨_, rfl⟩
  have HU := Lib.hid ((tkL_yes hB).symm.trans hU)
  rw [hU] at h8
  have HB := Lib.hid hB
  go_wp2_with fail
  refine (takePieces_iv _ S sn sc sh Al nl cl l a z U true hU hB (K.rd_own owns) (by omega) (K.rd_own ownl) (by omega)).mono ?_
  rintro e w2 ⟨Ao, no, co, rfl, hlo, owno, kk⟩
  replace owns := K.own_kept owns kk
  replace ownl := K.own_kept ownl kk
  replace kw := K.Kept.trans kw kk
  clear kk
  go_wp2_with fail
  refine (takePieces_sv _ S sn sc sh Al nl cl l a z U true hU hB (K.rd_own owns) (by omega) (K.rd_own ownl) (by omega)).mono ?_
  rintro e w3 ⟨Av, nv, cv, rfl, hlv, ownv, kk⟩
  replace owns := K.own_kept owns kk
  replace ownl := K.own_kept ownl kk
  replace owno := K.own_kept owno kk
  replace kw := K.Kept.trans kw kk
  clear kk
  go_wp2_with fail
  refine (equalLines_c _ _ _ _ _ _ _ U U (K.rd_own owno) (K.rd_own ownv) (by omega) (by omega)).mono ?_
  rintro e w4 ⟨rfl, kk⟩
  replace owns := K.own_kept owns kk
  replace ownl := K.own_kept ownl kk
  replace owno := K.own_kept owno kk
  replace ownv := K.own_kept ownv kk
  replace kw := K.Kept.trans kw kk
  clear kk
  clear ownv
  clear hlv hU hB
  obtain ⟨hb3, hR⟩ := take_back HB.out
  rw [HU.out] at hb3 hR
  go_wp2_with fail
  refine (addPieces_iv _ S sn sc sh Ao no co U a z l true hR hb3 (K.rd_own owns) (by omega) (K.rd_own owno) (by omega)).mono ?_
  rintro e w5 ⟨Ab, nb, cb, rfl, hlb, ownb, kk⟩
  replace owns := K.own_kept owns kk
  replace ownl := K.own_kept ownl kk
  replace owno := K.own_kept owno kk
  replace kw := K.Kept.trans kw kk
  clear kk
  have hll := LL.out
  go_wp2_with fail
  refine (equalLines_c _ _ _ _ _ _ _ l l (K.rd_own ownb) (K.rd_own ownl) (by omega) (by omega)).mono ?_
  rintro e w6 ⟨rfl, kk⟩
  replace owns := K.own_kept owns kk
  replace ownl := K.own_kept ownl kk
  replace owno := K.own_kept owno kk
  replace ownb := K.own_kept ownb kk
  replace kw := K.Kept.trans kw kk
  clear kk
  go_wp2
  go_ret
  exact ⟨rfl, kw⟩
end C
end Go.Proofs.Ytdhecblljcdpdaa

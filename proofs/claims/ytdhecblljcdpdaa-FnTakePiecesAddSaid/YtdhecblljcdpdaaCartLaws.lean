/-
  The laws of shops, carts, amounts and counts, for every code. Conditions: none.
-/
import Derived.Test.YtdhecblljcdpdaaFactsC
import Derived.Test.YtdhecblljcdpdaaDrawC
namespace Go.Proofs.Ytdhecblljcdpdaa
open Go.RowKit
namespace C

theorem lineAmounts_iv (w : World) (A : Option Addr) (n c : Nat) (sh : List K.Q4) (B : Option Addr) (m d : Nat) (ls : List (Int × Int)) (v : List Int) (hv : LA sh ls = v) (h : K.QR w w.heap.size A n sh) (hn : n ≤ 1099511627776) (h2 : K.PR w w.heap.size B m ls) (hm : m ≤ 1099511627776) : Calls Try.prog 22 #[.slice A n c, .slice B m d] w (Fresh w v) := hv ▸ lineAmounts_i w A n c sh B m d ls h hn h2 hm
theorem lineAmounts_sv (w : World) (A : Option Addr) (n c : Nat) (sh : List K.Q4) (B : Option Addr) (m d : Nat) (ls : List (Int × Int)) (v : List Int) (hv : LA sh ls = v) (h : K.QR w w.heap.size A n sh) (hn : n ≤ 1099511627776) (h2 : K.PR w w.heap.size B m ls) (hm : m ≤ 1099511627776) : Calls Try.prog 24 #[.slice A n c, .slice B m d] w (Fresh w v) := hv ▸ lineAmounts_s w A n c sh B m d ls h hn h2 hm
theorem groupCounts_iv (w : World) (A : Option Addr) (n c : Nat) (sh : List K.Q4) (B : Option Addr) (m d : Nat) (ls : List (Int × Int)) (v : List Int) (hv : GC sh ls = v) (h : K.QR w w.heap.size A n sh) (hn : n ≤ 1099511627776) (h2 : K.PR w w.heap.size B m ls) (hm : m ≤ 1099511627776) : Calls Try.prog 26 #[.slice A n c, .slice B m d] w (Fresh w v) := hv ▸ groupCounts_i w A n c sh B m d ls h hn h2 hm
theorem groupCounts_sv (w : World) (A : Option Addr) (n c : Nat) (sh : List K.Q4) (B : Option Addr) (m d : Nat) (ls : List (Int × Int)) (v : List Int) (hv : GC sh ls = v) (h : K.QR w w.heap.size A n sh) (hn : n ≤ 1099511627776) (h2 : K.PR w w.heap.size B m ls) (hm : m ≤ 1099511627776) : Calls Try.prog 27 #[.slice A n c, .slice B m d] w (Fresh w v) := hv ▸ groupCounts_s w A n c sh B m d ls h hn h2 hm
theorem totalOf_iv (w : World) (A : Option Addr) (n c : Nat) (sh : List K.Q4) (B : Option Addr) (m d : Nat) (ls : List (Int × Int)) (v : Int) (hv : TO sh ls = v) (h : K.QR w w.heap.size A n sh) (hn : n ≤ 1099511627776) (h2 : K.PR w w.heap.size B m ls) (hm : m ≤ 1099511627776) : Calls Try.prog 30 #[.slice A n c, .slice B m d] w fun e w' => e = .returned (.int .i64 v) ∧ K.Kept w w' := hv ▸ totalOf_i w A n c sh B m d ls h hn h2 hm
theorem totalOf_sv (w : World) (A : Option Addr) (n c : Nat) (sh : List K.Q4) (B : Option Addr) (m d : Nat) (ls : List (Int × Int)) (v : Int) (hv : TO sh ls = v) (h : K.QR w w.heap.size A n sh) (hn : n ≤ 1099511627776) (h2 : K.PR w w.heap.size B m ls) (hm : m ≤ 1099511627776) : Calls Try.prog 31 #[.slice A n c, .slice B m d] w fun e w' => e = .returned (.int .i64 v) ∧ K.Kept w w' := hv ▸ totalOf_s w A n c sh B m d ls h hn h2 hm
theorem validShop_ib (w : World) (A : Option Addr) (n c : Nat) (l : List K.Q4) (b : Bool) (hb : Plain.vShop l = b) (h : K.QR w w.heap.size A n l) (hn : n ≤ 1099511627776) : Calls Try.prog 16 #[.slice A n c] w fun e w' => e = .returned (.bool b) ∧ K.Kept w w' := hb ▸ validShop_i w A n c l h hn
theorem validShop_sb (w : World) (A : Option Addr) (n c : Nat) (l : List K.Q4) (b : Bool) (hb : Plain.vShop l = b) (h : K.QR w w.heap.size A n l) (hn : n ≤ 1099511627776) : Calls Try.prog 17 #[.slice A n c] w fun e w' => e = .returned (.bool b) ∧ K.Kept w w' := hb ▸ ValidShop_s w A n c l h hn
theorem sum_lk (w : World) (A : Option Addr) (n c : Nat) (l : List Int) (v : Int) (hv : l.sum = v) (h : K.IR w w.heap.size A n l) (hn : n ≤ 100000) (hs : Small l) : Calls Try.prog 28 #[.slice A n c] w fun e w' => e = .returned (.int .i64 v) ∧ K.Kept w w' := hv ▸ (sum_l w A n c l h hn hs).mono fun _ _ h => ⟨h.1, h.2 ▸ K.Kept.refl _⟩
theorem rdk {w w' : World} {size n : Nat} {A : Option Addr} {xs : List Value} (h : K.Rd w w.heap.size size A n xs) (k : K.Kept w w') : K.Rd w' w'.heap.size size A n xs := (K.Rd.below h k).more k.size
theorem LA_len' (sh : List K.Q4) (l : List (Int × Int)) : (LA sh l).length ≤ l.length := by
  cases h : vCart sh l
  · rw [LA_no h]; simp
  · rw [LA_yes h, la_len]; exact Nat.le_refl _
theorem GC_len' (sh : List K.Q4) (l : List (Int × Int)) : (GC sh l).length ≤ 3 := by
  cases h : vCart sh l
  · rw [GC_no h]; simp
  · rw [GC_yes h]; exact Nat.le_refl _
theorem art_snoc {sh : List K.Q4} {c : List (Int × Int)} {j k : Nat} {a q : Int} (hx : c[j]? = some (a, q)) : Plain.arts (prc sh) c k + Plain.wsum (fun x => if x = (k : Int) then prc sh x else 0) (c.take (j + 1)) = Plain.arts (prc sh) c k + Plain.wsum (fun x => if x = (k : Int) then prc sh x else 0) (c.take j) + (if a = (k : Int) then prc sh a * q else 0) := by
  rw [K.take_snoc hx, Plain.wsum_snoc]
  simp only
  split <;> omega
theorem art_bd {sh : List K.Q4} {c : List (Int × Int)} (h : vCart sh c = true) (k j : Nat) : 0 ≤ Plain.arts (prc sh) c k + Plain.wsum (fun x => if x = (k : Int) then prc sh x else 0) (c.take j) ∧ Plain.arts (prc sh) c k + Plain.wsum (fun x => if x = (k : Int) then prc sh x else 0) (c.take j) ≤ 1600000 := by
  obtain ⟨_, hc, h8⟩ := vCart_parts h
  have key : ∀ (f : Int → Int) (d : List (Int × Int)), (∀ x, f x = 0 ∨ f x = prc sh x) → (∀ x ∈ d, 1 ≤ x.2 ∧ x.2 ≤ 20) → 0 ≤ Plain.wsum f d ∧ Plain.wsum f d ≤ d.length * 100000 := by
    intro f d hf hd
    refine Plain.wsum_bound fun x hx => ?_
    have h1 := prc_bd (cart_shop h) x.1
    have h2 := hd x hx
    rcases hf x.1 with e | e <;> rw [e]
    · simp
    · have := mul_bdC h1.1 h1.2 (by omega : 0 ≤ x.2) h2.2
      omega
  have a := key (fun x => if 0 ≤ x ∧ x < (k : Int) then prc sh x else 0) c (fun x => by split <;> simp) (fun x hx => (hc.1 x hx).2)
  have b := key (fun x => if x = (k : Int) then prc sh x else 0) (c.take j) (fun x => by split <;> simp) (fun x hx => (hc.1 x (List.mem_of_mem_take hx)).2)
  rw [Plain.arts_eq]
  have h1 : (c.length : Int) ≤ 8 := by omega
  have h2 : ((c.take j).length : Int) ≤ 8 := by simp; omega
  omega
set_option maxHeartbeats 4000000 in
theorem validShopLaw (w : World) (n c : Nat) (A : Option Addr) (h : Code w w.heap.size A n c) : Calls Try.prog 3 #[.slice A n c] w fun e w' => e = .returned (.bool true) ∧ Below w.heap.size w w' := by
  by_cases hn : 1048576 < n
  · go_enter Try.func3, Try.ntmps3
    go_wp2
    go_ret
    exact ⟨rfl, Below.refl _ _⟩
  have hc := h
  unfold Code maxLen at hc
  have hn' : n ≤ 1048576 := by omega
  clear hc hn
  go_enter Try.func3, Try.ntmps3
  go_wp2_with fail
  refine (drawValidShop_c w n c A h).mono ?_
  rintro e w1 ⟨Al, nl, cl, l, rfl, hnl, ownl, kw⟩
  clear h
  have LL := Lib.hid (show l.length = nl from K.QR.len (K.rd_own ownl))
  obtain ⟨hlc, hcm⟩ : nl ≤ cl ∧ cl ≤ maxLen := by
    obtain ⟨A0, c0, hv0, hlc, hcm⟩ := K.own_slice ownl
    cases hv0
    exact ⟨hlc, hcm⟩
  unfold maxLen at hcm
  cases hB : Plain.vShop l
  case false =>
    go_wp2_with fail
    refine (validShop_ib _ Al nl cl l false hB (K.rd_own ownl) (by omega)).mono ?_
    rintro e w2 ⟨rfl, kk⟩
    replace ownl := K.own_kept ownl kk
    replace kw := K.Kept.trans kw kk
    clear kk
    go_wp2_with fail
    refine (validShop_sb _ Al nl cl l false hB (K.rd_own ownl) (by omega)).mono ?_
    rintro e w3 ⟨rfl, kk⟩
    replace ownl := K.own_kept ownl kk
    replace kw := K.Kept.trans kw kk
    clear kk
    go_wp2_with fail
    refine (validShop_sb _ Al nl cl l false hB (K.rd_own ownl) (by omega)).mono ?_
    rintro e w4 ⟨rfl, kk⟩
    replace ownl := K.own_kept ownl kk
    replace kw := K.Kept.trans kw kk
    clear kk
    go_wp2
    go_ret
    exact ⟨rfl, kw⟩
  by_cases h2 : nl < 2
  case pos =>
    go_wp2_with fail
    refine (validShop_ib _ Al nl cl l true hB (K.rd_own ownl) (by omega)).mono ?_
    rintro e w2 ⟨rfl, kk⟩
    replace ownl := K.own_kept ownl kk
    replace kw := K.Kept.trans kw kk
    clear kk
    go_wp2_with fail
    refine (validShop_sb _ Al nl cl l true hB (K.rd_own ownl) (by omega)).mono ?_
    rintro e w3 ⟨rfl, kk⟩
    replace ownl := K.own_kept ownl kk
    replace kw := K.Kept.trans kw kk
    clear kk
    go_wp2_with fail
    refine (validShop_sb _ Al nl cl l true hB (K.rd_own ownl) (by omega)).mono ?_
    rintro e w4 ⟨rfl, kk⟩
    replace ownl := K.own_kept ownl kk
    replace kw := K.Kept.trans kw kk
    clear kk
    go_wp2
    go_ret
    exact ⟨rfl, kw⟩
  have V1 := Lib.hid (shop_less hB (nl - 1) (by omega) (by have := LL.out; omega))
  have V2 := Lib.hid (cart_none hB)
  have j0 : ((nl : Int) - 1).toNat = nl - 1 := by omega
  have j1 : (0 : Int) ≤ (nl : Int) - 1 := by omega
  have j2 : (nl : Int) - 1 ≤ (cl : Int) := by omega
  go_wp2_with fail
  refine (validShop_ib _ Al nl cl l true hB (K.rd_own ownl) (by omega)).mono ?_
  rintro e w2 ⟨rfl, kk⟩
  replace ownl := K.own_kept ownl kk
  replace kw := K.Kept.trans kw kk
  clear kk
  go_wp2_with fail
  refine (validShop_sb _ Al nl cl l true hB (K.rd_own ownl) (by omega)).mono ?_
  rintro e w3 ⟨rfl, kk⟩
  replace ownl := K.own_kept ownl kk
  replace kw := K.Kept.trans kw kk
  clear kk
  go_wp2_with fail
  refine (validShop_ib _ Al (nl - 1) cl (l.take (nl - 1)) true V1.out (qr_take (K.rd_own ownl) (by omega)) (by omega)).mono ?_
  rintro e w4 ⟨rfl, kk⟩
  replace ownl := K.own_kept ownl kk
  replace kw := K.Kept.trans kw kk
  clear kk
  go_wp2_with fail
  refine (validCart_i _ Al nl cl l none 0 0 [] true V2.out (K.rd_own ownl) (by omega) (K.Rd.nil _ _ _ _) (by omega)).mono ?_
  rintro e w5 ⟨rfl, kk⟩
  replace ownl := K.own_kept ownl kk
  replace kw := K.Kept.trans kw kk
  clear kk
  go_wp2
  go_ret
  exact ⟨rfl, kw⟩
set_option maxHeartbeats 4000000 in
theorem lineAmountsLaw (w : World) (n c : Nat) (A : Option Addr) (h : Code w w.heap.size A n c) : Calls Try.prog 5 #[.slice A n c] w fun e w' => e = .returned (.bool true) ∧ Below w.heap.size w w' := by
  by_cases hn : 1048576 < n
  · go_enter Try.func5, Try.ntmps5
    go_wp2
    go_ret
    exact ⟨rfl, Below.refl _ _⟩
  have hc := h
  unfold Code maxLen at hc
  have hn' : n ≤ 1048576 := by omega
  clear hc hn
  go_enter Try.func5, Try.ntmps5
  go_wp2_with fail
  refine (drawLineAmounts_c w n c A h).mono ?_
  rintro e w1 ⟨S, sn, sc, sh, Al, nl, cl, l, rfl, hsn, hnl, owns, ownl, kw⟩
  clear h
  have LS := Lib.hid (show sh.length = sn from K.QR.len (K.rd_own owns))
  have LL := Lib.hid (show l.length = nl from K.PR.len (K.rd_own ownl))
  obtain ⟨L, hL⟩ : ∃ L, LA sh l = L := ⟨_, rfl⟩
  have hL9 : L.length ≤ 9 := by have := LA_len' sh l; rw [hL] at this; have := LL.out; omega
  by_cases h0 : L.length = 0
  case pos =>
    go_wp2_with fail
    refine (lineAmounts_iv _ S sn sc sh Al nl cl l L hL (K.rd_own owns) (by omega) (K.rd_own ownl) (by omega)).mono ?_
    rintro e w2 ⟨Ao, no, co, rfl, hlo, owno, kk⟩
    replace owns := K.own_kept owns kk
    replace ownl := K.own_kept ownl kk
    replace kw := K.Kept.trans kw kk
    clear kk
    go_wp2_with fail
    refine (lineAmounts_sv _ S sn sc sh Al nl cl l L hL (K.rd_own owns) (by omega) (K.rd_own ownl) (by omega)).mono ?_
    rintro e w3 ⟨Av, nv, cv, rfl, hlv, ownv, kk⟩
    replace owns := K.own_kept owns kk
    replace ownl := K.own_kept ownl kk
    replace owno := K.own_kept owno kk
    replace kw := K.Kept.trans kw kk
    clear kk
    go_wp2_with fail
    refine (equalInts_c _ _ _ _ _ _ _ L L (K.rd_own owno) (K.rd_own ownv) (by omega) (by omega)).mono ?_
    rintro e w4 ⟨rfl, kk⟩
    replace owns := K.own_kept owns kk
    replace ownl := K.own_kept ownl kk
    replace owno := K.own_kept owno kk
    replace ownv := K.own_kept ownv kk
    replace kw := K.Kept.trans kw kk
    clear kk
    clear ownv
    have e0 : no = 0 := by omega
    subst e0
    clear hlv
    go_wp2_with fail
    refine (lineAmounts_sv _ S sn sc sh Al nl cl l L hL (K.rd_own owns) (by omega) (K.rd_own ownl) (by omega)).mono ?_
    rintro e w5 ⟨Au, nu, cu, rfl, hlu, ownu, kk⟩
    replace owns := K.own_kept owns kk
    replace ownl := K.own_kept ownl kk
    replace owno := K.own_kept owno kk
    replace kw := K.Kept.trans kw kk
    clear kk
    go_wp2_with fail
    refine (equalInts_c _ _ _ _ _ _ _ L L (K.rd_own owno) (K.rd_own ownu) (by omega) (by omega)).mono ?_
    rintro e w6 ⟨rfl, kk⟩
    replace owns := K.own_kept owns kk
    replace ownl := K.own_kept ownl kk
    replace owno := K.own_kept owno kk
    replace ownu := K.own_kept ownu kk
    replace kw := K.Kept.trans kw kk
    clear kk
    go_wp2
    go_ret
    exact ⟨rfl, kw⟩
  have hB : vCart sh l = true := by
    cases hB : vCart sh l
    · rw [LA_no hB] at hL; subst hL; exact absurd rfl h0
    · rfl
  have HLa := Lib.hid (hL.symm.trans (LA_yes hB))
  have hLn : L.length = nl := by rw [HLa.out, la_len]; exact LL.out
  have HB := Lib.hid hB
  clear hB
  go_wp2_with fail
  refine (lineAmounts_iv _ S sn sc sh Al nl cl l L hL (K.rd_own owns) (by omega) (K.rd_own ownl) (by omega)).mono ?_
  rintro e w2 ⟨Ao, no, co, rfl, hlo, owno, kk⟩
  replace owns := K.own_kept owns kk
  replace ownl := K.own_kept ownl kk
  replace kw := K.Kept.trans kw kk
  clear kk
  go_wp2_with fail
  refine (lineAmounts_sv _ S sn sc sh Al nl cl l L hL (K.rd_own owns) (by omega) (K.rd_own ownl) (by omega)).mono ?_
  rintro e w3 ⟨Av, nv, cv, rfl, hlv, ownv, kk⟩
  replace owns := K.own_kept owns kk
  replace ownl := K.own_kept ownl kk
  replace owno := K.own_kept owno kk
  replace kw := K.Kept.trans kw kk
  clear kk
  go_wp2_with fail
  refine (equalInts_c _ _ _ _ _ _ _ L L (K.rd_own owno) (K.rd_own ownv) (by omega) (by omega)).mono ?_
  rintro e w4 ⟨rfl, kk⟩
  replace owns := K.own_kept owns kk
  replace ownl := K.own_kept ownl kk
  replace owno := K.own_kept owno kk
  replace ownv := K.own_kept ownv kk
  replace kw := K.Kept.trans kw kk
  clear kk
  clear ownv
  clear hlv hL
  have en : no = nl := by omega
  subst en
  have hn1 : 1 ≤ no := by omega
  have en0 : ((no : Int) == 0) = false := by simp; omega
  clear hlo hLn h0 hL9
  have Hs := Lib.hid owns
  clear owns
  have Hl := Lib.hid ownl
  clear ownl
  have Ho := Lib.hid owno
  clear owno
  go_wp2_with fail
  go_loopw [6] (fun i wr => ∃ k : Nat, k ≤ no ∧ i = .int .i64 k ∧ K.Kept w4 wr) (fun i _ => no - (intOf i).toNat)
  case atStart => exact ⟨0, Nat.zero_le _, rfl, Below.refl _ _⟩
  case round =>
    obtain ⟨k, hk, rfl, kr⟩ := hrel
    by_cases hlt : k < no
    · obtain ⟨b, o, x, q, rfl, hb, c1, c2, hx⟩ := K.PR.cell (K.rd_own (K.own_kept Hl.out kr)) hlt
      obtain ⟨i, rfl, hi, hq1, hq2⟩ := line_price HB.out LS.out hx.out
      obtain ⟨b', o', p, g, r, t, rfl, hb', s1, s2, s3, s4, hs'⟩ := K.QR.cell (K.rd_own (K.own_kept Hs.out kr)) hi
      obtain ⟨b3, o3, y, rfl, hb3, c3, hy⟩ := K.IR.cell (K.rd_own (K.own_kept Ho.out kr)) hlt
      have ey : y = p * q := by have h1 := hy.out; rw [HLa.out, la_at hx.out, prc_at hs'.out] at h1; exact (Option.some.inj h1).symm
      subst ey
      have hpb := prc_bd (cart_shop HB.out) (i : Int)
      rw [prc_at hs'.out] at hpb
      have hm := mul_bdC hpb.1 hpb.2 (by omega : 0 ≤ q) hq2
      have W1 : IntKind.i64.wrap (p * q) = p * q := by rw [IntKind.wrap_i64]; omega
      have e3 : (p * q != p * q) = false := by simp
      have j1 : (i : Int) < (sn : Int) := by omega
      clear s2 s3 s4 hm hpb
      have HK := Lib.hid kr
      clear kr
      go_wp2_with fail
      go_quiet (fail)
      go_wp2
      go_roundw
      case rel => exact ⟨k + 1, by omega, by go_num, K.below_drewN HK.out _⟩
      case measure => simp [intOf]; omega
    · have hkn : no = k := by omega
      subst hkn
      go_wp2
      go_ret
      exact ⟨rfl, K.Kept.trans kw kr⟩
set_option maxHeartbeats 4000000 in
theorem totalOfLaw (w : World) (n c : Nat) (A : Option Addr) (h : Code w w.heap.size A n c) : Calls Try.prog 7 #[.slice A n c] w fun e w' => e = .returned (.bool true) ∧ Below w.heap.size w w' := by
  by_cases hn : 1048576 < n
  · go_enter Try.func7, Try.ntmps7
    go_wp2
    go_ret
    exact ⟨rfl, Below.refl _ _⟩
  have hc := h
  unfold Code maxLen at hc
  have hn' : n ≤ 1048576 := by omega
  clear hc hn
  go_enter Try.func7, Try.ntmps7
  go_wp2_with fail
  refine (drawTotalOf_c w n c A h).mono ?_
  rintro e w1 ⟨S, sn, sc, sh, Al, nl, cl, l, rfl, hsn, hnl, owns, ownl, kw⟩
  clear h
  have LS := Lib.hid (show sh.length = sn from K.QR.len (K.rd_own owns))
  have LL := Lib.hid (show l.length = nl from K.PR.len (K.rd_own ownl))
  cases hB : vCart sh l
  case false =>
    have hT := TO_no hB
    go_wp2_with fail
    refine (totalOf_iv _ S sn sc sh Al nl cl l (-1) hT (K.rd_own owns) (by omega) (K.rd_own ownl) (by omega)).mono ?_
    rintro e w2 ⟨rfl, kk⟩
    replace owns := K.own_kept owns kk
    replace ownl := K.own_kept ownl kk
    replace kw := K.Kept.trans kw kk
    clear kk
    go_wp2_with fail
    refine (totalOf_sv _ S sn sc sh Al nl cl l (-1) hT (K.rd_own owns) (by omega) (K.rd_own ownl) (by omega)).mono ?_
    rintro e w3 ⟨rfl, kk⟩
    replace owns := K.own_kept owns kk
    replace ownl := K.own_kept ownl kk
    replace kw := K.Kept.trans kw kk
    clear kk
    go_wp2_with fail
    refine (totalOf_sv _ S sn sc sh Al nl cl l (-1) hT (K.rd_own owns) (by omega) (K.rd_own ownl) (by omega)).mono ?_
    rintro e w4 ⟨rfl, kk⟩
    replace owns := K.own_kept owns kk
    replace ownl := K.own_kept ownl kk
    replace kw := K.Kept.trans kw kk
    clear kk
    go_wp2
    go_ret
    exact ⟨rfl, kw⟩
  obtain ⟨T, hT⟩ : ∃ T, TO sh l = T := ⟨_, rfl⟩
  have hTb := (to_bd hB).2
  rw [hT] at hTb
  go_wp2_with fail
  refine (totalOf_iv _ S sn sc sh Al nl cl l T hT (K.rd_own owns) (by omega) (K.rd_own ownl) (by omega)).mono ?_
  rintro e w2 ⟨rfl, kk⟩
  replace owns := K.own_kept owns kk
  replace ownl := K.own_kept ownl kk
  replace kw := K.Kept.trans kw kk
  clear kk
  go_wp2_with fail
  refine (totalOf_sv _ S sn sc sh Al nl cl l T hT (K.rd_own owns) (by omega) (K.rd_own ownl) (by omega)).mono ?_
  rintro e w3 ⟨rfl, kk⟩
  replace owns := K.own_kept owns kk
  replace ownl := K.own_kept ownl kk
  replace kw := K.Kept.trans kw kk
  clear kk
  obtain ⟨hlc, hcm⟩ : nl ≤ cl ∧ cl ≤ maxLen := by
    obtain ⟨A0, c0, hv0, hlc, hcm⟩ := K.own_slice ownl
    cases hv0
    exact ⟨hlc, hcm⟩
  unfold maxLen at hcm
  obtain ⟨k, hk⟩ : ∃ k : Nat, (nl : Int) / 2 = (k : Int) := ⟨nl / 2, by omega⟩
  have hkn : k ≤ nl := by omega
  have HH := to_halves hB k
  obtain ⟨T1, h1⟩ : ∃ T1, TO sh (l.take k) = T1 := ⟨_, rfl⟩
  obtain ⟨T2, h2⟩ : ∃ T2, TO sh (l.drop k) = T2 := ⟨_, rfl⟩
  rw [h1, h2, hT] at HH
  obtain ⟨b1, b2, e12⟩ := HH
  have W1 : IntKind.i64.wrap (T1 + T2) = T1 + T2 := by rw [IntKind.wrap_i64]; omega
  have e3 : (T1 + T2 == T) = true := by rw [e12]; simp
  have R1 := Lib.hid (pr_take (k := k) (K.rd_own ownl) hkn)
  have HS := Lib.hid (K.rd_own owns)
  have j1 : (k : Int) ≤ (cl : Int) := by omega
  have j2 : (k : Int) ≤ (nl : Int) := by omega
  have j3 : (nl : Int) ≤ (cl : Int) := by omega
  have e6 : decide (T ≤ 1000000) = true := by simp; omega
  have e5 : (IntKind.i64.wrap (T1 + T2) == T) = true := by rw [W1]; exact e3
  clear e12
  have j5 : (0 : Int) ≤ (k : Int) := by omega
  have kv := kdrew w3
  by_cases hck : cl = k
  · have ed : l.drop k = [] := List.drop_eq_nil_of_le (by have := LL.out; omega)
    have hk0 : k = 0 := by omega
    have hn0 : nl = 0 := by omega
    subst hk0 hck hn0
    have eT : T2 = T1 := by rw [← h1, ← h2, ed, List.take_zero]
    subst eT
    clear owns ownl
    go_wp2_with fail
    go_region_held3 (fun w' => True) (trivial) (first | (go_at_call_of 30 (Value.slice Al 0 0); refine (totalOf_iv _ S sn sc sh Al 0 0 (l.take 0) T2 h1 (rdk HS.out kv) (by omega) (rdk R1.out kv) (by omega)).mono ?_; rintro e wv ⟨rfl, kk⟩; replace kv := K.Kept.trans kv kk; clear kk))
    all_goals go_wp2
    all_goals go_ret
    all_goals exact ⟨rfl, K.Kept.trans kw kv⟩
  · obtain ⟨gg, rfl⟩ : ∃ gg, Al = some ⟨gg, 0, none⟩ := by
      rcases ownl.2 with ⟨hv, h0⟩ | ⟨gg, cap, cur, hv, _⟩
      · injection hv with _ _ h3; omega
      · injection hv with h1; exact ⟨gg, h1⟩
    have R2 := Lib.hid (show K.PR w3 w3.heap.size (some ⟨gg, k * 2, none⟩) (nl - k) (l.drop k) by have h := pr_drop (k := k) (K.rd_own ownl) hkn; rwa [Nat.zero_add] at h)
    have j6 : (k : Int) < (cl : Int) := by omega
    clear owns ownl
    go_wp2_with fail
    go_region_held3 (fun w' => True) (trivial) (first | (go_at_call_of 30 (Value.slice (some ⟨gg, 0, none⟩) k cl); refine (totalOf_iv _ S sn sc sh (some ⟨gg, 0, none⟩) k cl (l.take k) T1 h1 (rdk HS.out kv) (by omega) (rdk R1.out kv) (by omega)).mono ?_; rintro e wv ⟨rfl, kk⟩; replace kv := K.Kept.trans kv kk; clear kk) | (go_at_call_of 30 (Value.slice (some ⟨gg, k * 2, none⟩) (nl - k) (cl - k)); refine (totalOf_iv _ S sn sc sh (some ⟨gg, k * 2, none⟩) (nl - k) (cl - k) (l.drop k) T2 h2 (rdk HS.out kv) (by omega) (rdk R2.out kv) (by omega)).mono ?_; rintro e wv ⟨rfl, kk⟩; replace kv := K.Kept.trans kv kk; clear kk))
    all_goals go_wp2
    all_goals go_ret
    all_goals exact ⟨rfl, K.Kept.trans kw kv⟩
set_option maxHeartbeats 4000000 in
theorem groupCountsLaw (w : World) (n c : Nat) (A : Option Addr) (h : Code w w.heap.size A n c) : Calls Try.prog 6 #[.slice A n c] w fun e w' => e = .returned (.bool true) ∧ Below w.heap.size w w' := by
  by_cases hn : 1048576 < n
  · go_enter Try.func6, Try.ntmps6
    go_wp2
    go_ret
    exact ⟨rfl, Below.refl _ _⟩
  have hc := h
  unfold Code maxLen at hc
  have hn' : n ≤ 1048576 := by omega
  clear hc hn
  go_enter Try.func6, Try.ntmps6
  go_wp2_with fail
  refine (drawGroupCounts_c w n c A h).mono ?_
  rintro e w1 ⟨S, sn, sc, sh, Al, nl, cl, l, rfl, hsn, hnl, owns, ownl, kw⟩
  clear h
  have LS := Lib.hid (show sh.length = sn from K.QR.len (K.rd_own owns))
  have LL := Lib.hid (show l.length = nl from K.PR.len (K.rd_own ownl))
  obtain ⟨L, hL⟩ : ∃ L, GC sh l = L := ⟨_, rfl⟩
  have hL3 : L.length ≤ 3 := hL ▸ GC_len' sh l
  by_cases h0 : L.length = 0
  case pos =>
    go_wp2_with fail
    refine (groupCounts_iv _ S sn sc sh Al nl cl l L hL (K.rd_own owns) (by omega) (K.rd_own ownl) (by omega)).mono ?_
    rintro e w2 ⟨Ao, no, co, rfl, hlo, owno, kk⟩
    replace owns := K.own_kept owns kk
    replace ownl := K.own_kept ownl kk
    replace kw := K.Kept.trans kw kk
    clear kk
    go_wp2_with fail
    refine (groupCounts_sv _ S sn sc sh Al nl cl l L hL (K.rd_own owns) (by omega) (K.rd_own ownl) (by omega)).mono ?_
    rintro e w3 ⟨Av, nv, cv, rfl, hlv, ownv, kk⟩
    replace owns := K.own_kept owns kk
    replace ownl := K.own_kept ownl kk
    replace owno := K.own_kept owno kk
    replace kw := K.Kept.trans kw kk
    clear kk
    go_wp2_with fail
    refine (equalInts_c _ _ _ _ _ _ _ L L (K.rd_own owno) (K.rd_own ownv) (by omega) (by omega)).mono ?_
    rintro e w4 ⟨rfl, kk⟩
    replace owns := K.own_kept owns kk
    replace ownl := K.own_kept ownl kk
    replace owno := K.own_kept owno kk
    replace ownv := K.own_kept ownv kk
    replace kw := K.Kept.trans kw kk
    clear kk
    clear ownv
    have e0 : no = 0 := by omega
    subst e0
    clear hlv
    go_wp2_with fail
    refine (groupCounts_sv _ S sn sc sh Al nl cl l L hL (K.rd_own owns) (by omega) (K.rd_own ownl) (by omega)).mono ?_
    rintro e w5 ⟨Au, nu, cu, rfl, hlu, ownu, kk⟩
    replace owns := K.own_kept owns kk
    replace ownl := K.own_kept ownl kk
    replace owno := K.own_kept owno kk
    replace kw := K.Kept.trans kw kk
    clear kk
    go_wp2_with fail
    refine (equalInts_c _ _ _ _ _ _ _ L L (K.rd_own owno) (K.rd_own ownu) (by omega) (by omega)).mono ?_
    rintro e w6 ⟨rfl, kk⟩
    replace owns := K.own_kept owns kk
    replace ownl := K.own_kept ownl kk
    replace owno := K.own_kept owno kk
    replace ownu := K.own_kept ownu kk
    replace kw := K.Kept.trans kw kk
    clear kk
    go_wp2
    go_ret
    exact ⟨rfl, kw⟩
  have hB : vCart sh l = true := by
    cases hB : vCart sh l
    · rw [GC_no hB] at hL; subst hL; exact absurd rfl h0
    · rfl
  have HLa := Lib.hid (hL.symm.trans (GC_yes hB))
  have hLn : L.length = 3 := by rw [HLa.out]; rfl
  have HB := Lib.hid hB
  clear hB
  go_wp2_with fail
  refine (groupCounts_iv _ S sn sc sh Al nl cl l L hL (K.rd_own owns) (by omega) (K.rd_own ownl) (by omega)).mono ?_
  rintro e w2 ⟨Ao, no, co, rfl, hlo, owno, kk⟩
  replace owns := K.own_kept owns kk
  replace ownl := K.own_kept ownl kk
  replace kw := K.Kept.trans kw kk
  clear kk
  go_wp2_with fail
  refine (groupCounts_sv _ S sn sc sh Al nl cl l L hL (K.rd_own owns) (by omega) (K.rd_own ownl) (by omega)).mono ?_
  rintro e w3 ⟨Av, nv, cv, rfl, hlv, ownv, kk⟩
  replace owns := K.own_kept owns kk
  replace ownl := K.own_kept ownl kk
  replace owno := K.own_kept owno kk
  replace kw := K.Kept.trans kw kk
  clear kk
  go_wp2_with fail
  refine (equalInts_c _ _ _ _ _ _ _ L L (K.rd_own owno) (K.rd_own ownv) (by omega) (by omega)).mono ?_
  rintro e w4 ⟨rfl, kk⟩
  replace owns := K.own_kept owns kk
  replace ownl := K.own_kept ownl kk
  replace owno := K.own_kept owno kk
  replace ownv := K.own_kept ownv kk
  replace kw := K.Kept.trans kw kk
  clear kk
  clear ownv
  clear hlv hL
  have en : no = 3 := by omega
  subst en
  clear hlo hLn h0 hL3
  have Hs := Lib.hid owns
  clear owns
  have Hl := Lib.hid ownl
  clear ownl
  have Ho := Lib.hid owno
  clear owno
  go_wp2_with fail
  go_loopw [6, 7] (fun v i wr => ∃ k : Nat, k ≤ nl ∧ i = .int .i64 k ∧ v = .int .i64 ((l.take k).map Prod.snd).sum ∧ K.Kept w4 wr) (fun _ i _ => nl - (intOf i).toNat)
  case atStart => exact ⟨0, Nat.zero_le _, rfl, by simp, Below.refl _ _⟩
  case round =>
    obtain ⟨k, hk, rfl, rfl, kr⟩ := hrel
    by_cases hlt : k < nl
    · obtain ⟨b, o, x, q, rfl, hb, c1, c2, hx⟩ := K.PR.cell (K.rd_own (K.own_kept Hl.out kr)) hlt
      have HS := Lib.hid (cs_snoc hx.out)
      have b0 := cs_bd HB.out k
      have b1 := cs_bd HB.out (k + 1)
      rw [HS.out] at b1
      obtain ⟨z, hz⟩ : ∃ z, ((l.take k).map Prod.snd).sum = z := ⟨_, rfl⟩
      rw [hz] at b0 b1 HS ⊢
      have W1 : IntKind.i64.wrap (z + q) = z + q := by rw [IntKind.wrap_i64]; omega
      go_wp2
      go_roundw
      case rel => exact ⟨k + 1, by omega, by go_num, by rw [HS.out], kr⟩
      case measure => simp [intOf]; omega
    · have hkn : nl = k := by omega
      subst hkn
      rw [K.take_all LL.out]
      have hv := (gc_sum (c := l) (cart_shop HB.out))
      rw [← HLa.out] at hv
      have b0 := cs_bd HB.out nl
      rw [K.take_all LL.out] at b0
      obtain ⟨z, hz⟩ : ∃ z, (l.map Prod.snd).sum = z := ⟨_, rfl⟩
      rw [hz] at hv b0 ⊢
      have e3 : (z == z) = true := by simp
      have sm : Small L := by
        intro x hx
        rw [HLa.out] at hx
        obtain ⟨_, hc, h8⟩ := vCart_parts HB.out
        have g := fun i => gAt_bound sh i l (fun y hy => (hc.1 y hy).2)
        simp [gc] at hx
        rcases hx with rfl | rfl | rfl <;> (have := g 0; have := g 1; have := g 2; omega)
      go_wp2_with fail
      refine (sum_lk _ Ao 3 co L z hv (K.rd_own (K.own_kept Ho.out kr)) (by omega) sm).mono ?_
      rintro e w9 ⟨rfl, k9⟩
      go_wp2
      go_ret
      exact ⟨rfl, K.Kept.trans kw (K.Kept.trans kr k9)⟩
set_option maxHeartbeats 4000000 in
theorem totalOfArticleLaw (w : World) (n c : Nat) (A : Option Addr) (h : Code w w.heap.size A n c) : Calls Try.prog 8 #[.slice A n c] w fun e w' => e = .returned (.bool true) ∧ Below w.heap.size w w' := by
  by_cases hn : 1048576 < n
  · go_enter Try.func8, Try.ntmps8
    go_wp2
    go_ret
    exact ⟨rfl, Below.refl _ _⟩
  have hc := h
  unfold Code maxLen at hc
  have hn' : n ≤ 1048576 := by omega
  clear hc hn
  go_enter Try.func8, Try.ntmps8
  go_wp2_with fail
  refine (drawTotalOf_c w n c A h).mono ?_
  rintro e w1 ⟨S, sn, sc, sh, Al, nl, cl, l, rfl, hsn, hnl, owns, ownl, kw⟩
  clear h
  have LS := Lib.hid (show sh.length = sn from K.QR.len (K.rd_own owns))
  have LL := Lib.hid (show l.length = nl from K.PR.len (K.rd_own ownl))
  cases hB : vCart sh l
  case false =>
    have hT := TO_no hB
    go_wp2_with fail
    refine (totalOf_iv _ S sn sc sh Al nl cl l (-1) hT (K.rd_own owns) (by omega) (K.rd_own ownl) (by omega)).mono ?_
    rintro e w2 ⟨rfl, kk⟩
    replace owns := K.own_kept owns kk
    replace ownl := K.own_kept ownl kk
    replace kw := K.Kept.trans kw kk
    clear kk
    go_wp2_with fail
    refine (totalOf_sv _ S sn sc sh Al nl cl l (-1) hT (K.rd_own owns) (by omega) (K.rd_own ownl) (by omega)).mono ?_
    rintro e w3 ⟨rfl, kk⟩
    replace owns := K.own_kept owns kk
    replace ownl := K.own_kept ownl kk
    replace kw := K.Kept.trans kw kk
    clear kk
    go_wp2_with fail
    refine (totalOf_sv _ S sn sc sh Al nl cl l (-1) hT (K.rd_own owns) (by omega) (K.rd_own ownl) (by omega)).mono ?_
    rintro e w4 ⟨rfl, kk⟩
    replace owns := K.own_kept owns kk
    replace ownl := K.own_kept ownl kk
    replace kw := K.Kept.trans kw kk
    clear kk
    go_wp2
    go_ret
    exact ⟨rfl, kw⟩
  obtain ⟨T, hT⟩ : ∃ T, TO sh l = T := ⟨_, rfl⟩
  have hTb := (to_bd hB).2
  rw [hT] at hTb
  go_wp2_with fail
  refine (totalOf_iv _ S sn sc sh Al nl cl l T hT (K.rd_own owns) (by omega) (K.rd_own ownl) (by omega)).mono ?_
  rintro e w2 ⟨rfl, kk⟩
  replace owns := K.own_kept owns kk
  replace ownl := K.own_kept ownl kk
  replace kw := K.Kept.trans kw kk
  clear kk
  go_wp2_with fail
  refine (totalOf_sv _ S sn sc sh Al nl cl l T hT (K.rd_own owns) (by omega) (K.rd_own ownl) (by omega)).mono ?_
  rintro e w3 ⟨rfl, kk⟩
  replace owns := K.own_kept owns kk
  replace ownl := K.own_kept ownl kk
  replace kw := K.Kept.trans kw kk
  clear kk
  have HB := Lib.hid hB
  clear hB
  have Hs := Lib.hid owns
  clear owns
  have Hl := Lib.hid ownl
  clear ownl
  go_wp2_with fail
  go_loopw [6, 7] (fun v i wr => ∃ k : Nat, k ≤ sn ∧ i = .int .i64 k ∧ v = .int .i64 (Plain.arts (prc sh) l k) ∧ K.Kept w3 wr) (fun _ i _ => sn - (intOf i).toNat)
  case atStart => exact ⟨0, Nat.zero_le _, rfl, rfl, Below.refl _ _⟩
  case round =>
    obtain ⟨k, hk, rfl, rfl, kr⟩ := hrel
    by_cases hlt : k < sn
    · obtain ⟨b', o', p, g, r, t, rfl, hb', s1, s2, s3, s4, hs'⟩ := K.QR.cell (K.rd_own (K.own_kept Hs.out kr)) hlt
      clear s2 s3 s4
      go_wp2_with fail
      go_loopw [6, 8] (fun v i wr => ∃ j : Nat, j ≤ nl ∧ i = .int .i64 j ∧ v = .int .i64 (Plain.arts (prc sh) l k + Plain.wsum (fun x => if x = (k : Int) then prc sh x else 0) (l.take j)) ∧ K.Kept w3 wr) (fun _ i _ => nl - (intOf i).toNat)
      case atStart => exact ⟨0, Nat.zero_le _, rfl, by simp [Plain.wsum], kr⟩
      case round =>
        clear kr s1
        obtain ⟨j, hj, rfl, rfl, kr⟩ := hrel
        by_cases hjt : j < nl
        · obtain ⟨b, o, x, q, rfl, hb, c1, c2, hx⟩ := K.PR.cell (K.rd_own (K.own_kept Hl.out kr)) hjt
          obtain ⟨b4, o4, p', g', r', t', e4, hb4, s1, s2, s3, s4, hs4⟩ := K.QR.cell (K.rd_own (K.own_kept Hs.out kr)) hlt
          injection e4 with e4; injection e4 with e41 e42; subst e41; subst e42
          have e5 : (p', g', r', t') = (p, g, r, t) := Option.some.inj (hs4.out.symm.trans hs'.out)
          injection e5 with e5 _
          subst e5
          clear s2 s3 s4 hs4
          have HS := Lib.hid (art_snoc (sh := sh) (k := k) hx.out)
          have b0 := art_bd HB.out k j
          have b1 := art_bd HB.out k (j + 1)
          rw [HS.out] at b1
          obtain ⟨z, hz⟩ : ∃ z, Plain.arts (prc sh) l k + Plain.wsum (fun x => if x = (k : Int) then prc sh x else 0) (l.take j) = z := ⟨_, rfl⟩
          rw [hz] at b0 b1 HS ⊢
          by_cases hxk : x = (k : Int)
          · rw [if_pos hxk] at HS b1
            subst hxk
            rw [prc_at hs'.out] at HS b1
            obtain ⟨i, hik, hi, hq1, hq2⟩ := line_price HB.out LS.out hx.out
            clear hik hi
            have hpb := prc_bd (cart_shop HB.out) (k : Int)
            rw [prc_at hs'.out] at hpb
            have hm := mul_bdC hpb.1 hpb.2 (by omega : 0 ≤ q) hq2
            have W1 : IntKind.i64.wrap (p' * q) = p' * q := by rw [IntKind.wrap_i64]; omega
            have W2 : IntKind.i64.wrap (z + p' * q) = z + p' * q := by rw [IntKind.wrap_i64]; omega
            have HK := Lib.hid kr
            clear kr hm hpb
            go_wp2_with fail
            go_quiet (fail)
            go_wp2
            go_roundw
            case rel => exact ⟨j + 1, by omega, by go_num, by rw [HS.out], K.below_drewN HK.out _⟩
            case measure => simp [intOf]; omega
          · rw [if_neg hxk] at HS b1
            have ex : (x == (k : Int)) = false := by simp [hxk]
            clear hxk
            go_wp2
            go_roundw
            case rel => exact ⟨j + 1, by omega, by go_num, by rw [HS.out, Int.add_zero], kr⟩
            case measure => simp [intOf]; omega
        · have hkn : nl = j := by omega
          subst hkn
          rw [K.take_all LL.out]
          go_wp2
          go_roundw
          case rel => exact ⟨k + 1, by omega, by go_num, rfl, kr⟩
          case measure => simp [intOf]; omega
    · have hkn : sn = k := by omega
      subst hkn
      have ea : Plain.arts (prc sh) l sn = T := by
        have h1 := Plain.arts_all (prc sh) (m := sn) (by rw [← LS.out]; exact (vCart_parts HB.out).2.1)
        rw [h1, ← (to_bd HB.out).1, hT]
      rw [ea]
      have eT : (T == T) = true := by simp
      have hs : (LA sh l).sum = T := by rw [LA_yes HB.out, ← TO_yes HB.out, hT]
      have sm : Small (LA sh l) := by rw [LA_yes HB.out]; exact la_small HB.out
      have hl9 := LA_len' sh l
      have := LL.out
      obtain ⟨L, hL⟩ : ∃ L, LA sh l = L := ⟨_, rfl⟩
      rw [hL] at hs sm hl9
      clear ea hT
      go_wp2_with fail
      refine (lineAmounts_iv _ S sn sc sh Al nl cl l L hL (K.rd_own (K.own_kept Hs.out kr)) (by omega) (K.rd_own (K.own_kept Hl.out kr)) (by omega)).mono ?_
      rintro e w8 ⟨Ao, no, co, rfl, hlo, owno, k8⟩
      go_wp2_with fail
      refine (sum_lk _ Ao no co L T hs (K.rd_own owno) (by omega) sm).mono ?_
      rintro e w9 ⟨rfl, k9⟩
      go_wp2
      go_ret
      exact ⟨rfl, K.Kept.trans kw (K.Kept.trans kr (K.Kept.trans k8 k9))⟩
end C
end Go.Proofs.Ytdhecblljcdpdaa

/-
  The laws of PointOf, for every code. Conditions: none.
-/
import Derived.Test.YtapjlbcpfemeiaaPoints
namespace Go.Proofs.Ytapjlbcpfemeiaa
open Go.RowKit
namespace C

def alw : List (Int × Int) := [((0 : Int), (1000000 : Int)), (0, 1000000), (0, 1000000)]
theorem vG_alw : vG 0 1000000 alw 0 = true := by decide
theorem ins_alw {cs : List Int} (h : allB cs 0 1000000 = true) (hl : cs.length = 3) : ins alw cs = true := by
  refine decide_eq_true fun i hi => ?_
  have hi3 : i < 3 := hi
  have hx : cs[i]? = some (cs[i]'(by omega)) := List.getElem?_eq_getElem _
  have hw := List.all_eq_true.1 h _ (List.mem_of_getElem? hx)
  rw [getD_i hx]
  rcases (by omega : i = 0 ∨ i = 1 ∨ i = 2) with rfl | rfl | rfl <;> exact hw
theorem gH_alw {t : Int} {cs co : List Int} (h : vP t cs co = true) : gH 0 1000000 alw 0 t cs co = true := by
  have hl := vP_len h
  have h' := h
  unfold vP at h'
  simp only [Bool.and_eq_true, decide_eq_true_eq] at h'
  rw [gH_eq vG_alw h h'.1.1.1 (ins_alw h'.1.2 hl)]
  rfl
set_option maxRecDepth 100000 in
set_option maxHeartbeats 2000000 in
theorem always_c (w : World) : Calls Try.prog 19 #[] w (GuardR 24 w 0 1000000 0 alw) := by
  have bx_r : BoxN ((w.alloc (.cells #[.int .i64 0, .int .i64 0, .slice none 0 0, .int .i64 0] 27)).alloc (.cells #[.int .i64 0, .int .i64 1000000] 24)) w.heap.size (#[.int .i64 0, .int .i64 0, .slice none 0 0, .int .i64 0] : Array Value).toList := (BoxN.new w _ _).kept (kp1 _ _)
  have bx_s : Box2 ((w.alloc (.cells #[.int .i64 0, .int .i64 0, .slice none 0 0, .int .i64 0] 27)).alloc (.cells #[.int .i64 0, .int .i64 1000000] 24)) (w.heap.size + 1) (.int .i64 0) (.int .i64 1000000) := by have q := Box2.new (w.alloc (.cells #[.int .i64 0, .int .i64 0, .slice none 0 0, .int .i64 0] 27)) (.int .i64 0) (.int .i64 1000000) 24; rwa [show (w.alloc (.cells #[.int .i64 0, .int .i64 0, .slice none 0 0, .int .i64 0] 27)).heap.size = w.heap.size + 1 by simp] at q
  have kw : K.Kept w ((w.alloc (.cells #[.int .i64 0, .int .i64 0, .slice none 0 0, .int .i64 0] 27)).alloc (.cells #[.int .i64 0, .int .i64 1000000] 24)) := K.Kept.trans (kp1 _ _) (kp1 _ _)
  generalize hww0 : (w.alloc (.cells #[.int .i64 0, .int .i64 0, .slice none 0 0, .int .i64 0] 27)).alloc (.cells #[.int .i64 0, .int .i64 1000000] 24) = w0 at bx_r bx_s kw
  have ownl : (w0.alloc (.cells #[.int .i64 0, .int .i64 1000000, .int .i64 0, .int .i64 1000000, .int .i64 0, .int .i64 1000000] 24)).ownsRow w0.heap.size 24 2 (.slice (some ⟨w0.heap.size, 0, none⟩) 3 3) 3 (K.prs alw) := World.ownsRow_lit w0 #[.int .i64 0, .int .i64 1000000, .int .i64 0, .int .i64 1000000, .int .i64 0, .int .i64 1000000] 3 (Nat.le_refl _) (by unfold maxLen; omega) rfl
  have k1 := kp1 w0 (.cells #[.int .i64 0, .int .i64 1000000, .int .i64 0, .int .i64 1000000, .int .i64 0, .int .i64 1000000] 24)
  obtain ⟨s0, s1, s2, s3, s4⟩ := id bx_s
  generalize hw1 : w0.alloc (.cells #[.int .i64 0, .int .i64 1000000, .int .i64 0, .int .i64 1000000, .int .i64 0, .int .i64 1000000] 24) = w1 at ownl k1
  replace bx_r := bx_r.kept k1
  replace kw := K.Kept.trans kw k1
  have z0 := s4
  have ownl := own_monoG ownl (show w.heap.size + 1 ≤ _ by omega)
  obtain ⟨r0, r1, r2, r3, r4, r5, r6, r7, r8⟩ := BoxN.at4 bx_r
  have br := (((bx_r.set 0 (.int .i64 0) (by simp)).set 1 (.int .i64 1000000) (by simp)).set 2 (.slice (some ⟨w0.heap.size, 0, none⟩) 3 3) (by simp)).set 3 (.int .i64 0) (by simp)
  obtain ⟨z0, z1, z2, z3, _⟩ := BoxN.at4 br
  have OW := Lib.hid (own_monoG (own_set (i := 3) (own_set (i := 2) (own_set (i := 1) (own_set (i := 0) ownl (Nat.lt_succ_self _) (.int .i64 0)) (Nat.lt_succ_self _) (.int .i64 1000000)) (Nat.lt_succ_self _) (.slice (some ⟨w0.heap.size, 0, none⟩) 3 3)) (Nat.lt_succ_self _) (.int .i64 0)) (Nat.le_succ _))
  have KW := Lib.hid (kset (i := 3) (kset (i := 2) (kset (i := 1) (kset (i := 0) kw (Nat.le_refl _) (.int .i64 0)) (Nat.le_refl _) (.int .i64 1000000)) (Nat.le_refl _) (.slice (some ⟨w0.heap.size, 0, none⟩) 3 3)) (Nat.le_refl _) (.int .i64 0))
  clear ownl br kw k1 bx_s bx_r
  go_enter Try.func19, Try.ntmps19
  go_wp2
  refine bodyPost_ret (by simp [results, Try.results19, go_sem, z0, z1, z2, z3]; try rfl) rfl ?_
  exact ⟨_, _, _, rfl, rfl, OW.out, KW.out⟩
theorem totalOf_iw (w : World) (A : Option Addr) (n c : Nat) (sh : List K.Q4) (B : Option Addr) (m d : Nat) (ls : List (Int × Int)) (v : Int) (hv : TO sh ls = v) (h : K.QR w w.heap.size A n sh) (hn : n ≤ 1099511627776) (h2 : K.PR w w.heap.size B m ls) (hm : m ≤ 1099511627776) : Calls Try.prog 25 #[.slice A n c, .slice B m d] w fun e w' => e = .returned (.int .i64 v) ∧ K.Kept w w' := hv ▸ totalOf_i w A n c sh B m d ls h hn h2 hm
theorem groupCounts_iw (w : World) (A : Option Addr) (n c : Nat) (sh : List K.Q4) (B : Option Addr) (m d : Nat) (ls : List (Int × Int)) (v : List Int) (hv : GC sh ls = v) (h : K.QR w w.heap.size A n sh) (hn : n ≤ 1099511627776) (h2 : K.PR w w.heap.size B m ls) (hm : m ≤ 1099511627776) : Calls Try.prog 26 #[.slice A n c, .slice B m d] w (Fresh w v) := hv ▸ groupCounts_i w A n c sh B m d ls h hn h2 hm
set_option maxRecDepth 100000 in
set_option maxHeartbeats 4000000 in
theorem pointOfCouponsLaw (w : World) (n c : Nat) (A : Option Addr) (h : Code w w.heap.size A n c) : Calls Try.prog 4 #[.slice A n c] w fun e w' => e = .returned (.bool true) ∧ Below w.heap.size w w' := by
  by_cases hn : 1048576 < n
  · go_enter Try.func4, Try.ntmps4
    go_wp2
    go_ret
    exact ⟨rfl, Below.refl _ _⟩
  have hc := h
  unfold Code maxLen at hc
  have hn' : n ≤ 1048576 := by omega
  clear hc hn
  go_enter Try.func4, Try.ntmps4
  go_wp2_with fail
  refine (drawPointOf_c w n c A h).mono ?_
  rintro e w1 ⟨S, sn, sc, sh, Al, nl, cl, l, F, m, d, co, rfl, hsn, hnl, hm, owns, ownl, rdF, k0⟩
  clear h
  have HF := Lib.hid rdF
  have LF := Lib.hid (K.IR.len rdF)
  clear rdF
  have kw := K.Kept.refl w1
  obtain ⟨T, hT⟩ : ∃ t, poT sh l co = t := ⟨_, rfl⟩
  obtain ⟨X, hX⟩ : ∃ t, poC sh l co = t := ⟨_, rfl⟩
  obtain ⟨Y, hY⟩ : ∃ t, poK sh l co = t := ⟨_, rfl⟩
  have LX : X.length ≤ 3 := by rw [← hX]; unfold poC; split <;> simp [gc]
  have LY : Y.length ≤ 4 := by rw [← hY]; unfold poK; have := LF.out; split <;> simp; omega
  have eT : (T == T) = true := by simp
  cases hB : poOk sh l co
  case false =>
    go_wp2_with fail
    refine (pointOf_i _ S sn sc sh Al nl cl l F m d co (K.rd_own owns) (by omega) (K.rd_own ownl) (by omega) (rdw HF.out kw) (by omega) T X Y false hB hT hX hY).mono ?_
    rintro e w2 ⟨Do, ko, jo, Eo, mo, io, rfl, hko, hmo, ownDo, ownEo, hxo, kk⟩
    replace owns := K.own_kept owns kk
    replace ownl := K.own_kept ownl kk
    replace kw := K.Kept.trans kw kk
    clear kk
    clear hxo
    have bx_v : BoxN (w2.alloc (.cells #[.int .i64 T, .slice Do ko jo, .slice Eo mo io] 30)) w2.heap.size (#[.int .i64 T, .slice Do ko jo, .slice Eo mo io] : Array Value).toList := BoxN.new w2 _ _
    have kk := kp1 w2 (.cells #[.int .i64 T, .slice Do ko jo, .slice Eo mo io] 30)
    replace owns := K.own_kept owns kk
    replace ownl := K.own_kept ownl kk
    replace ownDo := K.own_kept ownDo kk
    replace ownEo := K.own_kept ownEo kk
    replace kw := K.Kept.trans kw kk
    generalize hww3 : w2.alloc (.cells #[.int .i64 T, .slice Do ko jo, .slice Eo mo io] 30) = w3 at owns ownl ownDo ownEo bx_v kw kk
    clear kk
    obtain ⟨v0, v1, v2, v3, v4, v5, v6⟩ := BoxN.at3 bx_v
    go_wp2_with fail
    refine (pointOf_s _ S sn sc sh Al nl cl l F m d co (K.rd_own owns) (by omega) (K.rd_own ownl) (by omega) (rdw HF.out kw) (by omega) T X Y false hB hT hX hY).mono ?_
    rintro e w4 ⟨Dq, kq, jq, Eq, mq, iq, rfl, hkq, hmq, ownDq, ownEq, hxq, kk⟩
    replace owns := K.own_kept owns kk
    replace ownl := K.own_kept ownl kk
    replace ownDo := K.own_kept ownDo kk
    replace ownEo := K.own_kept ownEo kk
    replace bx_v := BoxN.kept bx_v kk
    replace kw := K.Kept.trans kw kk
    clear kk
    clear v0 v1 v2 v3 v4 v5 v6
    clear hxq
    have bx_r : BoxN (w4.alloc (.cells #[.int .i64 T, .slice Dq kq jq, .slice Eq mq iq] 30)) w4.heap.size (#[.int .i64 T, .slice Dq kq jq, .slice Eq mq iq] : Array Value).toList := BoxN.new w4 _ _
    have kk := kp1 w4 (.cells #[.int .i64 T, .slice Dq kq jq, .slice Eq mq iq] 30)
    replace owns := K.own_kept owns kk
    replace ownl := K.own_kept ownl kk
    replace ownDo := K.own_kept ownDo kk
    replace ownEo := K.own_kept ownEo kk
    replace ownDq := K.own_kept ownDq kk
    replace ownEq := K.own_kept ownEq kk
    replace bx_v := BoxN.kept bx_v kk
    replace kw := K.Kept.trans kw kk
    generalize hww5 : w4.alloc (.cells #[.int .i64 T, .slice Dq kq jq, .slice Eq mq iq] 30) = w5 at owns ownl ownDo ownEo ownDq ownEq bx_v bx_r kw kk
    clear kk
    obtain ⟨v0, v1, v2, v3, v4, v5, v6⟩ := BoxN.at3 bx_v
    obtain ⟨r0, r1, r2, r3, r4, r5, r6⟩ := BoxN.at3 bx_r
    go_wp2_with fail
    refine (equalPoint_yes _ T Do ko jo Eo mo io Dq kq jq Eq mq iq X Y (K.rd_own ownDo) (K.rd_own ownEo) (K.rd_own ownDq) (K.rd_own ownEq) (by omega) (by omega) (by omega) (by omega)).mono ?_
    rintro e w6 ⟨rfl, kk⟩
    replace owns := K.own_kept owns kk
    replace ownl := K.own_kept ownl kk
    replace ownDo := K.own_kept ownDo kk
    replace ownEo := K.own_kept ownEo kk
    replace ownDq := K.own_kept ownDq kk
    replace ownEq := K.own_kept ownEq kk
    replace bx_v := BoxN.kept bx_v kk
    replace bx_r := BoxN.kept bx_r kk
    replace kw := K.Kept.trans kw kk
    clear kk
    clear v0 v1 v2 v3 v4 v5 v6
    clear r0 r1 r2 r3 r4 r5 r6
    obtain ⟨v0, v1, v2, v3, v4, v5, v6⟩ := BoxN.at3 bx_v
    obtain ⟨r0, r1, r2, r3, r4, r5, r6⟩ := BoxN.at3 bx_r
    go_wp2_with fail
    refine (equalPoint_yes _ T Do ko jo Eo mo io Dq kq jq Eq mq iq X Y (K.rd_own ownDo) (K.rd_own ownEo) (K.rd_own ownDq) (K.rd_own ownEq) (by omega) (by omega) (by omega) (by omega)).mono ?_
    rintro e w7 ⟨rfl, kk⟩
    replace owns := K.own_kept owns kk
    replace ownl := K.own_kept ownl kk
    replace ownDo := K.own_kept ownDo kk
    replace ownEo := K.own_kept ownEo kk
    replace ownDq := K.own_kept ownDq kk
    replace ownEq := K.own_kept ownEq kk
    replace bx_v := BoxN.kept bx_v kk
    replace bx_r := BoxN.kept bx_r kk
    replace kw := K.Kept.trans kw kk
    clear kk
    clear v0 v1 v2 v3 v4 v5 v6
    clear r0 r1 r2 r3 r4 r5 r6
    go_wp2
    go_ret
    exact ⟨rfl, K.Kept.trans k0 kw⟩
  go_wp2_with fail
  refine (pointOf_i _ S sn sc sh Al nl cl l F m d co (K.rd_own owns) (by omega) (K.rd_own ownl) (by omega) (rdw HF.out kw) (by omega) T X Y true hB hT hX hY).mono ?_
  rintro e w2 ⟨Do, ko, jo, Eo, mo, io, rfl, hko, hmo, ownDo, ownEo, hxo, kk⟩
  replace owns := K.own_kept owns kk
  replace ownl := K.own_kept ownl kk
  replace kw := K.Kept.trans kw kk
  clear kk
  clear hxo
  have bx_v : BoxN (w2.alloc (.cells #[.int .i64 T, .slice Do ko jo, .slice Eo mo io] 30)) w2.heap.size (#[.int .i64 T, .slice Do ko jo, .slice Eo mo io] : Array Value).toList := BoxN.new w2 _ _
  have kk := kp1 w2 (.cells #[.int .i64 T, .slice Do ko jo, .slice Eo mo io] 30)
  replace owns := K.own_kept owns kk
  replace ownl := K.own_kept ownl kk
  replace ownDo := K.own_kept ownDo kk
  replace ownEo := K.own_kept ownEo kk
  replace kw := K.Kept.trans kw kk
  generalize hww3 : w2.alloc (.cells #[.int .i64 T, .slice Do ko jo, .slice Eo mo io] 30) = w3 at owns ownl ownDo ownEo bx_v kw kk
  clear kk
  obtain ⟨v0, v1, v2, v3, v4, v5, v6⟩ := BoxN.at3 bx_v
  go_wp2_with fail
  refine (pointOf_s _ S sn sc sh Al nl cl l F m d co (K.rd_own owns) (by omega) (K.rd_own ownl) (by omega) (rdw HF.out kw) (by omega) T X Y true hB hT hX hY).mono ?_
  rintro e w4 ⟨Dq, kq, jq, Eq, mq, iq, rfl, hkq, hmq, ownDq, ownEq, hxq, kk⟩
  replace owns := K.own_kept owns kk
  replace ownl := K.own_kept ownl kk
  replace ownDo := K.own_kept ownDo kk
  replace ownEo := K.own_kept ownEo kk
  replace bx_v := BoxN.kept bx_v kk
  replace kw := K.Kept.trans kw kk
  clear kk
  clear v0 v1 v2 v3 v4 v5 v6
  clear hxq
  have bx_r : BoxN (w4.alloc (.cells #[.int .i64 T, .slice Dq kq jq, .slice Eq mq iq] 30)) w4.heap.size (#[.int .i64 T, .slice Dq kq jq, .slice Eq mq iq] : Array Value).toList := BoxN.new w4 _ _
  have kk := kp1 w4 (.cells #[.int .i64 T, .slice Dq kq jq, .slice Eq mq iq] 30)
  replace owns := K.own_kept owns kk
  replace ownl := K.own_kept ownl kk
  replace ownDo := K.own_kept ownDo kk
  replace ownEo := K.own_kept ownEo kk
  replace ownDq := K.own_kept ownDq kk
  replace ownEq := K.own_kept ownEq kk
  replace bx_v := BoxN.kept bx_v kk
  replace kw := K.Kept.trans kw kk
  generalize hww5 : w4.alloc (.cells #[.int .i64 T, .slice Dq kq jq, .slice Eq mq iq] 30) = w5 at owns ownl ownDo ownEo ownDq ownEq bx_v bx_r kw kk
  clear kk
  obtain ⟨v0, v1, v2, v3, v4, v5, v6⟩ := BoxN.at3 bx_v
  obtain ⟨r0, r1, r2, r3, r4, r5, r6⟩ := BoxN.at3 bx_r
  go_wp2_with fail
  refine (equalPoint_yes _ T Do ko jo Eo mo io Dq kq jq Eq mq iq X Y (K.rd_own ownDo) (K.rd_own ownEo) (K.rd_own ownDq) (K.rd_own ownEq) (by omega) (by omega) (by omega) (by omega)).mono ?_
  rintro e w6 ⟨rfl, kk⟩
  replace owns := K.own_kept owns kk
  replace ownl := K.own_kept ownl kk
  replace ownDo := K.own_kept ownDo kk
  replace ownEo := K.own_kept ownEo kk
  replace ownDq := K.own_kept ownDq kk
  replace ownEq := K.own_kept ownEq kk
  replace bx_v := BoxN.kept bx_v kk
  replace bx_r := BoxN.kept bx_r kk
  replace kw := K.Kept.trans kw kk
  clear kk
  clear v0 v1 v2 v3 v4 v5 v6
  clear r0 r1 r2 r3 r4 r5 r6
  have q1 : vCart sh l = true := by have := hB; unfold poOk at this; rw [Bool.and_eq_true] at this; exact this.1
  have hB2 : poOk sh l [] = true := by unfold poOk; rw [q1]; rfl
  simp only [poT, poC, poK, hB, if_true] at hT hX hY
  have hT2 : poT sh l [] = T := by simp only [poT, hB2, if_true]; exact hT
  have hX2 : poC sh l [] = X := by simp only [poC, hB2, if_true]; exact hX
  have hY2 : poK sh l [] = [] := by simp only [poK, hB2, if_true]
  obtain ⟨v0, v1, v2, v3, v4, v5, v6⟩ := BoxN.at3 bx_v
  obtain ⟨r0, r1, r2, r3, r4, r5, r6⟩ := BoxN.at3 bx_r
  go_wp2_with fail
  refine (pointOf_i _ S sn sc sh Al nl cl l none 0 0 [] (K.rd_own owns) (by omega) (K.rd_own ownl) (by omega) (K.Rd.nil _ _ _ _) (by omega) T X [] true hB2 hT2 hX2 hY2).mono ?_
  rintro e w7 ⟨Dz, kz, jz, Ez, mz, iz, rfl, hkz, hmz, ownDz, ownEz, hxz, kk⟩
  replace owns := K.own_kept owns kk
  replace ownl := K.own_kept ownl kk
  replace ownDo := K.own_kept ownDo kk
  replace ownEo := K.own_kept ownEo kk
  replace ownDq := K.own_kept ownDq kk
  replace ownEq := K.own_kept ownEq kk
  replace bx_v := BoxN.kept bx_v kk
  replace bx_r := BoxN.kept bx_r kk
  replace kw := K.Kept.trans kw kk
  clear kk
  clear v0 v1 v2 v3 v4 v5 v6
  clear r0 r1 r2 r3 r4 r5 r6
  have hm0 : mz = 0 := by simpa using hmz.symm
  subst hm0
  clear hxz hmz
  have bx_z : BoxN (w7.alloc (.cells #[.int .i64 T, .slice Dz kz jz, .slice Ez 0 iz] 30)) w7.heap.size (#[.int .i64 T, .slice Dz kz jz, .slice Ez 0 iz] : Array Value).toList := BoxN.new w7 _ _
  have kk := kp1 w7 (.cells #[.int .i64 T, .slice Dz kz jz, .slice Ez 0 iz] 30)
  replace owns := K.own_kept owns kk
  replace ownl := K.own_kept ownl kk
  replace ownDo := K.own_kept ownDo kk
  replace ownEo := K.own_kept ownEo kk
  replace ownDq := K.own_kept ownDq kk
  replace ownEq := K.own_kept ownEq kk
  replace ownDz := K.own_kept ownDz kk
  replace ownEz := K.own_kept ownEz kk
  replace bx_v := BoxN.kept bx_v kk
  replace bx_r := BoxN.kept bx_r kk
  replace kw := K.Kept.trans kw kk
  generalize hww8 : w7.alloc (.cells #[.int .i64 T, .slice Dz kz jz, .slice Ez 0 iz] 30) = w8 at owns ownl ownDo ownEo ownDq ownEq ownDz ownEz bx_v bx_r bx_z kw kk
  clear kk
  obtain ⟨v0, v1, v2, v3, v4, v5, v6⟩ := BoxN.at3 bx_v
  obtain ⟨r0, r1, r2, r3, r4, r5, r6⟩ := BoxN.at3 bx_r
  obtain ⟨z0, z1, z2, z3, z4, z5, z6⟩ := BoxN.at3 bx_z
  go_wp2_with fail
  refine (equalInts_c _ Dz Do kz ko jz jo X X (K.rd_own ownDz) (K.rd_own ownDo) (by omega) (by omega)).mono ?_
  rintro e w9 ⟨rfl, kk⟩
  replace owns := K.own_kept owns kk
  replace ownl := K.own_kept ownl kk
  replace ownDo := K.own_kept ownDo kk
  replace ownEo := K.own_kept ownEo kk
  replace ownDq := K.own_kept ownDq kk
  replace ownEq := K.own_kept ownEq kk
  replace ownDz := K.own_kept ownDz kk
  replace ownEz := K.own_kept ownEz kk
  replace bx_v := BoxN.kept bx_v kk
  replace bx_r := BoxN.kept bx_r kk
  replace bx_z := BoxN.kept bx_z kk
  replace kw := K.Kept.trans kw kk
  clear kk
  clear v0 v1 v2 v3 v4 v5 v6
  clear r0 r1 r2 r3 r4 r5 r6
  clear z0 z1 z2 z3 z4 z5 z6
  obtain ⟨v0, v1, v2, v3, v4, v5, v6⟩ := BoxN.at3 bx_v
  obtain ⟨r0, r1, r2, r3, r4, r5, r6⟩ := BoxN.at3 bx_r
  obtain ⟨z0, z1, z2, z3, z4, z5, z6⟩ := BoxN.at3 bx_z
  go_wp2
  go_ret
  exact ⟨rfl, K.Kept.trans k0 kw⟩
set_option maxRecDepth 100000 in
set_option maxHeartbeats 4000000 in
theorem pointOfLaw (w : World) (n c : Nat) (A : Option Addr) (h : Code w w.heap.size A n c) : Calls Try.prog 5 #[.slice A n c] w fun e w' => e = .returned (.bool true) ∧ Below w.heap.size w w' := by
  by_cases hn : 1048576 < n
  · go_enter Try.func5, Try.ntmps5
    go_wp2
    go_ret
    exact ⟨rfl, Below.refl _ _⟩
  have hc := h
  unfold Code maxLen at hc
  have hn' : n ≤ 1048576 := by omega
  clear hc hn
  go_enter Try.func5, Try.ntmps5
  go_wp2_with fail
  refine (drawPointOf_c w n c A h).mono ?_
  rintro e w1 ⟨S, sn, sc, sh, Al, nl, cl, l, F, m, d, co, rfl, hsn, hnl, hm, owns, ownl, rdF, k0⟩
  clear h
  have HF := Lib.hid rdF
  have LF := Lib.hid (K.IR.len rdF)
  clear rdF
  have kw := K.Kept.refl w1
  obtain ⟨T, hT⟩ : ∃ t, poT sh l co = t := ⟨_, rfl⟩
  obtain ⟨X, hX⟩ : ∃ t, poC sh l co = t := ⟨_, rfl⟩
  obtain ⟨Y, hY⟩ : ∃ t, poK sh l co = t := ⟨_, rfl⟩
  have LX : X.length ≤ 3 := by rw [← hX]; unfold poC; split <;> simp [gc]
  have LY : Y.length ≤ 4 := by rw [← hY]; unfold poK; have := LF.out; split <;> simp; omega
  have eT : (T == T) = true := by simp
  cases hB : poOk sh l co
  case false =>
    go_wp2_with fail
    refine (pointOf_i _ S sn sc sh Al nl cl l F m d co (K.rd_own owns) (by omega) (K.rd_own ownl) (by omega) (rdw HF.out kw) (by omega) T X Y false hB hT hX hY).mono ?_
    rintro e w2 ⟨Do, ko, jo, Eo, mo, io, rfl, hko, hmo, ownDo, ownEo, hxo, kk⟩
    replace owns := K.own_kept owns kk
    replace ownl := K.own_kept ownl kk
    replace kw := K.Kept.trans kw kk
    clear kk
    clear hxo
    have bx_v : BoxN (w2.alloc (.cells #[.int .i64 T, .slice Do ko jo, .slice Eo mo io] 30)) w2.heap.size (#[.int .i64 T, .slice Do ko jo, .slice Eo mo io] : Array Value).toList := BoxN.new w2 _ _
    have kk := kp1 w2 (.cells #[.int .i64 T, .slice Do ko jo, .slice Eo mo io] 30)
    replace owns := K.own_kept owns kk
    replace ownl := K.own_kept ownl kk
    replace ownDo := K.own_kept ownDo kk
    replace ownEo := K.own_kept ownEo kk
    replace kw := K.Kept.trans kw kk
    generalize hww3 : w2.alloc (.cells #[.int .i64 T, .slice Do ko jo, .slice Eo mo io] 30) = w3 at owns ownl ownDo ownEo bx_v kw kk
    clear kk
    obtain ⟨v0, v1, v2, v3, v4, v5, v6⟩ := BoxN.at3 bx_v
    go_wp2_with fail
    refine (pointOf_s _ S sn sc sh Al nl cl l F m d co (K.rd_own owns) (by omega) (K.rd_own ownl) (by omega) (rdw HF.out kw) (by omega) T X Y false hB hT hX hY).mono ?_
    rintro e w4 ⟨Dq, kq, jq, Eq, mq, iq, rfl, hkq, hmq, ownDq, ownEq, hxq, kk⟩
    replace owns := K.own_kept owns kk
    replace ownl := K.own_kept ownl kk
    replace ownDo := K.own_kept ownDo kk
    replace ownEo := K.own_kept ownEo kk
    replace bx_v := BoxN.kept bx_v kk
    replace kw := K.Kept.trans kw kk
    clear kk
    clear v0 v1 v2 v3 v4 v5 v6
    clear hxq
    have bx_r : BoxN (w4.alloc (.cells #[.int .i64 T, .slice Dq kq jq, .slice Eq mq iq] 30)) w4.heap.size (#[.int .i64 T, .slice Dq kq jq, .slice Eq mq iq] : Array Value).toList := BoxN.new w4 _ _
    have kk := kp1 w4 (.cells #[.int .i64 T, .slice Dq kq jq, .slice Eq mq iq] 30)
    replace owns := K.own_kept owns kk
    replace ownl := K.own_kept ownl kk
    replace ownDo := K.own_kept ownDo kk
    replace ownEo := K.own_kept ownEo kk
    replace ownDq := K.own_kept ownDq kk
    replace ownEq := K.own_kept ownEq kk
    replace bx_v := BoxN.kept bx_v kk
    replace kw := K.Kept.trans kw kk
    generalize hww5 : w4.alloc (.cells #[.int .i64 T, .slice Dq kq jq, .slice Eq mq iq] 30) = w5 at owns ownl ownDo ownEo ownDq ownEq bx_v bx_r kw kk
    clear kk
    obtain ⟨v0, v1, v2, v3, v4, v5, v6⟩ := BoxN.at3 bx_v
    obtain ⟨r0, r1, r2, r3, r4, r5, r6⟩ := BoxN.at3 bx_r
    go_wp2_with fail
    refine (equalPoint_yes _ T Do ko jo Eo mo io Dq kq jq Eq mq iq X Y (K.rd_own ownDo) (K.rd_own ownEo) (K.rd_own ownDq) (K.rd_own ownEq) (by omega) (by omega) (by omega) (by omega)).mono ?_
    rintro e w6 ⟨rfl, kk⟩
    replace owns := K.own_kept owns kk
    replace ownl := K.own_kept ownl kk
    replace ownDo := K.own_kept ownDo kk
    replace ownEo := K.own_kept ownEo kk
    replace ownDq := K.own_kept ownDq kk
    replace ownEq := K.own_kept ownEq kk
    replace bx_v := BoxN.kept bx_v kk
    replace bx_r := BoxN.kept bx_r kk
    replace kw := K.Kept.trans kw kk
    clear kk
    clear v0 v1 v2 v3 v4 v5 v6
    clear r0 r1 r2 r3 r4 r5 r6
    obtain ⟨v0, v1, v2, v3, v4, v5, v6⟩ := BoxN.at3 bx_v
    obtain ⟨r0, r1, r2, r3, r4, r5, r6⟩ := BoxN.at3 bx_r
    go_wp2_with fail
    refine (equalPoint_yes _ T Do ko jo Eo mo io Dq kq jq Eq mq iq X Y (K.rd_own ownDo) (K.rd_own ownEo) (K.rd_own ownDq) (K.rd_own ownEq) (by omega) (by omega) (by omega) (by omega)).mono ?_
    rintro e w7 ⟨rfl, kk⟩
    replace owns := K.own_kept owns kk
    replace ownl := K.own_kept ownl kk
    replace ownDo := K.own_kept ownDo kk
    replace ownEo := K.own_kept ownEo kk
    replace ownDq := K.own_kept ownDq kk
    replace ownEq := K.own_kept ownEq kk
    replace bx_v := BoxN.kept bx_v kk
    replace bx_r := BoxN.kept bx_r kk
    replace kw := K.Kept.trans kw kk
    clear kk
    clear v0 v1 v2 v3 v4 v5 v6
    clear r0 r1 r2 r3 r4 r5 r6
    go_wp2
    go_ret
    exact ⟨rfl, K.Kept.trans k0 kw⟩
  go_wp2_with fail
  refine (pointOf_i _ S sn sc sh Al nl cl l F m d co (K.rd_own owns) (by omega) (K.rd_own ownl) (by omega) (rdw HF.out kw) (by omega) T X Y true hB hT hX hY).mono ?_
  rintro e w2 ⟨Do, ko, jo, Eo, mo, io, rfl, hko, hmo, ownDo, ownEo, hxo, kk⟩
  replace owns := K.own_kept owns kk
  replace ownl := K.own_kept ownl kk
  replace kw := K.Kept.trans kw kk
  clear kk
  clear hxo
  have bx_v : BoxN (w2.alloc (.cells #[.int .i64 T, .slice Do ko jo, .slice Eo mo io] 30)) w2.heap.size (#[.int .i64 T, .slice Do ko jo, .slice Eo mo io] : Array Value).toList := BoxN.new w2 _ _
  have kk := kp1 w2 (.cells #[.int .i64 T, .slice Do ko jo, .slice Eo mo io] 30)
  replace owns := K.own_kept owns kk
  replace ownl := K.own_kept ownl kk
  replace ownDo := K.own_kept ownDo kk
  replace ownEo := K.own_kept ownEo kk
  replace kw := K.Kept.trans kw kk
  generalize hww3 : w2.alloc (.cells #[.int .i64 T, .slice Do ko jo, .slice Eo mo io] 30) = w3 at owns ownl ownDo ownEo bx_v kw kk
  clear kk
  obtain ⟨v0, v1, v2, v3, v4, v5, v6⟩ := BoxN.at3 bx_v
  go_wp2_with fail
  refine (pointOf_s _ S sn sc sh Al nl cl l F m d co (K.rd_own owns) (by omega) (K.rd_own ownl) (by omega) (rdw HF.out kw) (by omega) T X Y true hB hT hX hY).mono ?_
  rintro e w4 ⟨Dq, kq, jq, Eq, mq, iq, rfl, hkq, hmq, ownDq, ownEq, hxq, kk⟩
  replace owns := K.own_kept owns kk
  replace ownl := K.own_kept ownl kk
  replace ownDo := K.own_kept ownDo kk
  replace ownEo := K.own_kept ownEo kk
  replace bx_v := BoxN.kept bx_v kk
  replace kw := K.Kept.trans kw kk
  clear kk
  clear v0 v1 v2 v3 v4 v5 v6
  clear hxq
  have bx_r : BoxN (w4.alloc (.cells #[.int .i64 T, .slice Dq kq jq, .slice Eq mq iq] 30)) w4.heap.size (#[.int .i64 T, .slice Dq kq jq, .slice Eq mq iq] : Array Value).toList := BoxN.new w4 _ _
  have kk := kp1 w4 (.cells #[.int .i64 T, .slice Dq kq jq, .slice Eq mq iq] 30)
  replace owns := K.own_kept owns kk
  replace ownl := K.own_kept ownl kk
  replace ownDo := K.own_kept ownDo kk
  replace ownEo := K.own_kept ownEo kk
  replace ownDq := K.own_kept ownDq kk
  replace ownEq := K.own_kept ownEq kk
  replace bx_v := BoxN.kept bx_v kk
  replace kw := K.Kept.trans kw kk
  generalize hww5 : w4.alloc (.cells #[.int .i64 T, .slice Dq kq jq, .slice Eq mq iq] 30) = w5 at owns ownl ownDo ownEo ownDq ownEq bx_v bx_r kw kk
  clear kk
  obtain ⟨v0, v1, v2, v3, v4, v5, v6⟩ := BoxN.at3 bx_v
  obtain ⟨r0, r1, r2, r3, r4, r5, r6⟩ := BoxN.at3 bx_r
  go_wp2_with fail
  refine (equalPoint_yes _ T Do ko jo Eo mo io Dq kq jq Eq mq iq X Y (K.rd_own ownDo) (K.rd_own ownEo) (K.rd_own ownDq) (K.rd_own ownEq) (by omega) (by omega) (by omega) (by omega)).mono ?_
  rintro e w6 ⟨rfl, kk⟩
  replace owns := K.own_kept owns kk
  replace ownl := K.own_kept ownl kk
  replace ownDo := K.own_kept ownDo kk
  replace ownEo := K.own_kept ownEo kk
  replace ownDq := K.own_kept ownDq kk
  replace ownEq := K.own_kept ownEq kk
  replace bx_v := BoxN.kept bx_v kk
  replace bx_r := BoxN.kept bx_r kk
  replace kw := K.Kept.trans kw kk
  clear kk
  clear v0 v1 v2 v3 v4 v5 v6
  clear r0 r1 r2 r3 r4 r5 r6
  have q1 : vCart sh l = true := by have := hB; unfold poOk at this; rw [Bool.and_eq_true] at this; exact this.1
  have q2 : cpOk co = true := by have := hB; unfold poOk at this; rw [Bool.and_eq_true] at this; exact this.2
  simp only [poT, poC, poK, hB, if_true] at hT hX hY
  subst hY
  have GX := (GC_yes q1).trans hX
  have VP := (vP_cart q1 co).trans q2
  rw [hT, hX] at VP
  have GA := gH_alw VP
  clear hX VP
  go_wp2_with fail
  clear bx_r ownDq ownEq
  obtain ⟨v0, v1, v2, v3, v4, v5, v6⟩ := BoxN.at3 bx_v
  replace kw := K.Kept.trans kw (kdrew _)
  replace owns := K.own_kept owns (kdrew _)
  replace ownl := K.own_kept ownl (kdrew _)
  replace ownDo := K.own_kept ownDo (kdrew _)
  replace ownEo := K.own_kept ownEo (kdrew _)
  replace bx_v := BoxN.kept bx_v (kdrew _)
  go_region_held3 (fun w' => w'.cell? ⟨w2.heap.size, 0, none⟩ = some (.int .i64 T) ∧ w'.cell? ⟨w2.heap.size, 1, none⟩ = some (.slice Do ko jo) ∧ w'.cell? ⟨w2.heap.size, 2, none⟩ = some (.slice Eo mo io)) (first | exact ⟨v0, v1, v2⟩ | go_keep) (first | (go_at_call_of 24 (Value.slice Do ko jo); refine (equalInts_c _ Do Az ko nz jo cz X X (K.rd_own ownDo) (K.rd_own ownz) (by omega) (by omega)).mono ?_; rintro e wv ⟨rfl, kk⟩; rw [decide_eq_true (rfl : _ = _)]; replace owns := K.own_kept owns kk; replace ownl := K.own_kept ownl kk; replace ownDo := K.own_kept ownDo kk; replace ownEo := K.own_kept ownEo kk; (try replace ownz := K.own_kept ownz kk); replace bx_v := BoxN.kept bx_v kk; replace kw := K.Kept.trans kw kk; clear kk; clear v0 v1 v2 v3 v4 v5 v6; obtain ⟨v0, v1, v2, v3, v4, v5, v6⟩ := BoxN.at3 bx_v) | (go_at_call_of 24 (Value.slice Eo mo io); refine (equalInts_c _ Eo F mo m io d co co (K.rd_own ownEo) (rdw HF.out kw) (by omega) (by omega)).mono ?_; rintro e wv ⟨rfl, kk⟩; rw [decide_eq_true (rfl : _ = _)]; replace owns := K.own_kept owns kk; replace ownl := K.own_kept ownl kk; replace ownDo := K.own_kept ownDo kk; replace ownEo := K.own_kept ownEo kk; (try replace ownz := K.own_kept ownz kk); replace bx_v := BoxN.kept bx_v kk; replace kw := K.Kept.trans kw kk; clear kk; clear v0 v1 v2 v3 v4 v5 v6; obtain ⟨v0, v1, v2, v3, v4, v5, v6⟩ := BoxN.at3 bx_v) | (go_at_call 25; refine (totalOf_iw _ S sn sc sh Al nl cl l T hT (K.rd_own owns) (by omega) (K.rd_own ownl) (by omega)).mono ?_; rintro e wv ⟨rfl, kk⟩; replace owns := K.own_kept owns kk; replace ownl := K.own_kept ownl kk; replace ownDo := K.own_kept ownDo kk; replace ownEo := K.own_kept ownEo kk; replace bx_v := BoxN.kept bx_v kk; replace kw := K.Kept.trans kw kk; clear kk; clear v0 v1 v2 v3 v4 v5 v6; obtain ⟨v0, v1, v2, v3, v4, v5, v6⟩ := BoxN.at3 bx_v) | (go_at_call 26; refine (groupCounts_iw _ S sn sc sh Al nl cl l X GX (K.rd_own owns) (by omega) (K.rd_own ownl) (by omega)).mono ?_; rintro e wv ⟨Az, nz, cz, rfl, hlz, ownz, kk⟩; replace owns := K.own_kept owns kk; replace ownl := K.own_kept ownl kk; replace ownDo := K.own_kept ownDo kk; replace ownEo := K.own_kept ownEo kk; (try replace ownaz := K.own_kept ownaz kk); replace bx_v := BoxN.kept bx_v kk; replace kw := K.Kept.trans kw kk; clear kk; clear v0 v1 v2 v3 v4 v5 v6; obtain ⟨v0, v1, v2, v3, v4, v5, v6⟩ := BoxN.at3 bx_v) | (go_at_call 19; refine (always_c _).mono ?_; rintro e wv ⟨Aa, na, ca, rfl, hla, owna, kk⟩; replace owns := K.own_kept owns kk; replace ownl := K.own_kept ownl kk; replace ownDo := K.own_kept ownDo kk; replace ownEo := K.own_kept ownEo kk; (try replace ownz := K.own_kept ownz kk); replace bx_v := BoxN.kept bx_v kk; replace kw := K.Kept.trans kw kk; clear kk; clear v0 v1 v2 v3 v4 v5 v6; obtain ⟨v0, v1, v2, v3, v4, v5, v6⟩ := BoxN.at3 bx_v) | (go_at_call 15; refine (guardHolds_i _ 0 1000000 0 Aa na ca alw T Do ko jo X Eo mo io co true GA (K.rd_own owna) (by have : alw.length = 3 := rfl; omega) (K.rd_own ownDo) (by omega) (K.rd_own ownEo) (by omega)).mono ?_; rintro e wv ⟨rfl, kk⟩; replace owns := K.own_kept owns kk; replace ownl := K.own_kept ownl kk; replace ownDo := K.own_kept ownDo kk; replace ownEo := K.own_kept ownEo kk; (try replace owna := K.own_kept owna kk); (try replace ownz := K.own_kept ownz kk); replace bx_v := BoxN.kept bx_v kk; replace kw := K.Kept.trans kw kk; clear kk; clear v0 v1 v2 v3 v4 v5 v6; obtain ⟨v0, v1, v2, v3, v4, v5, v6⟩ := BoxN.at3 bx_v))
  all_goals go_wp2
  all_goals go_ret
  all_goals exact ⟨rfl, K.Kept.trans k0 kw⟩
end C
end Go.Proofs.Ytapjlbcpfemeiaa

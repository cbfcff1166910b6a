/-
  The law of guards that do not meet, for every code. Conditions: none.
-/
import Derived.Test.YtapjlbcpfemeiaaPointLaws
import Derived.Test.YtapjlbcpfemeiaaDrawGM
import Derived.Test.YtapjlbcpfemeiaaGMeetS
import Derived.Test.YtapjlbcpfemeiaaGPlain
namespace Go.Proofs.Ytapjlbcpfemeiaa
open Go.RowKit
namespace C

set_option maxRecDepth 100000 in
set_option maxHeartbeats 16000000 in
theorem guardsMeetNone (w : World) (n c : Nat) (A : Option Addr) (h : Code w w.heap.size A n c) : Calls Try.prog 9 #[.slice A n c] w fun e w' => e = .returned (.bool true) ∧ Below w.heap.size w w' := by
  by_cases hn : 1048576 < n
  · go_enter Try.func9, Try.ntmps9
    go_wp2
    go_ret
    exact ⟨rfl, Below.refl _ _⟩
  have hc := h
  unfold Code maxLen at hc
  have hn' : n ≤ 1048576 := by omega
  clear hc hn
  go_enter Try.func9, Try.ntmps9
  go_wp2_with fail
  refine (drawGuardsMeet_c w n c A h).mono ?_
  rintro e w1 ⟨x, y, u, Ag, ng, cg, l, x2, y2, u2, Bh, nh, dh, l2, rfl, hnm, owng, ownh, k0⟩
  clear h
  have LL := Lib.hid (show l.length = ng by have := owng.1; rw [K.prs_len] at this; omega)
  have LM := Lib.hid (show l2.length = nh by have := ownh.1; rw [K.prs_len] at this; omega)
  have kw := K.Kept.refl w1
  have bx_v : BoxN ((w1.alloc (.cells #[.int .i64 x, .int .i64 y, .slice Ag ng cg, .int .i64 u] 27)).alloc (.cells #[.int .i64 x2, .int .i64 y2, .slice Bh nh dh, .int .i64 u2] 27)) w1.heap.size (#[.int .i64 x, .int .i64 y, .slice Ag ng cg, .int .i64 u] : Array Value).toList := (BoxN.new w1 _ _).kept (kp1 _ _)
  have bx_f : BoxN ((w1.alloc (.cells #[.int .i64 x, .int .i64 y, .slice Ag ng cg, .int .i64 u] 27)).alloc (.cells #[.int .i64 x2, .int .i64 y2, .slice Bh nh dh, .int .i64 u2] 27)) (w1.heap.size + 1) (#[.int .i64 x2, .int .i64 y2, .slice Bh nh dh, .int .i64 u2] : Array Value).toList := by have q := BoxN.new (w1.alloc (.cells #[.int .i64 x, .int .i64 y, .slice Ag ng cg, .int .i64 u] 27)) #[.int .i64 x2, .int .i64 y2, .slice Bh nh dh, .int .i64 u2] 27; rwa [show (w1.alloc (.cells #[.int .i64 x, .int .i64 y, .slice Ag ng cg, .int .i64 u] 27)).heap.size = w1.heap.size + 1 by simp] at q
  have kk : K.Kept w1 ((w1.alloc (.cells #[.int .i64 x, .int .i64 y, .slice Ag ng cg, .int .i64 u] 27)).alloc (.cells #[.int .i64 x2, .int .i64 y2, .slice Bh nh dh, .int .i64 u2] 27)) := K.Kept.trans (kp1 _ _) (kp1 _ _)
  replace owng := K.own_kept owng kk
  replace ownh := K.own_kept ownh kk
  replace kw := K.Kept.trans kw kk
  generalize hw2 : ((w1.alloc (.cells #[.int .i64 x, .int .i64 y, .slice Ag ng cg, .int .i64 u] 27)).alloc (.cells #[.int .i64 x2, .int .i64 y2, .slice Bh nh dh, .int .i64 u2] 27)) = w2 at bx_v bx_f owng ownh kw
  clear kk
  obtain ⟨T, hT⟩ : ∃ t, gmT x y u x2 y2 u2 l l2 = t := ⟨_, rfl⟩
  obtain ⟨X, hX⟩ : ∃ t, gmC x y u x2 y2 u2 l l2 = t := ⟨_, rfl⟩
  obtain ⟨Y, hY⟩ : ∃ t, gmK x y u x2 y2 u2 l l2 = t := ⟨_, rfl⟩
  have LX : X.length ≤ 4 := by rw [← hX]; exact gmC_len (by have := LL.out; omega)
  have LY : Y.length ≤ 9 := by rw [← hY]; exact gmK_len _ _ _ _ _ _ _ _
  cases hB : gmOk x y u x2 y2 u2 l l2
  case true =>
    obtain ⟨v0, v1, v2, v3, v4, v5, v6, v7, v8⟩ := BoxN.at4 bx_v
    obtain ⟨f0, f1, f2, f3, f4, f5, f6, f7, f8⟩ := BoxN.at4 bx_f
    go_wp2_with fail
    refine (guardsMeet_i _ x y u Ag ng cg l x2 y2 u2 Bh nh dh l2 T X Y true hB hT hX hY (K.rd_own owng) (by omega) (K.rd_own ownh) (by omega)).mono ?_
    rintro e w3 ⟨Do, ko, jo, Eo, mo, io, rfl, hko, hmo, ownDo, ownEo, hxo, kk⟩
    replace owng := K.own_kept owng kk
    replace ownh := K.own_kept ownh kk
    replace bx_v := BoxN.kept bx_v kk
    replace bx_f := BoxN.kept bx_f kk
    replace kw := K.Kept.trans kw kk
    clear kk
    clear v0 v1 v2 v3 v4 v5 v6 v7 v8
    clear f0 f1 f2 f3 f4 f5 f6 f7 f8
    clear hxo
    have bx_p : BoxN (w3.alloc (.cells #[.int .i64 T, .slice Do ko jo, .slice Eo mo io] 30)) w3.heap.size (#[.int .i64 T, .slice Do ko jo, .slice Eo mo io] : Array Value).toList := BoxN.new w3 _ _
    have kk := kp1 w3 (.cells #[.int .i64 T, .slice Do ko jo, .slice Eo mo io] 30)
    replace owng := K.own_kept owng kk
    replace ownh := K.own_kept ownh kk
    replace ownDo := K.own_kept ownDo kk
    replace ownEo := K.own_kept ownEo kk
    replace bx_v := BoxN.kept bx_v kk
    replace bx_f := BoxN.kept bx_f kk
    replace kw := K.Kept.trans kw kk
    generalize hww4 : w3.alloc (.cells #[.int .i64 T, .slice Do ko jo, .slice Eo mo io] 30) = w4 at owng ownh ownDo ownEo bx_v bx_f bx_p kw kk
    clear kk
    obtain ⟨v0, v1, v2, v3, v4, v5, v6, v7, v8⟩ := BoxN.at4 bx_v
    obtain ⟨f0, f1, f2, f3, f4, f5, f6, f7, f8⟩ := BoxN.at4 bx_f
    obtain ⟨p0, p1, p2, p3, p4, p5, p6⟩ := BoxN.at3 bx_p
    go_wp2_with fail
    refine (guardsMeet_s _ x y u Ag ng cg l x2 y2 u2 Bh nh dh l2 T X Y true hB hT hX hY (K.rd_own owng) (by omega) (K.rd_own ownh) (by omega)).mono ?_
    rintro e w5 ⟨Dq, kq, jq, Eq, mq, iq, rfl, hkq, hmq, ownDq, ownEq, hxq, kk⟩
    replace owng := K.own_kept owng kk
    replace ownh := K.own_kept ownh kk
    replace ownDo := K.own_kept ownDo kk
    replace ownEo := K.own_kept ownEo kk
    replace bx_v := BoxN.kept bx_v kk
    replace bx_f := BoxN.kept bx_f kk
    replace bx_p := BoxN.kept bx_p kk
    replace kw := K.Kept.trans kw kk
    clear kk
    clear v0 v1 v2 v3 v4 v5 v6 v7 v8
    clear f0 f1 f2 f3 f4 f5 f6 f7 f8
    clear p0 p1 p2 p3 p4 p5 p6
    clear hxq
    have bx_r : BoxN (w5.alloc (.cells #[.int .i64 T, .slice Dq kq jq, .slice Eq mq iq] 30)) w5.heap.size (#[.int .i64 T, .slice Dq kq jq, .slice Eq mq iq] : Array Value).toList := BoxN.new w5 _ _
    have kk := kp1 w5 (.cells #[.int .i64 T, .slice Dq kq jq, .slice Eq mq iq] 30)
    replace owng := K.own_kept owng kk
    replace ownh := K.own_kept ownh kk
    replace ownDo := K.own_kept ownDo kk
    replace ownEo := K.own_kept ownEo kk
    replace ownDq := K.own_kept ownDq kk
    replace ownEq := K.own_kept ownEq kk
    replace bx_v := BoxN.kept bx_v kk
    replace bx_f := BoxN.kept bx_f kk
    replace bx_p := BoxN.kept bx_p kk
    replace kw := K.Kept.trans kw kk
    generalize hww6 : w5.alloc (.cells #[.int .i64 T, .slice Dq kq jq, .slice Eq mq iq] 30) = w6 at owng ownh ownDo ownEo ownDq ownEq bx_v bx_f bx_p bx_r kw kk
    clear kk
    obtain ⟨v0, v1, v2, v3, v4, v5, v6, v7, v8⟩ := BoxN.at4 bx_v
    obtain ⟨f0, f1, f2, f3, f4, f5, f6, f7, f8⟩ := BoxN.at4 bx_f
    obtain ⟨p0, p1, p2, p3, p4, p5, p6⟩ := BoxN.at3 bx_p
    obtain ⟨r0, r1, r2, r3, r4, r5, r6⟩ := BoxN.at3 bx_r
    go_wp2_with fail
    refine (equalPoint_yes _ T Do ko jo Eo mo io Dq kq jq Eq mq iq X Y (K.rd_own ownDo) (K.rd_own ownEo) (K.rd_own ownDq) (K.rd_own ownEq) (by omega) (by omega) (by omega) (by omega)).mono ?_
    rintro e w7 ⟨rfl, kk⟩
    replace owng := K.own_kept owng kk
    replace ownh := K.own_kept ownh kk
    replace ownDo := K.own_kept ownDo kk
    replace ownEo := K.own_kept ownEo kk
    replace ownDq := K.own_kept ownDq kk
    replace ownEq := K.own_kept ownEq kk
    replace bx_v := BoxN.kept bx_v kk
    replace bx_f := BoxN.kept bx_f kk
    replace bx_p := BoxN.kept bx_p kk
    replace bx_r := BoxN.kept bx_r kk
    replace kw := K.Kept.trans kw kk
    clear kk
    clear v0 v1 v2 v3 v4 v5 v6 v7 v8
    clear f0 f1 f2 f3 f4 f5 f6 f7 f8
    clear p0 p1 p2 p3 p4 p5 p6
    clear r0 r1 r2 r3 r4 r5 r6
    obtain ⟨v0, v1, v2, v3, v4, v5, v6, v7, v8⟩ := BoxN.at4 bx_v
    obtain ⟨f0, f1, f2, f3, f4, f5, f6, f7, f8⟩ := BoxN.at4 bx_f
    obtain ⟨p0, p1, p2, p3, p4, p5, p6⟩ := BoxN.at3 bx_p
    obtain ⟨r0, r1, r2, r3, r4, r5, r6⟩ := BoxN.at3 bx_r
    go_wp2_with fail
    refine (equalPoint_yes _ T Do ko jo Eo mo io Dq kq jq Eq mq iq X Y (K.rd_own ownDo) (K.rd_own ownEo) (K.rd_own ownDq) (K.rd_own ownEq) (by omega) (by omega) (by omega) (by omega)).mono ?_
    rintro e w8 ⟨rfl, kk⟩
    replace owng := K.own_kept owng kk
    replace ownh := K.own_kept ownh kk
    replace ownDo := K.own_kept ownDo kk
    replace ownEo := K.own_kept ownEo kk
    replace ownDq := K.own_kept ownDq kk
    replace ownEq := K.own_kept ownEq kk
    replace bx_v := BoxN.kept bx_v kk
    replace bx_f := BoxN.kept bx_f kk
    replace bx_p := BoxN.kept bx_p kk
    replace bx_r := BoxN.kept bx_r kk
    replace kw := K.Kept.trans kw kk
    clear kk
    clear v0 v1 v2 v3 v4 v5 v6 v7 v8
    clear f0 f1 f2 f3 f4 f5 f6 f7 f8
    clear p0 p1 p2 p3 p4 p5 p6
    clear r0 r1 r2 r3 r4 r5 r6
    go_wp2
    go_ret
    exact ⟨rfl, K.Kept.trans k0 kw⟩
  obtain ⟨v0, v1, v2, v3, v4, v5, v6, v7, v8⟩ := BoxN.at4 bx_v
  obtain ⟨f0, f1, f2, f3, f4, f5, f6, f7, f8⟩ := BoxN.at4 bx_f
  go_wp2_with fail
  refine (guardsMeet_i _ x y u Ag ng cg l x2 y2 u2 Bh nh dh l2 T X Y false hB hT hX hY (K.rd_own owng) (by omega) (K.rd_own ownh) (by omega)).mono ?_
  rintro e w3 ⟨Do, ko, jo, Eo, mo, io, rfl, hko, hmo, ownDo, ownEo, hxo, kk⟩
  replace owng := K.own_kept owng kk
  replace ownh := K.own_kept ownh kk
  replace bx_v := BoxN.kept bx_v kk
  replace bx_f := BoxN.kept bx_f kk
  replace kw := K.Kept.trans kw kk
  clear kk
  clear v0 v1 v2 v3 v4 v5 v6 v7 v8
  clear f0 f1 f2 f3 f4 f5 f6 f7 f8
  clear hxo
  have bx_p : BoxN (w3.alloc (.cells #[.int .i64 T, .slice Do ko jo, .slice Eo mo io] 30)) w3.heap.size (#[.int .i64 T, .slice Do ko jo, .slice Eo mo io] : Array Value).toList := BoxN.new w3 _ _
  have kk := kp1 w3 (.cells #[.int .i64 T, .slice Do ko jo, .slice Eo mo io] 30)
  replace owng := K.own_kept owng kk
  replace ownh := K.own_kept ownh kk
  replace ownDo := K.own_kept ownDo kk
  replace ownEo := K.own_kept ownEo kk
  replace bx_v := BoxN.kept bx_v kk
  replace bx_f := BoxN.kept bx_f kk
  replace kw := K.Kept.trans kw kk
  generalize hww4 : w3.alloc (.cells #[.int .i64 T, .slice Do ko jo, .slice Eo mo io] 30) = w4 at owng ownh ownDo ownEo bx_v bx_f bx_p kw kk
  clear kk
  obtain ⟨v0, v1, v2, v3, v4, v5, v6, v7, v8⟩ := BoxN.at4 bx_v
  obtain ⟨f0, f1, f2, f3, f4, f5, f6, f7, f8⟩ := BoxN.at4 bx_f
  obtain ⟨p0, p1, p2, p3, p4, p5, p6⟩ := BoxN.at3 bx_p
  go_wp2_with fail
  refine (guardsMeet_s _ x y u Ag ng cg l x2 y2 u2 Bh nh dh l2 T X Y false hB hT hX hY (K.rd_own owng) (by omega) (K.rd_own ownh) (by omega)).mono ?_
  rintro e w5 ⟨Dq, kq, jq, Eq, mq, iq, rfl, hkq, hmq, ownDq, ownEq, hxq, kk⟩
  replace owng := K.own_kept owng kk
  replace ownh := K.own_kept ownh kk
  replace ownDo := K.own_kept ownDo kk
  replace ownEo := K.own_kept ownEo kk
  replace bx_v := BoxN.kept bx_v kk
  replace bx_f := BoxN.kept bx_f kk
  replace bx_p := BoxN.kept bx_p kk
  replace kw := K.Kept.trans kw kk
  clear kk
  clear v0 v1 v2 v3 v4 v5 v6 v7 v8
  clear f0 f1 f2 f3 f4 f5 f6 f7 f8
  clear p0 p1 p2 p3 p4 p5 p6
  clear hxq
  have bx_r : BoxN (w5.alloc (.cells #[.int .i64 T, .slice Dq kq jq, .slice Eq mq iq] 30)) w5.heap.size (#[.int .i64 T, .slice Dq kq jq, .slice Eq mq iq] : Array Value).toList := BoxN.new w5 _ _
  have kk := kp1 w5 (.cells #[.int .i64 T, .slice Dq kq jq, .slice Eq mq iq] 30)
  replace owng := K.own_kept owng kk
  replace ownh := K.own_kept ownh kk
  replace ownDo := K.own_kept ownDo kk
  replace ownEo := K.own_kept ownEo kk
  replace ownDq := K.own_kept ownDq kk
  replace ownEq := K.own_kept ownEq kk
  replace bx_v := BoxN.kept bx_v kk
  replace bx_f := BoxN.kept bx_f kk
  replace bx_p := BoxN.kept bx_p kk
  replace kw := K.Kept.trans kw kk
  generalize hww6 : w5.alloc (.cells #[.int .i64 T, .slice Dq kq jq, .slice Eq mq iq] 30) = w6 at owng ownh ownDo ownEo ownDq ownEq bx_v bx_f bx_p bx_r kw kk
  clear kk
  obtain ⟨v0, v1, v2, v3, v4, v5, v6, v7, v8⟩ := BoxN.at4 bx_v
  obtain ⟨f0, f1, f2, f3, f4, f5, f6, f7, f8⟩ := BoxN.at4 bx_f
  obtain ⟨p0, p1, p2, p3, p4, p5, p6⟩ := BoxN.at3 bx_p
  obtain ⟨r0, r1, r2, r3, r4, r5, r6⟩ := BoxN.at3 bx_r
  go_wp2_with fail
  refine (equalPoint_yes _ T Do ko jo Eo mo io Dq kq jq Eq mq iq X Y (K.rd_own ownDo) (K.rd_own ownEo) (K.rd_own ownDq) (K.rd_own ownEq) (by omega) (by omega) (by omega) (by omega)).mono ?_
  rintro e w7 ⟨rfl, kk⟩
  replace owng := K.own_kept owng kk
  replace ownh := K.own_kept ownh kk
  replace ownDo := K.own_kept ownDo kk
  replace ownEo := K.own_kept ownEo kk
  replace ownDq := K.own_kept ownDq kk
  replace ownEq := K.own_kept ownEq kk
  replace bx_v := BoxN.kept bx_v kk
  replace bx_f := BoxN.kept bx_f kk
  replace bx_p := BoxN.kept bx_p kk
  replace bx_r := BoxN.kept bx_r kk
  replace kw := K.Kept.trans kw kk
  clear kk
  clear v0 v1 v2 v3 v4 v5 v6 v7 v8
  clear f0 f1 f2 f3 f4 f5 f6 f7 f8
  clear p0 p1 p2 p3 p4 p5 p6
  clear r0 r1 r2 r3 r4 r5 r6
  cases q1 : vG x y l u
  case false =>
    obtain ⟨v0, v1, v2, v3, v4, v5, v6, v7, v8⟩ := BoxN.at4 bx_v
    obtain ⟨f0, f1, f2, f3, f4, f5, f6, f7, f8⟩ := BoxN.at4 bx_f
    obtain ⟨p0, p1, p2, p3, p4, p5, p6⟩ := BoxN.at3 bx_p
    obtain ⟨r0, r1, r2, r3, r4, r5, r6⟩ := BoxN.at3 bx_r
    go_wp2_with fail
    refine (validGuard_i _ x y u Ag ng cg l false q1 (K.rd_own owng) (by omega)).mono ?_
    rintro e w8 ⟨rfl, kk⟩
    replace owng := K.own_kept owng kk
    replace ownh := K.own_kept ownh kk
    replace ownDo := K.own_kept ownDo kk
    replace ownEo := K.own_kept ownEo kk
    replace ownDq := K.own_kept ownDq kk
    replace ownEq := K.own_kept ownEq kk
    replace bx_v := BoxN.kept bx_v kk
    replace bx_f := BoxN.kept bx_f kk
    replace bx_p := BoxN.kept bx_p kk
    replace bx_r := BoxN.kept bx_r kk
    replace kw := K.Kept.trans kw kk
    clear kk
    clear v0 v1 v2 v3 v4 v5 v6 v7 v8
    clear f0 f1 f2 f3 f4 f5 f6 f7 f8
    clear p0 p1 p2 p3 p4 p5 p6
    clear r0 r1 r2 r3 r4 r5 r6
    obtain ⟨v0, v1, v2, v3, v4, v5, v6, v7, v8⟩ := BoxN.at4 bx_v
    obtain ⟨f0, f1, f2, f3, f4, f5, f6, f7, f8⟩ := BoxN.at4 bx_f
    obtain ⟨p0, p1, p2, p3, p4, p5, p6⟩ := BoxN.at3 bx_p
    obtain ⟨r0, r1, r2, r3, r4, r5, r6⟩ := BoxN.at3 bx_r
    go_wp2_with fail
    refine (equalPoint_yes _ T Do ko jo Eo mo io Dq kq jq Eq mq iq X Y (K.rd_own ownDo) (K.rd_own ownEo) (K.rd_own ownDq) (K.rd_own ownEq) (by omega) (by omega) (by omega) (by omega)).mono ?_
    rintro e w9 ⟨rfl, kk⟩
    replace owng := K.own_kept owng kk
    replace ownh := K.own_kept ownh kk
    replace ownDo := K.own_kept ownDo kk
    replace ownEo := K.own_kept ownEo kk
    replace ownDq := K.own_kept ownDq kk
    replace ownEq := K.own_kept ownEq kk
    replace bx_v := BoxN.kept bx_v kk
    replace bx_f := BoxN.kept bx_f kk
    replace bx_p := BoxN.kept bx_p kk
    replace bx_r := BoxN.kept bx_r kk
    replace kw := K.Kept.trans kw kk
    clear kk
    clear v0 v1 v2 v3 v4 v5 v6 v7 v8
    clear f0 f1 f2 f3 f4 f5 f6 f7 f8
    clear p0 p1 p2 p3 p4 p5 p6
    clear r0 r1 r2 r3 r4 r5 r6
    go_wp2
    go_ret
    exact ⟨rfl, K.Kept.trans k0 kw⟩
  obtain ⟨v0, v1, v2, v3, v4, v5, v6, v7, v8⟩ := BoxN.at4 bx_v
  obtain ⟨f0, f1, f2, f3, f4, f5, f6, f7, f8⟩ := BoxN.at4 bx_f
  obtain ⟨p0, p1, p2, p3, p4, p5, p6⟩ := BoxN.at3 bx_p
  obtain ⟨r0, r1, r2, r3, r4, r5, r6⟩ := BoxN.at3 bx_r
  go_wp2_with fail
  refine (validGuard_i _ x y u Ag ng cg l true q1 (K.rd_own owng) (by omega)).mono ?_
  rintro e w8 ⟨rfl, kk⟩
  replace owng := K.own_kept owng kk
  replace ownh := K.own_kept ownh kk
  replace ownDo := K.own_kept ownDo kk
  replace ownEo := K.own_kept ownEo kk
  replace ownDq := K.own_kept ownDq kk
  replace ownEq := K.own_kept ownEq kk
  replace bx_v := BoxN.kept bx_v kk
  replace bx_f := BoxN.kept bx_f kk
  replace bx_p := BoxN.kept bx_p kk
  replace bx_r := BoxN.kept bx_r kk
  replace kw := K.Kept.trans kw kk
  clear kk
  clear v0 v1 v2 v3 v4 v5 v6 v7 v8
  clear f0 f1 f2 f3 f4 f5 f6 f7 f8
  clear p0 p1 p2 p3 p4 p5 p6
  clear r0 r1 r2 r3 r4 r5 r6
  cases q2 : vG x2 y2 l2 u2
  case false =>
    obtain ⟨v0, v1, v2, v3, v4, v5, v6, v7, v8⟩ := BoxN.at4 bx_v
    obtain ⟨f0, f1, f2, f3, f4, f5, f6, f7, f8⟩ := BoxN.at4 bx_f
    obtain ⟨p0, p1, p2, p3, p4, p5, p6⟩ := BoxN.at3 bx_p
    obtain ⟨r0, r1, r2, r3, r4, r5, r6⟩ := BoxN.at3 bx_r
    go_wp2_with fail
    refine (validGuard_i _ x2 y2 u2 Bh nh dh l2 false q2 (K.rd_own ownh) (by omega)).mono ?_
    rintro e w9 ⟨rfl, kk⟩
    replace owng := K.own_kept owng kk
    replace ownh := K.own_kept ownh kk
    replace ownDo := K.own_kept ownDo kk
    replace ownEo := K.own_kept ownEo kk
    replace ownDq := K.own_kept ownDq kk
    replace ownEq := K.own_kept ownEq kk
    replace bx_v := BoxN.kept bx_v kk
    replace bx_f := BoxN.kept bx_f kk
    replace bx_p := BoxN.kept bx_p kk
    replace bx_r := BoxN.kept bx_r kk
    replace kw := K.Kept.trans kw kk
    clear kk
    clear v0 v1 v2 v3 v4 v5 v6 v7 v8
    clear f0 f1 f2 f3 f4 f5 f6 f7 f8
    clear p0 p1 p2 p3 p4 p5 p6
    clear r0 r1 r2 r3 r4 r5 r6
    obtain ⟨v0, v1, v2, v3, v4, v5, v6, v7, v8⟩ := BoxN.at4 bx_v
    obtain ⟨f0, f1, f2, f3, f4, f5, f6, f7, f8⟩ := BoxN.at4 bx_f
    obtain ⟨p0, p1, p2, p3, p4, p5, p6⟩ := BoxN.at3 bx_p
    obtain ⟨r0, r1, r2, r3, r4, r5, r6⟩ := BoxN.at3 bx_r
    go_wp2_with fail
    refine (equalPoint_yes _ T Do ko jo Eo mo io Dq kq jq Eq mq iq X Y (K.rd_own ownDo) (K.rd_own ownEo) (K.rd_own ownDq) (K.rd_own ownEq) (by omega) (by omega) (by omega) (by omega)).mono ?_
    rintro e w10 ⟨rfl, kk⟩
    replace owng := K.own_kept owng kk
    replace ownh := K.own_kept ownh kk
    replace ownDo := K.own_kept ownDo kk
    replace ownEo := K.own_kept ownEo kk
    replace ownDq := K.own_kept ownDq kk
    replace ownEq := K.own_kept ownEq kk
    replace bx_v := BoxN.kept bx_v kk
    replace bx_f := BoxN.kept bx_f kk
    replace bx_p := BoxN.kept bx_p kk
    replace bx_r := BoxN.kept bx_r kk
    replace kw := K.Kept.trans kw kk
    clear kk
    clear v0 v1 v2 v3 v4 v5 v6 v7 v8
    clear f0 f1 f2 f3 f4 f5 f6 f7 f8
    clear p0 p1 p2 p3 p4 p5 p6
    clear r0 r1 r2 r3 r4 r5 r6
    go_wp2
    go_ret
    exact ⟨rfl, K.Kept.trans k0 kw⟩
  obtain ⟨v0, v1, v2, v3, v4, v5, v6, v7, v8⟩ := BoxN.at4 bx_v
  obtain ⟨f0, f1, f2, f3, f4, f5, f6, f7, f8⟩ := BoxN.at4 bx_f
  obtain ⟨p0, p1, p2, p3, p4, p5, p6⟩ := BoxN.at3 bx_p
  obtain ⟨r0, r1, r2, r3, r4, r5, r6⟩ := BoxN.at3 bx_r
  go_wp2_with fail
  refine (validGuard_i _ x2 y2 u2 Bh nh dh l2 true q2 (K.rd_own ownh) (by omega)).mono ?_
  rintro e w9 ⟨rfl, kk⟩
  replace owng := K.own_kept owng kk
  replace ownh := K.own_kept ownh kk
  replace ownDo := K.own_kept ownDo kk
  replace ownEo := K.own_kept ownEo kk
  replace ownDq := K.own_kept ownDq kk
  replace ownEq := K.own_kept ownEq kk
  replace bx_v := BoxN.kept bx_v kk
  replace bx_f := BoxN.kept bx_f kk
  replace bx_p := BoxN.kept bx_p kk
  replace bx_r := BoxN.kept bx_r kk
  replace kw := K.Kept.trans kw kk
  clear kk
  clear v0 v1 v2 v3 v4 v5 v6 v7 v8
  clear f0 f1 f2 f3 f4 f5 f6 f7 f8
  clear p0 p1 p2 p3 p4 p5 p6
  clear r0 r1 r2 r3 r4 r5 r6
  clear bx_r ownDq ownEq
  clear bx_p ownDo ownEo
  have n3 : ng = 3 := by have := vG_len q1; have := LL.out; omega
  have m3 : nh = 3 := by have := vG_len q2; have := LM.out; omega
  subst n3 m3
  clear hT hX hY hkq hmq hko hmo LX LY hw2
  obtain ⟨i0, hi0, hz0, hz1, hz2⟩ := info_parts info_int
  have ownE : (w9.alloc (.cells #[] 3)).ownsRow w9.heap.size 3 1 (.slice (some ⟨w9.heap.size, 0, none⟩) 0 0) 0 (([] : List Int).map (Value.int .i64)) := World.ownsRow_lit w9 #[] 0 (Nat.le_refl _) (by unfold maxLen; omega) rfl
  have kc : K.Kept w9 (w9.alloc (.cells #[] 3)) := kp1 _ _
  generalize hwe : w9.alloc (.cells #[] 3) = we at ownE kc
  have Hg := Lib.hid owng
  have Hh := Lib.hid ownh
  clear owng ownh
  go_wp2
  clear hwe
  go_loopw [9, 10] (fun v i wr => ∃ (k ne ce : Nat) (E' : Option Addr), k ≤ 9 ∧ v = .slice E' ne ce ∧ i = .int .i64 ((k : Int) + 1) ∧ ne ≤ k ∧ wr.ownsRow w9.heap.size 3 1 (.slice E' ne ce) ne ((cpT u u2 k).map (Value.int .i64)) ∧ K.Kept w9 wr) (fun _ i _ => 10 - (intOf i).toNat)
  case atStart => exact ⟨0, _, _, _, by omega, rfl, rfl, by omega, ownE, kc⟩
  case round =>
    clear ownE kc
    obtain ⟨k, ne, ce, E', hk, rfl, rfl, hne, ownE, kc⟩ := hrel
    have bx_v2 := bx_v.kept kc
    have bx_f2 := bx_f.kept kc
    have kcs := kc.size
    by_cases hlt : k < 9
    · have hle : decide ((k : Int) + 1 ≤ 9) = true := by simp; omega
      obtain ⟨v0, v1, v2, v3, v4', v5, v6, v7, v8⟩ := BoxN.at4 bx_v2
      obtain ⟨f0, f1, f2, f3, f4, f5, f6, f7, f8⟩ := BoxN.at4 bx_f2
      by_cases hu : u = (k : Int) + 1
      · have eu : (u == (k : Int) + 1) = true := by simp [hu]
        have ec : (u == (k : Int) + 1 || u2 == (k : Int) + 1) = true := by rw [eu]; rfl
        clear hu
        go_wp2_with (at_builtin; refine app3 rfl _ _ 28 rfl w9.heap.size 3 1 8 i0 (.int .i64 0) Try.underlying28 hi0 hz0 hz1 hz2 rfl (by decide) wr _ ne _ (by rfl) ownE _ _ (by rfl) (by first | rfl | simp) (by rfl) (by rfl) (by unfold maxLen; omega) (by omega) (by omega) ?_; intro A4 c4 v4 own4 hg4 hn4; skip)
        have own5 := (show v4.ownsRow w9.heap.size 3 1 (.slice A4 (ne + 1) c4) (ne + 1) ((cpT u u2 (k + 1)).map (Value.int .i64)) by rw [cpT_yes ec]; exact own4)
        have kc4 : K.Kept w9 v4 := K.kept_own kc ownE hg4 kc.size
        clear own4 hg4 hn4 ownE kc
        clear v0 v1 v2 v3 v4' v5 v6 v7 v8 f0 f1 f2 f3 f4 f5 f6 f7 f8
        go_wp2
        go_roundw
        case rel => exact ⟨k + 1, ne + 1, c4, A4, by omega, rfl, by go_num, by omega, own5, kc4⟩
        case measure => simp [intOf]; omega
      have eu : (u == (k : Int) + 1) = false := by simp [hu]
      by_cases hv : u2 = (k : Int) + 1
      · have ev : (u2 == (k : Int) + 1) = true := by simp [hv]
        have ec : (u == (k : Int) + 1 || u2 == (k : Int) + 1) = true := by rw [eu, ev]; rfl
        clear hu hv
        go_wp2_with (at_builtin; refine app3 rfl _ _ 28 rfl w9.heap.size 3 1 8 i0 (.int .i64 0) Try.underlying28 hi0 hz0 hz1 hz2 rfl (by decide) wr _ ne _ (by rfl) ownE _ _ (by rfl) (by first | rfl | simp) (by rfl) (by rfl) (by unfold maxLen; omega) (by omega) (by omega) ?_; intro A4 c4 v4 own4 hg4 hn4; skip)
        have own5 := (show v4.ownsRow w9.heap.size 3 1 (.slice A4 (ne + 1) c4) (ne + 1) ((cpT u u2 (k + 1)).map (Value.int .i64)) by rw [cpT_yes ec]; exact own4)
        have kc4 : K.Kept w9 v4 := K.kept_own kc ownE hg4 kc.size
        clear own4 hg4 hn4 ownE kc
        clear v0 v1 v2 v3 v4' v5 v6 v7 v8 f0 f1 f2 f3 f4 f5 f6 f7 f8
        go_wp2
        go_roundw
        case rel => exact ⟨k + 1, ne + 1, c4, A4, by omega, rfl, by go_num, by omega, own5, kc4⟩
        case measure => simp [intOf]; omega
      have ev : (u2 == (k : Int) + 1) = false := by simp [hv]
      have ec : (u == (k : Int) + 1 || u2 == (k : Int) + 1) = false := by rw [eu, ev]; rfl
      clear hu hv
      go_wp2
      clear v0 v1 v2 v3 v4' v5 v6 v7 v8 f0 f1 f2 f3 f4 f5 f6 f7 f8
      go_roundw
      case rel => exact ⟨k + 1, ne, ce, E', by omega, rfl, by go_num, by omega, by rw [cpT_no ec]; exact ownE, kc⟩
      case measure => simp [intOf]; omega
    · have hk9 : k = 9 := by omega
      subst hk9
      obtain ⟨T, hT⟩ : ∃ t, max x x2 = t := ⟨_, rfl⟩
      have r1 : (if x < x2 then x2 else x) = T := by rw [← hT]; split <;> omega
      have HT := Lib.hid hT
      clear hT
      have ownX : (wr.alloc (.cells #[] 3)).ownsRow w9.heap.size 3 1 (.slice (some ⟨wr.heap.size, 0, none⟩) 0 0) 0 (([] : List Int).map (Value.int .i64)) := World.ownsRow_lit wr #[] 0 kcs (by unfold maxLen; omega) rfl
      have kk := kp1 wr (.cells #[] 3)
      have ltE := ownE.lt
      replace ownE := K.own_kept ownE kk
      replace kc := K.Kept.trans kc kk
      have zx : wr.heap.size < (wr.alloc (.cells #[] 3)).heap.size := by simp
      generalize hwx : wr.alloc (.cells #[] 3) = wx at ownX ownE kc zx
      clear kk
      have hwx0 := kc.size
      have bx_l : BoxN (wx.alloc (.cells #[.int .i64 T, .slice (some ⟨wr.heap.size, 0, none⟩) 0 0, .slice E' ne ce] 30)) wx.heap.size (#[.int .i64 T, .slice (some ⟨wr.heap.size, 0, none⟩) 0 0, .slice E' ne ce] : Array Value).toList := BoxN.new wx _ _
      have kk := kp1 wx (.cells #[.int .i64 T, .slice (some ⟨wr.heap.size, 0, none⟩) 0 0, .slice E' ne ce] 30)
      replace ownE := K.own_kept ownE kk
      replace ownX := K.own_kept ownX kk
      replace kc := K.Kept.trans kc kk
      generalize hwl : wx.alloc (.cells #[.int .i64 T, .slice (some ⟨wr.heap.size, 0, none⟩) 0 0, .slice E' ne ce] 30) = wl at bx_l ownX ownE kc
      clear kk
      obtain ⟨v0, v1, v2, v3, v4', v5, v6, v7, v8⟩ := BoxN.at4 bx_v2
      obtain ⟨f0, f1, f2, f3, f4, f5, f6, f7, f8⟩ := BoxN.at4 bx_f2
      go_wp2
      clear v0 v1 v2 v3 v4' v5 v6 v7 v8 f0 f1 f2 f3 f4 f5 f6 f7 f8
      clear hwx hwl r1 bx_v2 bx_f2
      have neX : (∀ i, (Value.slice (some ⟨wr.heap.size, 0, none⟩) 0 0).ownBlock = some i → i ≠ wx.heap.size ∧ ∀ j, (Value.slice E' ne ce).ownBlock = some j → j ≠ i) := fun i hi => by
        have e := ob_some hi
        subst e
        exact ⟨by omega, fun j hj => by have := (ltE j hj).2; omega⟩
      have neE : ∀ j, (Value.slice E' ne ce).ownBlock = some j → j ≠ wx.heap.size := fun j hj => by have := (ltE j hj).2; omega
      go_loopw [12] (fun i wr => ∃ (k cx : Nat) (X' : Option Addr), k ≤ 3 ∧ i = .int .i64 k ∧ wr.ownsRow w9.heap.size 3 1 (.slice X' (k) cx) (k) (((mxs l l2).take (k)).map (Value.int .i64)) ∧ (∀ i, (Value.slice X' (k) cx).ownBlock = some i → i ≠ wx.heap.size ∧ ∀ j, (Value.slice E' ne ce).ownBlock = some j → j ≠ i) ∧ wr.ownsRow w9.heap.size 3 1 (.slice E' ne ce) ne ((cpT u u2 9).map (Value.int .i64)) ∧ BoxN wr wx.heap.size (#[.int .i64 T, .slice X' (k) cx, .slice E' ne ce] : Array Value).toList ∧ K.Kept w9 wr) (fun i _ => 3 - (intOf i).toNat)
      case atStart => exact ⟨0, _, _, by omega, rfl, ownX, neX, ownE, bx_l, kc⟩
      case round =>
        clear ownX neX ownE bx_l kc kcs
        obtain ⟨k, cx, X', hk, rfl, ownX, neX, ownE, bx_l, kc⟩ := hrel
        have kcs := kc.size
        have bx_v2 := bx_v.kept kc
        have bx_f2 := bx_f.kept kc
        have zl := bx_l.1
        by_cases hlt : k < 3
        · obtain ⟨ba, oa, p1, e1, rfl, hba, c1, c2, hx⟩ := K.PR.cell (K.rd_own (K.own_kept Hg.out kc)) hlt
          obtain ⟨bb, ob, p2, e2, rfl, hbb, d1, d2, hy⟩ := K.PR.cell (K.rd_own (K.own_kept Hh.out kc)) hlt
          have RK := Lib.hid (row_snoc (show (mxs l l2)[k]? = some (max p1 p2) from zip_at mxF hx.out hy.out))
          obtain ⟨mx, hmx⟩ : ∃ t, max p1 p2 = t := ⟨_, rfl⟩
          have r2 : (if p1 < p2 then p2 else p1) = mx := by rw [← hmx]; split <;> omega
          rw [hmx] at RK
          clear hmx c2 d2 hx hy
          have hki : (k : Int) < 3 := by omega
          have hd1 : decide ((3 : Int) ≤ (k : Int)) = false := by simp; omega
          have hd2 : decide (3 ≤ k) = false := by simp; omega
          obtain ⟨v0, v1, v2, v3, v4', v5, v6, v7, v8⟩ := BoxN.at4 bx_v2
          obtain ⟨f0, f1, f2, f3, f4, f5, f6, f7, f8⟩ := BoxN.at4 bx_f2
          go_upto_if 93 with fail
          go_step
          go_step
          go_step
          go_step
          go_step
          go_cut [] from 96 to 113 (fun wz => ∃ (c4 : Nat) (A4 : Option Addr), wz.ownsRow w9.heap.size 3 1 (.slice A4 (k + 1) c4) (k + 1) (((mxs l l2).take (k + 1)).map (Value.int .i64)) ∧ (∀ i, (Value.slice A4 (k + 1) c4).ownBlock = some i → i ≠ wx.heap.size ∧ ∀ j, (Value.slice E' ne ce).ownBlock = some j → j ≠ i) ∧ wz.ownsRow w9.heap.size 3 1 (.slice E' ne ce) ne ((cpT u u2 9).map (Value.int .i64)) ∧ BoxN wz wx.heap.size (#[.int .i64 T, .slice A4 (k + 1) c4, .slice E' ne ce] : Array Value).toList ∧ K.Kept w9 wz)
          case first =>
            obtain ⟨l0, l1, l2', l3, l4, l5, l6⟩ := BoxN.at3 bx_l
            have ltX := ownX.lt
            have KD := kdrew wr
            have OX := K.own_kept ownX KD
            have HE := Lib.hid (K.own_kept ownE KD)
            have HL := Lib.hid (bx_l.kept KD)
            have HK := Lib.hid (K.Kept.trans kc KD)
            have HC := Lib.hid kc
            have szd : wr.drew.heap.size = wr.heap.size := rfl
            have NX := Lib.hid neX
            have LX := Lib.hid ltX
            have hb0 : w9.heap.size ≤ wr.drew.heap.size := kcs
            clear ownX ownE bx_l kc KD bx_v2 bx_f2 neX ltX
            go_wp2_with fail
            go_region_law ((refine step_app3 rfl _ _ 28 rfl w9.heap.size 3 1 8 i0 (.int .i64 0) Try.underlying28 hi0 hz0 hz1 hz2 rfl (by decide) wr.drew _ k _ (by rfl) OX _ _ (by rfl) (by first | rfl | simp) (by rfl) (by rfl) (by unfold maxLen; omega) (by omega) hb0 ?_; intro A4 c4 v4 own4 hg4 hn4; have bx_4 := BoxN.grown HL.out hg4 (fun e => (NX.out _ e).1 rfl); clear l0 l1 l2' l3 l4 l5 l6; obtain ⟨l0, l1, l2', l3, l4, l5, l6⟩ := BoxN.at3 bx_4))
            all_goals
              go_wp2
              go_meet
              have own5 := (show v4.ownsRow w9.heap.size 3 1 (.slice A4 (k + 1) c4) (k + 1) (((mxs l l2).take (k + 1)).map (Value.int .i64)) by rw [RK.out]; exact own4)
              have ne4 : (∀ i, (Value.slice A4 (k + 1) c4).ownBlock = some i → i ≠ wx.heap.size ∧ ∀ j, (Value.slice E' ne ce).ownBlock = some j → j ≠ i) := fun i hi => by
                rcases hn4 i hi with h | h
                · exact NX.out i h
                · exact ⟨by omega, fun j hj => by have := (HE.out.lt j hj).2; omega⟩
              have oE := K.own_other HE.out hg4 (fun i j hi hj => (NX.out j hj).2 i hi)
              have kz : K.Kept w9 v4 := K.kept_own HK.out OX hg4 hb0
              exact ⟨_, _, own_sneM (i := 1) own5 (fun j hj => (ne4 j hj).1) (.slice A4 (k + 1) c4), ne4, own_sneM (i := 1) oE neE (.slice A4 (k + 1) c4), BoxN.set bx_4 1 (.slice A4 (k + 1) c4) (by simp), kset (i := 1) kz (show w9.heap.size ≤ wx.heap.size by omega) (.slice A4 (k + 1) c4)⟩
          case rest =>
            clear v0 v1 v2 v3 v4' v5 v6 v7 v8 f0 f1 f2 f3 f4 f5 f6 f7 f8
            clear c1 d1 r2 RK ownX neX ownE bx_l kc kcs bx_v2 bx_f2
            obtain ⟨c4, A4, ownX, neX, ownE, bx_l, kc⟩ := hcut
            go_wp2
            go_roundw
            case rel => exact ⟨k + 1, c4, A4, by omega, by go_num, ownX, neX, ownE, bx_l, kc⟩
            case measure => simp [intOf]; omega
        · have hk3 : k = 3 := by omega
          subst hk3
          rw [K.take_all (show (mxs l l2).length = 3 from zip_len mxF LL.out LM.out)] at ownX
          have HN : gH x y l u T (mxs l l2) (cpT u u2 9) = true → gH x2 y2 l2 u2 T (mxs l l2) (cpT u u2 9) = false := fun h => by rw [← HT.out] at h ⊢; exact gm_none q1 q2 hB h
          obtain ⟨bh, hbh⟩ : ∃ b, gH x y l u T (mxs l l2) (cpT u u2 9) = b := ⟨_, rfl⟩
          rw [hbh] at HN
          have HN2 := Lib.hid HN
          clear HN
          obtain ⟨v0, v1, v2, v3, v4', v5, v6, v7, v8⟩ := BoxN.at4 bx_v2
          obtain ⟨f0, f1, f2, f3, f4, f5, f6, f7, f8⟩ := BoxN.at4 bx_f2
          obtain ⟨l0, l1, l2', l3, l4, l5, l6⟩ := BoxN.at3 bx_l
          go_wp2_with fail
          refine (guardHolds_i _ x y u Ag 3 cg l T X' 3 cx (mxs l l2) E' ne ce (cpT u u2 9) bh hbh (K.rd_own (K.own_kept Hg.out kc)) (by omega) (K.rd_own ownX) (by omega) (K.rd_own ownE) (by omega)).mono ?_
          rintro e wn ⟨rfl, kn⟩
          clear v0 v1 v2 v3 v4' v5 v6 v7 v8 f0 f1 f2 f3 f4 f5 f6 f7 f8
          clear l0 l1 l2' l3 l4 l5 l6
          replace bx_f2 := bx_f2.kept kn
          replace bx_l := bx_l.kept kn
          replace ownX := K.own_kept ownX kn
          replace ownE := K.own_kept ownE kn
          replace kc := K.Kept.trans kc kn
          obtain ⟨f0, f1, f2, f3, f4, f5, f6, f7, f8⟩ := BoxN.at4 bx_f2
          obtain ⟨l0, l1, l2', l3, l4, l5, l6⟩ := BoxN.at3 bx_l
          have kf := K.Kept.trans k0 (K.Kept.trans kw kc)
          cases bh
          · go_wp2
            go_ret
            exact ⟨rfl, kf⟩
          have hb2 := HN2.out rfl
          go_wp2_with fail
          refine (guardHolds_i _ x2 y2 u2 Bh 3 dh l2 T X' 3 cx (mxs l l2) E' ne ce (cpT u u2 9) false hb2 (K.rd_own (K.own_kept Hh.out kc)) (by omega) (K.rd_own ownX) (by omega) (K.rd_own ownE) (by omega)).mono ?_
          rintro e wm ⟨rfl, km⟩
          go_wp2
          go_ret
          exact ⟨rfl, K.Kept.trans kf km⟩
end C
end Go.Proofs.Ytapjlbcpfemeiaa

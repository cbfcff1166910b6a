/-
  The law of GuardsMeet of a guard and itself, for every code. Conditions: none.
-/
import Derived.Test.YtapjlbcpfemeiaaPointLaws
import Derived.Test.YtapjlbcpfemeiaaDrawGM
import Derived.Test.YtapjlbcpfemeiaaGMeetS
import Derived.Test.YtapjlbcpfemeiaaGPlain
namespace Go.Proofs.Ytapjlbcpfemeiaa
open Go.RowKit
namespace C

set_option maxRecDepth 100000 in
set_option maxHeartbeats 16000000 in
theorem guardsMeetSelf (w : World) (n c : Nat) (A : Option Addr) (h : Code w w.heap.size A n c) : Calls Try.prog 10 #[.slice A n c] w fun e w' => e = .returned (.bool true) ∧ Below w.heap.size w w' := by
  by_cases hn : 1048576 < n
  · go_enter Try.func10, Try.ntmps10
    go_wp2
    go_ret
    exact ⟨rfl, Below.refl _ _⟩
  have hc := h
  unfold Code maxLen at hc
  have hn' : n ≤ 1048576 := by omega
  clear hc hn
  go_enter Try.func10, Try.ntmps10
  go_wp2_with fail
  refine (drawGuardsMeet_c w n c A h).mono ?_
  rintro e w1 ⟨x, y, u, Ag, ng, cg, l, x2, y2, u2, Bh, nh, dh, l2, rfl, hnm, owng, ownh, k0⟩
  clear h
  have LL := Lib.hid (show l.length = ng by have := owng.1; rw [K.prs_len] at this; omega)
  have LM := Lib.hid (show l2.length = nh by have := ownh.1; rw [K.prs_len] at this; omega)
  have kw := K.Kept.refl w1
  have bx_v : BoxN ((w1.alloc (.cells #[.int .i64 x, .int .i64 y, .slice Ag ng cg, .int .i64 u] 27)).alloc (.cells #[.int .i64 x2, .int .i64 y2, .slice Bh nh dh, .int .i64 u2] 27)) w1.heap.size (#[.int .i64 x, .int .i64 y, .slice Ag ng cg, .int .i64 u] : Array Value).toList := (BoxN.new w1 _ _).kept (kp1 _ _)
  have bx_f : BoxN ((w1.alloc (.cells #[.int .i64 x, .int .i64 y, .slice Ag ng cg, .int .i64 u] 27)).alloc (.cells #[.int .i64 x2, .int .i64 y2, .slice Bh nh dh, .int .i64 u2] 27)) (w1.heap.size + 1) (#[.int .i64 x2, .int .i64 y2, .slice Bh nh dh, .int .i64 u2] : Array Value).toList := by have q := BoxN.new (w1.alloc (.cells #[.int .i64 x, .int .i64 y, .slice Ag ng cg, .int .i64 u] 27)) #[.int .i64 x2, .int .i64 y2, .slice Bh nh dh, .int .i64 u2] 27; rwa [show (w1.alloc (.cells #[.int .i64 x, .int .i64 y, .slice Ag ng cg, .int .i64 u] 27)).heap.size = w1.heap.size + 1 by simp] at q
  have kk : K.Kept w1 ((w1.alloc (.cells #[.int .i64 x, .int .i64 y, .slice Ag ng cg, .int .i64 u] 27)).alloc (.cells #[.int .i64 x2, .int .i64 y2, .slice Bh nh dh, .int .i64 u2] 27)) := K.Kept.trans (kp1 _ _) (kp1 _ _)
  replace owng := K.own_kept owng kk
  replace ownh := K.own_kept ownh kk
  replace kw := K.Kept.trans kw kk
  generalize hw2 : ((w1.alloc (.cells #[.int .i64 x, .int .i64 y, .slice Ag ng cg, .int .i64 u] 27)).alloc (.cells #[.int .i64 x2, .int .i64 y2, .slice Bh nh dh, .int .i64 u2] 27)) = w2 at bx_v bx_f owng ownh kw
  clear kk
  obtain ⟨T, hT⟩ : ∃ t, gmT x y u x2 y2 u2 l l2 = t := ⟨_, rfl⟩
  obtain ⟨X, hX⟩ : ∃ t, gmC x y u x2 y2 u2 l l2 = t := ⟨_, rfl⟩
  obtain ⟨Y, hY⟩ : ∃ t, gmK x y u x2 y2 u2 l l2 = t := ⟨_, rfl⟩
  have LX : X.length ≤ 4 := by rw [← hX]; exact gmC_len (by have := LL.out; omega)
  have LY : Y.length ≤ 9 := by rw [← hY]; exact gmK_len _ _ _ _ _ _ _ _
  obtain ⟨b, hB⟩ : ∃ t, gmOk x y u x2 y2 u2 l l2 = t := ⟨_, rfl⟩
  have eb : (b != b) = false := by simp
  have eb2 : (b == b) = true := by simp
  cases q1 : vG x y l u
  case false =>
    obtain ⟨v0, v1, v2, v3, v4, v5, v6, v7, v8⟩ := BoxN.at4 bx_v
    obtain ⟨f0, f1, f2, f3, f4, f5, f6, f7, f8⟩ := BoxN.at4 bx_f
    go_wp2_with fail
    refine (guardsMeet_i _ x y u Ag ng cg l x2 y2 u2 Bh nh dh l2 T X Y b hB hT hX hY (K.rd_own owng) (by omega) (K.rd_own ownh) (by omega)).mono ?_
    rintro e w3 ⟨Do, ko, jo, Eo, mo, io, rfl, hko, hmo, ownDo, ownEo, hxo, kk⟩
    replace owng := K.own_kept owng kk
    replace ownh := K.own_kept ownh kk
    replace bx_v := BoxN.kept bx_v kk
    replace bx_f := BoxN.kept bx_f kk
    replace kw := K.Kept.trans kw kk
    clear kk
    clear v0 v1 v2 v3 v4 v5 v6 v7 v8
    clear f0 f1 f2 f3 f4 f5 f6 f7 f8
    clear hxo
    have bx_p : BoxN (w3.alloc (.cells #[.int .i64 T, .slice Do ko jo, .slice Eo mo io] 30)) w3.heap.size (#[.int .i64 T, .slice Do ko jo, .slice Eo mo io] : Array Value).toList := BoxN.new w3 _ _
    have kk := kp1 w3 (.cells #[.int .i64 T, .slice Do ko jo, .slice Eo mo io] 30)
    replace owng := K.own_kept owng kk
    replace ownh := K.own_kept ownh kk
    replace ownDo := K.own_kept ownDo kk
    replace ownEo := K.own_kept ownEo kk
    replace bx_v := BoxN.kept bx_v kk
    replace bx_f := BoxN.kept bx_f kk
    replace kw := K.Kept.trans kw kk
    generalize hww4 : w3.alloc (.cells #[.int .i64 T, .slice Do ko jo, .slice Eo mo io] 30) = w4 at owng ownh ownDo ownEo bx_v bx_f bx_p kw kk
    clear kk
    obtain ⟨v0, v1, v2, v3, v4, v5, v6, v7, v8⟩ := BoxN.at4 bx_v
    obtain ⟨f0, f1, f2, f3, f4, f5, f6, f7, f8⟩ := BoxN.at4 bx_f
    obtain ⟨p0, p1, p2, p3, p4, p5, p6⟩ := BoxN.at3 bx_p
    go_wp2_with fail
    refine (guardsMeet_s _ x y u Ag ng cg l x2 y2 u2 Bh nh dh l2 T X Y b hB hT hX hY (K.rd_own owng) (by omega) (K.rd_own ownh) (by omega)).mono ?_
    rintro e w5 ⟨Dq, kq, jq, Eq, mq, iq, rfl, hkq, hmq, ownDq, ownEq, hxq, kk⟩
    replace owng := K.own_kept owng kk
    replace ownh := K.own_kept ownh kk
    replace ownDo := K.own_kept ownDo kk
    replace ownEo := K.own_kept ownEo kk
    replace bx_v := BoxN.kept bx_v kk
    replace bx_f := BoxN.kept bx_f kk
    replace bx_p := BoxN.kept bx_p kk
    replace kw := K.Kept.trans kw kk
    clear kk
    clear v0 v1 v2 v3 v4 v5 v6 v7 v8
    clear f0 f1 f2 f3 f4 f5 f6 f7 f8
    clear p0 p1 p2 p3 p4 p5 p6
    clear hxq
    have bx_r : BoxN (w5.alloc (.cells #[.int .i64 T, .slice Dq kq jq, .slice Eq mq iq] 30)) w5.heap.size (#[.int .i64 T, .slice Dq kq jq, .slice Eq mq iq] : Array Value).toList := BoxN.new w5 _ _
    have kk := kp1 w5 (.cells #[.int .i64 T, .slice Dq kq jq, .slice Eq mq iq] 30)
    replace owng := K.own_kept owng kk
    replace ownh := K.own_kept ownh kk
    replace ownDo := K.own_kept ownDo kk
    replace ownEo := K.own_kept ownEo kk
    replace ownDq := K.own_kept ownDq kk
    replace ownEq := K.own_kept ownEq kk
    replace bx_v := BoxN.kept bx_v kk
    replace bx_f := BoxN.kept bx_f kk
    replace bx_p := BoxN.kept bx_p kk
    replace kw := K.Kept.trans kw kk
    generalize hww6 : w5.alloc (.cells #[.int .i64 T, .slice Dq kq jq, .slice Eq mq iq] 30) = w6 at owng ownh ownDo ownEo ownDq ownEq bx_v bx_f bx_p bx_r kw kk
    clear kk
    obtain ⟨v0, v1, v2, v3, v4, v5, v6, v7, v8⟩ := BoxN.at4 bx_v
    obtain ⟨f0, f1, f2, f3, f4, f5, f6, f7, f8⟩ := BoxN.at4 bx_f
    obtain ⟨p0, p1, p2, p3, p4, p5, p6⟩ := BoxN.at3 bx_p
    obtain ⟨r0, r1, r2, r3, r4, r5, r6⟩ := BoxN.at3 bx_r
    go_wp2_with fail
    refine (equalPoint_yes _ T Do ko jo Eo mo io Dq kq jq Eq mq iq X Y (K.rd_own ownDo) (K.rd_own ownEo) (K.rd_own ownDq) (K.rd_own ownEq) (by omega) (by omega) (by omega) (by omega)).mono ?_
    rintro e w7 ⟨rfl, kk⟩
    replace owng := K.own_kept owng kk
    replace ownh := K.own_kept ownh kk
    replace ownDo := K.own_kept ownDo kk
    replace ownEo := K.own_kept ownEo kk
    replace ownDq := K.own_kept ownDq kk
    replace ownEq := K.own_kept ownEq kk
    replace bx_v := BoxN.kept bx_v kk
    replace bx_f := BoxN.kept bx_f kk
    replace bx_p := BoxN.kept bx_p kk
    replace bx_r := BoxN.kept bx_r kk
    replace kw := K.Kept.trans kw kk
    clear kk
    clear v0 v1 v2 v3 v4 v5 v6 v7 v8
    clear f0 f1 f2 f3 f4 f5 f6 f7 f8
    clear p0 p1 p2 p3 p4 p5 p6
    clear r0 r1 r2 r3 r4 r5 r6
    obtain ⟨v0, v1, v2, v3, v4, v5, v6, v7, v8⟩ := BoxN.at4 bx_v
    obtain ⟨f0, f1, f2, f3, f4, f5, f6, f7, f8⟩ := BoxN.at4 bx_f
    obtain ⟨p0, p1, p2, p3, p4, p5, p6⟩ := BoxN.at3 bx_p
    obtain ⟨r0, r1, r2, r3, r4, r5, r6⟩ := BoxN.at3 bx_r
    go_wp2_with fail
    refine (validGuard_i _ x y u Ag ng cg l false q1 (K.rd_own owng) (by omega)).mono ?_
    rintro e w8 ⟨rfl, kk⟩
    replace owng := K.own_kept owng kk
    replace ownh := K.own_kept ownh kk
    replace ownDo := K.own_kept ownDo kk
    replace ownEo := K.own_kept ownEo kk
    replace ownDq := K.own_kept ownDq kk
    replace ownEq := K.own_kept ownEq kk
    replace bx_v := BoxN.kept bx_v kk
    replace bx_f := BoxN.kept bx_f kk
    replace bx_p := BoxN.kept bx_p kk
    replace bx_r := BoxN.kept bx_r kk
    replace kw := K.Kept.trans kw kk
    clear kk
    clear v0 v1 v2 v3 v4 v5 v6 v7 v8
    clear f0 f1 f2 f3 f4 f5 f6 f7 f8
    clear p0 p1 p2 p3 p4 p5 p6
    clear r0 r1 r2 r3 r4 r5 r6
    obtain ⟨v0, v1, v2, v3, v4, v5, v6, v7, v8⟩ := BoxN.at4 bx_v
    obtain ⟨f0, f1, f2, f3, f4, f5, f6, f7, f8⟩ := BoxN.at4 bx_f
    obtain ⟨p0, p1, p2, p3, p4, p5, p6⟩ := BoxN.at3 bx_p
    obtain ⟨r0, r1, r2, r3, r4, r5, r6⟩ := BoxN.at3 bx_r
    go_wp2_with fail
    refine (equalPoint_yes _ T Do ko jo Eo mo io Dq kq jq Eq mq iq X Y (K.rd_own ownDo) (K.rd_own ownEo) (K.rd_own ownDq) (K.rd_own ownEq) (by omega) (by omega) (by omega) (by omega)).mono ?_
    rintro e w9 ⟨rfl, kk⟩
    replace owng := K.own_kept owng kk
    replace ownh := K.own_kept ownh kk
    replace ownDo := K.own_kept ownDo kk
    replace ownEo := K.own_kept ownEo kk
    replace ownDq := K.own_kept ownDq kk
    replace ownEq := K.own_kept ownEq kk
    replace bx_v := BoxN.kept bx_v kk
    replace bx_f := BoxN.kept bx_f kk
    replace bx_p := BoxN.kept bx_p kk
    replace bx_r := BoxN.kept bx_r kk
    replace kw := K.Kept.trans kw kk
    clear kk
    clear v0 v1 v2 v3 v4 v5 v6 v7 v8
    clear f0 f1 f2 f3 f4 f5 f6 f7 f8
    clear p0 p1 p2 p3 p4 p5 p6
    clear r0 r1 r2 r3 r4 r5 r6
    go_wp2
    go_ret
    exact ⟨rfl, K.Kept.trans k0 kw⟩
  obtain ⟨v0, v1, v2, v3, v4, v5, v6, v7, v8⟩ := BoxN.at4 bx_v
  obtain ⟨f0, f1, f2, f3, f4, f5, f6, f7, f8⟩ := BoxN.at4 bx_f
  go_wp2_with fail
  refine (guardsMeet_i _ x y u Ag ng cg l x2 y2 u2 Bh nh dh l2 T X Y b hB hT hX hY (K.rd_own owng) (by omega) (K.rd_own ownh) (by omega)).mono ?_
  rintro e w3 ⟨Do, ko, jo, Eo, mo, io, rfl, hko, hmo, ownDo, ownEo, hxo, kk⟩
  replace owng := K.own_kept owng kk
  replace ownh := K.own_kept ownh kk
  replace bx_v := BoxN.kept bx_v kk
  replace bx_f := BoxN.kept bx_f kk
  replace kw := K.Kept.trans kw kk
  clear kk
  clear v0 v1 v2 v3 v4 v5 v6 v7 v8
  clear f0 f1 f2 f3 f4 f5 f6 f7 f8
  clear hxo
  have bx_p : BoxN (w3.alloc (.cells #[.int .i64 T, .slice Do ko jo, .slice Eo mo io] 30)) w3.heap.size (#[.int .i64 T, .slice Do ko jo, .slice Eo mo io] : Array Value).toList := BoxN.new w3 _ _
  have kk := kp1 w3 (.cells #[.int .i64 T, .slice Do ko jo, .slice Eo mo io] 30)
  replace owng := K.own_kept owng kk
  replace ownh := K.own_kept ownh kk
  replace ownDo := K.own_kept ownDo kk
  replace ownEo := K.own_kept ownEo kk
  replace bx_v := BoxN.kept bx_v kk
  replace bx_f := BoxN.kept bx_f kk
  replace kw := K.Kept.trans kw kk
  generalize hww4 : w3.alloc (.cells #[.int .i64 T, .slice Do ko jo, .slice Eo mo io] 30) = w4 at owng ownh ownDo ownEo bx_v bx_f bx_p kw kk
  clear kk
  obtain ⟨v0, v1, v2, v3, v4, v5, v6, v7, v8⟩ := BoxN.at4 bx_v
  obtain ⟨f0, f1, f2, f3, f4, f5, f6, f7, f8⟩ := BoxN.at4 bx_f
  obtain ⟨p0, p1, p2, p3, p4, p5, p6⟩ := BoxN.at3 bx_p
  go_wp2_with fail
  refine (guardsMeet_s _ x y u Ag ng cg l x2 y2 u2 Bh nh dh l2 T X Y b hB hT hX hY (K.rd_own owng) (by omega) (K.rd_own ownh) (by omega)).mono ?_
  rintro e w5 ⟨Dq, kq, jq, Eq, mq, iq, rfl, hkq, hmq, ownDq, ownEq, hxq, kk⟩
  replace owng := K.own_kept owng kk
  replace ownh := K.own_kept ownh kk
  replace ownDo := K.own_kept ownDo kk
  replace ownEo := K.own_kept ownEo kk
  replace bx_v := BoxN.kept bx_v kk
  replace bx_f := BoxN.kept bx_f kk
  replace bx_p := BoxN.kept bx_p kk
  replace kw := K.Kept.trans kw kk
  clear kk
  clear v0 v1 v2 v3 v4 v5 v6 v7 v8
  clear f0 f1 f2 f3 f4 f5 f6 f7 f8
  clear p0 p1 p2 p3 p4 p5 p6
  clear hxq
  have bx_r : BoxN (w5.alloc (.cells #[.int .i64 T, .slice Dq kq jq, .slice Eq mq iq] 30)) w5.heap.size (#[.int .i64 T, .slice Dq kq jq, .slice Eq mq iq] : Array Value).toList := BoxN.new w5 _ _
  have kk := kp1 w5 (.cells #[.int .i64 T, .slice Dq kq jq, .slice Eq mq iq] 30)
  replace owng := K.own_kept owng kk
  replace ownh := K.own_kept ownh kk
  replace ownDo := K.own_kept ownDo kk
  replace ownEo := K.own_kept ownEo kk
  replace ownDq := K.own_kept ownDq kk
  replace ownEq := K.own_kept ownEq kk
  replace bx_v := BoxN.kept bx_v kk
  replace bx_f := BoxN.kept bx_f kk
  replace bx_p := BoxN.kept bx_p kk
  replace kw := K.Kept.trans kw kk
  generalize hww6 : w5.alloc (.cells #[.int .i64 T, .slice Dq kq jq, .slice Eq mq iq] 30) = w6 at owng ownh ownDo ownEo ownDq ownEq bx_v bx_f bx_p bx_r kw kk
  clear kk
  obtain ⟨v0, v1, v2, v3, v4, v5, v6, v7, v8⟩ := BoxN.at4 bx_v
  obtain ⟨f0, f1, f2, f3, f4, f5, f6, f7, f8⟩ := BoxN.at4 bx_f
  obtain ⟨p0, p1, p2, p3, p4, p5, p6⟩ := BoxN.at3 bx_p
  obtain ⟨r0, r1, r2, r3, r4, r5, r6⟩ := BoxN.at3 bx_r
  go_wp2_with fail
  refine (equalPoint_yes _ T Do ko jo Eo mo io Dq kq jq Eq mq iq X Y (K.rd_own ownDo) (K.rd_own ownEo) (K.rd_own ownDq) (K.rd_own ownEq) (by omega) (by omega) (by omega) (by omega)).mono ?_
  rintro e w7 ⟨rfl, kk⟩
  replace owng := K.own_kept owng kk
  replace ownh := K.own_kept ownh kk
  replace ownDo := K.own_kept ownDo kk
  replace ownEo := K.own_kept ownEo kk
  replace ownDq := K.own_kept ownDq kk
  replace ownEq := K.own_kept ownEq kk
  replace bx_v := BoxN.kept bx_v kk
  replace bx_f := BoxN.kept bx_f kk
  replace bx_p := BoxN.kept bx_p kk
  replace bx_r := BoxN.kept bx_r kk
  replace kw := K.Kept.trans kw kk
  clear kk
  clear v0 v1 v2 v3 v4 v5 v6 v7 v8
  clear f0 f1 f2 f3 f4 f5 f6 f7 f8
  clear p0 p1 p2 p3 p4 p5 p6
  clear r0 r1 r2 r3 r4 r5 r6
  obtain ⟨v0, v1, v2, v3, v4, v5, v6, v7, v8⟩ := BoxN.at4 bx_v
  obtain ⟨f0, f1, f2, f3, f4, f5, f6, f7, f8⟩ := BoxN.at4 bx_f
  obtain ⟨p0, p1, p2, p3, p4, p5, p6⟩ := BoxN.at3 bx_p
  obtain ⟨r0, r1, r2, r3, r4, r5, r6⟩ := BoxN.at3 bx_r
  go_wp2_with fail
  refine (validGuard_i _ x y u Ag ng cg l true q1 (K.rd_own owng) (by omega)).mono ?_
  rintro e w8 ⟨rfl, kk⟩
  replace owng := K.own_kept owng kk
  replace ownh := K.own_kept ownh kk
  replace ownDo := K.own_kept ownDo kk
  replace ownEo := K.own_kept ownEo kk
  replace ownDq := K.own_kept ownDq kk
  replace ownEq := K.own_kept ownEq kk
  replace bx_v := BoxN.kept bx_v kk
  replace bx_f := BoxN.kept bx_f kk
  replace bx_p := BoxN.kept bx_p kk
  replace bx_r := BoxN.kept bx_r kk
  replace kw := K.Kept.trans kw kk
  clear kk
  clear v0 v1 v2 v3 v4 v5 v6 v7 v8
  clear f0 f1 f2 f3 f4 f5 f6 f7 f8
  clear p0 p1 p2 p3 p4 p5 p6
  clear r0 r1 r2 r3 r4 r5 r6
  clear bx_r ownDq ownEq
  clear bx_p ownDo ownEo
  clear hB hT hX hY hkq hmq hko hmo LX LY
  have hB := gm_self q1
  have hT : gmT x y u x y u l l = x := by simp only [gmT, hB, if_true]; omega
  obtain ⟨X, hX⟩ : ∃ t, gmC x y u x y u l l = t := ⟨_, rfl⟩
  obtain ⟨Y, hY⟩ : ∃ t, gmK x y u x y u l l = t := ⟨_, rfl⟩
  have LX : X.length ≤ 4 := by rw [← hX]; exact gmC_len (by have := LL.out; omega)
  have LY : Y.length ≤ 9 := by rw [← hY]; exact gmK_len _ _ _ _ _ _ _ _
  have GA : gH x y l u x X Y = true := by obtain ⟨_, e1, e2, e3⟩ := gm_yes hB hB hT hX hY; rw [e2, e3]; have := gm_holds hB; rwa [← e1] at this
  have HL := Lib.hid (show Y.length = if u > 0 then 1 else 0 by obtain ⟨_, e1, e2, e3⟩ := gm_yes hB hB hT hX hY; rw [e3]; exact cp_self (vG_u q1))
  obtain ⟨v0, v1, v2, v3, v4, v5, v6, v7, v8⟩ := BoxN.at4 bx_v
  obtain ⟨f0, f1, f2, f3, f4, f5, f6, f7, f8⟩ := BoxN.at4 bx_f
  go_wp2_with fail
  refine (guardsMeet_i _ x y u Ag ng cg l x y u Ag ng cg l x X Y true hB hT hX hY (K.rd_own owng) (by omega) (K.rd_own owng) (by omega)).mono ?_
  rintro e w9 ⟨Dz, kz, jz, Ez, mz, iz, rfl, hkz, hmz, ownDz, ownEz, hxz, kk⟩
  replace owng := K.own_kept owng kk
  replace ownh := K.own_kept ownh kk
  replace bx_v := BoxN.kept bx_v kk
  replace bx_f := BoxN.kept bx_f kk
  replace kw := K.Kept.trans kw kk
  clear kk
  clear v0 v1 v2 v3 v4 v5 v6 v7 v8
  clear f0 f1 f2 f3 f4 f5 f6 f7 f8
  clear hxz hB hT hX hY
  have bx_z : BoxN (w9.alloc (.cells #[.int .i64 x, .slice Dz kz jz, .slice Ez mz iz] 30)) w9.heap.size (#[.int .i64 x, .slice Dz kz jz, .slice Ez mz iz] : Array Value).toList := BoxN.new w9 _ _
  have kk := kp1 w9 (.cells #[.int .i64 x, .slice Dz kz jz, .slice Ez mz iz] 30)
  replace owng := K.own_kept owng kk
  replace ownh := K.own_kept ownh kk
  replace ownDz := K.own_kept ownDz kk
  replace ownEz := K.own_kept ownEz kk
  replace bx_v := BoxN.kept bx_v kk
  replace bx_f := BoxN.kept bx_f kk
  replace kw := K.Kept.trans kw kk
  generalize hww10 : w9.alloc (.cells #[.int .i64 x, .slice Dz kz jz, .slice Ez mz iz] 30) = w10 at owng ownh ownDz ownEz bx_v bx_f bx_z kw kk
  clear kk
  have exx : (x == x) = true := by simp
  by_cases hu : 0 < u
  · have hm1 : mz = 1 := by have := HL.out; rw [if_pos hu] at this; omega
    subst hm1
    clear HL
    obtain ⟨v0, v1, v2, v3, v4, v5, v6, v7, v8⟩ := BoxN.at4 bx_v
    obtain ⟨f0, f1, f2, f3, f4, f5, f6, f7, f8⟩ := BoxN.at4 bx_f
    obtain ⟨z0, z1, z2, z3, z4, z5, z6⟩ := BoxN.at3 bx_z
    go_wp2_with fail
    refine (guardHolds_i _ x y u Ag ng cg l x Dz kz jz X Ez 1 iz Y true GA (K.rd_own owng) (by omega) (K.rd_own ownDz) (by omega) (K.rd_own ownEz) (by omega)).mono ?_
    rintro e w11 ⟨rfl, kk⟩
    replace owng := K.own_kept owng kk
    replace ownh := K.own_kept ownh kk
    replace ownDz := K.own_kept ownDz kk
    replace ownEz := K.own_kept ownEz kk
    replace bx_v := BoxN.kept bx_v kk
    replace bx_f := BoxN.kept bx_f kk
    replace bx_z := BoxN.kept bx_z kk
    replace kw := K.Kept.trans kw kk
    clear kk
    clear v0 v1 v2 v3 v4 v5 v6 v7 v8
    clear f0 f1 f2 f3 f4 f5 f6 f7 f8
    clear z0 z1 z2 z3 z4 z5 z6
    go_wp2
    go_ret
    exact ⟨rfl, K.Kept.trans k0 kw⟩
  have hm1 : mz = 0 := by have := HL.out; rw [if_neg (by omega)] at this; omega
  subst hm1
  clear HL
  obtain ⟨v0, v1, v2, v3, v4, v5, v6, v7, v8⟩ := BoxN.at4 bx_v
  obtain ⟨f0, f1, f2, f3, f4, f5, f6, f7, f8⟩ := BoxN.at4 bx_f
  obtain ⟨z0, z1, z2, z3, z4, z5, z6⟩ := BoxN.at3 bx_z
  go_wp2_with fail
  refine (guardHolds_i _ x y u Ag ng cg l x Dz kz jz X Ez 0 iz Y true GA (K.rd_own owng) (by omega) (K.rd_own ownDz) (by omega) (K.rd_own ownEz) (by omega)).mono ?_
  rintro e w11 ⟨rfl, kk⟩
  replace owng := K.own_kept owng kk
  replace ownh := K.own_kept ownh kk
  replace ownDz := K.own_kept ownDz kk
  replace ownEz := K.own_kept ownEz kk
  replace bx_v := BoxN.kept bx_v kk
  replace bx_f := BoxN.kept bx_f kk
  replace bx_z := BoxN.kept bx_z kk
  replace kw := K.Kept.trans kw kk
  clear kk
  clear v0 v1 v2 v3 v4 v5 v6 v7 v8
  clear f0 f1 f2 f3 f4 f5 f6 f7 f8
  clear z0 z1 z2 z3 z4 z5 z6
  go_wp2
  go_ret
  exact ⟨rfl, K.Kept.trans k0 kw⟩
end C
end Go.Proofs.Ytapjlbcpfemeiaa

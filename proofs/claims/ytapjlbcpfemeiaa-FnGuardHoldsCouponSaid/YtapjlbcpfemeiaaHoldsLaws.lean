/-
  The laws of GuardHolds, for every code. Conditions: none.
-/
import Derived.Test.YtapjlbcpfemeiaaPointLaws
import Derived.Test.YtapjlbcpfemeiaaDrawH
namespace Go.Proofs.Ytapjlbcpfemeiaa
open Go.RowKit
namespace C

theorem gH_parts {x y u t : Int} {l : List (Int × Int)} {cs co : List Int} (h : gH x y l u t cs co = true) : vG x y l u = true ∧ vP t cs co = true ∧ wi t x y = true ∧ ins l cs = true ∧ (u == 0 || decide (u ∈ co)) = true := by
  unfold gH at h
  simp only [Bool.and_eq_true] at h
  exact ⟨h.1.1.1.1, h.1.1.1.2, h.1.1.2, h.1.2, h.2⟩
theorem ins_at {l : List (Int × Int)} {cs : List Int} (h : ins l cs = true) {k : Nat} {p q v : Int} (hx : l[k]? = some (p, q)) (hy : cs[k]? = some v) : wi v p q = true := by
  have := of_decide_eq_true h k (List.getElem?_eq_some_iff.1 hx).1
  rwa [getD_l hx, getD_i hy] at this
set_option maxRecDepth 100000 in
set_option maxHeartbeats 4000000 in
theorem guardHoldsLaw (w : World) (n c : Nat) (A : Option Addr) (h : Code w w.heap.size A n c) : Calls Try.prog 3 #[.slice A n c] w fun e w' => e = .returned (.bool true) ∧ Below w.heap.size w w' := by
  by_cases hn : 1048576 < n
  · go_enter Try.func3, Try.ntmps3
    go_wp2
    go_ret
    exact ⟨rfl, Below.refl _ _⟩
  have hc := h
  unfold Code maxLen at hc
  have hn' : n ≤ 1048576 := by omega
  clear hc hn
  go_enter Try.func3, Try.ntmps3
  go_wp2_with fail
  refine (drawGuardHolds_c w n c A h).mono ?_
  rintro e w1 ⟨x, y, u, Ag, ng, cg, l, t, D, nd, cd, cs, E, ne, ce, co, rfl, hb3, owng, rD, rE, k0⟩
  clear h
  have HD := Lib.hid rD
  have HE := Lib.hid rE
  have LL := Lib.hid (show l.length = ng by have := owng.1; rw [K.prs_len] at this; omega)
  have LD := Lib.hid (K.IR.len rD)
  have LE := Lib.hid (K.IR.len rE)
  clear rD rE
  have kw := K.Kept.refl w1
  have bx_v : BoxN ((w1.alloc (.cells #[.int .i64 x, .int .i64 y, .slice Ag ng cg, .int .i64 u] 27)).alloc (.cells #[.int .i64 t, .slice D nd cd, .slice E ne ce] 30)) w1.heap.size (#[.int .i64 x, .int .i64 y, .slice Ag ng cg, .int .i64 u] : Array Value).toList := (BoxN.new w1 _ _).kept (kp1 _ _)
  have bx_p : BoxN ((w1.alloc (.cells #[.int .i64 x, .int .i64 y, .slice Ag ng cg, .int .i64 u] 27)).alloc (.cells #[.int .i64 t, .slice D nd cd, .slice E ne ce] 30)) (w1.heap.size + 1) (#[.int .i64 t, .slice D nd cd, .slice E ne ce] : Array Value).toList := by have q := BoxN.new (w1.alloc (.cells #[.int .i64 x, .int .i64 y, .slice Ag ng cg, .int .i64 u] 27)) #[.int .i64 t, .slice D nd cd, .slice E ne ce] 30; rwa [show (w1.alloc (.cells #[.int .i64 x, .int .i64 y, .slice Ag ng cg, .int .i64 u] 27)).heap.size = w1.heap.size + 1 by simp] at q
  have kk : K.Kept w1 ((w1.alloc (.cells #[.int .i64 x, .int .i64 y, .slice Ag ng cg, .int .i64 u] 27)).alloc (.cells #[.int .i64 t, .slice D nd cd, .slice E ne ce] 30)) := K.Kept.trans (kp1 _ _) (kp1 _ _)
  replace owng := K.own_kept owng kk
  replace kw := K.Kept.trans kw kk
  generalize hw2 : ((w1.alloc (.cells #[.int .i64 x, .int .i64 y, .slice Ag ng cg, .int .i64 u] 27)).alloc (.cells #[.int .i64 t, .slice D nd cd, .slice E ne ce] 30)) = w2 at bx_v bx_p owng kw
  clear kk
  cases hB : gH x y l u t cs co
  case false =>
    obtain ⟨v0, v1, v2, v3, v4, v5, v6, v7, v8⟩ := BoxN.at4 bx_v
    obtain ⟨p0, p1, p2, p3, p4, p5, p6⟩ := BoxN.at3 bx_p
    go_wp2_with fail
    refine (guardHolds_i _ x y u Ag ng cg l t D nd cd cs E ne ce co false hB (K.rd_own owng) (by omega) (rdw HD.out kw) (by omega) (rdw HE.out kw) (by omega)).mono ?_
    rintro e w3 ⟨rfl, kk⟩
    replace owng := K.own_kept owng kk
    replace bx_v := BoxN.kept bx_v kk
    replace bx_p := BoxN.kept bx_p kk
    replace kw := K.Kept.trans kw kk
    clear kk
    clear v0 v1 v2 v3 v4 v5 v6 v7 v8
    clear p0 p1 p2 p3 p4 p5 p6
    obtain ⟨v0, v1, v2, v3, v4, v5, v6, v7, v8⟩ := BoxN.at4 bx_v
    obtain ⟨p0, p1, p2, p3, p4, p5, p6⟩ := BoxN.at3 bx_p
    go_wp2_with fail
    refine (guardHolds_s _ x y u Ag ng cg l t D nd cd cs E ne ce co false hB (K.rd_own owng) (by omega) (rdw HD.out kw) (by omega) (rdw HE.out kw) (by omega)).mono ?_
    rintro e w4 ⟨rfl, kk⟩
    replace owng := K.own_kept owng kk
    replace bx_v := BoxN.kept bx_v kk
    replace bx_p := BoxN.kept bx_p kk
    replace kw := K.Kept.trans kw kk
    clear kk
    clear v0 v1 v2 v3 v4 v5 v6 v7 v8
    clear p0 p1 p2 p3 p4 p5 p6
    obtain ⟨v0, v1, v2, v3, v4, v5, v6, v7, v8⟩ := BoxN.at4 bx_v
    obtain ⟨p0, p1, p2, p3, p4, p5, p6⟩ := BoxN.at3 bx_p
    go_wp2_with fail
    refine (guardHolds_s _ x y u Ag ng cg l t D nd cd cs E ne ce co false hB (K.rd_own owng) (by omega) (rdw HD.out kw) (by omega) (rdw HE.out kw) (by omega)).mono ?_
    rintro e w5 ⟨rfl, kk⟩
    replace owng := K.own_kept owng kk
    replace bx_v := BoxN.kept bx_v kk
    replace bx_p := BoxN.kept bx_p kk
    replace kw := K.Kept.trans kw kk
    clear kk
    clear v0 v1 v2 v3 v4 v5 v6 v7 v8
    clear p0 p1 p2 p3 p4 p5 p6
    go_wp2
    go_ret
    exact ⟨rfl, K.Kept.trans k0 kw⟩
  obtain ⟨v0, v1, v2, v3, v4, v5, v6, v7, v8⟩ := BoxN.at4 bx_v
  obtain ⟨p0, p1, p2, p3, p4, p5, p6⟩ := BoxN.at3 bx_p
  go_wp2_with fail
  refine (guardHolds_i _ x y u Ag ng cg l t D nd cd cs E ne ce co true hB (K.rd_own owng) (by omega) (rdw HD.out kw) (by omega) (rdw HE.out kw) (by omega)).mono ?_
  rintro e w3 ⟨rfl, kk⟩
  replace owng := K.own_kept owng kk
  replace bx_v := BoxN.kept bx_v kk
  replace bx_p := BoxN.kept bx_p kk
  replace kw := K.Kept.trans kw kk
  clear kk
  clear v0 v1 v2 v3 v4 v5 v6 v7 v8
  clear p0 p1 p2 p3 p4 p5 p6
  obtain ⟨v0, v1, v2, v3, v4, v5, v6, v7, v8⟩ := BoxN.at4 bx_v
  obtain ⟨p0, p1, p2, p3, p4, p5, p6⟩ := BoxN.at3 bx_p
  go_wp2_with fail
  refine (guardHolds_s _ x y u Ag ng cg l t D nd cd cs E ne ce co true hB (K.rd_own owng) (by omega) (rdw HD.out kw) (by omega) (rdw HE.out kw) (by omega)).mono ?_
  rintro e w4 ⟨rfl, kk⟩
  replace owng := K.own_kept owng kk
  replace bx_v := BoxN.kept bx_v kk
  replace bx_p := BoxN.kept bx_p kk
  replace kw := K.Kept.trans kw kk
  clear kk
  clear v0 v1 v2 v3 v4 v5 v6 v7 v8
  clear p0 p1 p2 p3 p4 p5 p6
  obtain ⟨q1, q2, q3, q4, q5⟩ := gH_parts hB
  have n3 : ng = 3 := by have := vG_len q1; have := LL.out; omega
  have d3 : nd = 3 := by have := vP_len q2; have := LD.out; omega
  subst n3 d3
  clear hB hw2
  obtain ⟨v0, v1, v2, v3, v4, v5, v6, v7, v8⟩ := BoxN.at4 bx_v
  obtain ⟨p0, p1, p2, p3, p4, p5, p6⟩ := BoxN.at3 bx_p
  go_wp2_with fail
  clear v0 v1 v2 v3 v4 v5 v6 v7 v8
  clear p0 p1 p2 p3 p4 p5 p6
  have Hg := Lib.hid owng
  clear owng
  go_loopw [6] (fun i wr => ∃ k : Nat, k ≤ 3 ∧ i = .int .i64 k ∧ K.Kept w4 wr) (fun i _ => 3 - (intOf i).toNat)
  case atStart => exact ⟨0, Nat.zero_le _, rfl, Below.refl _ _⟩
  case round =>
    obtain ⟨k, hk, rfl, kr⟩ := hrel
    replace bx_v := bx_v.kept kr
    replace bx_p := bx_p.kept kr
    have HK := Lib.hid kr
    have kwr := K.Kept.trans kw kr
    have owng := K.own_kept Hg.out kr
    clear kr
    obtain ⟨v0, v1, v2, v3, v4, v5, v6, v7, v8⟩ := BoxN.at4 bx_v
    obtain ⟨p0, p1, p2, p3, p4, p5, p6⟩ := BoxN.at3 bx_p
    by_cases hlt : k < 3
    · obtain ⟨b, o, p, q, rfl, hb, c1, c2, hx⟩ := K.PR.cell (K.rd_own owng) hlt
      obtain ⟨b3, o3, v, rfl, hb3', d1, hy⟩ := K.IR.cell (rdw HD.out kwr) hlt
      have hi : (vsp p q && wi v p q) = true := by rw [vG_at q1 hx.out, ins_at q4 hx.out hy.out]; rfl
      have hki : (k : Int) < 3 := by omega
      have hd1 : decide ((3 : Int) ≤ (k : Int)) = false := by simp; omega
      have hd2 : decide (3 ≤ k) = false := by simp; omega
      go_wp2_with fail
      (have rg0 := cell_regrown v2; have rg1 := cell_regrown p1; have rg2 := cell_regrown c1; have rg3 := cell_regrown c2; have rg4 := cell_regrown d1; refine wp_region_quiet_below (by kernel_rfl) (by kernel_rfl) ?_; (repeat (go_big_quiet_step ((first | (go_at_call 17; exact Calls.regrown_of (inSpan_ig p q v true _ hi)))))); refine wpQuiet_nil ?_; intro wq hw2; have kwq := K.of_regrown hw2; clear hw2 rg0 rg1 rg2 rg3 rg4)
      go_wp2
      go_roundw
      case rel => exact ⟨k + 1, by omega, by go_num, K.Kept.trans HK.out kwq⟩
      case measure => simp [intOf]; omega
    · have hkn : k = 3 := by omega
      subst hkn
      have kw := kwr
      clear kwr
      have GA := gH_alw q2
      have hti : (vsp x y && wi t x y) = true := by rw [vG_vsp q1, q3]; rfl
      by_cases hu : u = 0
      · have hu' : (u == 0) = true := by simp [hu]
        clear hu q5
        go_wp2_with fail
        clear v0 v1 v2 v3 v4 v5 v6 v7 v8
        clear p0 p1 p2 p3 p4 p5 p6
        obtain ⟨v0, v1, v2, v3, v4, v5, v6, v7, v8⟩ := BoxN.at4 bx_v
        obtain ⟨p0, p1, p2, p3, p4, p5, p6⟩ := BoxN.at3 bx_p
        replace kw := K.Kept.trans kw (kdrew _)
        replace owng := K.own_kept owng (kdrew _)
        replace bx_v := BoxN.kept bx_v (kdrew _)
        replace bx_p := BoxN.kept bx_p (kdrew _)
        first | (go_region_with (first | (go_at_call 17; refine (inSpan_ig x y t true _ hti).mono ?_; rintro e wv ⟨rfl, kk⟩; replace owng := K.own_kept owng kk; replace bx_v := BoxN.kept bx_v kk; replace bx_p := BoxN.kept bx_p kk; replace kw := K.Kept.trans kw kk; clear kk; clear v0 v1 v2 v3 v4 v5 v6 v7 v8; clear p0 p1 p2 p3 p4 p5 p6; obtain ⟨v0, v1, v2, v3, v4, v5, v6, v7, v8⟩ := BoxN.at4 bx_v; obtain ⟨p0, p1, p2, p3, p4, p5, p6⟩ := BoxN.at3 bx_p) | (go_at_call 19; refine (always_c _).mono ?_; rintro e wv ⟨Aa, na, ca, rfl, hla, owna, kk⟩; replace owng := K.own_kept owng kk; replace bx_v := BoxN.kept bx_v kk; replace bx_p := BoxN.kept bx_p kk; replace kw := K.Kept.trans kw kk; clear kk; clear v0 v1 v2 v3 v4 v5 v6 v7 v8; clear p0 p1 p2 p3 p4 p5 p6; obtain ⟨v0, v1, v2, v3, v4, v5, v6, v7, v8⟩ := BoxN.at4 bx_v; obtain ⟨p0, p1, p2, p3, p4, p5, p6⟩ := BoxN.at3 bx_p) | (go_at_call 15; refine (guardHolds_i _ 0 1000000 0 Aa na ca alw t D 3 cd cs E ne ce co true GA (K.rd_own owna) (by have : alw.length = 3 := rfl; omega) (rdw HD.out kw) (by omega) (rdw HE.out kw) (by omega)).mono ?_; rintro e wv ⟨rfl, kk⟩; replace owng := K.own_kept owng kk; (try replace owna := K.own_kept owna kk); replace bx_v := BoxN.kept bx_v kk; replace bx_p := BoxN.kept bx_p kk; replace kw := K.Kept.trans kw kk; clear kk; clear v0 v1 v2 v3 v4 v5 v6 v7 v8; clear p0 p1 p2 p3 p4 p5 p6; obtain ⟨v0, v1, v2, v3, v4, v5, v6, v7, v8⟩ := BoxN.at4 bx_v; obtain ⟨p0, p1, p2, p3, p4, p5, p6⟩ := BoxN.at3 bx_p))) | fail
        all_goals go_wp2
        all_goals go_ret
        all_goals exact ⟨rfl, K.Kept.trans k0 kw⟩
      have hu' : (u == 0) = false := by simp [hu]
      have hm : decide (u ∈ co) = true := by rw [hu', Bool.false_or] at q5; exact q5
      clear hu q5
      go_wp2_with fail
      clear v0 v1 v2 v3 v4 v5 v6 v7 v8
      clear p0 p1 p2 p3 p4 p5 p6
      obtain ⟨v0, v1, v2, v3, v4, v5, v6, v7, v8⟩ := BoxN.at4 bx_v
      obtain ⟨p0, p1, p2, p3, p4, p5, p6⟩ := BoxN.at3 bx_p
      replace kw := K.Kept.trans kw (kdrew _)
      replace owng := K.own_kept owng (kdrew _)
      replace bx_v := BoxN.kept bx_v (kdrew _)
      replace bx_p := BoxN.kept bx_p (kdrew _)
      first | (go_region_held3 (fun w' => w'.cell? ⟨w1.heap.size, 0, none⟩ = some (.int .i64 x) ∧ w'.cell? ⟨w1.heap.size, 1, none⟩ = some (.int .i64 y) ∧ w'.cell? ⟨w1.heap.size, 2, none⟩ = some (.slice Ag 3 cg) ∧ w'.cell? ⟨w1.heap.size, 3, none⟩ = some (.int .i64 u) ∧ w'.cell? ⟨(w1.heap.size + 1), 0, none⟩ = some (.int .i64 t) ∧ w'.cell? ⟨(w1.heap.size + 1), 1, none⟩ = some (.slice D 3 cd) ∧ w'.cell? ⟨(w1.heap.size + 1), 2, none⟩ = some (.slice E ne ce)) (first | exact ⟨v0, v1, v2, v3, p0, p1, p2⟩ | go_keep) (first | (go_at_call 17; refine (inSpan_ig x y t true _ hti).mono ?_; rintro e wv ⟨rfl, kk⟩; replace owng := K.own_kept owng kk; replace bx_v := BoxN.kept bx_v kk; replace bx_p := BoxN.kept bx_p kk; replace kw := K.Kept.trans kw kk; clear kk; clear v0 v1 v2 v3 v4 v5 v6 v7 v8; clear p0 p1 p2 p3 p4 p5 p6; obtain ⟨v0, v1, v2, v3, v4, v5, v6, v7, v8⟩ := BoxN.at4 bx_v; obtain ⟨p0, p1, p2, p3, p4, p5, p6⟩ := BoxN.at3 bx_p) | (go_at_call 18; refine (isIn_l _ E ne ce co u true hm (rdw HE.out kw) (by omega)).mono ?_; rintro e wv ⟨rfl, kk⟩; replace owng := K.own_kept owng kk; replace bx_v := BoxN.kept bx_v kk; replace bx_p := BoxN.kept bx_p kk; replace kw := K.Kept.trans kw kk; clear kk; clear v0 v1 v2 v3 v4 v5 v6 v7 v8; clear p0 p1 p2 p3 p4 p5 p6; obtain ⟨v0, v1, v2, v3, v4, v5, v6, v7, v8⟩ := BoxN.at4 bx_v; obtain ⟨p0, p1, p2, p3, p4, p5, p6⟩ := BoxN.at3 bx_p) | (go_at_call 19; refine (always_c _).mono ?_; rintro e wv ⟨Aa, na, ca, rfl, hla, owna, kk⟩; replace owng := K.own_kept owng kk; replace bx_v := BoxN.kept bx_v kk; replace bx_p := BoxN.kept bx_p kk; replace kw := K.Kept.trans kw kk; clear kk; clear v0 v1 v2 v3 v4 v5 v6 v7 v8; clear p0 p1 p2 p3 p4 p5 p6; obtain ⟨v0, v1, v2, v3, v4, v5, v6, v7, v8⟩ := BoxN.at4 bx_v; obtain ⟨p0, p1, p2, p3, p4, p5, p6⟩ := BoxN.at3 bx_p) | (go_at_call 15; refine (guardHolds_i _ 0 1000000 0 Aa na ca alw t D 3 cd cs E ne ce co true GA (K.rd_own owna) (by have : alw.length = 3 := rfl; omega) (rdw HD.out kw) (by omega) (rdw HE.out kw) (by omega)).mono ?_; rintro e wv ⟨rfl, kk⟩; replace owng := K.own_kept owng kk; (try replace owna := K.own_kept owna kk); replace bx_v := BoxN.kept bx_v kk; replace bx_p := BoxN.kept bx_p kk; replace kw := K.Kept.trans kw kk; clear kk; clear v0 v1 v2 v3 v4 v5 v6 v7 v8; clear p0 p1 p2 p3 p4 p5 p6; obtain ⟨v0, v1, v2, v3, v4, v5, v6, v7, v8⟩ := BoxN.at4 bx_v; obtain ⟨p0, p1, p2, p3, p4, p5, p6⟩ := BoxN.at3 bx_p))) | fail
      all_goals go_wp2
      all_goals go_ret
      all_goals exact ⟨rfl, K.Kept.trans k0 kw⟩
end C
end Go.Proofs.Ytapjlbcpfemeiaa

/-
  Contracts of GroupCounts, of the program and of the reference. Conditions: lengths below 2^40.
-/
import Derived.Test.YtapjlbcpfemeiaaAmounts
import Derived.Test.YtapjlbcpfemeiaaPCart
import Derived.StillTailTactics
namespace Go.Proofs.Ytapjlbcpfemeiaa
open Go.RowKit
namespace C

/-- How many pieces of a group. -/
def gAt (sh : List K.Q4) (i : Int) (c : List (Int × Int)) : Int := Plain.wsum (fun a => if grp sh a = i then 1 else 0) c
def gc (sh : List K.Q4) (c : List (Int × Int)) : List Int := [gAt sh 0 c, gAt sh 1 c, gAt sh 2 c]
theorem gAt_snoc {sh : List K.Q4} {i : Int} {c : List (Int × Int)} {k : Nat} {a q : Int} (hx : c[k]? = some (a, q)) : gAt sh i (c.take (k + 1)) = gAt sh i (c.take k) + (if grp sh a = i then q else 0) := by
  rw [K.take_snoc hx]; unfold gAt; rw [Plain.wsum_snoc]; simp only; split <;> simp
theorem gAt_bound (sh : List K.Q4) (i : Int) : ∀ c : List (Int × Int), (∀ l ∈ c, 1 ≤ l.2 ∧ l.2 ≤ 20) → 0 ≤ gAt sh i c ∧ gAt sh i c ≤ 20 * c.length
  | [], _ => by simp [gAt, Plain.wsum]
  | x :: c, h => by
    have g := gAt_bound sh i c fun l hl => h l (by simp [hl])
    have hx := h x (by simp)
    have e : gAt sh i (x :: c) = (if grp sh x.1 = i then 1 else 0) * x.2 + gAt sh i c := rfl
    rw [e, List.length_cons]
    split <;> omega
theorem gc_step {sh : List K.Q4} {c : List (Int × Int)} {k g : Nat} {a q : Int} (h : vCart sh c = true) (hx : c[k]? = some (a, q)) (e : grp sh a = (g : Int)) (hg : (g : Int) ≤ 2) :
    ∃ v, (gc sh (c.take k))[g]? = some v ∧ (0 ≤ v ∧ v ≤ 160) ∧ (gc sh (c.take k)).set g (v + q) = gc sh (c.take (k + 1)) := by
  have hb := fun i => gAt_bound sh i (c.take k) fun l hl => ((vCart_parts h).2.1.1 l (List.mem_of_mem_take hl)).2
  have hl : (c.take k).length ≤ 8 := by have := (vCart_parts h).2.2; rw [List.length_take]; omega
  have hh : g = 0 ∨ g = 1 ∨ g = 2 := by omega
  unfold gc
  rw [gAt_snoc (i := 0) hx, gAt_snoc (i := 1) hx, gAt_snoc (i := 2) hx, e]
  rcases hh with rfl | rfl | rfl
  · exact ⟨_, rfl, by have := hb 0; omega, by simp⟩
  · exact ⟨_, rfl, by have := hb 1; omega, by simp⟩
  · exact ⟨_, rfl, by have := hb 2; omega, by simp⟩
def GC (sh : List K.Q4) (c : List (Int × Int)) : List Int := if vCart sh c = true then gc sh c else []
theorem GC_yes {sh : List K.Q4} {c : List (Int × Int)} (h : vCart sh c = true) : GC sh c = gc sh c := by rw [GC, if_pos h]
theorem GC_no {sh : List K.Q4} {c : List (Int × Int)} (h : vCart sh c = false) : GC sh c = [] := by rw [GC, h]; rfl
theorem NInv.put {w wr : World} {g0 n c : Nat} {out : List Int} (h : NInv w wr (some ⟨g0, 0, none⟩) n c out) (h0 : w.heap.size ≤ g0) (j : Nat) (x : Int) : NInv w (wr.setCell ⟨g0, j, none⟩ (.int .i64 x)) (some ⟨g0, 0, none⟩) n c (out.set j x) := by
  have s := (h.1.stored j (.int .i64 x)).1
  rw [map_set] at s
  exact ⟨s, h.2.setCell (p := ⟨g0, j, none⟩) h0 _⟩
theorem NInv.lit {w w1 : World} (k : K.Kept w w1) : NInv w (w1.alloc (.cells #[] 3)) (some ⟨w1.heap.size, 0, none⟩) 0 0 [] :=
  ⟨World.ownsRow_lit w1 #[] 0 k.size (by unfold maxLen; omega) rfl, K.Kept.trans k (kp1 _ _)⟩
theorem NInv.cell {w wr : World} {g0 n c : Nat} {out : List Int} (h : NInv w wr (some ⟨g0, 0, none⟩) n c out) {j : Nat} {x : Int} (hj : j < n) (hx : out[j]? = some x) : wr.cell? ⟨g0, j, none⟩ = some (.int .i64 x) ∧ wr.frozen? ⟨g0, j, none⟩ = false := by
  have c1 := h.1.cellAt j (by omega)
  rw [List.getElem?_map, hx] at c1
  exact ⟨c1, h.1.frozenAt j⟩
set_option maxRecDepth 100000 in
set_option maxHeartbeats 2000000 in
theorem groupCounts_core (w : World) (A : Option Addr) (n c : Nat) (sh : List K.Q4) (B : Option Addr) (m d : Nat) (ls : List (Int × Int)) (hv : vCart sh ls = true) (h : K.QR w w.heap.size A n sh) (h2 : K.PR w w.heap.size B m ls) : Calls Try.prog 63 #[.slice A n c, .slice B m d] w (Fresh w (gc sh ls)) := by
  obtain ⟨i0, hi, hz0, hz1, hz2⟩ := info_parts info_int
  have SL := Lib.hid (K.QR.len h)
  have CL := Lib.hid (K.PR.len h2)
  have HV := Lib.hid hv
  have hm8 : m ≤ 8 := by have := (vCart_parts hv).2.2; have := CL.out; omega
  have hn10 : n ≤ 10 := by have := (vCart_parts hv).1.2.2; have := SL.out; omega
  have k0 := K.Kept.refl w
  clear hv
  go_enter Try.func63, Try.ntmps63
  go_wp2_with (at_make; refine wpList_make_full _ rfl _ _ 28 rfl w.heap.size 3 i0 (.int .i64 0) 1 Try.underlying28 hi hz0 hz1 _ _ _ _ 3 rfl rfl rfl rfl (by rw [hz2]; omega) (by unfold maxLen; omega) (k0.size) ?_)
  intro w5 own5 hg5
  have I5 : NInv w w5 (some ⟨w.heap.size, 0, none⟩) 3 3 (gc sh (ls.take 0)) := ⟨by rw [toList_madeCells_one] at own5; exact own5, k0.grown hg5 (k0.size) (by intro i hi; cases hi)⟩
  have z1 := (k0).size
  clear own5 hg5 hi hz0 hz1 hz2
  clear k0
  go_wp2_with fail
  go_loopw [6] (fun i wr => ∃ k : Nat, k ≤ m ∧ i = .int .i64 k ∧ NInv w wr (some ⟨w.heap.size, 0, none⟩) 3 3 (gc sh (ls.take k))) (fun i _ => m - (intOf i).toNat)
  case atStart => exact ⟨0, Nat.zero_le _, rfl, I5⟩
  case round =>
    clear I5
    obtain ⟨k, hk, rfl, I⟩ := hrel
    by_cases hlt : k < m
    · obtain ⟨b, o, a, q, rfl, hb, c1, c2, hx⟩ := K.PR.cell (K.Rd.below h2 I.2) hlt
      obtain ⟨j, rfl, hj, hq, p, g, r, t, hs, hp, hg0, ep, eg⟩ := line_at HV.out SL.out hx.out
      obtain ⟨G, rfl⟩ := Int.eq_ofNat_of_zero_le hg0.1
      have hG : G < 3 := by omega
      obtain ⟨v, hv1, hv2, hset⟩ := gc_step HV.out hx.out eg hg0.2
      have IX := I
      obtain ⟨b', o', p', g', r', t', rfl, hb', s1, s2, s3, s4, hs'⟩ := K.QR.cell (K.Rd.below h IX.2) hj
      have e4 : (p', g', r', t') = (p, (G : Int), r, t) := Option.some.inj (hs'.out.symm.trans hs)
      injection e4 with e41 e42
      injection e42 with e43 e44
      subst e43
      have HS := Lib.hid hset
      have W1 : IntKind.i64.wrap (v + q) = v + q := by rw [IntKind.wrap_i64]; omega
      have W2 : IntKind.i64.wrap (q + v) = q + v := by rw [IntKind.wrap_i64]; omega
      have j1 : (j : Int) < (n : Int) := by omega
      have j2 : (G : Int) < 3 := by omega
      obtain ⟨y1, y2⟩ := IX.cell hG hv1
      have ID := Lib.hid (IX.kept (kdrew _))
      have y3 : wr.drew.cell? ⟨w.heap.size, G, none⟩ = some (.int .i64 v) := y1
      have y4 : wr.drew.frozen? ⟨w.heap.size, G, none⟩ = false := y2
      clear s1 s3 s4 hs hs' e41 e44 ep eg I IX hset hv1
      go_wp2_with fail
      go_still_tail 13, (by kernel_rfl)
      change wpList _ _ _ _ _ wr.drew
      clear y1 y2 s2 c1 c2
      generalize wr.drew = we at ID y3 y4 ⊢
      have IE := Lib.hid (ID.out.put z1 G (v + q))
      clear ID
      go_wp2
      go_roundw
      case rel => exact ⟨k + 1, by omega, by go_num, by rw [← HS.out]; exact IE.out⟩
      case measure => simp [intOf]; omega
    · have hkn : m = k := by omega
      subst hkn
      rw [K.take_all CL.out] at I
      have HI := Lib.hid I
      clear I
      go_wp2
      go_ret
      exact ⟨_, _, _, rfl, rfl, HI.out.1, HI.out.2⟩
set_option maxRecDepth 100000 in
set_option maxHeartbeats 2000000 in
theorem groupCounts_i (w : World) (A : Option Addr) (n c : Nat) (sh : List K.Q4) (B : Option Addr) (m d : Nat) (ls : List (Int × Int)) (h : K.QR w w.heap.size A n sh) (hn : n ≤ 1099511627776) (h2 : K.PR w w.heap.size B m ls) (hm : m ≤ 1099511627776) : Calls Try.prog 26 #[.slice A n c, .slice B m d] w (Fresh w (GC sh ls)) := by
  cases hv : vCart sh ls
  · rw [GC_no hv]
    go_enter Try.func26, Try.ntmps26
    go_wp2_with fail
    refine (validCart_i w A n c sh B m d ls false hv h hn h2 hm).mono ?_
    rintro e w1 ⟨rfl, k1⟩
    have I1 := Lib.hid (NInv.lit k1)
    go_wp2
    go_ret
    exact ⟨_, _, _, rfl, rfl, I1.out.1, I1.out.2⟩
  · rw [GC_yes hv]
    obtain ⟨i0, hi, hz0, hz1, hz2⟩ := info_parts info_int
    have SL := Lib.hid (K.QR.len h)
    have CL := Lib.hid (K.PR.len h2)
    have HV := Lib.hid hv
    have hm8 : m ≤ 8 := by have := (vCart_parts hv).2.2; have := CL.out; omega
    have hn10 : n ≤ 10 := by have := (vCart_parts hv).1.2.2; have := SL.out; omega
    go_enter Try.func26, Try.ntmps26
    go_wp2_with fail
    refine (validCart_i w A n c sh B m d ls true hv h hn h2 hm).mono ?_
    rintro e w1 ⟨rfl, k1⟩
    clear hv
    go_wp2_with (at_make; refine wpList_make_full _ rfl _ _ 28 rfl w.heap.size 3 i0 (.int .i64 0) 1 Try.underlying28 hi hz0 hz1 _ _ _ _ 3 rfl rfl rfl rfl (by rw [hz2]; omega) (by unfold maxLen; omega) (k1.size) ?_)
    intro w5 own5 hg5
    have I5 : NInv w w5 (some ⟨w1.heap.size, 0, none⟩) 3 3 (gc sh (ls.take 0)) := ⟨by rw [toList_madeCells_one] at own5; exact own5, k1.grown hg5 (k1.size) (by intro i hi; cases hi)⟩
    have z1 := (k1).size
    generalize w1.heap.size = g0 at I5 z1 ⊢
    clear own5 hg5 hi hz0 hz1 hz2
    clear k1
    go_wp2_with fail
    go_loopw [16] (fun i wr => ∃ k : Nat, k ≤ m ∧ i = .int .i64 k ∧ NInv w wr (some ⟨g0, 0, none⟩) 3 3 (gc sh (ls.take k))) (fun i _ => m - (intOf i).toNat)
    case atStart => exact ⟨0, Nat.zero_le _, rfl, I5⟩
    case round =>
      clear I5
      obtain ⟨k, hk, rfl, I⟩ := hrel
      by_cases hlt : k < m
      · obtain ⟨b, o, a, q, rfl, hb, c1, c2, hx⟩ := K.PR.cell (K.Rd.below h2 I.2) hlt
        obtain ⟨j, rfl, hj, hq, p, g, r, t, hs, hp, hg0, ep, eg⟩ := line_at HV.out SL.out hx.out
        obtain ⟨G, rfl⟩ := Int.eq_ofNat_of_zero_le hg0.1
        have hG : G < 3 := by omega
        obtain ⟨v, hv1, hv2, hset⟩ := gc_step HV.out hx.out eg hg0.2
        have x0 := Box2.new wr (.int .i64 (j : Int)) (.int .i64 q) 86
        have IX := I.kept (kp1 wr (.cells #[.int .i64 (j : Int), .int .i64 q] 86))
        generalize hwx : wr.alloc (.cells #[.int .i64 (j : Int), .int .i64 q] 86) = wx at x0 IX
        obtain ⟨x1, x2, x3, x4, x5⟩ := id x0
        obtain ⟨b', o', p', g', r', t', rfl, hb', s1, s2, s3, s4, hs'⟩ := K.QR.cell (K.Rd.below h IX.2) hj
        have e4 : (p', g', r', t') = (p, (G : Int), r, t) := Option.some.inj (hs'.out.symm.trans hs)
        injection e4 with e41 e42
        injection e42 with e43 e44
        subst e43
        have HS := Lib.hid hset
        have W1 : IntKind.i64.wrap (v + q) = v + q := by rw [IntKind.wrap_i64]; omega
        have W2 : IntKind.i64.wrap (q + v) = q + v := by rw [IntKind.wrap_i64]; omega
        have j1 : (j : Int) < (n : Int) := by omega
        have j2 : (G : Int) < 3 := by omega
        obtain ⟨y1, y2⟩ := IX.cell hG hv1
        have ID := Lib.hid (IX.kept (kdrew _))
        have y3 : wx.drew.cell? ⟨g0, G, none⟩ = some (.int .i64 v) := y1
        have y4 : wx.drew.frozen? ⟨g0, G, none⟩ = false := y2
        clear s1 s3 s4 hs hs' e41 e44 ep eg I IX hset hv1
        go_wp2_with fail
        go_still_tail 13, (by kernel_rfl)
        change wpList _ _ _ _ _ wx.drew
        clear y1 y2 s2 c1 c2 x1 x2 x3 x4 x5 x0 hwx
        generalize wx.drew = we at ID y3 y4 ⊢
        have IE := Lib.hid (ID.out.put z1 G (v + q))
        clear ID
        go_wp2
        go_roundw
        case rel => exact ⟨k + 1, by omega, by go_num, by rw [← HS.out]; exact IE.out⟩
        case measure => simp [intOf]; omega
      · have hkn : m = k := by omega
        subst hkn
        rw [K.take_all CL.out] at I
        have HI := Lib.hid I
        clear I
        go_wp2
        go_ret
        exact ⟨_, _, _, rfl, rfl, HI.out.1, HI.out.2⟩
end C
end Go.Proofs.Ytapjlbcpfemeiaa

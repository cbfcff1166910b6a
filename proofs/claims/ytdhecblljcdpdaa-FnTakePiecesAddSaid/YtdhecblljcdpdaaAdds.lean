/-
  Contracts of AddPieces, of the program and of the reference. Conditions: lengths below 2^40.
-/
import Derived.Test.YtdhecblljcdpdaaPieces
namespace Go.Proofs.Ytdhecblljcdpdaa
open Go.RowKit
namespace C

def adOk (sh : List K.Q4) (c : List (Int × Int)) (a z : Int) : Bool := vCart sh c && wi a 0 (sh.length - 1) && wi z 1 20 && vCart sh (Plain.addL c a z)
def adL (sh : List K.Q4) (c : List (Int × Int)) (a z : Int) : List (Int × Int) := if adOk sh c a z = true then Plain.addL c a z else []
section
variable {sh : List K.Q4} {c out : List (Int × Int)} {a z p q m : Int} {k n : Nat} {b : Bool}
theorem adOk_no1 (h : vCart sh c = false) : adOk sh c a z = false := by rw [adOk, h]; rfl
theorem adOk_no2 (hn : sh.length = n) (h : wi a 0 ((n : Int) - 1) = false) : adOk sh c a z = false := by rw [adOk, hn, h]; simp
theorem adOk_no3 (h : wi z 1 20 = false) : adOk sh c a z = false := by rw [adOk, h]; simp
theorem adOk_eq (h : vCart sh c = true) (hn : sh.length = n) (h1 : wi a 0 ((n : Int) - 1) = true) (h2 : wi z 1 20 = true) : adOk sh c a z = vCart sh (Plain.addL c a z) := by rw [adOk, h, hn, h1, h2]; simp
theorem adL_no (h : adOk sh c a z = false) : adL sh c a z = [] := by rw [adL, h]; rfl
theorem adL_yes (h : adOk sh c a z = true) : adL sh c a z = Plain.addL c a z := by rw [adL, if_pos h]
/-- The program's loop so far. -/
def AF (c : List (Int × Int)) (a z : Int) (k : Nat) (out : List (Int × Int)) (b : Bool) : Prop := (c.take k).foldl (Plain.astep a z) ([], false) = (out, b)
theorem AF.start : AF c a z 0 [] false := rfl
theorem AF.ins (h : AF c a z k out false) (hx : c[k]? = some (p, q)) (hp : a < p) : AF c a z (k + 1) (out ++ [(a, z)] ++ [(p, q)]) true := by
  unfold AF at *
  rw [K.take_snoc hx, List.foldl_append, h]
  simp [Plain.astep, hp, show ¬ p = a by omega]
theorem AF.same (h : AF c a z k out b) (hx : c[k]? = some (p, q)) (hp : p = a) : AF c a z (k + 1) (out ++ [(p, q + z)]) true := by
  unfold AF at *
  rw [K.take_snoc hx, List.foldl_append, h]
  simp [Plain.astep, hp]
theorem AF.more (h : AF c a z k out b) (hx : c[k]? = some (p, q)) (hp : p ≠ a) (hi : ¬ (a < p ∧ b = false)) : AF c a z (k + 1) (out ++ [(p, q)]) b := by
  unfold AF at *
  rw [K.take_snoc hx, List.foldl_append, h]
  simp only [List.foldl_cons, List.foldl_nil, Plain.astep]
  rw [if_neg hi, if_neg hp]
theorem AF.fin1 (hn : c.length = n) (hc : Plain.Ct m c) (h : AF c a z n out true) : out = Plain.addL c a z := by
  unfold AF at h
  have := Plain.afold a z c [] hc.2
  rw [K.take_all hn] at h
  rw [h] at this
  simpa [Plain.aend] using this
theorem AF.fin0 (hn : c.length = n) (hc : Plain.Ct m c) (h : AF c a z n out false) : out ++ [(a, z)] = Plain.addL c a z := by
  unfold AF at h
  have := Plain.afold a z c [] hc.2
  rw [K.take_all hn] at h
  rw [h] at this
  simpa [Plain.aend] using this
end
set_option maxHeartbeats 4000000 in
theorem addPieces_i (w : World) (A : Option Addr) (n c : Nat) (sh : List K.Q4) (B : Option Addr) (m d : Nat) (ls : List (Int × Int)) (a z : Int) (h : K.QR w w.heap.size A n sh) (hn : n ≤ 1099511627776) (h2 : K.PR w w.heap.size B m ls) (hm : m ≤ 1099511627776) : Calls Try.prog 33 #[.slice A n c, .slice B m d, .int .i64 a, .int .i64 z] w (PB w (adL sh ls a z) (adOk sh ls a z)) := by
  have hN := K.QR.len h
  have WN : IntKind.i64.wrap ((n : Int) - 1) = (n : Int) - 1 := by rw [IntKind.wrap_i64]; omega
  cases hv : vCart sh ls
  · rw [adOk_no1 hv, adL_no (adOk_no1 hv)]
    go_enter Try.func33, Try.ntmps33
    go_wp2_with fail
    refine (validCart_i w A n c sh B m d ls false hv h hn h2 hm).mono ?_
    rintro e w1 ⟨rfl, k1⟩
    go_wp2
    go_ret2
    exact PB.lit _ k1 rfl
  cases ha : wi a 0 ((n : Int) - 1)
  · rw [adOk_no2 hN ha, adL_no (adOk_no2 hN ha)]
    go_enter Try.func33, Try.ntmps33
    go_wp2_with fail
    refine (validCart_i w A n c sh B m d ls true hv h hn h2 hm).mono ?_
    rintro e w1 ⟨rfl, k1⟩
    go_wp2_with fail
    refine (within_cb _ _ _ false _ ha).mono ?_
    rintro e w2 ⟨rfl, rfl⟩
    go_wp2
    go_ret2
    exact PB.lit _ k1 rfl
  cases hz : wi z 1 20
  · rw [adOk_no3 hz, adL_no (adOk_no3 hz)]
    go_enter Try.func33, Try.ntmps33
    go_wp2_with fail
    refine (validCart_i w A n c sh B m d ls true hv h hn h2 hm).mono ?_
    rintro e w1 ⟨rfl, k1⟩
    go_wp2_with fail
    refine (within_cb _ _ _ true _ ha).mono ?_
    rintro e w2 ⟨rfl, rfl⟩
    go_wp2_with fail
    refine (within_cb _ _ _ false _ hz).mono ?_
    rintro e w2 ⟨rfl, rfl⟩
    go_wp2
    go_ret2
    exact PB.lit _ k1 rfl
  obtain ⟨i0, hi, hz0, hz1, hz2⟩ := info_parts infoLineP
  have CL := Lib.hid (K.PR.len h2)
  have HV := Lib.hid hv
  have CT := Lib.hid (vCart_parts hv).2.1
  have EK := Lib.hid (adOk_eq hv hN ha hz)
  have bz : 1 ≤ z ∧ z ≤ 20 := wi_true.1 hz
  have hm8 : m ≤ 8 := by have := (vCart_parts hv).2.2; have := CL.out; omega
  have HN := Lib.hid hN
  clear hN
  go_enter Try.func33, Try.ntmps33
  go_wp2_with fail
  refine (validCart_i w A n c sh B m d ls true hv h hn h2 hm).mono ?_
  rintro e w1 ⟨rfl, k1⟩
  have I1 := PInv.lit k1
  clear hv k1
  go_wp2_with fail
  refine (within_cb _ _ _ true _ ha).mono ?_
  rintro e w2 ⟨rfl, rfl⟩
  go_wp2_with fail
  refine (within_cb _ _ _ true _ hz).mono ?_
  rintro e w2 ⟨rfl, rfl⟩
  clear ha hz
  go_wp2_with fail
  go_loopw [10, 11, 35] (fun v s i wr => ∃ (k j c : Nat) (A' : Option Addr) (b : Bool) (out : List (Int × Int)), k ≤ m ∧ j ≤ 2 * k ∧ i = .int .i64 k ∧ v = .slice A' j c ∧ s = .bool b ∧ AF ls a z k out b ∧ PInv w wr A' j c out) (fun _ _ i _ => m - (intOf i).toNat)
  case atStart => exact ⟨0, 0, 0, _, false, [], Nat.zero_le _, by omega, rfl, rfl, rfl, AF.start, I1⟩
  case round =>
    clear I1
    obtain ⟨k, j, c', A', b, out, hk, hj, rfl, rfl, rfl, T, I⟩ := hrel
    by_cases hlt : k < m
    · obtain ⟨bb, o, p, q, rfl, hb, c1, c2, hx⟩ := K.PR.cell (K.Rd.below h2 I.2) hlt
      have hq : 1 ≤ q ∧ q ≤ 20 := (CT.out.1 _ (List.mem_of_getElem? hx.out)).2
      have x0 := Box2.new wr (.int .i64 p) (.int .i64 q) 37
      have IX := I.kept (kp1 wr (.cells #[.int .i64 p, .int .i64 q] 37))
      have zz := I.2.size
      generalize hwx : wr.alloc (.cells #[.int .i64 p, .int .i64 q] 37) = wx at x0 IX
      have zx := IX.2.size
      have lb := I.1.lt
      clear I
      obtain ⟨x1, x2, x3, x4, x5⟩ := id x0
      have o1 := IX.1
      by_cases hp : p = a
      · subst hp
        have W1 : IntKind.i64.wrap (q + z) = q + z := by rw [IntKind.wrap_i64]; omega
        have T1 := Lib.hid (T.same hx.out rfl)
        have IP := Lib.hid (IX.put zz (fun i hi => by have := (lb i hi).2; omega) (.int .i64 (q + z)))
        clear T
        go_wp2_with (at_builtin; refine app3 rfl _ _ 28 rfl w.heap.size 37 2 16 i0 (.agg #[.int .i64 0, .int .i64 0]) Try.underlying28 hi hz0 hz1 hz2 rfl (by decide) _ _ j _ (by rfl) IP.out.1 _ _ (by rfl) (by first | rfl | simp) (by rfl) (by rfl) (by unfold maxLen; omega) (by omega) (by first | omega | (simp; omega)) ?_; intro A3 c3 w3 own3 hg3 hn3)
        have IH := Lib.hid (IP.out.app own3 hg3)
        clear own3 hg3 hn3 IX IP o1 x1 x2 x3 x4 x5 x0 c1 c2
        go_wp2
        go_roundw
        case rel => exact ⟨k + 1, j + 1, c3, A3, true, _, by omega, by omega, by go_num, rfl, rfl, T1.out, IH.out⟩
        case measure => simp [intOf]; omega
      · by_cases hi' : a < p ∧ b = false
        · obtain ⟨hi1, rfl⟩ := hi'
          have T1 := Lib.hid (T.ins hx.out hi1)
          clear T
          go_wp2_with (first | ((at_builtin; refine app3 rfl _ _ 28 rfl w.heap.size 37 2 16 i0 (.agg #[.int .i64 0, .int .i64 0]) Try.underlying28 hi hz0 hz1 hz2 rfl (by decide) _ _ (j) _ (by rfl) o1 _ _ (by rfl) (by first | rfl | simp) (by rfl) (by rfl) (by unfold maxLen; omega) (by omega) (by first | omega | (simp; omega)) ?_; intro A3 c3 w3 own3 hg3 hn3); have I3 := IX.app own3 hg3; obtain ⟨y1, y2, y3, y4, y5⟩ := x0.grown hg3 (fun e => by have := (lb _ e).2; omega); have o3 := I3.1; have z3 := I3.2.size; clear own3 hn3 hg3) | ((at_builtin; refine app3 rfl _ _ 28 rfl w.heap.size 37 2 16 i0 (.agg #[.int .i64 0, .int .i64 0]) Try.underlying28 hi hz0 hz1 hz2 rfl (by decide) _ _ (j + 1) _ (by rfl) o3 _ _ (by rfl) (by first | rfl | simp) (by rfl) (by rfl) (by unfold maxLen; omega) (by omega) (by first | omega | (simp; omega)) ?_; intro A5 c5 w5 own5 hg5 hn5)))
          have IH := Lib.hid (I3.app own5 hg5)
          clear own5 hg5 hn5 IX I3 o1 o3 x1 x2 x3 x4 x5 y1 y2 y3 y4 y5 x0 c1 c2
          go_wp2
          go_roundw
          case rel => exact ⟨k + 1, j + 1 + 1, c5, A5, true, _, by omega, by omega, by go_num, rfl, rfl, T1.out, IH.out⟩
          case measure => simp [intOf]; omega
        · have T1 := Lib.hid (T.more hx.out hp hi')
          clear T
          have hi2 : (a < p ∧ b = true) ∨ (p < a) := by cases b <;> simp at hi' ⊢ <;> omega
          clear hi'
          rcases hi2 with ⟨hi2, rfl⟩ | hi2
          all_goals
            go_wp2_with (at_builtin; refine app3 rfl _ _ 28 rfl w.heap.size 37 2 16 i0 (.agg #[.int .i64 0, .int .i64 0]) Try.underlying28 hi hz0 hz1 hz2 rfl (by decide) _ _ j _ (by rfl) o1 _ _ (by rfl) (by first | rfl | simp) (by rfl) (by rfl) (by unfold maxLen; omega) (by omega) (by first | omega | (simp; omega)) ?_; intro A3 c3 w3 own3 hg3 hn3)
            have IH := Lib.hid (IX.app own3 hg3)
            clear own3 hg3 hn3 IX o1 x1 x2 x3 x4 x5 x0 c1 c2
            go_wp2
            go_roundw
            case rel => exact ⟨k + 1, j + 1, c3, A3, _, _, by omega, by omega, by go_num, rfl, rfl, T1.out, IH.out⟩
            case measure => simp [intOf]; omega
    · have hkn : m = k := by omega
      subst hkn
      have zx := I.2.size
      cases b
      · have EA := Lib.hid (T.fin0 CL.out CT.out)
        have o1 := I.1
        go_wp2_with (at_builtin; refine app3 rfl _ _ 28 rfl w.heap.size 37 2 16 i0 (.agg #[.int .i64 0, .int .i64 0]) Try.underlying28 hi hz0 hz1 hz2 rfl (by decide) _ _ j _ (by rfl) o1 _ _ (by rfl) (by first | rfl | simp) (by rfl) (by rfl) (by unfold maxLen; omega) (by omega) (by first | omega | (simp; omega)) ?_; intro A3 c3 w3 own3 hg3 hn3)
        have I3 := I.app own3 hg3
        rw [EA.out] at I3
        have OW := Lib.hid I3.1
        have KW := Lib.hid I3.2
        clear I3 own3 hg3 hn3 o1 I T
        cases hV : vCart sh (Plain.addL ls a z)
        · have E := Lib.hid (EK.out.trans hV)
          go_wp2_with fail
          refine (validCart_i _ A n c sh _ _ _ (Plain.addL ls a z) false hV ((K.Rd.below h KW.out).more KW.out.size) hn (K.rd_own OW.out) (by omega)).mono ?_
          rintro e w9 ⟨rfl, k9⟩
          go_wp2
          go_ret2
          exact PB.of (PB.lit false (K.Kept.trans KW.out k9) rfl) (adL_no E.out).symm E.out.symm
        · have E := Lib.hid (EK.out.trans hV)
          go_wp2_with fail
          refine (validCart_i _ A n c sh _ _ _ (Plain.addL ls a z) true hV ((K.Rd.below h KW.out).more KW.out.size) hn (K.rd_own OW.out) (by omega)).mono ?_
          rintro e w9 ⟨rfl, k9⟩
          have HI := Lib.hid (PInv.kept ⟨OW.out, KW.out⟩ k9)
          go_wp2
          go_ret2
          exact PB.of (HI.out.res true) (adL_yes E.out).symm E.out.symm
      · have EA := Lib.hid (T.fin1 CL.out CT.out)
        rw [EA.out] at I
        have OW := Lib.hid I.1
        have KW := Lib.hid I.2
        clear I T
        cases hV : vCart sh (Plain.addL ls a z)
        · have E := Lib.hid (EK.out.trans hV)
          go_wp2_with fail
          refine (validCart_i _ A n c sh _ _ _ (Plain.addL ls a z) false hV ((K.Rd.below h KW.out).more KW.out.size) hn (K.rd_own OW.out) (by omega)).mono ?_
          rintro e w9 ⟨rfl, k9⟩
          go_wp2
          go_ret2
          exact PB.of (PB.lit false (K.Kept.trans KW.out k9) rfl) (adL_no E.out).symm E.out.symm
        · have E := Lib.hid (EK.out.trans hV)
          go_wp2_with fail
          refine (validCart_i _ A n c sh _ _ _ (Plain.addL ls a z) true hV ((K.Rd.below h KW.out).more KW.out.size) hn (K.rd_own OW.out) (by omega)).mono ?_
          rintro e w9 ⟨rfl, k9⟩
          have HI := Lib.hid (PInv.kept ⟨OW.out, KW.out⟩ k9)
          go_wp2
          go_ret2
          exact PB.of (HI.out.res true) (adL_yes E.out).symm E.out.symm
theorem fl_yes {f : Int × Int → Bool} {l : List (Int × Int)} {k : Nat} {x : Int × Int} (hx : l[k]? = some x) (h : f x = true) : (l.take (k + 1)).filter f = (l.take k).filter f ++ [x] := by
  rw [K.take_snoc hx, List.filter_append, List.filter_cons, if_pos h]; rfl
theorem fl_no {f : Int × Int → Bool} {l : List (Int × Int)} {k : Nat} {x : Int × Int} (hx : l[k]? = some x) (h : f x = false) : (l.take (k + 1)).filter f = (l.take k).filter f := by
  rw [K.take_snoc hx, List.filter_append, List.filter_cons, if_neg (by rw [h]; simp)]; simp
theorem cnt_snoc {l : List (Int × Int)} {k : Nat} {p q a : Int} (hx : l[k]? = some (p, q)) : Plain.cnt (l.take (k + 1)) a = Plain.cnt (l.take k) a + (if p = a then q else 0) := by
  rw [K.take_snoc hx]; unfold Plain.cnt; rw [Plain.wsum_snoc]; simp only [Plain.one]; split <;> simp
theorem cnt_bound (a : Int) : ∀ c : List (Int × Int), (∀ l ∈ c, 1 ≤ l.2 ∧ l.2 ≤ 20) → 0 ≤ Plain.cnt c a ∧ Plain.cnt c a ≤ 20 * c.length
  | [], _ => by simp [Plain.cnt, Plain.wsum]
  | x :: c, h => by
    have g := cnt_bound a c fun l hl => h l (by simp [hl])
    have hx := h x (by simp)
    rw [Plain.cnt_cons, List.length_cons]
    split <;> omega
/-- The state of the reference's first loop: a row of the call's own, the new line in a block of its own. -/
def QInv (w wr : World) (A : Option Addr) (j c : Nat) (out : List (Int × Int)) (x y : Int) : Prop := PInv w wr A j c out ∧ Box2 wr (w.heap.size + 1) (.int .i64 x) (.int .i64 y) ∧ ∀ i, (Value.slice A j c).ownBlock = some i → i ≠ w.heap.size + 1
theorem QInv.start (w : World) (x y : Int) : QInv w ((w.alloc (.cells #[] 37)).alloc (.cells #[.int .i64 x, .int .i64 y] 37)) (some ⟨w.heap.size, 0, none⟩) 0 0 [] x y := by
  have I := PInv.lit (K.Kept.refl w)
  have sz : (w.alloc (.cells #[] 37)).heap.size = w.heap.size + 1 := by simp
  refine ⟨I.kept (kp1 _ _), ?_, fun i hi => ?_⟩
  · rw [← sz]; exact Box2.new _ _ _ _
  · have := (I.1.lt i hi).2; omega
theorem QInv.kept {w wr w' : World} {A : Option Addr} {j c : Nat} {out : List (Int × Int)} {x y : Int} (h : QInv w wr A j c out x y) (k : K.Kept wr w') : QInv w w' A j c out x y := ⟨h.1.kept k, h.2.1.kept k, h.2.2⟩
theorem QInv.put {w wr : World} {A : Option Addr} {j c : Nat} {out : List (Int × Int)} {x y : Int} (h : QInv w wr A j c out x y) (u : Int) : QInv w (wr.setCell ⟨w.heap.size + 1, 1, none⟩ (.int .i64 u)) A j c out x u := by
  refine ⟨h.1.put (by omega) h.2.2 _, ?_, h.2.2⟩
  obtain ⟨d1, d2, d3, d4, d5⟩ := h.2.1
  refine ⟨?_, World.cell?_setCell_same _ _ _ d2, ?_, ?_, ?_⟩
  · rw [World.cell?_setCell_other _ _ _ _ (by simp)]; exact d1
  · simpa using d3
  · simpa using d4
  · simpa using d5
theorem QInv.app {w wr w3 : World} {A A3 : Option Addr} {j c c3 : Nat} {out : List (Int × Int)} {x y p q : Int} (h : QInv w wr A j c out x y) (h3 : w3.ownsRow w.heap.size 37 2 (.slice A3 (j + 1) c3) (j + 1) (K.prs out ++ [.int .i64 p, .int .i64 q])) (hg : wr.grownBy w3 (Value.slice A j c).ownBlock)
    (hn : ∀ i, (Value.slice A3 (j + 1) c3).ownBlock = some i → (Value.slice A j c).ownBlock = some i ∨ wr.heap.size < i) : QInv w w3 A3 (j + 1) c3 (out ++ [(p, q)]) x y := by
  have d5 := h.2.1.2.2.2.2
  refine ⟨h.1.app h3 hg, h.2.1.grown hg fun e => h.2.2 _ e rfl, fun i hi => ?_⟩
  rcases hn i hi with e | e
  · exact h.2.2 i e
  · omega
set_option maxHeartbeats 4000000 in
theorem addPieces_s (w : World) (A : Option Addr) (n c : Nat) (sh : List K.Q4) (B : Option Addr) (m d : Nat) (ls : List (Int × Int)) (a z : Int) (h : K.QR w w.heap.size A n sh) (hn : n ≤ 1099511627776) (h2 : K.PR w w.heap.size B m ls) (hm : m ≤ 1099511627776) : Calls Try.prog 34 #[.slice A n c, .slice B m d, .int .i64 a, .int .i64 z] w (PB w (adL sh ls a z) (adOk sh ls a z)) := by
  have hN := K.QR.len h
  have WN : IntKind.i64.wrap ((n : Int) - 1) = (n : Int) - 1 := by rw [IntKind.wrap_i64]; omega
  have I0 := QInv.start w a z
  have KA := I0.1.2
  generalize hw0 : (w.alloc (.cells #[] 37)).alloc (.cells #[.int .i64 a, .int .i64 z] 37) = w0 at I0 KA
  have h' := (K.Rd.below h KA).more KA.size
  have h2' := (K.Rd.below h2 KA).more KA.size
  cases hv : vCart sh ls
  · rw [adOk_no1 hv, adL_no (adOk_no1 hv)]
    cases hs : Plain.vShop sh
    · go_enter Try.func34, Try.ntmps34
      go_wp2_with fail
      refine (validShop_s w0 A n c sh h' hn).mono ?_
      rintro e w1 ⟨rfl, k1⟩
      go_wp2
      go_ret2
      exact PB.nil _ (K.Kept.trans KA k1)
    · have hl : Plain.vLines (n : Int) ls = false := by unfold vCart at hv; rw [hs, K.QR.len h] at hv; exact hv
      go_enter Try.func34, Try.ntmps34
      go_wp2_with fail
      refine (validShop_s w0 A n c sh h' hn).mono ?_
      rintro e w1 ⟨rfl, k1⟩
      go_wp2_with fail
      refine (lines_s w1 A n c hn B m d ls ((K.Rd.below h2' k1).more k1.size) hm).mono ?_
      rintro e w2 ⟨rfl, k2⟩
      go_wp2
      go_ret2
      exact PB.nil _ (K.Kept.trans KA (K.Kept.trans k1 k2))
  have hs : Plain.vShop sh = true := by have := hv; unfold vCart at this; rw [Bool.and_eq_true] at this; exact this.1
  have hl : Plain.vLines (n : Int) ls = true := by have := hv; unfold vCart at this; rw [Bool.and_eq_true, K.QR.len h] at this; exact this.2
  cases ha : wi a 0 ((n : Int) - 1)
  · rw [adOk_no2 hN ha, adL_no (adOk_no2 hN ha)]
    go_enter Try.func34, Try.ntmps34
    go_wp2_with fail
    refine (validShop_s w0 A n c sh h' hn).mono ?_
    rintro e w1 ⟨rfl, k1⟩
    go_wp2_with fail
    refine (lines_s w1 A n c hn B m d ls ((K.Rd.below h2' k1).more k1.size) hm).mono ?_
    rintro e w2 ⟨rfl, k2⟩
    replace k2 := K.Kept.trans k1 k2
    clear k1
    go_wp2_with fail
    refine (inRange_cb _ _ _ false _ ha).mono ?_
    rintro e wx ⟨rfl, rfl⟩
    go_wp2
    go_ret2
    exact PB.nil _ (K.Kept.trans KA k2)
  cases hz : wi z 1 20
  · rw [adOk_no3 hz, adL_no (adOk_no3 hz)]
    go_enter Try.func34, Try.ntmps34
    go_wp2_with fail
    refine (validShop_s w0 A n c sh h' hn).mono ?_
    rintro e w1 ⟨rfl, k1⟩
    go_wp2_with fail
    refine (lines_s w1 A n c hn B m d ls ((K.Rd.below h2' k1).more k1.size) hm).mono ?_
    rintro e w2 ⟨rfl, k2⟩
    replace k2 := K.Kept.trans k1 k2
    clear k1
    go_wp2_with fail
    refine (inRange_cb _ _ _ true _ ha).mono ?_
    rintro e wx ⟨rfl, rfl⟩
    go_wp2_with fail
    refine (inRange_cb _ _ _ false _ hz).mono ?_
    rintro e wx ⟨rfl, rfl⟩
    go_wp2
    go_ret2
    exact PB.nil _ (K.Kept.trans KA k2)
  obtain ⟨i0, hi, hz0, hz1, hz2⟩ := info_parts infoLineP
  have CL := Lib.hid (K.PR.len h2)
  have HV := Lib.hid hv
  have CT := Lib.hid (vCart_parts hv).2.1
  have EK := Lib.hid (adOk_eq hv hN ha hz)
  have bz : 1 ≤ z ∧ z ≤ 20 := wi_true.1 hz
  have hm8 : m ≤ 8 := by have := (vCart_parts hv).2.2; have := CL.out; omega
  have HN := Lib.hid hN
  clear hv
  go_enter Try.func34, Try.ntmps34
  go_wp2_with fail
  refine (validShop_s w0 A n c sh h' hn).mono ?_
  rintro e w1 ⟨rfl, k1⟩
  go_wp2_with fail
  refine (lines_s w1 A n c hn B m d ls ((K.Rd.below h2' k1).more k1.size) hm).mono ?_
  rintro e w2 ⟨rfl, k2⟩
  replace k2 := K.Kept.trans k1 k2
  clear k1
  go_wp2_with fail
  refine (inRange_cb _ _ _ true _ ha).mono ?_
  rintro e wx ⟨rfl, rfl⟩
  go_wp2_with fail
  refine (inRange_cb _ _ _ true _ hz).mono ?_
  rintro e wx ⟨rfl, rfl⟩
  have I1 := I0.kept k2
  clear I0 k2 h' h2' hw0 KA ha hz
  go_wp2_with fail
  clear hl hN
  go_loopw [10, 12] (fun v i wr => ∃ (k j c : Nat) (A' : Option Addr), k ≤ m ∧ j ≤ k ∧ i = .int .i64 k ∧ v = .slice A' j c ∧ QInv w wr A' j c ((ls.take k).filter (fun l => decide (l.1 < a))) a (z + Plain.cnt (ls.take k) a)) (fun _ i _ => m - (intOf i).toNat)
  case atStart => exact ⟨0, 0, 0, _, Nat.zero_le _, Nat.le_refl _, rfl, rfl, by simpa [Plain.cnt, Plain.wsum] using I1⟩
  case round =>
    clear I1
    obtain ⟨k, j, c', A', hk, hj, rfl, rfl, I⟩ := hrel
    by_cases hlt : k < m
    · obtain ⟨bb, o, p, q, rfl, hb, c1, c2, hx⟩ := K.PR.cell (K.Rd.below h2 I.1.2) hlt
      have hq : 1 ≤ q ∧ q ≤ 20 := (CT.out.1 _ (List.mem_of_getElem? hx.out)).2
      have zx := I.1.2.size
      have o1 := I.1.1
      obtain ⟨d1, d2, d3, d4, d5⟩ := id I.2.1
      have cb := cnt_bound a (ls.take k) fun l hl => (CT.out.1 _ (List.mem_of_mem_take hl)).2
      have cl : (ls.take k).length ≤ 8 := by rw [List.length_take]; omega
      rcases Int.lt_trichotomy p a with hp | hp | hp
      · have HF := Lib.hid (fl_yes (f := fun l => decide (l.1 < a)) hx.out (by simpa using hp))
        have HC := Lib.hid ((cnt_snoc (a := a) hx.out).trans (by rw [if_neg (by omega), Int.add_zero]))
        clear cb cl
        go_wp2_with (at_builtin; refine app3 rfl _ _ 28 rfl w.heap.size 37 2 16 i0 (.agg #[.int .i64 0, .int .i64 0]) Try.underlying28 hi hz0 hz1 hz2 rfl (by decide) _ _ j _ (by rfl) o1 _ _ (by rfl) (by first | rfl | simp) (by rfl) (by rfl) (by unfold maxLen; omega) (by omega) (by first | omega | (simp; omega)) ?_; intro A3 c3 w3 own3 hg3 hn3)
        have IH := Lib.hid (I.app own3 hg3 hn3)
        clear own3 hg3 hn3 I o1 c1 c2 d1 d2 d3 d4 d5
        go_wp2
        go_roundw
        case rel => exact ⟨k + 1, j + 1, c3, A3, by omega, by omega, by go_num, rfl, by rw [HF.out, HC.out]; exact IH.out⟩
        case measure => simp [intOf]; omega
      · subst hp
        have HF := Lib.hid (fl_no (f := fun l => decide (l.1 < p)) hx.out (by simp))
        have HC := Lib.hid ((cnt_snoc (a := p) hx.out).trans (by rw [if_pos rfl]))
        obtain ⟨y, hy⟩ : ∃ y, y = Plain.cnt (ls.take k) p := ⟨_, rfl⟩
        rw [← hy] at cb HC I d2
        have HY := Lib.hid hy
        clear hy
        have W1 : IntKind.i64.wrap (z + y + q) = z + y + q := by rw [IntKind.wrap_i64]; omega
        have ID := I.kept (kdrew _)
        clear I
        go_wp2_with fail
        go_still_tail 9, (by kernel_rfl)
        change wpList _ _ _ _ _ wr.drew
        clear c1 c2 d1 d2 d3 d4 d5
        generalize wr.drew = we at ID ⊢
        obtain ⟨d1, d2, d3, d4, d5⟩ := id ID.2.1
        have IE := Lib.hid (ID.put (z + y + q))
        clear ID
        go_wp2
        go_roundw
        case rel => exact ⟨k + 1, j, c', A', by omega, by omega, by go_num, rfl, by rw [HF.out, HC.out, ← Int.add_assoc]; exact IE.out⟩
        case measure => simp [intOf]; omega
      · have HF := Lib.hid (fl_no (f := fun l => decide (l.1 < a)) hx.out (by simp; omega))
        have HC := Lib.hid ((cnt_snoc (a := a) hx.out).trans (by rw [if_neg (by omega), Int.add_zero]))
        have IH := Lib.hid I
        clear cb cl
        go_wp2
        go_roundw
        case rel => exact ⟨k + 1, j, c', A', by omega, by omega, by go_num, rfl, by rw [HF.out, HC.out]; exact IH.out⟩
        case measure => simp [intOf]; omega
    · have hkn : m = k := by omega
      subst hkn
      rw [K.take_all CL.out] at I
      have zx := I.1.2.size
      have o1 := I.1.1
      obtain ⟨d1, d2, d3, d4, d5⟩ := id I.2.1
      go_wp2_with (at_builtin; refine app3 rfl _ _ 28 rfl w.heap.size 37 2 16 i0 (.agg #[.int .i64 0, .int .i64 0]) Try.underlying28 hi hz0 hz1 hz2 rfl (by decide) _ _ j _ (by rfl) o1 _ _ (by rfl) (by first | rfl | simp) (by rfl) (by rfl) (by unfold maxLen; omega) (by omega) (by first | omega | (simp; omega)) ?_; intro A3 c3 w3 own3 hg3 hn3)
      have I2 := I.1.app own3 hg3
      clear own3 hg3 hn3 I o1 d1 d2 d3 d4 d5
      go_wp2_with fail
      go_loopw [10, 13] (fun v i wr => ∃ (k j c : Nat) (A' : Option Addr), k ≤ m ∧ j ≤ 9 + k ∧ i = .int .i64 k ∧ v = .slice A' j c ∧ PInv w wr A' j c (ls.filter (fun l => decide (l.1 < a)) ++ [(a, z + Plain.cnt ls a)] ++ (ls.take k).filter (fun l => decide (a < l.1)))) (fun _ i _ => m - (intOf i).toNat)
      case atStart => exact ⟨0, j + 1, _, _, Nat.zero_le _, by omega, rfl, rfl, by simpa using I2⟩
      case round =>
        clear I2
        obtain ⟨k, j, c', A', hk, hj, rfl, rfl, I⟩ := hrel
        by_cases hlt : k < m
        · obtain ⟨bb, o, p, q, rfl, hb, c1, c2, hx⟩ := K.PR.cell (K.Rd.below h2 I.2) hlt
          have zx := I.2.size
          have o1 := I.1
          by_cases hp : a < p
          · have HF := Lib.hid (fl_yes (f := fun l => decide (a < l.1)) hx.out (by simpa using hp))
            go_wp2_with (at_builtin; refine app3 rfl _ _ 28 rfl w.heap.size 37 2 16 i0 (.agg #[.int .i64 0, .int .i64 0]) Try.underlying28 hi hz0 hz1 hz2 rfl (by decide) _ _ j _ (by rfl) o1 _ _ (by rfl) (by first | rfl | simp) (by rfl) (by rfl) (by unfold maxLen; omega) (by omega) (by first | omega | (simp; omega)) ?_; intro A3 c3 w3 own3 hg3 hn3)
            have IH := Lib.hid (I.app own3 hg3)
            clear own3 hg3 hn3 I o1 c1 c2
            go_wp2
            go_roundw
            case rel => exact ⟨k + 1, j + 1, c3, A3, by omega, by omega, by go_num, rfl, by rw [HF.out, ← List.append_assoc]; exact IH.out⟩
            case measure => simp [intOf]; omega
          · have HF := Lib.hid (fl_no (f := fun l => decide (a < l.1)) hx.out (by simp; omega))
            have IH := Lib.hid I
            go_wp2
            go_roundw
            case rel => exact ⟨k + 1, j, c', A', by omega, by omega, by go_num, rfl, by rw [HF.out]; exact IH.out⟩
            case measure => simp [intOf]; omega
        · have hkn : m = k := by omega
          subst hkn
          rw [K.take_all CL.out] at I
          change PInv w _ A' j c' (Plain.addL ls a z) at I
          have OW := Lib.hid I.1
          have KW := Lib.hid I.2
          clear I
          cases hV : vCart sh (Plain.addL ls a z)
          · have E := Lib.hid (EK.out.trans hV)
            have hL : Plain.vLines (n : Int) (Plain.addL ls a z) = false := by have := hV; unfold vCart at this; rw [hs, HN.out] at this; simpa using this
            go_wp2_with fail
            refine (lines_s _ A n c hn _ _ _ (Plain.addL ls a z) (K.rd_own OW.out) (by omega)).mono ?_
            rintro e w9 ⟨rfl, k9⟩
            have HI := Lib.hid (PInv.kept ⟨OW.out, KW.out⟩ k9)
            go_wp2
            go_ret2
            exact PB.of (PB.nil false (K.Kept.trans KW.out k9)) (adL_no E.out).symm E.out.symm
          · have E := Lib.hid (EK.out.trans hV)
            have hL : Plain.vLines (n : Int) (Plain.addL ls a z) = true := by have := hV; unfold vCart at this; rw [hs, HN.out] at this; simpa using this
            go_wp2_with fail
            refine (lines_s _ A n c hn _ _ _ (Plain.addL ls a z) (K.rd_own OW.out) (by omega)).mono ?_
            rintro e w9 ⟨rfl, k9⟩
            have HI := Lib.hid (PInv.kept ⟨OW.out, KW.out⟩ k9)
            go_wp2
            go_ret2
            exact PB.of (HI.out.res true) (adL_yes E.out).symm E.out.symm
end C
end Go.Proofs.Ytdhecblljcdpdaa

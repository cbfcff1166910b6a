/-
  Contracts of LineAmounts, TotalOf and GroupCounts, of the program and of the reference. Conditions: lengths below 2^40.
-/
import Derived.Test.YtapjlbcpfemeiaaShop
import Derived.Test.YtapjlbcpfemeiaaIntsW
import Derived.Test.YtapjlbcpfemeiaaCuts
namespace Go.Proofs.Ytapjlbcpfemeiaa
open Go.RowKit
namespace C

theorem gcell {w w' : World} {row : Option Nat} {a : Addr} {v : Value} (k : w.grownBy w' row) (h : w.cell? a = some v) (hne : ¬ row = some a.block) : w'.cell? a = some v := by
  rw [World.cell?_of_block (k.block a.block (World.block_lt_of_cell? w a h) (fun e => hne e.symm))]; exact h
def prc (sh : List K.Q4) (a : Int) : Int := (sh.getD a.toNat (0, 0, 0, 0)).1
def grp (sh : List K.Q4) (a : Int) : Int := (sh.getD a.toNat (0, 0, 0, 0)).2.1
/-- The prices of the lines. -/
def la (sh : List K.Q4) (c : List (Int × Int)) : List Int := c.map fun x => prc sh x.1 * x.2
theorem la_len (sh : List K.Q4) (c : List (Int × Int)) : (la sh c).length = c.length := by simp [la]
theorem la_snoc {sh : List K.Q4} {c : List (Int × Int)} {k : Nat} {a q : Int} (hx : c[k]? = some (a, q)) : la sh (c.take (k + 1)) = la sh (c.take k) ++ [prc sh a * q] := by
  rw [K.take_snoc hx, la, List.map_append]; rfl
theorem vCart_parts {sh : List K.Q4} {c : List (Int × Int)} (h : vCart sh c = true) : ((∀ a ∈ sh, Plain.vArt a) ∧ 1 ≤ sh.length ∧ sh.length ≤ 10) ∧ Plain.Ct sh.length c ∧ c.length ≤ 8 := by
  unfold vCart at h
  rw [Bool.and_eq_true] at h
  exact ⟨(Plain.vShop_iff sh).1 h.1, (Plain.vLines_iff _ c).1 h.2⟩
/-- A line of a valid cart: its article's number, and its article. -/
theorem line_at {sh : List K.Q4} {c : List (Int × Int)} {k n : Nat} {a q : Int} (h : vCart sh c = true) (hn : sh.length = n) (hx : c[k]? = some (a, q)) :
    ∃ j : Nat, a = (j : Int) ∧ j < n ∧ (1 ≤ q ∧ q ≤ 20) ∧ ∃ p g r t : Int, sh[j]? = some (p, g, r, t) ∧ (1 ≤ p ∧ p ≤ 5000) ∧ (0 ≤ g ∧ g ≤ 2) ∧ prc sh (j : Int) = p ∧ grp sh (j : Int) = g := by
  obtain ⟨⟨hs, _, _⟩, hc, _⟩ := vCart_parts h
  have hl := hc.1 _ (List.mem_of_getElem? hx)
  obtain ⟨h1, h2⟩ := hl
  simp only at h1 h2
  obtain ⟨j, rfl⟩ := Int.eq_ofNat_of_zero_le h1.1
  have hj : j < sh.length := by omega
  obtain ⟨⟨p, g, r, t⟩, he⟩ : ∃ x, sh[j]? = some x := ⟨_, List.getElem?_eq_getElem hj⟩
  have hv := hs _ (List.mem_of_getElem? he)
  unfold Plain.vArt at hv
  exact ⟨j, rfl, by omega, h2, p, g, r, t, he, hv.1, hv.2.1, by unfold prc; rw [Int.toNat_natCast, List.getD_eq_getElem?_getD, he]; rfl, by unfold grp; rw [Int.toNat_natCast, List.getD_eq_getElem?_getD, he]; rfl⟩
theorem la_small {sh : List K.Q4} {c : List (Int × Int)} (h : vCart sh c = true) : Small (la sh c) := by
  intro x hx
  obtain ⟨⟨a, q⟩, hm, rfl⟩ := List.mem_map.1 hx
  obtain ⟨k, hk⟩ := List.mem_iff_getElem?.1 hm
  obtain ⟨j, rfl, _, hq, p, g, r, t, _, hp, _, e, _⟩ := line_at h rfl hk
  simp only
  rw [e]
  have h0 : 0 ≤ p * q := Int.mul_nonneg (by omega) (by omega)
  have h1 : p * q ≤ 5000 * 20 := Int.mul_le_mul hp.2 hq.2 (by omega) (by omega)
  omega
/-- What LineAmounts returns, and TotalOf. -/
def LA (sh : List K.Q4) (c : List (Int × Int)) : List Int := if vCart sh c = true then la sh c else []
def TO (sh : List K.Q4) (c : List (Int × Int)) : Int := if vCart sh c = true then (la sh c).sum else -1
theorem LA_yes {sh : List K.Q4} {c : List (Int × Int)} (h : vCart sh c = true) : LA sh c = la sh c := by rw [LA, if_pos h]
theorem LA_no {sh : List K.Q4} {c : List (Int × Int)} (h : vCart sh c = false) : LA sh c = [] := by rw [LA, h]; rfl
theorem TO_yes {sh : List K.Q4} {c : List (Int × Int)} (h : vCart sh c = true) : TO sh c = (la sh c).sum := by rw [TO, if_pos h]
theorem TO_no {sh : List K.Q4} {c : List (Int × Int)} (h : vCart sh c = false) : TO sh c = -1 := by rw [TO, h]; rfl
theorem own_mono' {w : World} {base base' : Nat} {e : TypeId} {size : Nat} {v : Value} {n : Nat} {xs : List Value} (h : w.ownsRow base e size v n xs) (hb : base' ≤ base) : w.ownsRow base' e size v n xs :=
  ⟨h.1, h.2.imp id fun ⟨g, cap, cur, a, b, c⟩ => ⟨g, cap, cur, a, Nat.le_trans hb b, c⟩⟩
/-- A row of numbers of the call's own. -/
def NInv (w wr : World) (A : Option Addr) (j c : Nat) (out : List Int) : Prop := wr.ownsRow w.heap.size 3 1 (.slice A j c) j (out.map (Value.int .i64)) ∧ K.Kept w wr
theorem NInv.kept {w wr w' : World} {A : Option Addr} {j c : Nat} {out : List Int} (h : NInv w wr A j c out) (k : K.Kept wr w') : NInv w w' A j c out := ⟨K.own_kept h.1 k, K.Kept.trans h.2 k⟩
theorem NInv.app {w wr w3 : World} {A A3 : Option Addr} {j c c3 : Nat} {out : List Int} {x : Int} (h : NInv w wr A j c out) (h3 : w3.ownsRow w.heap.size 3 1 (.slice A3 (j + 1) c3) (j + 1) (out.map (Value.int .i64) ++ [.int .i64 x])) (hg : wr.grownBy w3 (Value.slice A j c).ownBlock) : NInv w w3 A3 (j + 1) c3 (out ++ [x]) :=
  ⟨by rw [List.map_append]; exact h3, h.2.grown hg h.2.size (fun i hi => (h.1.lt i hi).1)⟩
theorem NInv.start (w : World) : NInv w (w.alloc (.cells #[] 3)) (some ⟨w.heap.size, 0, none⟩) 0 0 [] :=
  ⟨World.ownsRow_lit w #[] 0 (Nat.le_refl _) (by unfold maxLen; omega) rfl, kp1 _ _⟩
set_option maxRecDepth 100000 in
set_option maxHeartbeats 2000000 in
theorem lineAmounts_core (w : World) (A : Option Addr) (n c : Nat) (sh : List K.Q4) (B : Option Addr) (m d : Nat) (ls : List (Int × Int)) (hv : vCart sh ls = true) (h : K.QR w w.heap.size A n sh) (h2 : K.PR w w.heap.size B m ls) : Calls Try.prog 62 #[.slice A n c, .slice B m d] w (Fresh w (la sh ls)) := by
  obtain ⟨i0, hi, hz0, hz1, hz2⟩ := info_parts info_int
  have SL := Lib.hid (K.QR.len h)
  have CL := Lib.hid (K.PR.len h2)
  have HV := Lib.hid hv
  have hm8 : m ≤ 8 := by have := (vCart_parts hv).2.2; have := CL.out; omega
  have hn10 : n ≤ 10 := by have := (vCart_parts hv).1.2.2; have := SL.out; omega
  have I0 := NInv.start w
  clear hv
  go_enter Try.func62, Try.ntmps62
  go_wp2_with fail
  go_loopw [5, 6] (fun v i wr => ∃ (k c : Nat) (A' : Option Addr), k ≤ m ∧ i = .int .i64 k ∧ v = .slice A' k c ∧ NInv w wr A' k c (la sh (ls.take k))) (fun _ i _ => m - (intOf i).toNat)
  case atStart => exact ⟨0, 0, _, Nat.zero_le _, rfl, rfl, by simpa [la] using I0⟩
  case round =>
    clear I0
    obtain ⟨k, c', A', hk, rfl, rfl, I⟩ := hrel
    by_cases hlt : k < m
    · obtain ⟨b, o, a, q, rfl, hb, c1, c2, hx⟩ := K.PR.cell (K.Rd.below h2 I.2) hlt
      obtain ⟨j, rfl, hj, hq, p, g, r, t, hs, hp, hg0, ep, eg⟩ := line_at HV.out SL.out hx.out
      obtain ⟨b', o', p', g', r', t', rfl, hb', s1, s2, s3, s4, hs'⟩ := K.QR.cell (K.Rd.below h I.2) hj
      have e4 : (p', g', r', t') = (p, g, r, t) := Option.some.inj (hs'.out.symm.trans hs)
      injection e4 with e41 e42
      subst e41
      have HL := Lib.hid ((la_snoc (sh := sh) hx.out).trans (by rw [ep]))
      have hm0 : 0 ≤ p' * q := Int.mul_nonneg (by omega) (by omega)
      have hm1 : p' * q ≤ 5000 * 20 := Int.mul_le_mul hp.2 hq.2 (by omega) (by omega)
      have W1 : IntKind.i64.wrap (p' * q) = p' * q := by rw [IntKind.wrap_i64]; omega
      have j1 : (j : Int) < (n : Int) := by omega
      have lb := I.1.lt
      have z := I.2.size
      have ID := I.kept (kdrew _)
      have o1 := ID.1
      clear s2 s3 s4 hs hs' e42 ep eg I hm0 hm1 hg0
      go_wp2_with fail
      go_region_held3 (fun w' => w'.cell? ⟨b, o + k * 2, none⟩ = some (.int .i64 (j : Int)) ∧ w'.cell? ⟨b, o + k * 2 + 1, none⟩ = some (.int .i64 q) ∧ w'.cell? ⟨b', o' + j * 4, none⟩ = some (.int .i64 p')) (first | exact ⟨d1, d2, d3⟩ | go_keep) (((refine step_app3 rfl _ _ 28 rfl w.heap.size 3 1 8 i0 (.int .i64 0) Try.underlying28 hi hz0 hz1 hz2 rfl (by decide) wr.drew _ k _ (by rfl) o1 _ _ (by rfl) (by first | rfl | simp) (by rfl) (by rfl) (by unfold maxLen; omega) (by omega) (by first | exact ID.2.size | omega) ?_; intro A3 c3 w3 own3 hg3 hn3; have I3 := NInv.app ID own3 hg3; have d1 := gcell hg3 c1 (fun e => by have := (lb _ e).1; simp at this; omega); have d2 := gcell hg3 c2 (fun e => by have := (lb _ e).1; simp at this; omega); have d3 := gcell hg3 s1 (fun e => by have := (lb _ e).1; simp at this; omega))))
      have IH := Lib.hid I3
      clear I3 own3 hg3 hn3 o1 ID lb d1 d2 d3 c1 c2 s1
      go_wp2
      go_roundw
      case rel => exact ⟨k + 1, c3, A3, by omega, by go_num, rfl, by rw [HL.out]; exact IH.out⟩
      case measure => simp [intOf]; omega
    · have hkn : m = k := by omega
      subst hkn
      rw [K.take_all CL.out] at I
      have HI := Lib.hid I
      clear I
      go_wp2
      go_ret
      exact ⟨_, _, _, rfl, by rw [la_len]; exact CL.out, HI.out.1, HI.out.2⟩
set_option maxRecDepth 100000 in
set_option maxHeartbeats 2000000 in
theorem lineAmounts_i (w : World) (A : Option Addr) (n c : Nat) (sh : List K.Q4) (B : Option Addr) (m d : Nat) (ls : List (Int × Int)) (h : K.QR w w.heap.size A n sh) (hn : n ≤ 1099511627776) (h2 : K.PR w w.heap.size B m ls) (hm : m ≤ 1099511627776) : Calls Try.prog 66 #[.slice A n c, .slice B m d] w (Fresh w (LA sh ls)) := by
  have I0 := NInv.start w
  generalize hw0 : w.alloc (.cells #[] 3) = w0 at I0
  have h' := (K.Rd.below h I0.2).more I0.2.size
  have h2' := (K.Rd.below h2 I0.2).more I0.2.size
  cases hv : vCart sh ls
  · rw [LA_no hv]
    go_enter Try.func66, Try.ntmps66
    go_wp2_with fail
    refine (validCart_i w0 A n c sh B m d ls false hv h' hn h2' hm).mono ?_
    rintro e w1 ⟨rfl, k1⟩
    have I1 := Lib.hid (I0.kept k1)
    clear I0
    go_wp2
    go_ret
    exact ⟨_, _, _, rfl, rfl, I1.out.1, I1.out.2⟩
  · rw [LA_yes hv]
    obtain ⟨i0, hi, hz0, hz1, hz2⟩ := info_parts info_int
    have SL := Lib.hid (K.QR.len h)
    have CL := Lib.hid (K.PR.len h2)
    have HV := Lib.hid hv
    have hm8 : m ≤ 8 := by have := (vCart_parts hv).2.2; have := CL.out; omega
    have hn10 : n ≤ 10 := by have := (vCart_parts hv).1.2.2; have := SL.out; omega
    go_enter Try.func66, Try.ntmps66
    go_wp2_with fail
    refine (validCart_i w0 A n c sh B m d ls true hv h' hn h2' hm).mono ?_
    rintro e w1 ⟨rfl, k1⟩
    have I1 := I0.kept k1
    clear I0 hv h' h2' hw0
    go_wp2_with fail
    go_loopw [5, 16] (fun v i wr => ∃ (k c : Nat) (A' : Option Addr), k ≤ m ∧ i = .int .i64 k ∧ v = .slice A' k c ∧ NInv w wr A' k c (la sh (ls.take k))) (fun _ i _ => m - (intOf i).toNat)
    case atStart => exact ⟨0, 0, _, Nat.zero_le _, rfl, rfl, by simpa [la] using I1⟩
    case round =>
      clear I1
      obtain ⟨k, c', A', hk, rfl, rfl, I⟩ := hrel
      by_cases hlt : k < m
      · obtain ⟨b, o, a, q, rfl, hb, c1, c2, hx⟩ := K.PR.cell (K.Rd.below h2 I.2) hlt
        obtain ⟨j, rfl, hj, hq, p, g, r, t, hs, hp, hg0, ep, eg⟩ := line_at HV.out SL.out hx.out
        have x0 := Box2.new wr (.int .i64 (j : Int)) (.int .i64 q) 86
        have IX := I.kept (kp1 wr (.cells #[.int .i64 (j : Int), .int .i64 q] 86))
        have lb := I.1.lt
        have kx := kp1 wr (.cells #[.int .i64 (j : Int), .int .i64 q] 86)
        generalize hwx : wr.alloc (.cells #[.int .i64 (j : Int), .int .i64 q] 86) = wx at x0 IX kx
        obtain ⟨b', o', p', g', r', t', rfl, hb', s1, s2, s3, s4, hs'⟩ := K.QR.cell (K.Rd.below h IX.2) hj
        have e4 : (p', g', r', t') = (p, g, r, t) := Option.some.inj (hs'.out.symm.trans hs)
        injection e4 with e41 e42
        subst e41
        have HL := Lib.hid ((la_snoc (sh := sh) hx.out).trans (by rw [ep]))
        have hm0 : 0 ≤ p' * q := Int.mul_nonneg (by omega) (by omega)
        have hm1 : p' * q ≤ 5000 * 20 := Int.mul_le_mul hp.2 hq.2 (by omega) (by omega)
        have W1 : IntKind.i64.wrap (p' * q) = p' * q := by rw [IntKind.wrap_i64]; omega
        have j1 : (j : Int) < (n : Int) := by omega
        have z := I.2.size
        have ID := IX.kept (kdrew _)
        have o1 := ID.1
        obtain ⟨x1, x2, x3, x4, x5⟩ := id x0
        clear s2 s3 s4 hs hs' e42 ep eg I hm0 hm1 hg0 IX
        go_wp2_with fail
        go_region_held3 (fun w' => w'.cell? ⟨wr.heap.size, 0, none⟩ = some (.int .i64 (j : Int)) ∧ w'.cell? ⟨wr.heap.size, 1, none⟩ = some (.int .i64 q) ∧ w'.cell? ⟨b', o' + j * 4, none⟩ = some (.int .i64 p')) (first | exact ⟨d1, d2, d3⟩ | go_keep) (((refine step_app3 rfl _ _ 28 rfl w.heap.size 3 1 8 i0 (.int .i64 0) Try.underlying28 hi hz0 hz1 hz2 rfl (by decide) wx.drew _ k _ (by rfl) o1 _ _ (by rfl) (by first | rfl | simp) (by rfl) (by rfl) (by unfold maxLen; omega) (by omega) (by first | exact ID.2.size | omega) ?_; intro A3 c3 w3 own3 hg3 hn3; have I3 := NInv.app ID own3 hg3; have d1 := gcell hg3 x1 (fun e => by have := (lb _ e).2; simp at this); have d2 := gcell hg3 x2 (fun e => by have := (lb _ e).2; simp at this); have d3 := gcell hg3 s1 (fun e => by have := (lb _ e).1; simp at this; omega))))
        have IH := Lib.hid I3
        clear I3 own3 hg3 hn3 o1 ID lb d1 d2 d3 c1 c2 s1 x1 x2 x3 x4 x5 x0 kx
        go_wp2
        go_roundw
        case rel => exact ⟨k + 1, c3, A3, by omega, by go_num, rfl, by rw [HL.out]; exact IH.out⟩
        case measure => simp [intOf]; omega
      · have hkn : m = k := by omega
        subst hkn
        rw [K.take_all CL.out] at I
        have HI := Lib.hid I
        clear I
        go_wp2
        go_ret
        exact ⟨_, _, _, rfl, by rw [la_len]; exact CL.out, HI.out.1, HI.out.2⟩
theorem totalOf_i (w : World) (A : Option Addr) (n c : Nat) (sh : List K.Q4) (B : Option Addr) (m d : Nat) (ls : List (Int × Int)) (h : K.QR w w.heap.size A n sh) (hn : n ≤ 1099511627776) (h2 : K.PR w w.heap.size B m ls) (hm : m ≤ 1099511627776) : Calls Try.prog 25 #[.slice A n c, .slice B m d] w fun e w' => e = .returned (.int .i64 (TO sh ls)) ∧ K.Kept w w' := by
  cases hv : vCart sh ls
  · rw [TO_no hv]
    go_enter Try.func25, Try.ntmps25
    go_wp2_with fail
    refine (validCart_i w A n c sh B m d ls false hv h hn h2 hm).mono ?_
    rintro e w1 ⟨rfl, k1⟩
    go_wp2
    go_ret
    exact ⟨rfl, k1⟩
  · rw [TO_yes hv]
    have HV := Lib.hid hv
    have hm8 : m ≤ 8 := by have := (vCart_parts hv).2.2; have := K.PR.len h2; omega
    go_enter Try.func25, Try.ntmps25
    go_wp2_with fail
    refine (validCart_i w A n c sh B m d ls true hv h hn h2 hm).mono ?_
    rintro e w1 ⟨rfl, k1⟩
    clear hv
    go_wp2_with fail
    refine (lineAmounts_i w1 A n c sh B m d ls ((K.Rd.below h k1).more k1.size) hn ((K.Rd.below h2 k1).more k1.size) hm).mono ?_
    rintro e w2 ⟨A3, n3, c3, rfl, hl3, own3, k3⟩
    rw [LA_yes HV.out] at hl3 own3
    have RA := K.rd_own own3
    have hn3 : n3 ≤ 8 := by have := la_len sh ls; have := K.PR.len h2; omega
    have kw := K.Kept.trans k1 k3
    clear own3 hl3 k3
    go_wp2_with fail
    refine (total_c w2 A3 n3 c3 (la sh ls) RA (by omega) (la_small HV.out)).mono ?_
    rintro e w4 ⟨rfl, rfl⟩
    go_wp2
    go_ret
    exact ⟨rfl, kw⟩
end C
end Go.Proofs.Ytapjlbcpfemeiaa

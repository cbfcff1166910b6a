/-
  Contracts of TakePieces, of the program and of the reference. Conditions: lengths below 2^40.
-/
import Derived.Test.YtdhecblljcdpdaaGroups
namespace Go.Proofs.Ytdhecblljcdpdaa
open Go.RowKit
namespace C

/-- A fresh list of lines, and whether there is one. -/
theorem infoLineP : (Try.prog.info? 37).map (fun i => (i.zero, i.size, i.bytes)) = some (some (.agg #[.int .i64 0, .int .i64 0]), 2, 16) := by kernel_rfl
def PB (w : World) (l : List (Int × Int)) (b : Bool) (e : Ending) (w' : World) : Prop := ∃ (A : Option Addr) (n c : Nat), e = .returned (.tuple #[.slice A n c, .bool b]) ∧ l.length = n ∧ w'.ownsRow w.heap.size 37 2 (.slice A n c) n (K.prs l) ∧ K.Kept w w'
theorem PB.nil {w w' : World} (b : Bool) (h : K.Kept w w') : PB w [] b (.returned (.tuple #[.slice none 0 0, .bool b])) w' := ⟨_, _, _, rfl, rfl, World.ownsRow_nil _ _ _ _, h⟩
theorem PB.lit {w w0 : World} (b : Bool) (h : K.Kept w w0) {g : Nat} (hg : g = w0.heap.size) : PB w [] b (.returned (.tuple #[.slice (some ⟨g, 0, none⟩) 0 0, .bool b])) (w0.alloc (.cells #[] 37)) :=
  hg ▸ ⟨_, _, _, rfl, rfl, World.ownsRow_lit w0 #[] 0 h.size (by unfold maxLen; omega) rfl, K.Kept.trans h (kp1 _ _)⟩
/-- A row of lines of the call's own. -/
def PInv (w wr : World) (A : Option Addr) (j c : Nat) (out : List (Int × Int)) : Prop := wr.ownsRow w.heap.size 37 2 (.slice A j c) j (K.prs out) ∧ K.Kept w wr
theorem PInv.kept {w wr w' : World} {A : Option Addr} {j c : Nat} {out : List (Int × Int)} (h : PInv w wr A j c out) (k : K.Kept wr w') : PInv w w' A j c out := ⟨K.own_kept h.1 k, K.Kept.trans h.2 k⟩
theorem PInv.app {w wr w3 : World} {A A3 : Option Addr} {j c c3 : Nat} {out : List (Int × Int)} {p q : Int} (h : PInv w wr A j c out) (h3 : w3.ownsRow w.heap.size 37 2 (.slice A3 (j + 1) c3) (j + 1) (K.prs out ++ [.int .i64 p, .int .i64 q])) (hg : wr.grownBy w3 (Value.slice A j c).ownBlock) : PInv w w3 A3 (j + 1) c3 (out ++ [(p, q)]) :=
  ⟨by rw [K.prs_append]; exact h3, h.2.grown hg h.2.size (fun i hi => (h.1.lt i hi).1)⟩
theorem PInv.lit {w w1 : World} (k : K.Kept w w1) : PInv w (w1.alloc (.cells #[] 37)) (some ⟨w1.heap.size, 0, none⟩) 0 0 [] :=
  ⟨World.ownsRow_lit w1 #[] 0 k.size (by unfold maxLen; omega) rfl, K.Kept.trans k (kp1 _ _)⟩
theorem PInv.len {w wr : World} {A : Option Addr} {j c : Nat} {out : List (Int × Int)} (h : PInv w wr A j c out) : out.length = j := by have := h.1.1; rw [K.prs_len] at this; omega
theorem PInv.res {w wr : World} {A : Option Addr} {j c : Nat} {out : List (Int × Int)} (h : PInv w wr A j c out) (b : Bool) : PB w out b (.returned (.tuple #[.slice A j c, .bool b])) wr := ⟨_, _, _, rfl, h.len, h.1, h.2⟩
theorem PB.of {w : World} {l l' : List (Int × Int)} {b b' : Bool} {e : Ending} {w' : World} (h : PB w l b e w') (h1 : l = l') (h2 : b = b') : PB w l' b' e w' := by subst h1 h2; exact h
theorem PInv.put {w wx : World} {A : Option Addr} {j c b : Nat} {out : List (Int × Int)} (h : PInv w wx A j c out) (hb : w.heap.size ≤ b) (hne : ∀ i, (Value.slice A j c).ownBlock = some i → i ≠ b) (u : Value) : PInv w (wx.setCell ⟨b, 1, none⟩ u) A j c out := by
  have g1 : K.But b wx (wx.setCell ⟨b, 1, none⟩ u) := (K.But.refl _ _).setCell (p := ⟨b, 1, none⟩) (.inl rfl) _
  refine ⟨h.1.kept g1 ?_, h.2.setCell (p := ⟨b, 1, none⟩) hb _⟩
  right; intro e; exact hne _ e rfl
/-- The line of an article has so many pieces. -/
def hasB (c : List (Int × Int)) (a z : Int) : Bool := c.any fun l => decide (l.1 = a) && decide (z ≤ l.2)
theorem hasB_iff {c : List (Int × Int)} {a z : Int} : hasB c a z = true ↔ Plain.hasN c a z := by
  unfold hasB Plain.hasN
  simp
def tkOk (sh : List K.Q4) (c : List (Int × Int)) (a z : Int) : Bool := vCart sh c && decide (1 ≤ z) && hasB c a z
def tkL (sh : List K.Q4) (c : List (Int × Int)) (a z : Int) : List (Int × Int) := if tkOk sh c a z = true then Plain.takeL c a z else []
section
variable {sh : List K.Q4} {c : List (Int × Int)} {a z p q m : Int} {k : Nat} {b : Bool}
theorem tkOk_no1 (h : vCart sh c = false) : tkOk sh c a z = false := by rw [tkOk, h]; rfl
theorem tkOk_no2 (h : ¬ 1 ≤ z) : tkOk sh c a z = false := by rw [tkOk, decide_eq_false h]; simp
theorem tkOk_eq (h : vCart sh c = true) (h2 : 1 ≤ z) : tkOk sh c a z = hasB c a z := by rw [tkOk, h, decide_eq_true h2]; rfl
theorem tkL_no (h : tkOk sh c a z = false) : tkL sh c a z = [] := by rw [tkL, h]; rfl
theorem tkL_yes (h : tkOk sh c a z = true) : tkL sh c a z = Plain.takeL c a z := by rw [tkL, if_pos h]
/-- What the loop has met: whether the article, and with enough pieces. -/
def TS (c : List (Int × Int)) (a z : Int) (k : Nat) (b : Bool) : Prop := (b = true ↔ ∃ l ∈ c.take k, l.1 = a) ∧ ∀ l ∈ c.take k, l.1 = a → z ≤ l.2
theorem TS.start : TS c a z 0 false := by constructor <;> simp
theorem TS.other (h : TS c a z k b) (hx : c[k]? = some (p, q)) (hne : p ≠ a) : TS c a z (k + 1) b := by
  unfold TS
  rw [K.take_snoc hx]
  refine ⟨h.1.trans ?_, ?_⟩
  · simp only [List.mem_append, List.mem_singleton]
    constructor
    · rintro ⟨l, hl, e⟩; exact ⟨l, Or.inl hl, e⟩
    · rintro ⟨l, hl | rfl, e⟩
      · exact ⟨l, hl, e⟩
      · exact absurd e hne
  · intro l hl e
    rcases List.mem_append.1 hl with hl | hl
    · exact h.2 l hl e
    · rw [List.mem_singleton.1 hl] at e; exact absurd e hne
theorem TS.hit (h : TS c a z k b) (hx : c[k]? = some (a, q)) (hz : z ≤ q) : TS c a z (k + 1) true := by
  unfold TS
  rw [K.take_snoc hx]
  refine ⟨⟨fun _ => ⟨(a, q), by simp, rfl⟩, fun _ => rfl⟩, ?_⟩
  intro l hl e
  rcases List.mem_append.1 hl with hl | hl
  · exact h.2 l hl e
  · rw [List.mem_singleton.1 hl]; exact hz
theorem has_miss (hc : Plain.Ct m c) (hx : c[k]? = some (a, q)) (hq : q < z) : hasB c a z = false := by
  rw [Bool.eq_false_iff, Ne, hasB_iff]
  rintro ⟨l, hl, e, hz⟩
  have h1 := Plain.cnt_of_mem hc hl
  have h2 := Plain.cnt_of_mem hc (List.mem_of_getElem? hx)
  rw [e] at h1
  simp only at h2
  omega
theorem TS.yes {n : Nat} (hn : c.length = n) (h : TS c a z n true) : hasB c a z = true := by
  unfold TS at h
  rw [K.take_all hn] at h
  obtain ⟨l, hl, e⟩ := h.1.1 rfl
  exact hasB_iff.2 ⟨l, hl, e, h.2 l hl e⟩
theorem TS.no {n : Nat} (hn : c.length = n) (h : TS c a z n false) : hasB c a z = false := by
  unfold TS at h
  rw [K.take_all hn] at h
  rw [Bool.eq_false_iff, Ne, hasB_iff]
  rintro ⟨l, hl, e, _⟩
  have := h.1.2 ⟨l, hl, e⟩
  cases this
theorem tk_snoc (hx : c[k]? = some (p, q)) : Plain.takeL (c.take (k + 1)) a z = Plain.takeL (c.take k) a z ++ Plain.tk a z (p, q) := by
  rw [K.take_snoc hx]; unfold Plain.takeL; simp
theorem tk_other (hx : c[k]? = some (p, q)) (h : p ≠ a) : Plain.takeL (c.take (k + 1)) a z = Plain.takeL (c.take k) a z ++ [(p, q)] := by
  rw [tk_snoc hx, Plain.tk, if_neg h]
theorem tk_part (hx : c[k]? = some (a, q)) (h : z < q) : Plain.takeL (c.take (k + 1)) a z = Plain.takeL (c.take k) a z ++ [(a, q - z)] := by
  rw [tk_snoc hx, Plain.tk, if_pos rfl, if_pos h]
theorem tk_all (hx : c[k]? = some (a, q)) (h : ¬ z < q) : Plain.takeL (c.take (k + 1)) a z = Plain.takeL (c.take k) a z := by
  rw [tk_snoc hx, Plain.tk, if_pos rfl, if_neg h, List.append_nil]
end
set_option maxHeartbeats 2000000 in
theorem takePieces_i (w : World) (A : Option Addr) (n c : Nat) (sh : List K.Q4) (B : Option Addr) (m d : Nat) (ls : List (Int × Int)) (a z : Int) (h : K.QR w w.heap.size A n sh) (hn : n ≤ 1099511627776) (h2 : K.PR w w.heap.size B m ls) (hm : m ≤ 1099511627776) : Calls Try.prog 36 #[.slice A n c, .slice B m d, .int .i64 a, .int .i64 z] w (PB w (tkL sh ls a z) (tkOk sh ls a z)) := by
  cases hv : vCart sh ls
  · rw [tkOk_no1 hv, tkL_no (tkOk_no1 hv)]
    go_enter Try.func36, Try.ntmps36
    go_wp2_with fail
    refine (validCart_i w A n c sh B m d ls false hv h hn h2 hm).mono ?_
    rintro e w1 ⟨rfl, k1⟩
    go_wp2
    go_ret2
    exact PB.lit _ k1 rfl
  by_cases hz : 1 ≤ z
  case neg =>
    rw [tkOk_no2 hz, tkL_no (tkOk_no2 hz)]
    go_enter Try.func36, Try.ntmps36
    go_wp2_with fail
    refine (validCart_i w A n c sh B m d ls true hv h hn h2 hm).mono ?_
    rintro e w1 ⟨rfl, k1⟩
    go_wp2
    go_ret2
    exact PB.lit _ k1 rfl
  obtain ⟨i0, hi, hz0, hz1, hz2⟩ := info_parts infoLineP
  have CL := Lib.hid (K.PR.len h2)
  have HV := Lib.hid hv
  have CT := Lib.hid (vCart_parts hv).2.1
  have HZ := Lib.hid hz
  have hm8 : m ≤ 8 := by have := (vCart_parts hv).2.2; have := CL.out; omega
  go_enter Try.func36, Try.ntmps36
  go_wp2_with fail
  refine (validCart_i w A n c sh B m d ls true hv h hn h2 hm).mono ?_
  rintro e w1 ⟨rfl, k1⟩
  have I1 := PInv.lit k1
  clear hv k1
  go_wp2_with fail
  go_loopw [10, 11, 26] (fun v s i wr => ∃ (k j c : Nat) (A' : Option Addr) (b : Bool), k ≤ m ∧ j ≤ k ∧ i = .int .i64 k ∧ v = .slice A' j c ∧ s = .bool b ∧ TS ls a z k b ∧ PInv w wr A' j c (Plain.takeL (ls.take k) a z)) (fun _ _ i _ => m - (intOf i).toNat)
  case atStart => exact ⟨0, 0, 0, _, false, Nat.zero_le _, Nat.le_refl _, rfl, rfl, rfl, TS.start, by simpa [Plain.takeL] using I1⟩
  case round =>
    clear I1
    obtain ⟨k, j, c', A', b, hk, hj, rfl, rfl, rfl, T, I⟩ := hrel
    by_cases hlt : k < m
    · obtain ⟨bb, o, p, q, rfl, hb, c1, c2, hx⟩ := K.PR.cell (K.Rd.below h2 I.2) hlt
      have hq : 1 ≤ q ∧ q ≤ 20 := (CT.out.1 _ (List.mem_of_getElem? hx.out)).2
      have x0 := Box2.new wr (.int .i64 p) (.int .i64 q) 37
      have IX := I.kept (kp1 wr (.cells #[.int .i64 p, .int .i64 q] 37))
      have zz := I.2.size
      generalize hwx : wr.alloc (.cells #[.int .i64 p, .int .i64 q] 37) = wx at x0 IX
      have zx := IX.2.size
      have lb := I.1.lt
      clear I
      obtain ⟨x1, x2, x3, x4, x5⟩ := id x0
      have o1 := IX.1
      by_cases hp : p = a
      · subst hp
        by_cases hs : q < z
        · have E := Lib.hid ((tkOk_eq HV.out HZ.out).trans (has_miss CT.out hx.out hs))
          have KW := Lib.hid IX.2
          go_wp2
          go_ret2
          exact PB.of (PB.lit false KW.out rfl) (tkL_no E.out).symm E.out.symm
        · have W1 : IntKind.i64.wrap (q - z) = q - z := by rw [IntKind.wrap_i64]; omega
          have T1 := Lib.hid (T.hit hx.out (by omega))
          have IP := Lib.hid (IX.put zz (fun i hi => by have := (lb i hi).2; omega) (.int .i64 (q - z)))
          clear T
          by_cases ht : z < q
          · have HP := Lib.hid (tk_part hx.out ht)
            go_wp2_with (at_builtin; refine app3 rfl _ _ 28 rfl w.heap.size 37 2 16 i0 (.agg #[.int .i64 0, .int .i64 0]) Try.underlying28 hi hz0 hz1 hz2 rfl (by decide) _ _ j _ (by rfl) IP.out.1 _ _ (by rfl) (by first | rfl | simp) (by rfl) (by rfl) (by unfold maxLen; omega) (by omega) (by first | omega | (simp; omega)) ?_; intro A3 c3 w3 own3 hg3 hn3)
            have IH := Lib.hid (IP.out.app own3 hg3)
            clear own3 hg3 hn3 IX IP o1 x1 x2 x3 x4 x5 x0 c1 c2
            go_wp2
            go_roundw
            case rel => exact ⟨k + 1, j + 1, c3, A3, true, by omega, by omega, by go_num, rfl, rfl, T1.out, by rw [HP.out]; exact IH.out⟩
            case measure => simp [intOf]; omega
          · have HP := Lib.hid (tk_all hx.out ht)
            go_wp2
            go_roundw
            case rel => exact ⟨k + 1, j, c', A', true, by omega, by omega, by go_num, rfl, rfl, T1.out, by rw [HP.out]; exact IP.out⟩
            case measure => simp [intOf]; omega
      · have HP := Lib.hid (tk_other (z := z) hx.out hp)
        have T1 := Lib.hid (T.other hx.out hp)
        clear T
        go_wp2_with (at_builtin; refine app3 rfl _ _ 28 rfl w.heap.size 37 2 16 i0 (.agg #[.int .i64 0, .int .i64 0]) Try.underlying28 hi hz0 hz1 hz2 rfl (by decide) wx _ j _ (by rfl) o1 _ _ (by rfl) (by first | rfl | simp) (by rfl) (by rfl) (by unfold maxLen; omega) (by omega) (by first | omega | (simp; omega)) ?_; intro A3 c3 w3 own3 hg3 hn3)
        have IH := Lib.hid (IX.app own3 hg3)
        clear own3 hg3 hn3 IX o1 x1 x2 x3 x4 x5 x0 c1 c2
        go_wp2
        go_roundw
        case rel => exact ⟨k + 1, j + 1, c3, A3, b, by omega, by omega, by go_num, rfl, rfl, T1.out, by rw [HP.out]; exact IH.out⟩
        case measure => simp [intOf]; omega
    · have hkn : m = k := by omega
      subst hkn
      rw [K.take_all CL.out] at I
      cases b
      · have E := Lib.hid ((tkOk_eq (a := a) HV.out HZ.out).trans (T.no CL.out))
        have KW := Lib.hid I.2
        clear I T
        go_wp2
        go_ret2
        exact PB.of (PB.lit false KW.out rfl) (tkL_no E.out).symm E.out.symm
      · have E := Lib.hid ((tkOk_eq (a := a) HV.out HZ.out).trans (T.yes CL.out))
        have HI := Lib.hid I
        clear I T
        go_wp2
        go_ret2
        exact PB.of (HI.out.res true) (tkL_yes E.out).symm E.out.symm
set_option maxHeartbeats 2000000 in
theorem takePieces_s (w : World) (A : Option Addr) (n c : Nat) (sh : List K.Q4) (B : Option Addr) (m d : Nat) (ls : List (Int × Int)) (a z : Int) (h : K.QR w w.heap.size A n sh) (hn : n ≤ 1099511627776) (h2 : K.PR w w.heap.size B m ls) (hm : m ≤ 1099511627776) : Calls Try.prog 38 #[.slice A n c, .slice B m d, .int .i64 a, .int .i64 z] w (PB w (tkL sh ls a z) (tkOk sh ls a z)) := by
  have I0 := PInv.lit (K.Kept.refl w)
  generalize hw0 : w.alloc (.cells #[] 37) = w0 at I0
  have h' := (K.Rd.below h I0.2).more I0.2.size
  have h2' := (K.Rd.below h2 I0.2).more I0.2.size
  cases hv : vCart sh ls
  · rw [tkOk_no1 hv, tkL_no (tkOk_no1 hv)]
    cases hs : Plain.vShop sh
    · go_enter Try.func38, Try.ntmps38
      go_wp2_with fail
      refine (validShop_s w0 A n c sh h' hn).mono ?_
      rintro e w1 ⟨rfl, k1⟩
      go_wp2
      go_ret2
      exact PB.nil _ (K.Kept.trans I0.2 k1)
    · have hl : Plain.vLines (n : Int) ls = false := by unfold vCart at hv; rw [hs, K.QR.len h] at hv; exact hv
      go_enter Try.func38, Try.ntmps38
      go_wp2_with fail
      refine (validShop_s w0 A n c sh h' hn).mono ?_
      rintro e w1 ⟨rfl, k1⟩
      go_wp2_with fail
      refine (lines_s w1 A n c hn B m d ls ((K.Rd.below h2' k1).more k1.size) hm).mono ?_
      rintro e w2 ⟨rfl, k2⟩
      go_wp2
      go_ret2
      exact PB.nil _ (K.Kept.trans I0.2 (K.Kept.trans k1 k2))
  have hs : Plain.vShop sh = true := by have := hv; unfold vCart at this; rw [Bool.and_eq_true] at this; exact this.1
  have hl : Plain.vLines (n : Int) ls = true := by have := hv; unfold vCart at this; rw [Bool.and_eq_true, K.QR.len h] at this; exact this.2
  by_cases hz : 1 ≤ z
  case neg =>
    rw [tkOk_no2 hz, tkL_no (tkOk_no2 hz)]
    go_enter Try.func38, Try.ntmps38
    go_wp2_with fail
    refine (validShop_s w0 A n c sh h' hn).mono ?_
    rintro e w1 ⟨rfl, k1⟩
    go_wp2_with fail
    refine (lines_s w1 A n c hn B m d ls ((K.Rd.below h2' k1).more k1.size) hm).mono ?_
    rintro e w2 ⟨rfl, k2⟩
    replace k2 := K.Kept.trans k1 k2
    clear k1
    go_wp2
    go_ret2
    exact PB.nil _ (K.Kept.trans I0.2 k2)
  obtain ⟨i0, hi, hz0, hz1, hz2⟩ := info_parts infoLineP
  have CL := Lib.hid (K.PR.len h2)
  have HV := Lib.hid hv
  have CT := Lib.hid (vCart_parts hv).2.1
  have HZ := Lib.hid hz
  have hm8 : m ≤ 8 := by have := (vCart_parts hv).2.2; have := CL.out; omega
  clear hv
  go_enter Try.func38, Try.ntmps38
  go_wp2_with fail
  refine (validShop_s w0 A n c sh h' hn).mono ?_
  rintro e w1 ⟨rfl, k1⟩
  go_wp2_with fail
  refine (lines_s w1 A n c hn B m d ls ((K.Rd.below h2' k1).more k1.size) hm).mono ?_
  rintro e w2 ⟨rfl, k2⟩
  replace k2 := K.Kept.trans k1 k2
  clear k1
  have I1 := I0.kept k2
  clear I0 k2 h' h2' hw0
  go_wp2_with fail
  clear hs hl
  go_loopw [10, 11, 12] (fun v s i wr => ∃ (k j c : Nat) (A' : Option Addr) (b : Bool), k ≤ m ∧ j ≤ k ∧ i = .int .i64 k ∧ v = .slice A' j c ∧ s = .bool b ∧ TS ls a z k b ∧ PInv w wr A' j c (Plain.takeL (ls.take k) a z)) (fun _ _ i _ => m - (intOf i).toNat)
  case atStart => exact ⟨0, 0, 0, _, false, Nat.zero_le _, Nat.le_refl _, rfl, rfl, rfl, TS.start, by simpa [Plain.takeL] using I1⟩
  case round =>
    clear I1
    obtain ⟨k, j, c', A', b, hk, hj, rfl, rfl, rfl, T, I⟩ := hrel
    by_cases hlt : k < m
    · obtain ⟨bb, o, p, q, rfl, hb, c1, c2, hx⟩ := K.PR.cell (K.Rd.below h2 I.2) hlt
      have hq : 1 ≤ q ∧ q ≤ 20 := (CT.out.1 _ (List.mem_of_getElem? hx.out)).2
      have zx := I.2.size
      have o1 := I.1
      by_cases hp : p = a
      · subst hp
        by_cases hs : q < z
        · have E := Lib.hid ((tkOk_eq HV.out HZ.out).trans (has_miss CT.out hx.out hs))
          have KW := Lib.hid I.2
          go_wp2
          go_ret2
          exact PB.of (PB.nil false KW.out) (tkL_no E.out).symm E.out.symm
        · have W1 : IntKind.i64.wrap (q - z) = q - z := by rw [IntKind.wrap_i64]; omega
          have T1 := Lib.hid (T.hit hx.out (by omega))
          clear T
          by_cases ht : z < q
          · have HP := Lib.hid (tk_part hx.out ht)
            go_wp2_with (at_builtin; refine app3 rfl _ _ 28 rfl w.heap.size 37 2 16 i0 (.agg #[.int .i64 0, .int .i64 0]) Try.underlying28 hi hz0 hz1 hz2 rfl (by decide) _ _ j _ (by rfl) o1 _ _ (by rfl) (by first | rfl | simp) (by rfl) (by rfl) (by unfold maxLen; omega) (by omega) (by first | omega | (simp; omega)) ?_; intro A3 c3 w3 own3 hg3 hn3)
            have IH := Lib.hid (I.app own3 hg3)
            clear own3 hg3 hn3 I o1 c1 c2
            go_wp2
            go_roundw
            case rel => exact ⟨k + 1, j + 1, c3, A3, true, by omega, by omega, by go_num, rfl, rfl, T1.out, by rw [HP.out]; exact IH.out⟩
            case measure => simp [intOf]; omega
          · have HP := Lib.hid (tk_all hx.out ht)
            have IP := Lib.hid I
            go_wp2
            go_roundw
            case rel => exact ⟨k + 1, j, c', A', true, by omega, by omega, by go_num, rfl, rfl, T1.out, by rw [HP.out]; exact IP.out⟩
            case measure => simp [intOf]; omega
      · have HP := Lib.hid (tk_other (z := z) hx.out hp)
        have T1 := Lib.hid (T.other hx.out hp)
        clear T
        go_wp2_with (at_builtin; refine app3 rfl _ _ 28 rfl w.heap.size 37 2 16 i0 (.agg #[.int .i64 0, .int .i64 0]) Try.underlying28 hi hz0 hz1 hz2 rfl (by decide) _ _ j _ (by rfl) o1 _ _ (by rfl) (by first | rfl | simp) (by rfl) (by rfl) (by unfold maxLen; omega) (by omega) (by first | omega | (simp; omega)) ?_; intro A3 c3 w3 own3 hg3 hn3)
        have IH := Lib.hid (I.app own3 hg3)
        clear own3 hg3 hn3 I o1 c1 c2
        go_wp2
        go_roundw
        case rel => exact ⟨k + 1, j + 1, c3, A3, b, by omega, by omega, by go_num, rfl, rfl, T1.out, by rw [HP.out]; exact IH.out⟩
        case measure => simp [intOf]; omega
    · have hkn : m = k := by omega
      subst hkn
      rw [K.take_all CL.out] at I
      cases b
      · have E := Lib.hid ((tkOk_eq (a := a) HV.out HZ.out).trans (T.no CL.out))
        have KW := Lib.hid I.2
        clear I T
        go_wp2
        go_ret2
        exact PB.of (PB.nil false KW.out) (tkL_no E.out).symm E.out.symm
      · have E := Lib.hid ((tkOk_eq (a := a) HV.out HZ.out).trans (T.yes CL.out))
        have HI := Lib.hid I
        clear I T
        go_wp2
        go_ret2
        exact PB.of (HI.out.res true) (tkL_yes E.out).symm E.out.symm
end C
end Go.Proofs.Ytdhecblljcdpdaa

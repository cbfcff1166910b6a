/-
  Contracts of PointOf, of the program and of the reference. Conditions: lengths below 2^40.
-/
import Derived.Test.YtapjlbcpfemeiaaGuardX
import Derived.Test.YtapjlbcpfemeiaaGroups
import Derived.Test.YtapjlbcpfemeiaaSpoil
namespace Go.Proofs.Ytapjlbcpfemeiaa
open Go.RowKit
namespace C

def poOk (sh : List K.Q4) (l : List (Int × Int)) (co : List Int) : Bool := vCart sh l && cpOk co
def poT (sh : List K.Q4) (l : List (Int × Int)) (co : List Int) : Int := if poOk sh l co = true then TO sh l else 0
def poC (sh : List K.Q4) (l : List (Int × Int)) (co : List Int) : List Int := if poOk sh l co = true then gc sh l else []
def poK (sh : List K.Q4) (l : List (Int × Int)) (co : List Int) : List Int := if poOk sh l co = true then co else []
/-- A point and whether there is one, its lists in memory of the call's own. -/
def PointB (w : World) (t : Int) (cs co : List Int) (b : Bool) (e : Ending) (w' : World) : Prop := ∃ (D : Option Addr) (nd cd : Nat) (E : Option Addr) (ne ce : Nat), e = .returned (.tuple #[.agg #[.int .i64 t, .slice D nd cd, .slice E ne ce], .bool b]) ∧ cs.length = nd ∧ co.length = ne ∧ w'.ownsRow w.heap.size 3 1 (.slice D nd cd) nd (cs.map (Value.int .i64)) ∧ w'.ownsRow w.heap.size 3 1 (.slice E ne ce) ne (co.map (Value.int .i64)) ∧ (∀ i j, (Value.slice D nd cd).ownBlock = some i → (Value.slice E ne ce).ownBlock = some j → i ≠ j) ∧ K.Kept w w'
theorem PointB.zero {w w' : World} (h : K.Kept w w') : PointB w 0 [] [] false (.returned (.tuple #[.agg #[.int .i64 0, .slice none 0 0, .slice none 0 0], .bool false])) w' := ⟨_, _, _, _, _, _, rfl, rfl, rfl, World.ownsRow_nil _ _ _ _, World.ownsRow_nil _ _ _ _, fun i j hi => by simp [Value.ownBlock] at hi, h⟩
theorem mul_bdP {a r A B : Int} (h0 : 0 ≤ a) (h1 : a ≤ A) (h2 : 0 ≤ r) (h3 : r ≤ B) : 0 ≤ a * r ∧ a * r ≤ A * B :=
  ⟨Int.mul_nonneg h0 h2, Int.mul_le_mul h1 h3 h2 (by omega)⟩
theorem to_bdP {sh : List K.Q4} {c : List (Int × Int)} (h : vCart sh c = true) : 0 ≤ TO sh c ∧ TO sh c ≤ 1000000 := by
  rw [TO_yes h]
  obtain ⟨hs, hc, h8⟩ := vCart_parts h
  have key : ∀ d : List (Int × Int), (∀ x ∈ d, 1 ≤ x.2 ∧ x.2 ≤ 20) → 0 ≤ (la sh d).sum ∧ (la sh d).sum ≤ d.length * 100000 := by
    intro d
    induction d with
    | nil => intro _; simp [la]
    | cons x d ih =>
      intro hd
      have i1 := ih fun l hl => hd l (by simp [hl])
      have i2 := hd x (by simp)
      have hp : 0 ≤ prc sh x.1 ∧ prc sh x.1 ≤ 5000 := by
        unfold prc
        rw [List.getD_eq_getElem?_getD]
        cases hx : sh[x.1.toNat]? with
        | none => simp
        | some y => have := (hs.1 y (List.mem_of_getElem? hx)).1; simp; omega
      have m := mul_bdP hp.1 hp.2 (by omega : 0 ≤ x.2) i2.2
      simp only [la, List.map_cons, List.sum_cons, List.length_cons] at i1 ⊢
      omega
  have b := key c fun x hx => (hc.1 x hx).2
  have : (c.length : Int) ≤ 8 := by omega
  omega
theorem gc_bdP {sh : List K.Q4} {c : List (Int × Int)} (h : vCart sh c = true) : allB (gc sh c) 0 1000000 = true := by
  obtain ⟨_, hc, h8⟩ := vCart_parts h
  have g := fun i => gAt_bound sh i c fun y hy => (hc.1 y hy).2
  unfold allB gc
  simp only [List.all_cons, List.all_nil, Bool.and_true, Bool.and_eq_true, wi_true]
  have := g 0
  have := g 1
  have := g 2
  omega
theorem vP_cart {sh : List K.Q4} {c : List (Int × Int)} (h : vCart sh c = true) (co : List Int) : vP (TO sh c) (gc sh c) co = cpOk co := by
  unfold vP
  rw [wi_true.2 (to_bdP h), gc_bdP h]
  rfl
theorem validShop_sp (w : World) (A : Option Addr) (n c : Nat) (l : List K.Q4) (b : Bool) (hb : Plain.vShop l = b) (h : K.QR w w.heap.size A n l) (hn : n ≤ 1099511627776) : Calls Try.prog 59 #[.slice A n c] w fun e w' => e = .returned (.bool b) ∧ K.Kept w w' := hb ▸ validShop_s w A n c l h hn
theorem lines_sp (w : World) (S : Option Addr) (sn sc : Nat) (hsn : sn ≤ 1099511627776) (A : Option Addr) (n c : Nat) (l : List (Int × Int)) (b : Bool) (hb : Plain.vLines (sn : Int) l = b) (h : K.PR w w.heap.size A n l) (hn : n ≤ 1099511627776) : Calls Try.prog 60 #[.slice S sn sc, .slice A n c] w fun e w' => e = .returned (.bool b) ∧ K.Kept w w' := hb ▸ lines_s w S sn sc hsn A n c l h hn
set_option maxRecDepth 100000 in
set_option maxHeartbeats 2000000 in
theorem pointOf_i (w : World) (S : Option Addr) (sn sc : Nat) (sh : List K.Q4) (A : Option Addr) (n c : Nat) (l : List (Int × Int)) (F : Option Addr) (m d : Nat) (co : List Int) (h : K.QR w w.heap.size S sn sh) (hs : sn ≤ 1099511627776) (h2 : K.PR w w.heap.size A n l) (hn : n ≤ 1099511627776) (h3 : K.IR w w.heap.size F m co) (hm : m ≤ 1000000) (t : Int) (cs k : List Int) (b : Bool) (hb : poOk sh l co = b) (ht : poT sh l co = t) (hc : poC sh l co = cs) (hk : poK sh l co = k) : Calls Try.prog 21 #[.slice S sn sc, .slice A n c, .slice F m d] w (PointB w t cs k b) := by
  have bx_r : BoxN (w.alloc (.cells #[.int .i64 0, .slice none 0 0, .slice none 0 0] 30)) w.heap.size (#[.int .i64 0, .slice none 0 0, .slice none 0 0] : Array Value).toList := BoxN.new w _ _
  have kw := kp1 w (.cells #[.int .i64 0, .slice none 0 0, .slice none 0 0] 30)
  generalize hww0 : w.alloc (.cells #[.int .i64 0, .slice none 0 0, .slice none 0 0] 30) = w0 at bx_r kw
  have HS := Lib.hid h
  have HL := Lib.hid h2
  have HF := Lib.hid h3
  clear h h2 h3
  cases q1 : vCart sh l
  · have hb0 : poOk sh l co = false := by unfold poOk; rw [q1]; rfl
    simp only [poT, poC, poK, hb0] at ht hc hk
    rw [hb0] at hb
    subst hb ht hc hk
    go_enter Try.func21, Try.ntmps21
    go_wp2_with fail
    refine (validCart_i _ S sn sc sh A n c l false q1 (rdw HS.out kw) hs (rdw HL.out kw) hn).mono ?_
    rintro e w1 ⟨rfl, k1⟩
    replace bx_r := bx_r.kept k1
    replace kw := K.Kept.trans kw k1
    clear k1
    have br := ((bx_r.set 0 (.int .i64 0) (by simp)).set 1 (.slice none 0 0) (by simp)).set 2 (.slice none 0 0) (by simp)
    obtain ⟨z0, z1, z2, _⟩ := BoxN.at3 br
    obtain ⟨r0, r1, r2, r3, r4, r5, r6⟩ := BoxN.at3 bx_r
    go_wp2
    refine bodyPost_ret (by simp [results, Try.results21, go_sem, z0, z1, z2]; try rfl) rfl ?_
    exact PointB.zero (kset (kset (kset kw (Nat.le_refl _) _) (Nat.le_refl _) _) (Nat.le_refl _) _)
  cases q2 : cpOk co
  · have hb0 : poOk sh l co = false := by unfold poOk; rw [q2]; simp
    simp only [poT, poC, poK, hb0] at ht hc hk
    rw [hb0] at hb
    subst hb ht hc hk
    go_enter Try.func21, Try.ntmps21
    go_wp2_with fail
    refine (validCart_i _ S sn sc sh A n c l true q1 (rdw HS.out kw) hs (rdw HL.out kw) hn).mono ?_
    rintro e w1 ⟨rfl, k1⟩
    replace bx_r := bx_r.kept k1
    replace kw := K.Kept.trans kw k1
    clear k1
    go_wp2_with fail
    refine (couponsOk_i _ F m d co false q2 (rdw HF.out kw) (by omega)).mono ?_
    rintro e w2 ⟨rfl, k1⟩
    replace bx_r := bx_r.kept k1
    replace kw := K.Kept.trans kw k1
    clear k1
    have br := ((bx_r.set 0 (.int .i64 0) (by simp)).set 1 (.slice none 0 0) (by simp)).set 2 (.slice none 0 0) (by simp)
    obtain ⟨z0, z1, z2, _⟩ := BoxN.at3 br
    obtain ⟨r0, r1, r2, r3, r4, r5, r6⟩ := BoxN.at3 bx_r
    go_wp2
    refine bodyPost_ret (by simp [results, Try.results21, go_sem, z0, z1, z2]; try rfl) rfl ?_
    exact PointB.zero (kset (kset (kset kw (Nat.le_refl _) _) (Nat.le_refl _) _) (Nat.le_refl _) _)
  have hb0 : poOk sh l co = true := by unfold poOk; rw [q1, q2]; rfl
  simp only [poT, poC, poK, hb0, if_true] at ht hc hk
  rw [hb0] at hb
  subst hb ht hc hk
  obtain ⟨i0, hi, hz0, hz1, hz2⟩ := info_parts info_int
  go_enter Try.func21, Try.ntmps21
  go_wp2_with fail
  refine (validCart_i _ S sn sc sh A n c l true q1 (rdw HS.out kw) hs (rdw HL.out kw) hn).mono ?_
  rintro e w1 ⟨rfl, k1⟩
  replace bx_r := bx_r.kept k1
  replace kw := K.Kept.trans kw k1
  clear k1
  go_wp2_with fail
  refine (couponsOk_i _ F m d co true q2 (rdw HF.out kw) (by omega)).mono ?_
  rintro e w2 ⟨rfl, k1⟩
  replace bx_r := bx_r.kept k1
  replace kw := K.Kept.trans kw k1
  clear k1
  go_wp2_with fail
  refine (totalOf_i _ S sn sc sh A n c l (rdw HS.out kw) hs (rdw HL.out kw) hn).mono ?_
  rintro e w3 ⟨rfl, k1⟩
  replace bx_r := bx_r.kept k1
  replace kw := K.Kept.trans kw k1
  clear k1
  go_wp2_with fail
  refine (groupCounts_i _ S sn sc sh A n c l (rdw HS.out kw) hs (rdw HL.out kw) hn).mono ?_
  rintro e w4 ⟨D, nd, cd, rfl, hld, ownd, k1⟩
  rw [GC_yes q1] at hld ownd
  have ltd := ownd.lt
  have ownd := own_monoG ownd (show w.heap.size + 1 ≤ _ by have := bx_r.1; omega)
  replace bx_r := bx_r.kept k1
  replace kw := K.Kept.trans kw k1
  clear k1
  have k0 := kp1 w4 (.cells #[] 3)
  have hnew := World.ownsRow_lit (base := w4.heap.size) (size := 1) (e := 3) w4 #[] 0 (Nat.le_refl _) (by unfold maxLen; omega) rfl
  have hF4 := K.Rd.below HF.out (K.Kept.trans kw k0)
  have ownd := K.own_kept ownd k0
  have zr := bx_r.1
  replace bx_r := bx_r.kept k0
  go_wp2_with (at_builtin; refine K.wpList_appAny rfl _ _ 28 rfl w4.heap.size 3 1 8 i0 (.int .i64 0) Try.underlying28 hi hz0 hz1 hz2 rfl (by decide) _ _ 0 [] (by rfl) hnew _ F m d _ (by rfl) hF4 (ints_oneCell _ _) (by unfold maxLen; omega) (by omega) k0.size ?_; intro E1 e1 w5 own5 hg5; have k5 : K.Kept w4 w5 := K.kept_own k0 hnew hg5 k0.size; have bx5 : BoxN w5 w.heap.size _ := bx_r.grown hg5 (fun e => by have := hnew.lt _ e; omega); obtain ⟨r0, r1, r2, r3, r4, r5, r6⟩ := BoxN.at3 bx5)
  rw [Nat.zero_add, List.nil_append] at own5
  have lt5 := own5.lt
  have hne : Hid (∀ i j, (Value.slice D nd cd).ownBlock = some i → (Value.slice E1 m e1).ownBlock = some j → i ≠ j) := fun i j hi hj => by have := (ltd i hi).2; have := (lt5 j hj).1; omega
  have ownd := ownd.kept hg5 (by
    cases hO : (Value.slice D nd cd).ownBlock with
    | none => exact .inl rfl
    | some i => exact .inr (fun e => by have := (ltd i hO).2; have := (hnew.lt i e.symm).1; omega))
  have own5 := own_monoG own5 (show w.heap.size + 1 ≤ _ by omega)
  replace kw := K.Kept.trans kw k5
  have br := ((bx5.set 0 (.int .i64 (TO sh l)) (by simp)).set 1 (.slice D nd cd) (by simp)).set 2 (.slice E1 m e1) (by simp)
  obtain ⟨z0, z1, z2, _⟩ := BoxN.at3 br
  have OW := Lib.hid (own_monoG (own_set (i := 2) (own_set (i := 1) (own_set (i := 0) ownd (Nat.lt_succ_self _) (.int .i64 (TO sh l))) (Nat.lt_succ_self _) (.slice D nd cd)) (Nat.lt_succ_self _) (.slice E1 m e1)) (Nat.le_succ _))
  have OX := Lib.hid (own_monoG (own_set (i := 2) (own_set (i := 1) (own_set (i := 0) own5 (Nat.lt_succ_self _) (.int .i64 (TO sh l))) (Nat.lt_succ_self _) (.slice D nd cd)) (Nat.lt_succ_self _) (.slice E1 m e1)) (Nat.le_succ _))
  have KW := Lib.hid (kset (i := 2) (kset (i := 1) (kset (i := 0) kw (Nat.le_refl _) (.int .i64 (TO sh l))) (Nat.le_refl _) (.slice D nd cd)) (Nat.le_refl _) (.slice E1 m e1))
  have LF := Lib.hid (K.IR.len HF.out)
  have LDh := Lib.hid hld
  clear ownd own5 kw br k5
  go_wp2
  refine bodyPost_ret (by simp [results, Try.results21, go_sem, z0, z1, z2]; try rfl) rfl ?_
  exact ⟨D, nd, cd, E1, m, e1, rfl, LDh.out, LF.out, OW.out, OX.out, hne.out, KW.out⟩
set_option maxRecDepth 100000 in
set_option maxHeartbeats 2000000 in
theorem pointOf_s (w : World) (S : Option Addr) (sn sc : Nat) (sh : List K.Q4) (A : Option Addr) (n c : Nat) (l : List (Int × Int)) (F : Option Addr) (m d : Nat) (co : List Int) (h : K.QR w w.heap.size S sn sh) (hs : sn ≤ 1099511627776) (h2 : K.PR w w.heap.size A n l) (hn : n ≤ 1099511627776) (h3 : K.IR w w.heap.size F m co) (hm : m ≤ 1000000) (t : Int) (cs k : List Int) (b : Bool) (hb : poOk sh l co = b) (ht : poT sh l co = t) (hc : poC sh l co = cs) (hk : poK sh l co = k) : Calls Try.prog 22 #[.slice S sn sc, .slice A n c, .slice F m d] w (PointB w t cs k b) := by
  have bx_r : BoxN (w.alloc (.cells #[.int .i64 0, .slice none 0 0, .slice none 0 0] 30)) w.heap.size (#[.int .i64 0, .slice none 0 0, .slice none 0 0] : Array Value).toList := BoxN.new w _ _
  have kw := kp1 w (.cells #[.int .i64 0, .slice none 0 0, .slice none 0 0] 30)
  generalize hww0 : w.alloc (.cells #[.int .i64 0, .slice none 0 0, .slice none 0 0] 30) = w0 at bx_r kw
  have HS := Lib.hid h
  have HL := Lib.hid h2
  have HF := Lib.hid h3
  have SN := Lib.hid (K.QR.len h)
  clear h h2 h3
  cases q1 : vCart sh l
  · have hb0 : poOk sh l co = false := by unfold poOk; rw [q1]; rfl
    simp only [poT, poC, poK, hb0] at ht hc hk
    rw [hb0] at hb
    subst hb ht hc hk
    cases q0 : Plain.vShop sh
    · go_enter Try.func22, Try.ntmps22
      go_wp2_with fail
      refine (validShop_sp _ S sn sc sh false q0 (rdw HS.out kw) hs).mono ?_
      rintro e w1 ⟨rfl, k1⟩
      replace bx_r := bx_r.kept k1
      replace kw := K.Kept.trans kw k1
      clear k1
      have br := ((bx_r.set 0 (.int .i64 0) (by simp)).set 1 (.slice none 0 0) (by simp)).set 2 (.slice none 0 0) (by simp)
      obtain ⟨z0, z1, z2, _⟩ := BoxN.at3 br
      obtain ⟨r0, r1, r2, r3, r4, r5, r6⟩ := BoxN.at3 bx_r
      go_wp2
      refine bodyPost_ret (by simp [results, Try.results22, go_sem, z0, z1, z2]; try rfl) rfl ?_
      exact PointB.zero (kset (kset (kset kw (Nat.le_refl _) _) (Nat.le_refl _) _) (Nat.le_refl _) _)
    · have ql : Plain.vLines (sn : Int) l = false := by have := q1; unfold vCart at this; rw [q0, SN.out] at this; exact this
      go_enter Try.func22, Try.ntmps22
      go_wp2_with fail
      refine (validShop_sp _ S sn sc sh true q0 (rdw HS.out kw) hs).mono ?_
      rintro e w1 ⟨rfl, k1⟩
      replace bx_r := bx_r.kept k1
      replace kw := K.Kept.trans kw k1
      clear k1
      go_wp2_with fail
      refine (lines_sp _ S sn sc hs A n c l false ql (rdw HL.out kw) hn).mono ?_
      rintro e w2 ⟨rfl, k1⟩
      replace bx_r := bx_r.kept k1
      replace kw := K.Kept.trans kw k1
      clear k1
      have br := ((bx_r.set 0 (.int .i64 0) (by simp)).set 1 (.slice none 0 0) (by simp)).set 2 (.slice none 0 0) (by simp)
      obtain ⟨z0, z1, z2, _⟩ := BoxN.at3 br
      obtain ⟨r0, r1, r2, r3, r4, r5, r6⟩ := BoxN.at3 bx_r
      go_wp2
      refine bodyPost_ret (by simp [results, Try.results22, go_sem, z0, z1, z2]; try rfl) rfl ?_
      exact PointB.zero (kset (kset (kset kw (Nat.le_refl _) _) (Nat.le_refl _) _) (Nat.le_refl _) _)
  have q0 : Plain.vShop sh = true := by have := q1; unfold vCart at this; rw [Bool.and_eq_true] at this; exact this.1
  have ql : Plain.vLines (sn : Int) l = true := by have := q1; unfold vCart at this; rw [Bool.and_eq_true, SN.out] at this; exact this.2
  have hn8 : n ≤ 8 := by have := (vCart_parts q1).2.2; have := K.PR.len HL.out; omega
  have QV := Lib.hid (vP_cart q1 co)
  go_enter Try.func22, Try.ntmps22
  go_wp2_with fail
  refine (validShop_sp _ S sn sc sh true q0 (rdw HS.out kw) hs).mono ?_
  rintro e w1 ⟨rfl, k1⟩
  replace bx_r := bx_r.kept k1
  replace kw := K.Kept.trans kw k1
  clear k1
  go_wp2_with fail
  refine (lines_sp _ S sn sc hs A n c l true ql (rdw HL.out kw) hn).mono ?_
  rintro e w2 ⟨rfl, k1⟩
  replace bx_r := bx_r.kept k1
  replace kw := K.Kept.trans kw k1
  clear k1
  go_wp2_with fail
  refine (lineAmounts_core _ S sn sc sh A n c l q1 (rdw HS.out kw) (rdw HL.out kw)).mono ?_
  rintro e w3 ⟨D0, n0, c0, rfl, hl0, own0, k1⟩
  have RA := K.rd_own own0
  have hn0 : n0 ≤ 8 := by have := la_len sh l; have := K.PR.len HL.out; omega
  replace bx_r := bx_r.kept k1
  replace kw := K.Kept.trans kw k1
  clear k1
  clear own0 hl0
  go_wp2_with fail
  refine (sum_s w3 D0 n0 c0 (la sh l) RA (by omega) (la_small q1)).mono ?_
  rintro e w4 ⟨rfl, rfl⟩
  have eT := (TO_yes q1).symm
  rw [eT]
  clear RA hn0
  go_wp2_with fail
  refine (groupCounts_core _ S sn sc sh A n c l q1 (rdw HS.out kw) (rdw HL.out kw)).mono ?_
  rintro e w5 ⟨D, nd, cd, rfl, hld, ownd, k1⟩
  have hnd : nd ≤ 1099511627776 := by have := hld; simp [gc] at this; omega
  have ltd := ownd.lt
  have ownd := own_monoG ownd (show w.heap.size + 1 ≤ _ by have := bx_r.1; omega)
  replace bx_r := bx_r.kept k1
  replace kw := K.Kept.trans kw k1
  clear k1
  go_wp2_with fail
  refine (copyInts_c _ F m d co (rdw HF.out kw) (by omega)).mono ?_
  rintro e w6 ⟨E1, ne, e1, rfl, hle, owne, k1⟩
  have hne' : ne ≤ 1099511627776 := by have := K.IR.len HF.out; omega
  have lte := owne.lt
  have hne : Hid (∀ i j, (Value.slice D nd cd).ownBlock = some i → (Value.slice E1 ne e1).ownBlock = some j → i ≠ j) := fun i j hi hj => by have := (ltd i hi).2; have := (lte j hj).1; omega
  have owne := own_monoG owne (show w.heap.size + 1 ≤ _ by have := bx_r.1; omega)
  replace bx_r := bx_r.kept k1
  replace kw := K.Kept.trans kw k1
  replace ownd := K.own_kept ownd k1
  clear k1
  clear ltd lte
  have bx_v : BoxN (w6.alloc (.cells #[.int .i64 (TO sh l), .slice D nd cd, .slice E1 ne e1] 30)) w6.heap.size (#[.int .i64 (TO sh l), .slice D nd cd, .slice E1 ne e1] : Array Value).toList := BoxN.new w6 _ _
  have k1 := kp1 w6 (.cells #[.int .i64 (TO sh l), .slice D nd cd, .slice E1 ne e1] 30)
  replace ownd := K.own_kept ownd k1
  replace owne := K.own_kept owne k1
  replace bx_r := bx_r.kept k1
  replace kw := K.Kept.trans kw k1
  generalize hw7 : w6.alloc (.cells #[.int .i64 (TO sh l), .slice D nd cd, .slice E1 ne e1] 30) = w7 at bx_v ownd owne bx_r kw
  clear k1
  obtain ⟨v0, v1, v2, v3, v4, v5, v6⟩ := BoxN.at3 bx_v
  obtain ⟨bc, qc⟩ : ∃ b, cpOk co = b := ⟨_, rfl⟩
  have hb0 : poOk sh l co = bc := by unfold poOk; rw [q1, qc]; rfl
  go_wp2_with fail
  refine (validPoint_s w7 (TO sh l) D nd cd (gc sh l) E1 ne e1 co bc (QV.out.trans qc) (K.rd_own ownd) hnd (K.rd_own owne) hne').mono ?_
  rintro e w8 ⟨rfl, k1⟩
  replace ownd := K.own_kept ownd k1
  replace owne := K.own_kept owne k1
  replace bx_r := bx_r.kept k1
  replace bx_v := bx_v.kept k1
  replace kw := K.Kept.trans kw k1
  clear k1 v0 v1 v2 v3 v4 v5 v6 hw7
  obtain ⟨v0, v1, v2, v3, v4, v5, v6⟩ := BoxN.at3 bx_v
  rw [hb0] at hb
  subst hb
  cases bc
  · simp only [poT, poC, poK, hb0] at ht hc hk
    subst ht hc hk
    clear ownd owne
    have br := ((bx_r.set 0 (.int .i64 0) (by simp)).set 1 (.slice none 0 0) (by simp)).set 2 (.slice none 0 0) (by simp)
    obtain ⟨z0, z1, z2, _⟩ := BoxN.at3 br
    obtain ⟨r0, r1, r2, r3, r4, r5, r6⟩ := BoxN.at3 bx_r
    go_wp2
    refine bodyPost_ret (by simp [results, Try.results22, go_sem, z0, z1, z2]; try rfl) rfl ?_
    exact PointB.zero (kset (kset (kset kw (Nat.le_refl _) _) (Nat.le_refl _) _) (Nat.le_refl _) _)
  · simp only [poT, poC, poK, hb0, if_true] at ht hc hk
    subst ht hc hk
    have br := ((bx_r.set 0 (.int .i64 (TO sh l)) (by simp)).set 1 (.slice D nd cd) (by simp)).set 2 (.slice E1 ne e1) (by simp)
    obtain ⟨z0, z1, z2, _⟩ := BoxN.at3 br
    obtain ⟨r0, r1, r2, r3, r4, r5, r6⟩ := BoxN.at3 bx_r
    have OW := Lib.hid (own_monoG (own_set (i := 2) (own_set (i := 1) (own_set (i := 0) ownd (Nat.lt_succ_self _) (.int .i64 (TO sh l))) (Nat.lt_succ_self _) (.slice D nd cd)) (Nat.lt_succ_self _) (.slice E1 ne e1)) (Nat.le_succ _))
    have OX := Lib.hid (own_monoG (own_set (i := 2) (own_set (i := 1) (own_set (i := 0) owne (Nat.lt_succ_self _) (.int .i64 (TO sh l))) (Nat.lt_succ_self _) (.slice D nd cd)) (Nat.lt_succ_self _) (.slice E1 ne e1)) (Nat.le_succ _))
    have KW := Lib.hid (kset (i := 2) (kset (i := 1) (kset (i := 0) kw (Nat.le_refl _) (.int .i64 (TO sh l))) (Nat.le_refl _) (.slice D nd cd)) (Nat.le_refl _) (.slice E1 ne e1))
    have LD := Lib.hid hld
    have LE := Lib.hid hle
    clear ownd owne kw br hld hle
    go_wp2
    refine bodyPost_ret (by simp [results, Try.results22, go_sem, z0, z1, z2]; try rfl) rfl ?_
    exact ⟨D, nd, cd, E1, ne, e1, rfl, LD.out, LE.out, OW.out, OX.out, hne.out, KW.out⟩
end C
end Go.Proofs.Ytapjlbcpfemeiaa

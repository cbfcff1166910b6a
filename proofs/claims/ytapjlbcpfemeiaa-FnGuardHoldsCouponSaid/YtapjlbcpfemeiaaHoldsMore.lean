/-
  The law of GuardHolds with one coupon more, for every code. Conditions: none.
-/
import Derived.Test.YtapjlbcpfemeiaaHoldsLaws
import Derived.Test.YtapjlbcpfemeiaaGPlain
namespace Go.Proofs.Ytapjlbcpfemeiaa
open Go.RowKit
namespace C

theorem asc_nine {l : List Int} (h : asc l = true) (h9 : ∀ x ∈ l, x < 9) : asc (l ++ [9]) = true := by
  refine decide_eq_true fun i hi => ?_
  rw [List.length_append, List.length_singleton, Nat.add_sub_cancel] at hi
  have e1 : (l ++ [9])[i]? = some (l[i]'hi) := by rw [List.getElem?_append_left hi]; exact List.getElem?_eq_getElem hi
  rw [getD_i e1]
  by_cases h2 : i + 1 < l.length
  · have e2 : (l ++ [9])[i + 1]? = some (l[i + 1]'h2) := by rw [List.getElem?_append_left h2]; exact List.getElem?_eq_getElem h2
    rw [getD_i e2]
    have := of_decide_eq_true h i (by omega)
    rwa [getD_i (List.getElem?_eq_getElem hi), getD_i (List.getElem?_eq_getElem h2)] at this
  · have e2 : (l ++ [9])[i + 1]? = some 9 := by rw [List.getElem?_append_right (by omega), show i + 1 - l.length = 0 by omega]; rfl
    rw [getD_i e2]
    exact h9 _ (List.getElem_mem hi)
theorem cp_nine {l : List Int} (h : cpOk l = true) (hl : l.length < 3) (h9 : ¬ (9 : Int) ∈ l) : cpOk (l ++ [9]) = true := by
  unfold cpOk at h ⊢
  simp only [Bool.and_eq_true] at h
  obtain ⟨⟨a, b⟩, c⟩ := h
  have hx : ∀ x ∈ l, x < 9 := fun x hx => by
    have w := wi_true.1 (List.all_eq_true.1 a x hx)
    have : x ≠ 9 := fun e => h9 (e ▸ hx)
    omega
  have a2 : allB (l ++ [9]) 1 9 = true := by
    unfold allB at a ⊢
    rw [List.all_append, a]
    decide
  have hl2 : (l ++ [9]).length ≤ 3 := by rw [List.length_append, List.length_singleton]; omega
  rw [a2, asc_nine b hx, decide_eq_true hl2]
  rfl
theorem gH_nine {x y u t : Int} {l : List (Int × Int)} {cs co : List Int} (h : gH x y l u t cs co = true) (hl : co.length < 3) (h9 : ¬ (9 : Int) ∈ co) : gH x y l u t cs (co ++ [9]) = true := by
  obtain ⟨q1, q2, q3, q4, q5⟩ := gH_parts h
  have v2 : vP t cs (co ++ [9]) = true := by
    unfold vP at q2 ⊢
    simp only [Bool.and_eq_true] at q2
    rw [q2.1.1.1, q2.1.1.2, q2.1.2, cp_nine q2.2 hl h9]
    rfl
  rw [gH_eq q1 v2 q3 q4]
  rw [Bool.or_eq_true] at q5 ⊢
  rcases q5 with q5 | q5
  · exact .inl q5
  · exact .inr (decide_eq_true (List.mem_append_left _ (of_decide_eq_true q5)))
theorem gH_bare {x y u t : Int} {l : List (Int × Int)} {cs co : List Int} (h : gH x y l u t cs co = true) : gH x y l u t cs [] = (u == 0) := by
  obtain ⟨q1, q2, q3, q4, q5⟩ := gH_parts h
  have v2 : vP t cs [] = true := by
    unfold vP at q2 ⊢
    simp only [Bool.and_eq_true] at q2
    rw [q2.1.1.1, q2.1.1.2, q2.1.2]
    rfl
  rw [gH_eq q1 v2 q3 q4]
  simp
/-! ### what lies where in a statement that lays two lists and a variable in any order -/
theorem own_eb {X : World} {base b : Nat} (hb : b = X.heap.size) (h : base ≤ b) : (X.alloc (.cells #[] 3)).ownsRow base 3 1 (.slice (some ⟨b, 0, none⟩) 0 0) 0 [] := by
  subst hb
  exact World.ownsRow_lit X #[] 0 h (by unfold maxLen; omega) rfl
theorem rd9 {w : World} {b b' : Nat} (h : BoxN w b [.int .i64 9]) (e : b' = b) : K.Rd w w.heap.size 1 (some ⟨b', 0, none⟩) 1 [.int .i64 9] := by
  subst e
  refine ⟨rfl, fun _ => ⟨b', 0, rfl, h.1, fun j u hu => ?_⟩⟩
  have := (h.2 j u hu).1
  rwa [Nat.zero_add]
def RawP (w : World) (b : Nat) : Prop := w.heap[b]? = some (.cells #[.int .i64 0, .slice none 0 0, .slice none 0 0] 30)
theorem RawP.new (w : World) : RawP (w.alloc (.cells #[.int .i64 0, .slice none 0 0, .slice none 0 0] 30)) w.heap.size := heap_alloc_new w _
theorem RawP.lt {w : World} {b : Nat} (h : RawP w b) : b < w.heap.size := (Array.getElem?_eq_some_iff.1 h).1
theorem RawP.kept {w w' : World} {b : Nat} (h : RawP w b) (k : K.Kept w w') : RawP w' b := (k.block b h.lt).trans h
theorem RawP.row {w w' : World} {b b2 n c : Nat} (h : RawP w b) (hg : w.grownBy w' (Value.slice (some ⟨b2, 0, none⟩) n c).ownBlock) (hne : b2 ≠ b) : RawP w' b := (hg.block b h.lt (fun e => hne (ob_some e.symm))).trans h
theorem own_ne {w : World} {base n c b : Nat} {A : Option Addr} {xs : List Value} (h : w.ownsRow base 3 1 (.slice A n c) n xs) (hp : RawP w b) : ∀ j, (Value.slice A n c).ownBlock = some j → j ≠ b := fun j hj e => by
  subst e
  rcases h.2 with ⟨hv, h0⟩ | ⟨g, cap, cur, hv, _, hg, _⟩
  · rw [hv] at hj; simp [Value.ownBlock] at hj
  · rw [hv] at hj
    have e := ob_some hj
    subst e
    rw [hp] at hg
    injection hg with hg
    injection hg with h1 h2 h3
    exact absurd h2 (by decide)
theorem RawP.own {w w' : World} {base n c b : Nat} {A : Option Addr} {xs : List Value} (o : w.ownsRow base 3 1 (.slice A n c) n xs) (h : RawP w b) (hg : w.grownBy w' (Value.slice A n c).ownBlock) : RawP w' b := (hg.block b h.lt (fun e => own_ne o h b e.symm rfl)).trans h
theorem RawP.box {w : World} {b : Nat} (h : RawP w b) : BoxN w b [.int .i64 0, .slice none 0 0, .slice none 0 0] := by
  refine ⟨h.lt, fun i u hu => ⟨?_, ?_⟩⟩
  · rw [cell_of_row _ b i _ _ _ h, ← Array.getElem?_toList]
    exact hu
  · unfold World.frozen?; rw [show w.heap[b]? = _ from h]; rfl
theorem b9_row {w w' : World} {b b2 n c : Nat} {vs : List Value} (h : BoxN w b vs) (hg : w.grownBy w' (Value.slice (some ⟨b2, 0, none⟩) n c).ownBlock) (hne : b2 ≠ b) : BoxN w' b vs := h.grown hg (fun e => hne (ob_some e))
theorem kg_row {wp W v : World} {b n c : Nat} (kW : K.Kept wp W) (hb : wp.heap.size ≤ b) (hg : W.grownBy v (Value.slice (some ⟨b, 0, none⟩) n c).ownBlock) : K.Kept wp v := kgrown kW hg kW.size (fun i hi => by have := ob_some hi; omega)
theorem kg_own {wp W v : World} {e : TypeId} {size n : Nat} {u : Value} {xs : List Value} (kW : K.Kept wp W) (o : W.ownsRow wp.heap.size e size u n xs) (hg : W.grownBy v u.ownBlock) : K.Kept wp v := K.kept_own kW o hg kW.size
theorem k3 {W : World} {b : Nat} {p0 p1 p2 : Value} (hp : BoxN W b [p0, p1, p2]) : W.cell? ⟨b, 0, none⟩ = some p0 ∧ W.cell? ⟨b, 1, none⟩ = some p1 ∧ W.cell? ⟨b, 2, none⟩ = some p2 := by
  obtain ⟨r0, r1, r2, _⟩ := BoxN.at3 hp
  exact ⟨r0, r1, r2⟩
/-- Behind the statement: where the point with one coupon more lies. -/
def MoreP (wp wx : World) (t : Int) (D : Option Addr) (nd cd : Nat) (co : List Int) (b : Nat) (E : Option Addr) (ne ce : Nat) : Prop := BoxN wx b [.int .i64 t, .slice D nd cd, .slice E ne ce] ∧ wx.ownsRow wp.heap.size 3 1 (.slice E ne ce) ne (co.map (Value.int .i64)) ∧ K.Kept wp wx
theorem MoreP.put {wp v : World} {t : Int} {D : Option Addr} {nd cd : Nat} {co : List Int} {b : Nat} {E : Option Addr} {ne ce : Nat} (hp : RawP v b) (hb : wp.heap.size ≤ b) (o : v.ownsRow wp.heap.size 3 1 (.slice E ne ce) ne (co.map (Value.int .i64))) (k : K.Kept wp v) : MoreP wp (((v.setCell ⟨b, 0, none⟩ (.int .i64 t)).setCell ⟨b, 1, none⟩ (.slice D nd cd)).setCell ⟨b, 2, none⟩ (.slice E ne ce)) t D nd cd co b E ne ce :=
  ⟨((hp.box.set 0 _ (by simp)).set 1 _ (by simp)).set 2 _ (by simp), own_sneM (own_sneM (own_sneM o (own_ne o hp) _) (own_ne o hp) _) (own_ne o hp) _, kset (kset (kset k hb _) hb _) hb _⟩
theorem MoreP.new {wp v : World} {T : TypeId} {t : Int} {D : Option Addr} {nd cd : Nat} {co : List Int} {E : Option Addr} {ne ce : Nat} (o : v.ownsRow wp.heap.size 3 1 (.slice E ne ce) ne (co.map (Value.int .i64))) (k : K.Kept wp v) : MoreP wp (v.alloc (.cells #[.int .i64 t, .slice D nd cd, .slice E ne ce] T)) t D nd cd co v.heap.size E ne ce :=
  ⟨BoxN.new _ _ _, K.own_kept o (kp1 _ _), K.Kept.trans k (kp1 _ _)⟩
theorem rdwq {w : World} {d : Nat} {os : Array Obj} {size n : Nat} {A : Option Addr} {xs : List Value} (h : K.Rd w w.heap.size size A n xs) : K.Rd (Go.Sort.grow (redrawn w d) os) (Go.Sort.grow (redrawn w d) os).heap.size size A n xs := rdw h (below_regrown w d os)
set_option maxRecDepth 100000 in
set_option maxHeartbeats 40000000 in
theorem guardHoldsCouponLaw (w : World) (n c : Nat) (A : Option Addr) (h : Code w w.heap.size A n c) : Calls Try.prog 12 #[.slice A n c] w fun e w' => e = .returned (.bool true) ∧ Below w.heap.size w w' := by
  by_cases hn : 1048576 < n
  · go_enter Try.func12, Try.ntmps12
    go_wp2
    go_ret
    exact ⟨rfl, Below.refl _ _⟩
  have hc := h
  unfold Code maxLen at hc
  have hn' : n ≤ 1048576 := by omega
  clear hc hn
  go_enter Try.func12, Try.ntmps12
  go_wp2_with fail
  refine (drawGuardHolds_c w n c A h).mono ?_
  rintro e w1 ⟨x, y, u, Ag, ng, cg, l, t, D, nd, cd, cs, E, ne, ce, co, rfl, hb3, owng, rD, rE, k0⟩
  clear h
  have HD := Lib.hid rD
  have HE := Lib.hid rE
  have LL := Lib.hid (show l.length = ng by have := owng.1; rw [K.prs_len] at this; omega)
  have LD := Lib.hid (K.IR.len rD)
  have LE := Lib.hid (K.IR.len rE)
  clear rD rE
  have kw := K.Kept.refl w1
  have bx_v : BoxN ((w1.alloc (.cells #[.int .i64 x, .int .i64 y, .slice Ag ng cg, .int .i64 u] 27)).alloc (.cells #[.int .i64 t, .slice D nd cd, .slice E ne ce] 30)) w1.heap.size (#[.int .i64 x, .int .i64 y, .slice Ag ng cg, .int .i64 u] : Array Value).toList := (BoxN.new w1 _ _).kept (kp1 _ _)
  have bx_p : BoxN ((w1.alloc (.cells #[.int .i64 x, .int .i64 y, .slice Ag ng cg, .int .i64 u] 27)).alloc (.cells #[.int .i64 t, .slice D nd cd, .slice E ne ce] 30)) (w1.heap.size + 1) (#[.int .i64 t, .slice D nd cd, .slice E ne ce] : Array Value).toList := by have q := BoxN.new (w1.alloc (.cells #[.int .i64 x, .int .i64 y, .slice Ag ng cg, .int .i64 u] 27)) #[.int .i64 t, .slice D nd cd, .slice E ne ce] 30; rwa [show (w1.alloc (.cells #[.int .i64 x, .int .i64 y, .slice Ag ng cg, .int .i64 u] 27)).heap.size = w1.heap.size + 1 by simp] at q
  have kk : K.Kept w1 ((w1.alloc (.cells #[.int .i64 x, .int .i64 y, .slice Ag ng cg, .int .i64 u] 27)).alloc (.cells #[.int .i64 t, .slice D nd cd, .slice E ne ce] 30)) := K.Kept.trans (kp1 _ _) (kp1 _ _)
  replace owng := K.own_kept owng kk
  replace kw := K.Kept.trans kw kk
  generalize hw2 : ((w1.alloc (.cells #[.int .i64 x, .int .i64 y, .slice Ag ng cg, .int .i64 u] 27)).alloc (.cells #[.int .i64 t, .slice D nd cd, .slice E ne ce] 30)) = w2 at bx_v bx_p owng kw
  clear kk
  cases hB : gH x y l u t cs co
  case false =>
    obtain ⟨v0, v1, v2, v3, v4, v5, v6, v7, v8⟩ := BoxN.at4 bx_v
    obtain ⟨p0, p1, p2, p3, p4, p5, p6⟩ := BoxN.at3 bx_p
    go_wp2_with fail
    refine (guardHolds_i _ x y u Ag ng cg l t D nd cd cs E ne ce co false hB (K.rd_own owng) (by omega) (rdw HD.out kw) (by omega) (rdw HE.out kw) (by omega)).mono ?_
    rintro e w3 ⟨rfl, kk⟩
    replace owng := K.own_kept owng kk
    replace bx_v := BoxN.kept bx_v kk
    replace bx_p := BoxN.kept bx_p kk
    replace kw := K.Kept.trans kw kk
    clear kk
    clear v0 v1 v2 v3 v4 v5 v6 v7 v8
    clear p0 p1 p2 p3 p4 p5 p6
    obtain ⟨v0, v1, v2, v3, v4, v5, v6, v7, v8⟩ := BoxN.at4 bx_v
    obtain ⟨p0, p1, p2, p3, p4, p5, p6⟩ := BoxN.at3 bx_p
    go_wp2_with fail
    refine (guardHolds_s _ x y u Ag ng cg l t D nd cd cs E ne ce co false hB (K.rd_own owng) (by omega) (rdw HD.out kw) (by omega) (rdw HE.out kw) (by omega)).mono ?_
    rintro e w4 ⟨rfl, kk⟩
    replace owng := K.own_kept owng kk
    replace bx_v := BoxN.kept bx_v kk
    replace bx_p := BoxN.kept bx_p kk
    replace kw := K.Kept.trans kw kk
    clear kk
    clear v0 v1 v2 v3 v4 v5 v6 v7 v8
    clear p0 p1 p2 p3 p4 p5 p6
    obtain ⟨v0, v1, v2, v3, v4, v5, v6, v7, v8⟩ := BoxN.at4 bx_v
    obtain ⟨p0, p1, p2, p3, p4, p5, p6⟩ := BoxN.at3 bx_p
    go_wp2_with fail
    refine (guardHolds_s _ x y u Ag ng cg l t D nd cd cs E ne ce co false hB (K.rd_own owng) (by omega) (rdw HD.out kw) (by omega) (rdw HE.out kw) (by omega)).mono ?_
    rintro e w5 ⟨rfl, kk⟩
    replace owng := K.own_kept owng kk
    replace bx_v := BoxN.kept bx_v kk
    replace bx_p := BoxN.kept bx_p kk
    replace kw := K.Kept.trans kw kk
    clear kk
    clear v0 v1 v2 v3 v4 v5 v6 v7 v8
    clear p0 p1 p2 p3 p4 p5 p6
    go_wp2
    go_ret
    exact ⟨rfl, K.Kept.trans k0 kw⟩
  obtain ⟨v0, v1, v2, v3, v4, v5, v6, v7, v8⟩ := BoxN.at4 bx_v
  obtain ⟨p0, p1, p2, p3, p4, p5, p6⟩ := BoxN.at3 bx_p
  go_wp2_with fail
  refine (guardHolds_i _ x y u Ag ng cg l t D nd cd cs E ne ce co true hB (K.rd_own owng) (by omega) (rdw HD.out kw) (by omega) (rdw HE.out kw) (by omega)).mono ?_
  rintro e w3 ⟨rfl, kk⟩
  replace owng := K.own_kept owng kk
  replace bx_v := BoxN.kept bx_v kk
  replace bx_p := BoxN.kept bx_p kk
  replace kw := K.Kept.trans kw kk
  clear kk
  clear v0 v1 v2 v3 v4 v5 v6 v7 v8
  clear p0 p1 p2 p3 p4 p5 p6
  obtain ⟨v0, v1, v2, v3, v4, v5, v6, v7, v8⟩ := BoxN.at4 bx_v
  obtain ⟨p0, p1, p2, p3, p4, p5, p6⟩ := BoxN.at3 bx_p
  go_wp2_with fail
  refine (guardHolds_s _ x y u Ag ng cg l t D nd cd cs E ne ce co true hB (K.rd_own owng) (by omega) (rdw HD.out kw) (by omega) (rdw HE.out kw) (by omega)).mono ?_
  rintro e w4 ⟨rfl, kk⟩
  replace owng := K.own_kept owng kk
  replace bx_v := BoxN.kept bx_v kk
  replace bx_p := BoxN.kept bx_p kk
  replace kw := K.Kept.trans kw kk
  clear kk
  clear v0 v1 v2 v3 v4 v5 v6 v7 v8
  clear p0 p1 p2 p3 p4 p5 p6
  by_cases h3 : 3 ≤ ne
  · have hd3 : decide ((3 : Int) ≤ (ne : Int)) = true := by simp; omega
    obtain ⟨v0, v1, v2, v3, v4, v5, v6, v7, v8⟩ := BoxN.at4 bx_v
    obtain ⟨p0, p1, p2, p3, p4, p5, p6⟩ := BoxN.at3 bx_p
    go_wp2_with fail
    refine (guardHolds_s _ x y u Ag ng cg l t D nd cd cs E ne ce co true hB (K.rd_own owng) (by omega) (rdw HD.out kw) (by omega) (rdw HE.out kw) (by omega)).mono ?_
    rintro e w5 ⟨rfl, kk⟩
    replace owng := K.own_kept owng kk
    replace bx_v := BoxN.kept bx_v kk
    replace bx_p := BoxN.kept bx_p kk
    replace kw := K.Kept.trans kw kk
    clear kk
    clear v0 v1 v2 v3 v4 v5 v6 v7 v8
    clear p0 p1 p2 p3 p4 p5 p6
    go_wp2
    go_ret
    exact ⟨rfl, K.Kept.trans k0 kw⟩
  have hd3 : decide ((3 : Int) ≤ (ne : Int)) = false := by simp; omega
  obtain ⟨b9, hb9⟩ : ∃ b, decide ((9 : Int) ∈ co) = b := ⟨_, rfl⟩
  obtain ⟨v0, v1, v2, v3, v4, v5, v6, v7, v8⟩ := BoxN.at4 bx_v
  obtain ⟨p0, p1, p2, p3, p4, p5, p6⟩ := BoxN.at3 bx_p
  go_wp2_with fail
  refine (isIn_l _ E ne ce co 9 b9 hb9 (rdw HE.out kw) (by omega)).mono ?_
  rintro e w5 ⟨rfl, kk⟩
  replace owng := K.own_kept owng kk
  replace bx_v := BoxN.kept bx_v kk
  replace bx_p := BoxN.kept bx_p kk
  replace kw := K.Kept.trans kw kk
  clear kk
  clear v0 v1 v2 v3 v4 v5 v6 v7 v8
  clear p0 p1 p2 p3 p4 p5 p6
  cases b9
  case true =>
    obtain ⟨v0, v1, v2, v3, v4, v5, v6, v7, v8⟩ := BoxN.at4 bx_v
    obtain ⟨p0, p1, p2, p3, p4, p5, p6⟩ := BoxN.at3 bx_p
    go_wp2_with fail
    refine (guardHolds_s _ x y u Ag ng cg l t D nd cd cs E ne ce co true hB (K.rd_own owng) (by omega) (rdw HD.out kw) (by omega) (rdw HE.out kw) (by omega)).mono ?_
    rintro e w6 ⟨rfl, kk⟩
    replace owng := K.own_kept owng kk
    replace bx_v := BoxN.kept bx_v kk
    replace bx_p := BoxN.kept bx_p kk
    replace kw := K.Kept.trans kw kk
    clear kk
    clear v0 v1 v2 v3 v4 v5 v6 v7 v8
    clear p0 p1 p2 p3 p4 p5 p6
    go_wp2
    go_ret
    exact ⟨rfl, K.Kept.trans k0 kw⟩
  have HN := Lib.hid (gH_nine hB (by have := LE.out; omega) (of_decide_eq_false hb9))
  have HZ := Lib.hid (gH_bare hB)
  clear hB hb9 hw2
  obtain ⟨i0, hi0, hz0, hz1, hz2⟩ := info_parts info_int
  go_upto_region 7 with fail
  go_cut [6] from 44 (fun q wx => ∃ (dd : Nat) (E5 : Option Addr) (n5 c5 : Nat), q = .pointer (some ⟨dd, 0, none⟩) ∧ n5 = ne + 1 ∧ MoreP w5 wx t D nd cd (co ++ [9]) dd E5 n5 c5)
  case first =>
    have kx : K.Kept w5 w5.drew := kdrew w5
    have szd : w5.drew.heap.size = w5.heap.size := rfl
    have RE := Lib.hid (rdw HE.out kw)
    have BP := bx_p
    clear owng bx_v kw HN HZ
    obtain ⟨p0, p1, p2, p3, p4, p5, p6⟩ := BoxN.at3 bx_p
    clear bx_p
    go_region_held3 (fun w' => w'.cell? ⟨w1.heap.size + 1, 0, none⟩ = some (.int .i64 t) ∧ w'.cell? ⟨w1.heap.size + 1, 1, none⟩ = some (.slice D nd cd) ∧ w'.cell? ⟨w1.heap.size + 1, 2, none⟩ = some (.slice E ne ce)) (first | exact k3 (BP.kept kx) | exact k3 (BP.kept (K.Kept.trans kx (kp1 _ _))) | exact k3 (BP.kept (K.Kept.trans (K.Kept.trans kx (kp1 _ _)) (kp1 _ _))) | exact k3 (BP.kept (K.Kept.trans (K.Kept.trans (K.Kept.trans kx (kp1 _ _)) (kp1 _ _)) (kp1 _ _))) | exact k3 (BP.kept (kset (kset (kset kx (by omega) _) (by omega) _) (by omega) _)) | go_keep) (first | (refine step_appAny rfl _ _ 28 rfl w5.heap.size 3 1 8 i0 (.int .i64 0) Try.underlying28 hi0 hz0 hz1 hz2 rfl (by decide) _ (.slice A4 ne c4) ne _ (by rfl) (by first | exact own4 | exact K.own_kept own4 (kp1 _ _) | exact K.own_kept (K.own_kept own4 (kp1 _ _)) (kp1 _ _)) _ (some ⟨_, 0, none⟩) 1 1 [.int .i64 9] (by rfl) (by first | exact rd9 n9 (by first | rfl | (simp; done) | (simp; omega)) | exact rd9 (n9.kept (kp1 _ _)) (by first | rfl | (simp; done) | (simp; omega)) | exact rd9 (BoxN.new _ _ _) (by first | rfl | (simp; done) | (simp; omega)) | exact rd9 ((BoxN.new _ _ _).kept (kp1 _ _)) (by first | rfl | (simp; done) | (simp; omega))) (by simp [Value.oneCell']) (by unfold maxLen; omega) (by omega) (Below.size (K.Kept.trans (Below.refl _ _) (by first | exact kx | exact K.Kept.trans kx (kp1 _ _) | exact K.Kept.trans (K.Kept.trans kx (kp1 _ _)) (kp1 _ _) | exact K.Kept.trans (K.Kept.trans (K.Kept.trans kx (kp1 _ _)) (kp1 _ _)) (kp1 _ _)))) ?_; intro A5 c5 v2 own5 hg5; have kk5 : K.Kept w5 v2 := kg_own (by first | exact kx | exact K.Kept.trans kx (kp1 _ _) | exact K.Kept.trans (K.Kept.trans kx (kp1 _ _)) (kp1 _ _) | exact K.Kept.trans (K.Kept.trans (K.Kept.trans kx (kp1 _ _)) (kp1 _ _)) (kp1 _ _)) (by first | exact own4 | exact K.own_kept own4 (kp1 _ _) | exact K.own_kept (K.own_kept own4 (kp1 _ _)) (kp1 _ _)) hg5; (first | (have hQ := RawP.own (by first | exact own4 | exact K.own_kept own4 (kp1 _ _) | exact K.own_kept (K.own_kept own4 (kp1 _ _)) (kp1 _ _)) hP hg5) | (have hQ := RawP.own (by first | exact own4 | exact K.own_kept own4 (kp1 _ _) | exact K.own_kept (K.own_kept own4 (kp1 _ _)) (kp1 _ _)) (hP.kept (kp1 _ _)) hg5) | (have hQ := RawP.own (by first | exact own4 | exact K.own_kept own4 (kp1 _ _) | exact K.own_kept (K.own_kept own4 (kp1 _ _)) (kp1 _ _)) (RawP.new _) hg5) | (have hQ := RawP.own (by first | exact own4 | exact K.own_kept own4 (kp1 _ _) | exact K.own_kept (K.own_kept own4 (kp1 _ _)) (kp1 _ _)) ((RawP.new _).kept (kp1 _ _)) hg5) | skip); clear hg5 kx; have kx := kk5; have sv2 := kk5.size; clear kk5; (first | ((try simp at hQ); have yq := BoxN.at3 hQ.box; obtain ⟨y0, y1, y2, y3, y4, y5, y6⟩ := yq) | skip)) | ((first | rw [dA1, dA1, dA1] | rw [dA1, dA1] | rw [dA1] | skip); refine step_appAny rfl _ _ 28 rfl w5.heap.size 3 1 8 i0 (.int .i64 0) Try.underlying28 hi0 hz0 hz1 hz2 rfl (by decide) _ (.slice (some ⟨_, 0, none⟩) 0 0) 0 [] (by rfl) (by first | exact own_eb (by first | rfl | (simp; done) | (simp; omega)) (by omega) | exact K.own_kept (own_eb (by first | rfl | (simp; done) | (simp; omega)) (by omega)) (kp1 _ _) | exact K.own_kept (K.own_kept (own_eb (by first | rfl | (simp; done) | (simp; omega)) (by omega)) (kp1 _ _)) (kp1 _ _)) w5.heap.size _ ne _ _ (by rfl) (K.Rd.kept RE.out (by first | exact kx | exact K.Kept.trans kx (kp1 _ _) | exact K.Kept.trans (K.Kept.trans kx (kp1 _ _)) (kp1 _ _) | exact K.Kept.trans (K.Kept.trans (K.Kept.trans kx (kp1 _ _)) (kp1 _ _)) (kp1 _ _)) (Nat.le_refl _)) (ints_oneCell _ _) (by unfold maxLen; omega) (by omega) (by first | exact Nat.le_refl _ | (simp; done) | (simp; omega)) ?_; intro A4 c4 v1 own4 hg4; rw [Nat.zero_add] at own4 ⊢; rw [List.nil_append] at own4; have kk4 : K.Kept w5 v1 := kg_row (by first | exact kx | exact K.Kept.trans kx (kp1 _ _) | exact K.Kept.trans (K.Kept.trans kx (kp1 _ _)) (kp1 _ _) | exact K.Kept.trans (K.Kept.trans (K.Kept.trans kx (kp1 _ _)) (kp1 _ _)) (kp1 _ _)) (by omega) hg4; (first | (have n9 := b9_row (BoxN.new _ #[.int .i64 9] _) hg4 (by first | (simp; done) | (simp; omega))) | (have n9 := b9_row ((BoxN.new _ #[.int .i64 9] _).kept (kp1 _ _)) hg4 (by first | (simp; done) | (simp; omega))) | (have n9 := b9_row (((BoxN.new _ #[.int .i64 9] _).kept (kp1 _ _)).kept (kp1 _ _)) hg4 (by first | (simp; done) | (simp; omega))) | skip); (first | (have hP := RawP.row (RawP.new _) hg4 (by first | (simp; done) | (simp; omega))) | (have hP := RawP.row ((RawP.new _).kept (kp1 _ _)) hg4 (by first | (simp; done) | (simp; omega))) | (have hP := RawP.row (((RawP.new _).kept (kp1 _ _)).kept (kp1 _ _)) hg4 (by first | (simp; done) | (simp; omega))) | skip); clear hg4 kx; have kx := kk4; have sv1 := kk4.size; clear kk4))
    all_goals go_wp2
    all_goals go_meet
    all_goals have own6 := (show v2.ownsRow _ _ 1 _ _ ((co ++ [9]).map (Value.int .i64)) by rw [List.map_append]; exact own5)
    all_goals first | exact ⟨_, _, _, _, rfl, rfl, MoreP.put hQ (by omega) own6 kx⟩ | exact ⟨_, _, _, _, rfl, rfl, MoreP.new own6 kx⟩
  case rest =>
    obtain ⟨dd, E5, n5, c5, rfl, hn5, bx_m, own5, kk⟩ := hcut
    replace owng := K.own_kept owng kk
    replace bx_v := bx_v.kept kk
    replace bx_p := bx_p.kept kk
    replace kw := K.Kept.trans kw kk
    clear kk
    have hn6 : n5 ≤ 3 := by omega
    have HN5 := Lib.hid hn5
    clear hn5
    have bx_n : BoxN (wc.alloc (.cells #[.int .i64 t, .slice D nd cd, .slice none 0 0] 30)) wc.heap.size (#[.int .i64 t, .slice D nd cd, .slice none 0 0] : Array Value).toList := BoxN.new wc _ _
    have kk := kp1 wc (.cells #[.int .i64 t, .slice D nd cd, .slice none 0 0] 30)
    replace owng := K.own_kept owng kk
    replace own5 := K.own_kept own5 kk
    replace bx_v := bx_v.kept kk
    replace bx_m := bx_m.kept kk
    replace kw := K.Kept.trans kw kk
    obtain ⟨p0, p1, p2, p3, p4, p5, p6⟩ := BoxN.at3 bx_p
    go_wp2_with fail
    generalize hwn : wc.alloc (.cells #[.int .i64 t, .slice D nd cd, .slice none 0 0] 30) = wn at bx_n owng own5 bx_v bx_m kw ⊢
    clear kk hwn p0 p1 p2 p3 p4 p5 p6
    obtain ⟨v0, v1, v2, v3, v4, v5, v6, v7, v8⟩ := BoxN.at4 bx_v
    obtain ⟨m0, m1, m2, m3, m4, m5, m6⟩ := BoxN.at3 bx_m
    obtain ⟨q0, q1, q2, q3, q4, q5, q6⟩ := BoxN.at3 bx_n
    obtain ⟨bu, hbu⟩ : ∃ b, (u == 0) = b := ⟨_, rfl⟩
    have HZ2 := Lib.hid (HZ.out.trans hbu)
    have HG := Lib.hid (K.rd_own owng)
    have H5 := Lib.hid (K.rd_own own5)
    have HDn := Lib.hid (rdw HD.out kw)
    clear owng own5 bx_v bx_m bx_n bx_p
    have eu : (bu == bu) = true := by simp
    have s0 := Lib.hid (show gH x y l u t cs (co ++ [9]) = true from HN.out)
    (have rg0 := cell_regrown v0; have rg1 := cell_regrown v1; have rg2 := cell_regrown v2; have rg3 := cell_regrown v3; have rg4 := cell_regrown m0; have rg5 := cell_regrown m1; have rg6 := cell_regrown m2; have rg7 := cell_regrown q0; have rg8 := cell_regrown q1; have rg9 := cell_regrown q2; refine wp_region_quiet_below (by kernel_rfl) (by kernel_rfl) ?_; (repeat (go_big_quiet_step ((first | (go_at_call_of 15 (Value.agg #[.int .i64 t, .slice D nd cd, .slice E5 n5 c5]); exact Calls.regrown_of (guardHolds_i _ x y u Ag ng cg l t D nd cd cs E5 n5 c5 (co ++ [9]) true s0.out (rdwq HG.out) (by omega) (rdwq HDn.out) (by omega) (rdwq H5.out) (by omega))) | (go_at_call_of 15 (Value.agg #[.int .i64 t, .slice D nd cd, .slice none 0 0]); exact Calls.regrown_of (guardHolds_i _ x y u Ag ng cg l t D nd cd cs none 0 0 [] bu HZ2.out (rdwq HG.out) (by omega) (rdwq HDn.out) (by omega) (K.Rd.nil _ _ _ _) (by omega))))))); refine wpQuiet_nil ?_; intro wq hw2; have kwq := K.of_regrown hw2; clear hw2 rg0 rg1 rg2 rg3 rg4 rg5 rg6 rg7 rg8 rg9)
    go_wp2
    go_ret
    exact ⟨rfl, K.Kept.trans k0 (K.Kept.trans kw kwq)⟩
end C
end Go.Proofs.Ytapjlbcpfemeiaa

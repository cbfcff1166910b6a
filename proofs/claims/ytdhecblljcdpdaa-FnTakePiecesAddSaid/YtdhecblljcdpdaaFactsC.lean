/-
  Plain facts of shops, carts, amounts and counts, for the laws of carts. Conditions: none; no function of the program is named here.
-/
import Derived.Test.YtdhecblljcdpdaaAdds
import Derived.Test.YtdhecblljcdpdaaCuts
namespace Go.Proofs.Ytdhecblljcdpdaa
open Go.RowKit
namespace C

theorem rd_zeroC {w : World} {B size m : Nat} {A : Option Addr} (h : m = 0) : K.Rd w B size A m [] := by subst h; exact K.Rd.nil _ _ _ _
theorem qds_take (l : List K.Q4) (k : Nat) : K.qds (l.take k) = (K.qds l).take (k * 4) := by
  induction l generalizing k with
  | nil => simp [K.qds]
  | cons x l ih =>
    cases k with
    | zero => simp [K.qds]
    | succ k => rw [List.take_succ_cons, K.qds_cons, K.qds_cons, ih, show (k + 1) * 4 = k * 4 + 1 + 1 + 1 + 1 by omega, List.take_succ_cons, List.take_succ_cons, List.take_succ_cons, List.take_succ_cons]
theorem qr_take {w : World} {B n k : Nat} {A : Option Addr} {l : List K.Q4} (h : K.QR w B A n l) (hk : k ≤ n) : K.QR w B A k (l.take k) := by
  have hl := K.QR.len h
  refine ⟨by rw [K.qds_len]; simp; omega, fun hn => ?_⟩
  obtain ⟨b, off, e, hb, hc⟩ := h.2 (by omega)
  refine ⟨b, off, e, hb, fun j u hu => hc j u ?_⟩
  rw [qds_take, List.getElem?_take] at hu
  split at hu
  · exact hu
  · cases hu
theorem shop_less {l : List K.Q4} (h : Plain.vShop l = true) (k : Nat) (h1 : 1 ≤ k) (h2 : k ≤ l.length) : Plain.vShop (l.take k) = true := by
  obtain ⟨ha, h0, h10⟩ := (Plain.vShop_iff l).1 h
  refine (Plain.vShop_iff _).2 ⟨fun a ham => ha a (List.mem_of_mem_take ham), ?_, ?_⟩ <;> simp <;> omega
theorem cart_of {sh : List K.Q4} {c : List (Int × Int)} (h : Plain.vShop sh = true) (hc : Plain.Ct sh.length c) (h8 : c.length ≤ 8) : vCart sh c = true := by
  unfold vCart
  rw [h, (Plain.vLines_iff _ _).2 ⟨hc, h8⟩]
  rfl
theorem cart_shop {sh : List K.Q4} {c : List (Int × Int)} (h : vCart sh c = true) : Plain.vShop sh = true := by
  unfold vCart at h; rw [Bool.and_eq_true] at h; exact h.1
theorem cart_none {sh : List K.Q4} (h : Plain.vShop sh = true) : vCart sh [] = true := cart_of h (Plain.ct_nil _) (by simp)
theorem cart_sub {sh : List K.Q4} {c k : List (Int × Int)} (h : vCart sh c = true) (hs : k.Sublist c) : vCart sh k = true := by
  obtain ⟨_, hc, h8⟩ := vCart_parts h
  exact cart_of (cart_shop h) ⟨fun s hs' => hc.1 s (hs.subset hs'), hc.2.sublist hs⟩ (Nat.le_trans hs.length_le h8)
theorem cart_less {sh : List K.Q4} {c : List (Int × Int)} (h : vCart sh c = true) (k : Nat) : vCart sh (c.take k ++ c.drop (k + 1)) = true := by
  refine cart_sub h ?_
  have : (c.take k ++ c.drop (k + 1)).Sublist (c.take k ++ c.drop k) := List.Sublist.append_left (by rw [← List.drop_drop]; exact List.drop_sublist 1 _) _
  rwa [List.take_append_drop] at this
theorem la_wsum (sh : List K.Q4) (c : List (Int × Int)) : (la sh c).sum = Plain.wsum (prc sh) c := by
  induction c with
  | nil => rfl
  | cons x c ih => simp only [la, List.map_cons, List.sum_cons, Plain.wsum] at ih ⊢; rw [ih]
theorem prc_bd {sh : List K.Q4} (h : Plain.vShop sh = true) (a : Int) : 0 ≤ prc sh a ∧ prc sh a ≤ 5000 := by
  obtain ⟨ha, _⟩ := (Plain.vShop_iff sh).1 h
  unfold prc
  rw [List.getD_eq_getElem?_getD]
  cases hx : sh[a.toNat]? with
  | none => simp
  | some x => have := (ha x (List.mem_of_getElem? hx)).1; simp; omega
theorem mul_bdC {a r A B : Int} (h0 : 0 ≤ a) (h1 : a ≤ A) (h2 : 0 ≤ r) (h3 : r ≤ B) : 0 ≤ a * r ∧ a * r ≤ A * B :=
  ⟨Int.mul_nonneg h0 h2, Int.mul_le_mul h1 h3 h2 (by omega)⟩
theorem to_bd {sh : List K.Q4} {c : List (Int × Int)} (h : vCart sh c = true) : TO sh c = Plain.wsum (prc sh) c ∧ 0 ≤ TO sh c ∧ TO sh c ≤ 800000 := by
  obtain ⟨_, hc, h8⟩ := vCart_parts h
  have e : TO sh c = Plain.wsum (prc sh) c := by rw [TO_yes h, la_wsum]
  have b := Plain.wsum_bound (f := prc sh) (l := c) (B := 100000) (fun x hx => by
    have h1 := prc_bd (cart_shop h) x.1
    have h2 := (hc.1 x hx).2
    have := mul_bdC h1.1 h1.2 (by omega : 0 ≤ x.2) h2.2
    omega)
  rw [e]
  refine ⟨rfl, b.1, ?_⟩
  have : (c.length : Int) ≤ 8 := by omega
  omega
theorem to_halves {sh : List K.Q4} {c : List (Int × Int)} (h : vCart sh c = true) (k : Nat) : (0 ≤ TO sh (c.take k) ∧ TO sh (c.take k) ≤ 800000) ∧ (0 ≤ TO sh (c.drop k) ∧ TO sh (c.drop k) ≤ 800000) ∧ TO sh (c.take k) + TO sh (c.drop k) = TO sh c := by
  have h1 := to_bd (cart_sub h (List.take_sublist k c))
  have h2 := to_bd (cart_sub h (List.drop_sublist k c))
  refine ⟨h1.2, h2.2, ?_⟩
  rw [h1.1, h2.1, (to_bd h).1, ← Plain.wsum_append, List.take_append_drop]
theorem adOk_parts {sh : List K.Q4} {c : List (Int × Int)} {a z : Int} (h : adOk sh c a z = true) : vCart sh c = true ∧ (0 ≤ a ∧ a ≤ sh.length - 1) ∧ (1 ≤ z ∧ z ≤ 20) ∧ vCart sh (Plain.addL c a z) = true := by
  unfold adOk at h
  simp only [Bool.and_eq_true, wi_true] at h
  exact ⟨h.1.1.1, h.1.1.2, h.1.2, h.2⟩
theorem tkOk_parts {sh : List K.Q4} {c : List (Int × Int)} {a z : Int} (h : tkOk sh c a z = true) : vCart sh c = true ∧ 1 ≤ z ∧ Plain.hasN c a z := by
  unfold tkOk at h
  simp only [Bool.and_eq_true, decide_eq_true_eq] at h
  exact ⟨h.1.1, h.1.2, hasB_iff.1 h.2⟩
/-- Added pieces: what the law of AddPieces asks. -/
theorem add_law {sh : List K.Q4} {c : List (Int × Int)} {a z : Int} (h : adOk sh c a z = true) : TO sh (Plain.addL c a z) = TO sh c + prc sh a * z ∧ c.length ≤ (Plain.addL c a z).length ∧ (Plain.addL c a z).length ≤ c.length + 1 := by
  obtain ⟨hv, _, _, hw⟩ := adOk_parts h
  obtain ⟨_, hc, _⟩ := vCart_parts hv
  refine ⟨?_, Plain.len_addL a z hc.2⟩
  rw [(to_bd hv).1, (to_bd hw).1, Plain.wsum_addL]
theorem add_back {sh : List K.Q4} {c : List (Int × Int)} {a z : Int} (h : adOk sh c a z = true) : tkOk sh (Plain.addL c a z) a z = true ∧ tkL sh (Plain.addL c a z) a z = c := by
  obtain ⟨hv, _, hz, hw⟩ := adOk_parts h
  obtain ⟨_, hc, _⟩ := vCart_parts hv
  have hk : tkOk sh (Plain.addL c a z) a z = true := by
    rw [tkOk_eq hw (by omega)]
    exact hasB_iff.2 (Plain.has_addL hc)
  refine ⟨hk, ?_⟩
  rw [tkL_yes hk]
  exact Plain.add_take hc (vCart_parts hw).2.1 (by omega)
theorem take_law {sh : List K.Q4} {c : List (Int × Int)} {a z : Int} (h : tkOk sh c a z = true) : TO sh (Plain.takeL c a z) = TO sh c - prc sh a * z ∧ vCart sh (Plain.takeL c a z) = true ∧ (Plain.takeL c a z).length ≤ c.length := by
  obtain ⟨hv, hz, ho⟩ := tkOk_parts h
  obtain ⟨_, hc, h8⟩ := vCart_parts hv
  have hw : vCart sh (Plain.takeL c a z) = true := cart_of (cart_shop hv) (Plain.ct_takeL hc hz) (by have := Plain.len_takeL c a z; omega)
  refine ⟨?_, hw, Plain.len_takeL c a z⟩
  rw [(to_bd hv).1, (to_bd hw).1, Plain.wsum_takeL _ hc.2 ho hz]
theorem has_bd {sh : List K.Q4} {c : List (Int × Int)} {a z : Int} (h : tkOk sh c a z = true) : (0 ≤ a ∧ a ≤ sh.length - 1) ∧ 1 ≤ z ∧ z ≤ 20 := by
  obtain ⟨hv, hz, l, hl, rfl, hn⟩ := tkOk_parts h
  obtain ⟨_, hc, _⟩ := vCart_parts hv
  obtain ⟨h1, h2⟩ := hc.1 l hl
  exact ⟨h1, hz, by omega⟩
theorem take_back {sh : List K.Q4} {c : List (Int × Int)} {a z : Int} (h : tkOk sh c a z = true) : adOk sh (Plain.takeL c a z) a z = true ∧ adL sh (Plain.takeL c a z) a z = c := by
  obtain ⟨hv, hz, ho⟩ := tkOk_parts h
  obtain ⟨_, hc, h8⟩ := vCart_parts hv
  obtain ⟨_, hw, hl⟩ := take_law h
  obtain ⟨ba, _, bz⟩ := has_bd h
  have e := Plain.take_add hc ho hz
  have hk : adOk sh (Plain.takeL c a z) a z = true := by
    rw [adOk_eq hw rfl (wi_true.2 ba) (wi_true.2 ⟨hz, bz⟩), e]
    exact hv
  exact ⟨hk, by rw [adL_yes hk, e]⟩
theorem add_order {sh : List K.Q4} {c : List (Int × Int)} {a z a' z' : Int} (h1 : adOk sh c a z = true) (h2 : adOk sh (Plain.addL c a z) a' z' = true) (h3 : adOk sh c a' z' = true) : adOk sh (Plain.addL c a' z') a z = true ∧ adL sh (Plain.addL c a' z') a z = Plain.addL (Plain.addL c a z) a' z' := by
  obtain ⟨v1, b1, c1, w1⟩ := adOk_parts h1
  obtain ⟨v2, b2, c2, w2⟩ := adOk_parts h2
  obtain ⟨v3, b3, c3, w3⟩ := adOk_parts h3
  have e := Plain.add_order (vCart_parts w2).2.1 (vCart_parts w3).2.1
  have hk : adOk sh (Plain.addL c a' z') a z = true := by
    rw [adOk_eq w3 rfl (wi_true.2 b1) (wi_true.2 c1), e]
    exact w2
  exact ⟨hk, by rw [adL_yes hk, e]⟩
theorem grp_bd {sh : List K.Q4} (h : Plain.vShop sh = true) (a : Int) : 0 ≤ grp sh a ∧ grp sh a ≤ 2 := by
  obtain ⟨ha, _⟩ := (Plain.vShop_iff sh).1 h
  unfold grp
  rw [List.getD_eq_getElem?_getD]
  cases hx : sh[a.toNat]? with
  | none => simp
  | some x => have := (ha x (List.mem_of_getElem? hx)).2.1; simp; omega
theorem gc_sum {sh : List K.Q4} {c : List (Int × Int)} (h : Plain.vShop sh = true) : (gc sh c).sum = (c.map Prod.snd).sum := by
  have e : (gc sh c).sum = gAt sh 0 c + gAt sh 1 c + gAt sh 2 c := by simp [gc]; omega
  rw [e]
  clear e
  induction c with
  | nil => rfl
  | cons x c ih =>
    have b := grp_bd h x.1
    simp only [gAt, Plain.wsum, List.map_cons, List.sum_cons] at ih ⊢
    rcases (by omega : grp sh x.1 = 0 ∨ grp sh x.1 = 1 ∨ grp sh x.1 = 2) with g | g | g <;> rw [g] <;> simp <;> omega
theorem gc_add (sh : List K.Q4) (c : List (Int × Int)) (a z i : Int) : gAt sh i (Plain.addL c a z) = gAt sh i c + (if grp sh a = i then z else 0) := by
  unfold gAt
  rw [Plain.wsum_addL]
  split <;> simp
theorem cs_snoc {c : List (Int × Int)} {k : Nat} {a q : Int} (hx : c[k]? = some (a, q)) : ((c.take (k + 1)).map Prod.snd).sum = ((c.take k).map Prod.snd).sum + q := by
  rw [K.take_snoc hx, List.map_append, List.sum_append]; simp
theorem cs_bd {sh : List K.Q4} {c : List (Int × Int)} (h : vCart sh c = true) (k : Nat) : 0 ≤ ((c.take k).map Prod.snd).sum ∧ ((c.take k).map Prod.snd).sum ≤ 160 := by
  obtain ⟨_, hc, h8⟩ := vCart_parts h
  have : ∀ c : List (Int × Int), (∀ l ∈ c, 1 ≤ l.2 ∧ l.2 ≤ 20) → 0 ≤ (c.map Prod.snd).sum ∧ (c.map Prod.snd).sum ≤ 20 * c.length := by
    intro c
    induction c with
    | nil => intro _; simp
    | cons x c ih =>
      intro hx
      have i1 := ih fun l hl => hx l (by simp [hl])
      have i2 := hx x (by simp)
      simp only [List.map_cons, List.sum_cons, List.length_cons]
      omega
  have b := this (c.take k) fun l hl => (hc.1 l (List.mem_of_mem_take hl)).2
  have : ((c.take k).length : Int) ≤ 8 := by simp; omega
  omega
/-- A line of a valid cart: its article lies in the shop, with its price. -/
theorem line_price {sh : List K.Q4} {c : List (Int × Int)} {k n : Nat} {a q : Int} (h : vCart sh c = true) (hn : sh.length = n) (hx : c[k]? = some (a, q)) :
    ∃ i : Nat, a = (i : Int) ∧ i < n ∧ 1 ≤ q ∧ q ≤ 20 := by
  obtain ⟨_, hc, _⟩ := vCart_parts h
  obtain ⟨h1, h2⟩ := hc.1 _ (List.mem_of_getElem? hx)
  simp only at h1 h2
  exact ⟨a.toNat, by omega, by omega, h2.1, h2.2⟩
theorem prc_at {sh : List K.Q4} {i : Nat} {p g r t : Int} (hx : sh[i]? = some (p, g, r, t)) : prc sh (i : Int) = p := by
  unfold prc; rw [Int.toNat_natCast, getD_q hx]
theorem grp_at {sh : List K.Q4} {i : Nat} {p g r t : Int} (hx : sh[i]? = some (p, g, r, t)) : grp sh (i : Int) = g := by
  unfold grp; rw [Int.toNat_natCast, getD_q hx]
theorem la_at {sh : List K.Q4} {c : List (Int × Int)} {k : Nat} {a q : Int} (hx : c[k]? = some (a, q)) : (la sh c)[k]? = some (prc sh a * q) := by
  unfold la; rw [List.getElem?_map, hx]; rfl
end C
end Go.Proofs.Ytdhecblljcdpdaa

/-
  What GuardsMeet computes answers as its laws say: plain laws on spans, lists and coupons. Conditions: none; no function of the program is named here.
-/
import Derived.Test.YtapjlbcpfemeiaaGMeet
namespace Go.Proofs.Ytapjlbcpfemeiaa
open Go.RowKit
namespace C

theorem mt_comm (x y u v : Int) : mt x y u v = mt u v x y := by
  unfold mt
  rw [Bool.and_comm (vsp x y), Int.max_comm x u, Int.min_comm y v]
theorem mtF_comm (p q : Int × Int) : mtF p q = mtF q p := mt_comm _ _ _ _
theorem mxF_comm (p q : Int × Int) : mxF p q = mxF q p := Int.max_comm _ _
theorem zip_swap {α : Type} {f : Int × Int → Int × Int → α} (hf : ∀ p q, f p q = f q p) (l m : List (Int × Int)) : List.zipWith f l m = List.zipWith f m l := by
  apply List.ext_getElem?
  intro k
  rw [List.getElem?_zipWith, List.getElem?_zipWith]
  cases l[k]? <;> cases m[k]? <;> first | rfl | (simp only; rw [hf])
theorem mto_comm (l m : List (Int × Int)) : mto l m = mto m l := by unfold mto; rw [zip_swap mtF_comm]
theorem mxs_comm (l m : List (Int × Int)) : mxs l m = mxs m l := zip_swap mxF_comm l m
theorem cpT_comm (u v : Int) (k : Nat) : cpT u v k = cpT v u k := by
  unfold cpT
  congr 1
  funext n
  exact Bool.or_comm _ _
theorem gmOk_comm (x y u x2 y2 u2 : Int) (l m : List (Int × Int)) : gmOk x2 y2 u2 x y u m l = gmOk x y u x2 y2 u2 l m := by
  unfold gmOk
  rw [Bool.and_comm (vG x2 y2 m u2), mt_comm x2 y2, mto_comm m l]
theorem gmT_comm (x y u x2 y2 u2 : Int) (l m : List (Int × Int)) : gmT x2 y2 u2 x y u m l = gmT x y u x2 y2 u2 l m := by
  unfold gmT
  rw [gmOk_comm, Int.max_comm x2 x]
theorem gmC_comm (x y u x2 y2 u2 : Int) (l m : List (Int × Int)) : gmC x2 y2 u2 x y u m l = gmC x y u x2 y2 u2 l m := by
  unfold gmC
  rw [gmOk_comm, mxs_comm m l]
theorem gmK_comm (x y u x2 y2 u2 : Int) (l m : List (Int × Int)) : gmK x2 y2 u2 x y u m l = gmK x y u x2 y2 u2 l m := by
  unfold gmK
  rw [gmOk_comm, cpT_comm u2 u]
/-! ### coupons -/
def cpChk (u v : Int) : Bool := cpOk (cpT u v 9) && (u == 0 || decide (u ∈ cpT u v 9)) && ((cpT u u 9).length == (if u > 0 then 1 else 0)) && decide ((cpT u v 9).length ≤ 9)
theorem cpChk_all : ∀ u v : Fin 10, cpChk (u.val : Int) (v.val : Int) = true := by decide +kernel
theorem cp_chk {u v : Int} (hu : 0 ≤ u ∧ u ≤ 9) (hv : 0 ≤ v ∧ v ≤ 9) : cpChk u v = true := by
  have := cpChk_all ⟨u.toNat, by omega⟩ ⟨v.toNat, by omega⟩
  simp only [Int.toNat_of_nonneg hu.1, Int.toNat_of_nonneg hv.1] at this
  exact this
theorem vG_u {x y u : Int} {l : List (Int × Int)} (h : vG x y l u = true) : 0 ≤ u ∧ u ≤ 9 := by
  unfold vG at h
  simp only [Bool.and_eq_true] at h
  exact wi_true.1 h.2
theorem cpT_len (u v : Int) (k : Nat) : (cpT u v k).length ≤ k := by
  unfold cpT
  refine Nat.le_trans (List.length_filter_le _ _) ?_
  simp
theorem gmC_len {x y u x2 y2 u2 : Int} {l m : List (Int × Int)} {n : Nat} (h : l.length ≤ n) : (gmC x y u x2 y2 u2 l m).length ≤ n := by
  unfold gmC mxs
  split
  · rw [List.length_zipWith]
    exact Nat.le_trans (Nat.min_le_left _ _) h
  · simp
theorem gmK_len (x y u x2 y2 u2 : Int) (l m : List (Int × Int)) : (gmK x y u x2 y2 u2 l m).length ≤ 9 := by
  unfold gmK
  split
  · exact cpT_len _ _ _
  · simp
/-! ### where guards meet both hold -/
theorem mt_max {x y u v : Int} (h : mt x y u v = true) : vsp x y = true ∧ vsp u v = true ∧ max x u ≤ min y v := by
  unfold mt at h
  simp only [Bool.and_eq_true, decide_eq_true_eq] at h
  exact ⟨h.1.1, h.1.2, h.2⟩
theorem mxs_at {l m : List (Int × Int)} {k : Nat} {z : Int} (h : (mxs l m)[k]? = some z) : ∃ p q, l[k]? = some p ∧ m[k]? = some q ∧ z = max p.1 q.1 := by
  unfold mxs at h
  rw [List.getElem?_zipWith] at h
  cases h1 : l[k]? with
  | none => rw [h1] at h; simp at h
  | some p =>
    cases h2 : m[k]? with
    | none => rw [h1, h2] at h; simp at h
    | some q => rw [h1, h2] at h; simp at h; exact ⟨p, q, rfl, rfl, h.symm⟩
theorem mto_at {l m : List (Int × Int)} (h : mto l m = true) {k : Nat} {p q : Int × Int} (h1 : l[k]? = some p) (h2 : m[k]? = some q) : mt p.1 p.2 q.1 q.2 = true :=
  List.all_eq_true.1 h (mtF p q) (List.mem_of_getElem? (zip_at mtF h1 h2))
theorem some_of_lt {α : Type} {l : List α} {k n : Nat} (h : l.length = n) (hk : k < n) : ∃ x, l[k]? = some x := ⟨l[k]'(by omega), List.getElem?_eq_getElem (by omega)⟩
theorem vP_meet {x y u x2 y2 u2 : Int} {l m : List (Int × Int)} (q1 : vG x y l u = true) (q2 : vG x2 y2 m u2 = true) : vP (max x x2) (mxs l m) (cpT u u2 9) = true := by
  have a1 := vsp_true.1 (vG_vsp q1)
  have a2 := vsp_true.1 (vG_vsp q2)
  have c := cp_chk (vG_u q1) (vG_u q2)
  unfold cpChk at c
  simp only [Bool.and_eq_true] at c
  have b1 : wi (max x x2) 0 1000000 = true := wi_true.2 (by omega)
  have b2 : (mxs l m).length = 3 := zip_len mxF (vG_len q1) (vG_len q2)
  have b3 : allB (mxs l m) 0 1000000 = true := by
    unfold allB
    rw [List.all_eq_true]
    intro z hz
    obtain ⟨k, hk⟩ := List.mem_iff_getElem?.1 hz
    obtain ⟨p, q, hp, hq, rfl⟩ := mxs_at hk
    have d1 := vsp_true.1 (vG_at q1 (p := p.1) (q := p.2) hp)
    have d2 := vsp_true.1 (vG_at q2 (p := q.1) (q := q.2) hq)
    exact wi_true.2 (by omega)
  unfold vP
  rw [b1, b3, c.1.1.1, b2]
  rfl
theorem gm_holds {x y u x2 y2 u2 : Int} {l m : List (Int × Int)} (h : gmOk x y u x2 y2 u2 l m = true) : gH x y l u (max x x2) (mxs l m) (cpT u u2 9) = true := by
  unfold gmOk at h
  simp only [Bool.and_eq_true] at h
  obtain ⟨⟨q1, q2⟩, h1, h2⟩ := h
  obtain ⟨_, _, hm⟩ := mt_max h1
  have c := cp_chk (vG_u q1) (vG_u q2)
  unfold cpChk at c
  simp only [Bool.and_eq_true] at c
  have b1 : wi (max x x2) x y = true := wi_true.2 (by omega)
  have b2 : ins l (mxs l m) = true := by
    refine ins_yes (vG_len q1) fun k hk => ?_
    obtain ⟨p, hp⟩ := some_of_lt (vG_len q1) hk
    obtain ⟨q, hq⟩ := some_of_lt (vG_len q2) hk
    rw [getD_i (show (mxs l m)[k]? = some (mxF p q) from zip_at mxF hp hq), getD_l hp]
    obtain ⟨_, _, he⟩ := mt_max (mto_at h2 hp hq)
    exact wi_true.2 (by unfold mxF; omega)
  rw [gH_eq q1 (vP_meet q1 q2) b1 b2]
  exact c.1.1.2
theorem gm_holds2 {x y u x2 y2 u2 : Int} {l m : List (Int × Int)} (h : gmOk x y u x2 y2 u2 l m = true) : gH x2 y2 m u2 (max x x2) (mxs l m) (cpT u u2 9) = true := by
  rw [← gmOk_comm] at h
  have := gm_holds h
  rwa [Int.max_comm, mxs_comm, cpT_comm] at this
theorem gH_wi {x y u t : Int} {l : List (Int × Int)} {cs co : List Int} (h : gH x y l u t cs co = true) : wi t x y = true ∧ ins l cs = true := by
  unfold gH at h
  simp only [Bool.and_eq_true] at h
  exact ⟨h.1.1.2, h.1.2⟩
/-- Where guards do not meet they do not both hold. -/
theorem gm_none {x y u x2 y2 u2 : Int} {l m : List (Int × Int)} {co : List Int} (q1 : vG x y l u = true) (q2 : vG x2 y2 m u2 = true) (h : gmOk x y u x2 y2 u2 l m = false) (h1 : gH x y l u (max x x2) (mxs l m) co = true) : gH x2 y2 m u2 (max x x2) (mxs l m) co = false := by
  cases h2 : gH x2 y2 m u2 (max x x2) (mxs l m) co with
  | false => rfl
  | true =>
    exfalso
    obtain ⟨a1, a2⟩ := gH_wi h1
    obtain ⟨b1, b2⟩ := gH_wi h2
    have c1 := wi_true.1 a1
    have c2 := wi_true.1 b1
    have e1 : mt x y x2 y2 = true := by
      unfold mt
      rw [vG_vsp q1, vG_vsp q2, decide_eq_true (show max x x2 ≤ min y y2 by omega)]
      rfl
    have e2 : mto l m = true := by
      unfold mto
      rw [List.all_eq_true]
      intro z hz
      obtain ⟨k, hk⟩ := List.mem_iff_getElem?.1 hz
      rw [List.getElem?_zipWith] at hk
      cases hp : l[k]? with
      | none => rw [hp] at hk; simp at hk
      | some p =>
        cases hq : m[k]? with
        | none => rw [hp, hq] at hk; simp at hk
        | some q =>
          rw [hp, hq] at hk
          simp only [Option.some.injEq] at hk
          subst hk
          have hz : (mxs l m)[k]? = some (mxF p q) := zip_at mxF hp hq
          have d1 := of_decide_eq_true a2 k (List.getElem?_eq_some_iff.1 hp).1
          have d2 := of_decide_eq_true b2 k (List.getElem?_eq_some_iff.1 hq).1
          rw [getD_i hz, getD_l hp] at d1
          rw [getD_i hz, getD_l hq] at d2
          have f1 := wi_true.1 d1
          have f2 := wi_true.1 d2
          unfold mxF at f1 f2
          show mt p.1 p.2 q.1 q.2 = true
          unfold mt
          rw [vG_at q1 (p := p.1) (q := p.2) hp, vG_at q2 (p := q.1) (q := q.2) hq, decide_eq_true (show max p.1 q.1 ≤ min p.2 q.2 by omega)]
          rfl
    rw [gmOk_eq q1 q2, e1, e2] at h
    cases h
/-- A valid guard meets itself. -/
theorem gm_self {x y u : Int} {l : List (Int × Int)} (q : vG x y l u = true) : gmOk x y u x y u l l = true := by
  have hs : ∀ a b : Int, vsp a b = true → mt a b a b = true := fun a b h => by
    have := vsp_true.1 h
    unfold mt
    rw [h, decide_eq_true (show max a a ≤ min b b by omega)]
    rfl
  rw [gmOk_eq q q, hs x y (vG_vsp q), Bool.true_and]
  unfold mto
  rw [List.all_eq_true]
  intro z hz
  obtain ⟨k, hk⟩ := List.mem_iff_getElem?.1 hz
  rw [List.getElem?_zipWith] at hk
  cases hp : l[k]? with
  | none => rw [hp] at hk; simp at hk
  | some p =>
    rw [hp] at hk
    simp only [Option.some.injEq] at hk
    subst hk
    exact hs p.1 p.2 (vG_at q (p := p.1) (q := p.2) hp)
theorem cp_self {u : Int} (hu : 0 ≤ u ∧ u ≤ 9) : (cpT u u 9).length = if u > 0 then 1 else 0 := by
  have c := cp_chk hu hu
  unfold cpChk at c
  simp only [Bool.and_eq_true, beq_iff_eq] at c
  exact c.1.2
end C
end Go.Proofs.Ytapjlbcpfemeiaa

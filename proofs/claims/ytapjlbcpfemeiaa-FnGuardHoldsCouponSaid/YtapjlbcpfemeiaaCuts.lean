/-
  Parts of a slice of pairs: the first ones, those behind; append of such a part as one step of a region that draws its order. Conditions: none; no function of the program is named here.
-/
import Derived.Test.YtapjlbcpfemeiaaBox
namespace Go.Proofs.Ytapjlbcpfemeiaa
open Go.RowKit
namespace C

theorem prs_take (l : List (Int × Int)) (k : Nat) : K.prs (l.take k) = (K.prs l).take (k * 2) := by
  induction l generalizing k with
  | nil => simp [K.prs]
  | cons x l ih =>
    cases k with
    | zero => simp [K.prs]
    | succ k => rw [List.take_succ_cons, K.prs_cons, K.prs_cons, ih, show (k + 1) * 2 = k * 2 + 1 + 1 by omega, List.take_succ_cons, List.take_succ_cons]
theorem prs_drop (l : List (Int × Int)) (k : Nat) : K.prs (l.drop k) = (K.prs l).drop (k * 2) := by
  induction l generalizing k with
  | nil => simp [K.prs]
  | cons x l ih =>
    cases k with
    | zero => simp
    | succ k => rw [List.drop_succ_cons, K.prs_cons, ih, show (k + 1) * 2 = k * 2 + 1 + 1 by omega, List.drop_succ_cons, List.drop_succ_cons]
theorem pr_take {w : World} {B n k : Nat} {A : Option Addr} {l : List (Int × Int)} (h : K.PR w B A n l) (hk : k ≤ n) : K.PR w B A k (l.take k) := by
  have hl := K.PR.len h
  refine ⟨by rw [K.prs_len]; simp; omega, fun hn => ?_⟩
  obtain ⟨b, off, e, hb, hc⟩ := h.2 (by omega)
  refine ⟨b, off, e, hb, fun j u hu => hc j u ?_⟩
  rw [prs_take, List.getElem?_take] at hu
  split at hu
  · exact hu
  · cases hu
theorem pr_drop {w : World} {B n k b off : Nat} {l : List (Int × Int)} (h : K.PR w B (some ⟨b, off, none⟩) n l) (hk : k ≤ n) : K.PR w B (some ⟨b, off + k * 2, none⟩) (n - k) (l.drop k) := by
  have hl := K.PR.len h
  refine ⟨by rw [K.prs_len]; simp; omega, fun hn => ?_⟩
  obtain ⟨b', off', e, hb, hc⟩ := h.2 (by omega)
  injection e with e
  injection e with e1 e2
  subst e1 e2
  refine ⟨_, _, rfl, hb, fun j u hu => ?_⟩
  rw [prs_drop, List.getElem?_drop] at hu
  rw [Nat.add_assoc]
  exact hc _ u hu
/-- append of all of a slice that can be read, as one step of a region that draws its order. -/
theorem step_appAny {P : Program} {ops : Array Oper} {o : Oper} {a : Act} {KK : Act → World → Prop} {Q : Exit → Act → World → Prop} {E : Prop} (hgd : o.guard = none) (s x : Operand) (t : TypeId)
    (ho : o.op = .call { callee := .builtin .append, args := #[s, x], argTypes := #[t, t] })
    (base : Nat) (e : TypeId) (size bytes : Nat) (i : TypeInfo) (z : Value) (ht : P.underlying t = some (.slice e)) (hi : P.info? e = some i) (hz : i.zero = some z)
    (hsize : i.size = size) (hby : i.bytes = bytes) (hzs : z.cells.size = size) (hsz : 0 < size)
    (w : World) (v : Value) (n : Nat) (xs : List Value) (hs : a.eval s = v) (hown : w.ownsRow base e size v n xs)
    (B : Nat) (A : Option Addr) (m c : Nat) (news : List Value) (hx : a.eval x = .slice A m c) (hr : K.Rd w B size A m news) (h1 : ∀ u ∈ news, u.oneCell' = true)
    (h63 : n + m ≤ maxLen) (hbytes : (n + m) * bytes ≤ 140737488355328) (hbase : base ≤ w.heap.size)
    (h : ∀ A' c' w', w'.ownsRow base e size (.slice A' (n + m) c') (n + m) (xs ++ news) → w.grownBy w' v.ownBlock → KK (a.put o.dst (.slice A' (n + m) c')) w') :
    if Region.wanted o (yielded ops a.tmps) = true then Oper.wp P o a w KK Q else E := by
  have hw : Region.wanted o (yielded ops a.tmps) = true := by simp [Region.wanted, hgd]
  rw [if_pos hw]
  rcases A with _ | ad
  · have hm : m = 0 := by
      rcases Nat.eq_zero_or_pos m with h0 | h0
      · exact h0
      · obtain ⟨b, off, e, _⟩ := hr.2 h0
        cases e
    subst hm
    have hn : news = [] := List.eq_nil_of_length_eq_zero (by simpa using hr.1)
    subst hn
    obtain ⟨A', c', rfl, _, _⟩ := K.own_slice hown
    have hrun := K.run_app_nil (P := P) w base t o.type e i size ht hi _ n xs hown c
    unfold Oper.wp execOp
    simp only [ho, resolve, invoke, builtin, Sem.run_bind, Sem.run_pure, Result.andThen_ok, List.map_toArray, List.map_cons, List.map_nil, hs, hx, hrun]
    exact h A' c' w (by simpa using hown) (World.grownBy.refl w _)
  · have hcells : ∀ j u, news[j]? = some u → w.cell? (ad.add j) = some u := by
      intro j u hu
      rcases Nat.eq_zero_or_pos m with h0 | h0
      · subst h0
        have hn : news = [] := List.eq_nil_of_length_eq_zero (by simpa using hr.1)
        subst hn
        simp at hu
      · obtain ⟨b, off, e, _, hc⟩ := hr.2 h0
        injection e with e
        subst e
        rw [Addr.add_lit]
        exact hc j u hu
    obtain ⟨v', w', hrun, hown', hg, _⟩ := run_append_own (P := P) w base t o.type e i z size bytes ht hi hz hsize hby hzs hsz v n xs hown ad m c news hr.1 hcells h1 h63 hbytes hbase
    unfold Oper.wp execOp
    simp only [ho, resolve, invoke, builtin, Sem.run_bind, Sem.run_pure, Result.andThen_ok, List.map_toArray, List.map_cons, List.map_nil, hs, hx, hrun]
    obtain ⟨A', c', rfl, _, _⟩ := K.own_slice hown'
    exact h A' c' w' hown' hg
end C
end Go.Proofs.Ytapjlbcpfemeiaa

/-
  Contracts of the functions on lists of pairs (spans, lines) that only read, and of those that copy, mark and look again. Conditions: lengths below 2^40.
-/
import Derived.Test.YtapjlbcpfemeiaaSpanB
namespace Go.Proofs.Ytapjlbcpfemeiaa
open Go.RowKit
namespace C

theorem kcell {a b : World} (k : K.Kept a b) (p : Addr) (v : Value) (h : a.cell? p = some v) : b.cell? p = some v := by
  rw [k.cell (World.block_lt_of_cell? a p h)]; exact h
theorem kp1 (w : World) (o : Obj) : K.Kept w (w.alloc o) := (Below.refl _ _).alloc (Nat.le_refl _) _
theorem kp3 (w : World) (a b c : Obj) : K.Kept w (((w.alloc a).alloc b).alloc c) := K.Kept.trans (K.Kept.trans (kp1 _ _) (kp1 _ _)) (kp1 _ _)
theorem pr_of_takes {l m : List (Int × Int)} {n : Nat} (h1 : l.length = n) (h2 : m.length = n) (h : l.take n = m.take n) : l = m := by
  rw [List.take_of_length_le (by omega), List.take_of_length_le (by omega)] at h
  exact h
/-- A list of which the first k are l's. -/
def halfP (l : List (Int × Int)) (k : Nat) : List (Int × Int) := l.take k ++ List.replicate (l.length - k) (0, 0)
theorem halfP_set {l : List (Int × Int)} {k : Nat} {x : Int × Int} (hx : l[k]? = some x) : (halfP l k).set k x = halfP l (k + 1) := by
  obtain ⟨hk, rfl⟩ := List.getElem?_eq_some_iff.1 hx
  unfold halfP
  rw [K.take_snoc hx, List.set_append_right _ _ (by simp; omega), List.length_take, Nat.min_eq_left (by omega), Nat.sub_self, show l.length - k = (l.length - (k + 1)) + 1 by omega, List.replicate_succ, List.set_cons_zero, List.append_assoc]
  rfl
theorem halfP_len {l : List (Int × Int)} {k : Nat} (h : k ≤ l.length) : (halfP l k).length = l.length := by simp [halfP]; omega
theorem halfP_all {l : List (Int × Int)} {n : Nat} (h : l.length = n) : halfP l n = l := by rw [halfP, K.take_all h, h]; simp
theorem prs_set : ∀ (l : List (Int × Int)) (k : Nat) (x : Int × Int), ((K.prs l).set (k * 2) (.int .i64 x.1)).set (k * 2 + 1) (.int .i64 x.2) = K.prs (l.set k x) := by
  intro l
  induction l with
  | nil => intro k x; simp [K.prs]
  | cons y l ih =>
    intro k x
    cases k with
    | zero => rfl
    | succ k =>
      rw [K.prs_cons, List.set_cons_succ, K.prs_cons, ← ih k x, show (k + 1) * 2 = k * 2 + 1 + 1 by omega]
      rfl
theorem prs_rep (n : Nat) : K.prs (List.replicate n (0, 0)) = List.replicate (n * 2) (.int .i64 0) := by
  induction n with
  | zero => rfl
  | succ n ih => rw [List.replicate_succ, K.prs_cons, ih, show (n + 1) * 2 = n * 2 + 1 + 1 by omega, List.replicate_succ, List.replicate_succ]
theorem made_all (z : Array Value) (v : Value) (n : Nat) (hz : ∀ i, i < z.size → z[i]! = v) (h0 : 0 < z.size) : (madeCells z n).toList = List.replicate n v := by
  apply List.ext_getElem?
  intro j
  by_cases hj : j < n
  · simp [madeCells, hj, hz _ (Nat.mod_lt j h0)]
  · simp [madeCells, hj]
theorem made_pairs (n : Nat) : (madeCells #[Value.int .i64 0, .int .i64 0] n).toList = List.replicate n (.int .i64 0) :=
  made_all _ _ n (fun i hi => by match i, hi with | 0, _ => rfl | 1, _ => rfl) (by decide)
/-- A fresh slice that reads l. -/
def FreshP (t : TypeId) (w : World) (l : List (Int × Int)) (e : Ending) (w' : World) : Prop := ∃ (A : Option Addr) (n c : Nat), e = .returned (.slice A n c) ∧ l.length = n ∧ w'.ownsRow w.heap.size t 2 (.slice A n c) n (K.prs l) ∧ K.Kept w w'
/-- The marks: (k, k + 1), (k + 2, k + 3), .. -/
def marksP (k0 : Int) (n : Nat) : List (Int × Int) := (List.range n).map fun i => (k0 + 2 * (i : Nat), k0 + 2 * (i : Nat) + 1)
theorem marksP_len (k0 : Int) (n : Nat) : (marksP k0 n).length = n := by simp [marksP]
theorem marksP_at {k0 : Int} {n k : Nat} (h : k < n) : (marksP k0 n)[k]? = some (k0 + 2 * (k : Nat), k0 + 2 * (k : Nat) + 1) := by simp [marksP, h]
def markedP (k0 : Int) (k : Nat) (l : List (Int × Int)) : List (Int × Int) := marksP k0 k ++ l.drop k
theorem markedP_zero (k0 : Int) (l : List (Int × Int)) : markedP k0 0 l = l := by simp [markedP, marksP]
theorem markedP_all (k0 : Int) {l : List (Int × Int)} {n : Nat} (h : l.length = n) : markedP k0 n l = marksP k0 n := by subst h; simp [markedP]
theorem markedP_len {k0 : Int} {k : Nat} {l : List (Int × Int)} (h : k ≤ l.length) : (markedP k0 k l).length = l.length := by simp [markedP, marksP]; omega
theorem markedP_set {k0 : Int} {k : Nat} {l : List (Int × Int)} (h : k < l.length) : (markedP k0 k l).set k (k0 + 2 * (k : Nat), k0 + 2 * (k : Nat) + 1) = markedP k0 (k + 1) l := by
  have e : marksP k0 (k + 1) = marksP k0 k ++ [(k0 + 2 * (k : Nat), k0 + 2 * (k : Nat) + 1)] := by simp [marksP, List.range_succ]
  unfold markedP
  rw [e, List.set_append_right _ _ (by simp [marksP]), marksP_len, Nat.sub_self, List.drop_eq_getElem_cons h, List.set_cons_zero, List.append_assoc]
  rfl
theorem szSpanS_yes (w : World) (A : Option Addr) (n c : Nat) (left : Int) (h0 : left ≤ 1048576) (hn : (n : Int) ≤ left) : Calls Try.prog 67 #[.slice A n c, .int .i64 left] w fun e w' => e = .returned (.int .i64 (left - n)) ∧ w = w' := by
  go_enter Try.func67, Try.ntmps67
  go_wp2
  go_ret
  exact ⟨rfl, rfl⟩
theorem szSpanS_no (w : World) (A : Option Addr) (n c : Nat) (left : Int) (h0 : 0 ≤ left ∧ left ≤ 1048576) (hc : n ≤ c ∧ c ≤ maxLen) (hn : left < (n : Int)) : Calls Try.prog 67 #[.slice A n c, .int .i64 left] w fun e w' => e = .returned (.int .i64 (-1)) ∧ w = w' := by
  unfold maxLen at hc
  go_enter Try.func67, Try.ntmps67
  go_wp2
  go_ret
  exact ⟨rfl, rfl⟩
theorem toSpan_k (x y : Int) (w : World) : Calls Try.prog 68 #[.agg #[.int .i64 x, .int .i64 y]] w fun e w' => e = .returned (.agg #[.int .i64 x, .int .i64 y]) ∧ K.Kept w w' :=
  (toSpan_c x y w).mono fun _ _ h => ⟨h.1, h.2 ▸ kp3 _ _ _ _⟩
theorem infoSpan : (Try.prog.info? 24).map (fun i => (i.zero, i.size, i.bytes)) = some (some (.agg #[.int .i64 0, .int .i64 0]), 2, 16) := by kernel_rfl
set_option maxHeartbeats 400000 in
theorem toSpanS_c (w : World) (A : Option Addr) (n c : Nat) (l : List (Int × Int)) (h : K.PR w w.heap.size A n l) (hn : n ≤ 1099511627776) : Calls Try.prog 69 #[.slice A n c] w (FreshP 24 w l) := by
  have L := Lib.hid (K.PR.len h)
  obtain ⟨i0, hi, hz0, hz1, hz2⟩ := info_parts infoSpan
  go_enter Try.func69, Try.ntmps69
  go_wp2_with (at_make; refine wpList_make_full _ rfl _ _ 25 rfl w.heap.size 24 i0 (.agg #[.int .i64 0, .int .i64 0]) 2 Try.underlying25 hi hz0 hz1 _ _ _ _ n rfl rfl rfl rfl (by rw [hz2]; omega) (by unfold maxLen; omega) (Nat.le_refl _) ?_)
  intro w1 hown1 hgrow1
  have Hown : Hid (w1.ownsRow w.heap.size 24 2 (.slice (some ⟨w.heap.size, 0, none⟩) n n) n (K.prs (halfP l 0))) := by
    unfold Hid
    have e : K.prs (halfP l 0) = (madeCells (Value.agg #[.int .i64 0, .int .i64 0]).cells (n * 2)).toList := by
      rw [show (Value.agg #[.int .i64 0, .int .i64 0]).cells = #[Value.int .i64 0, .int .i64 0] from rfl, made_pairs, ← prs_rep]
      simp [halfP, L.out]
    rw [e]; exact hown1
  have hk1 : K.Kept w w1 := (Below.refl _ _).grown hgrow1 (Nat.le_refl _) (by intro k hk; cases hk)
  clear hown1 hgrow1 hi hz0 hz1 hz2
  go_wp2
  go_loopw [4] (fun i wr => ∃ k : Nat, k ≤ n ∧ i = .int .i64 k ∧ K.Kept w wr ∧ Hid (wr.ownsRow w.heap.size 24 2 (.slice (some ⟨w.heap.size, 0, none⟩) n n) n (K.prs (halfP l k)))) (fun i _ => n - (intOf i).toNat)
  case atStart => exact ⟨0, Nat.zero_le _, rfl, hk1, Hown⟩
  case round =>
    clear hk1 Hown
    obtain ⟨k, hk, rfl, hkw, hr⟩ := hrel
    by_cases hlt : k < n
    · obtain ⟨b, o, x, y, rfl, hb, c1, c2, hx⟩ := K.PR.cell (K.Rd.below h hkw) hlt
      go_wp2_with fail
      refine (toSpan_k x y wr).mono ?_
      rintro e w2 ⟨rfl, k2⟩
      have hr2 := Lib.hid (K.own_kept hr.out k2)
      have d1 := hr2.out.cellAt (k * 2) (by omega)
      have d2 := hr2.out.cellAt (k * 2 + 1) (by omega)
      have p0 := K.prs_at (show (halfP l k)[k]? = some ((halfP l k)[k]'(by rw [halfP_len (by have := L.out; omega)]; have := L.out; omega)) from List.getElem?_eq_getElem _)
      rw [p0.1] at d1
      rw [p0.2] at d2
      have f1 := hr2.out.frozenAt (k * 2)
      have f2 := hr2.out.frozenAt (k * 2 + 1)
      have kw2 := K.Kept.trans hkw k2
      clear p0 hr k2 hkw c1 c2
      go_wp2
      go_roundw
      case rel =>
        have s1 := hr2.out.stored (k * 2) (.int .i64 x)
        have s2 := s1.1.stored (k * 2 + 1) (.int .i64 y)
        have e := prs_set (halfP l k) k (x, y)
        simp only at e
        rw [e, halfP_set hx.out] at s2
        exact ⟨k + 1, by omega, by go_num, (kw2.setCell (p := ⟨w.heap.size, k * 2, none⟩) (Nat.le_refl _) _).setCell (p := ⟨w.heap.size, k * 2 + 1, none⟩) (Nat.le_refl _) _, s2.1⟩
      case measure => simp [intOf]; omega
    · have hkn : n = k := by omega
      subst hkn
      have := hr.out
      rw [halfP_all L.out] at this
      have HO := Lib.hid this
      clear this hr
      go_wp2
      go_ret
      exact ⟨_, _, _, rfl, L.out, HO.out, hkw⟩
set_option maxHeartbeats 400000 in
theorem eqSpanS_c (w : World) (A1 A2 : Option Addr) (n m c d : Nat) (l1 l2 : List (Int × Int)) (h1 : K.PR w w.heap.size A1 n l1) (h2 : K.PR w w.heap.size A2 m l2) (hn : n ≤ 1099511627776) (hm : m ≤ 1099511627776) :
    Calls Try.prog 71 #[.slice A1 n c, .slice A2 m d] w fun e w' => e = .returned (.bool (decide (l1 = l2))) ∧ K.Kept w w' := by
  have e1 := K.PR.len h1
  have e2 := K.PR.len h2
  by_cases hnm : n = m
  · subst hnm
    have E1 := Lib.hid e1
    have E2 := Lib.hid e2
    clear e1 e2
    go_enter Try.func71, Try.ntmps71
    go_wp2
    go_loopw [5] (fun i wr => ∃ k : Nat, k ≤ n ∧ i = .int .i64 k ∧ K.Kept w wr ∧ Hid (l1.take k = l2.take k)) (fun i _ => n - (intOf i).toNat)
    case atStart => exact ⟨0, Nat.zero_le _, rfl, Below.refl _ _, by unfold Hid; simp⟩
    case round =>
      obtain ⟨k, hk, rfl, hkw, ht⟩ := hrel
      by_cases hlt : k < n
      · obtain ⟨b1, o1, x, y, rfl, hb1, c1, c2, hx⟩ := K.PR.cell (K.Rd.below h1 hkw) hlt
        obtain ⟨b2, o2, u, v, rfl, hb2, c3, c4, hy⟩ := K.PR.cell (K.Rd.below h2 hkw) hlt
        have HK := Lib.hid hkw
        clear hkw h1 h2
        cases hd : decide (x = u ∧ y = v)
        · go_wp2_with fail
          go_region_held3 (fun w' => w'.cell? ⟨b1, o1 + k * 2, none⟩ = some (.int .i64 x) ∧ w'.cell? ⟨b1, o1 + k * 2 + 1, none⟩ = some (.int .i64 y) ∧ w'.cell? ⟨b2, o2 + k * 2, none⟩ = some (.int .i64 u) ∧ w'.cell? ⟨b2, o2 + k * 2 + 1, none⟩ = some (.int .i64 v)) (first | exact ⟨c1, c2, c3, c4⟩ | go_keep) (((go_at_call 70; refine (eqSpan_c _ _ _ _ _).mono ?_; rintro e w' ⟨rfl, rfl⟩)))
          go_wp2
          go_ret
          have hne : ¬ (x = u ∧ y = v) := of_decide_eq_false hd
          exact ⟨K.rb (Eq.symm (decide_eq_false (fun e => hne (by have a := hx.out; have b := hy.out; rw [e] at a; rw [a] at b; simpa using b)))), K.Kept.trans HK.out (by go_grown)⟩
        · go_wp2_with fail
          go_region_held3 (fun w' => w'.cell? ⟨b1, o1 + k * 2, none⟩ = some (.int .i64 x) ∧ w'.cell? ⟨b1, o1 + k * 2 + 1, none⟩ = some (.int .i64 y) ∧ w'.cell? ⟨b2, o2 + k * 2, none⟩ = some (.int .i64 u) ∧ w'.cell? ⟨b2, o2 + k * 2 + 1, none⟩ = some (.int .i64 v)) (first | exact ⟨c1, c2, c3, c4⟩ | go_keep) (((go_at_call 70; refine (eqSpan_c _ _ _ _ _).mono ?_; rintro e w' ⟨rfl, rfl⟩)))
          go_wp2
          go_roundw
          case rel =>
            obtain ⟨rfl, rfl⟩ : x = u ∧ y = v := of_decide_eq_true hd
            exact ⟨k + 1, by omega, by go_num, K.Kept.trans HK.out (by go_grown), by unfold Hid; rw [K.take_snoc hx.out, K.take_snoc hy.out, ht.out]⟩
          case measure => simp [intOf]; omega
      · have hkn : n = k := by omega
        subst hkn
        go_wp2
        go_ret
        exact ⟨K.rb (Eq.symm (decide_eq_true (pr_of_takes E1.out E2.out ht.out))), hkw⟩
  · have e3 : ((n : Int) != (m : Int)) = true := by simp; omega
    have hne : decide (l1 = l2) = false := decide_eq_false (fun e => hnm (by rw [← e1, ← e2, e]))
    go_enter Try.func71, Try.ntmps71
    go_wp2
    go_ret
    exact ⟨K.rb hne.symm, Below.refl _ _⟩
set_option maxHeartbeats 400000 in
theorem markSpanS_c (w : World) (A : Option Addr) (base n c : Nat) (l : List (Int × Int)) (k0 : Int) (h : w.ownsRow base 24 2 (.slice A n c) n (K.prs l)) (hn : n ≤ 1099511627776) (h0 : 0 ≤ k0 ∧ k0 ≤ 1099511627776) :
    Calls Try.prog 75 #[.slice A n c, .int .i64 k0] w fun e w' => e = .returned (.int .i64 (k0 + 2 * (n : Int))) ∧ w'.ownsRow base 24 2 (.slice A n c) n (K.prs (marksP k0 n)) ∧ w.grownBy w' (Value.slice A n c).ownBlock := by
  have hl : l.length = n := by have := h.1; rw [K.prs_len] at this; omega
  by_cases hn0 : n = 0
  · subst hn0
    have hnil : l = [] := List.eq_nil_of_length_eq_zero hl
    subst hnil
    go_enter Try.func75, Try.ntmps75
    go_wp2
    refine wp_loop_rounds 1 ?_
    rw [rounds_succ]
    go_wp2
    go_ret
    exact ⟨K.ri (by simp), by simpa [marksP] using h, World.grownBy.refl _ _⟩
  obtain ⟨g, rfl⟩ : ∃ g, A = some ⟨g, 0, none⟩ := by
    rcases h.2 with ⟨hv, h0⟩ | ⟨g, cap, cur, hv, _⟩
    · exact absurd h0 hn0
    · injection hv with h1; exact ⟨g, h1⟩
  have H := Lib.hid h
  have L := Lib.hid hl
  clear h hl hn0
  go_enter Try.func75, Try.ntmps75
  go_wp2
  go_loopw [1, 5] (fun m i wr => ∃ k : Nat, k ≤ n ∧ i = .int .i64 k ∧ m = .int .i64 (k0 + 2 * (k : Int)) ∧ Hid (wr.ownsRow base 24 2 (.slice (some ⟨g, 0, none⟩) n c) n (K.prs (markedP k0 k l)) ∧ w.grownBy wr (some g))) (fun _ i _ => n - (intOf i).toNat)
  case atStart => exact ⟨0, Nat.zero_le _, rfl, by go_num, by unfold Hid; rw [markedP_zero]; exact ⟨H.out, World.grownBy.refl _ _⟩⟩
  case round =>
    obtain ⟨k, hk, rfl, rfl, hr⟩ := hrel
    by_cases hlt : k < n
    · have p0 := K.prs_at (show (markedP k0 k l)[k]? = some ((markedP k0 k l)[k]'(by rw [markedP_len (by have := L.out; omega)]; have := L.out; omega)) from List.getElem?_eq_getElem _)
      have d1 := hr.out.1.cellAt (k * 2) (by omega)
      rw [p0.1] at d1
      have f1 := hr.out.1.frozenAt (k * 2)
      have s1 := hr.out.1.stored (k * 2) (.int .i64 (k0 + 2 * (k : Int)))
      have d2 := s1.1.cellAt (k * 2 + 1) (by omega)
      rw [List.getElem?_set_ne (by omega), p0.2] at d2
      have f2 := s1.1.frozenAt (k * 2 + 1)
      have s2 := s1.1.stored (k * 2 + 1) (.int .i64 (k0 + 2 * (k : Int) + 1))
      have e := prs_set (markedP k0 k l) k (k0 + 2 * (k : Int), k0 + 2 * (k : Int) + 1)
      simp only at e
      rw [e, markedP_set (by have := L.out; omega)] at s2
      have HS := Lib.hid (And.intro s2.1 (K.But.trans hr.out.2 (K.But.trans s1.2 s2.2)))
      clear s1 s2 e p0
      go_wp2
      go_roundw
      case rel => exact ⟨k + 1, by omega, by go_num, by go_num, HS⟩
      case measure => simp [intOf]; omega
    · have hkn : n = k := by omega
      subst hkn
      have e := hr.out
      rw [markedP_all k0 L.out] at e
      have HE := Lib.hid e
      clear e hr
      go_wp2
      go_ret
      exact ⟨rfl, HE.out.1, HE.out.2⟩
end C
end Go.Proofs.Ytapjlbcpfemeiaa

/-
  Lists of four numbers each (articles) in memory, and the contracts of the functions that copy, compare and mark them. Conditions: lengths below 2^40.
-/
import Derived.Test.YtikfblaaacgalaaPairs
namespace Go.Proofs.Ytikfblaaacgalaa
open Go.RowKit
namespace K
abbrev Q4 := Int × Int × Int × Int
def qds (l : List Q4) : List Value := l.flatMap fun x => [.int .i64 x.1, .int .i64 x.2.1, .int .i64 x.2.2.1, .int .i64 x.2.2.2]
theorem qds_cons (x : Q4) (l : List Q4) : qds (x :: l) = .int .i64 x.1 :: .int .i64 x.2.1 :: .int .i64 x.2.2.1 :: .int .i64 x.2.2.2 :: qds l := rfl
theorem qds_append (l m : List Q4) : qds (l ++ m) = qds l ++ qds m := by simp [qds]
theorem qds_len (l : List Q4) : (qds l).length = l.length * 4 := by
  induction l with
  | nil => rfl
  | cons x l ih => rw [qds_cons]; simp only [List.length_cons, ih]; omega
theorem qds_at : ∀ {l : List Q4} {k : Nat} {x : Q4}, l[k]? = some x → (qds l)[k * 4]? = some (.int .i64 x.1) ∧ (qds l)[k * 4 + 1]? = some (.int .i64 x.2.1) ∧ (qds l)[k * 4 + 2]? = some (.int .i64 x.2.2.1) ∧ (qds l)[k * 4 + 3]? = some (.int .i64 x.2.2.2) := by
  intro l
  induction l with
  | nil => intro k x h; simp at h
  | cons y l ih =>
    intro k x h
    cases k with
    | zero => simp at h; subst h; exact ⟨rfl, rfl, rfl, rfl⟩
    | succ k =>
      have := ih (k := k) (x := x) (by simpa using h)
      rw [qds_cons, show (k + 1) * 4 = k * 4 + 1 + 1 + 1 + 1 by omega]
      exact this
theorem qds_one (l : List Q4) : ∀ u ∈ qds l, u.oneCell' = true := by
  intro u hu
  obtain ⟨x, _, hx⟩ := List.mem_flatMap.1 hu
  simp at hx
  rcases hx with rfl | rfl | rfl | rfl <;> rfl
/-- The slice reads the fours l. -/
abbrev QR (w : World) (B : Nat) (A : Option Addr) (n : Nat) (l : List Q4) : Prop := Rd w B 4 A n (qds l)
theorem QR.len {w : World} {B n : Nat} {A : Option Addr} {l : List Q4} (h : QR w B A n l) : l.length = n := by have := h.1; rw [qds_len] at this; omega
theorem QR.cell {w : World} {B n k : Nat} {A : Option Addr} {l : List Q4} (h : QR w B A n l) (hk : k < n) :
    ∃ b off x y z v, A = some ⟨b, off, none⟩ ∧ b < B ∧ w.cell? ⟨b, off + k * 4, none⟩ = some (.int .i64 x) ∧ w.cell? ⟨b, off + k * 4 + 1, none⟩ = some (.int .i64 y) ∧ w.cell? ⟨b, off + k * 4 + 2, none⟩ = some (.int .i64 z) ∧ w.cell? ⟨b, off + k * 4 + 3, none⟩ = some (.int .i64 v) ∧ Hid (l[k]? = some (x, y, z, v)) := by
  obtain ⟨b, off, e, hb, hc⟩ := h.2 (by omega)
  have hl := QR.len h
  have hx : l[k]? = some (l[k]'(by omega)) := List.getElem?_eq_getElem (by omega)
  have p := qds_at hx
  exact ⟨b, off, _, _, _, _, e, hb, hc _ _ p.1, hc _ _ p.2.1, hc _ _ p.2.2.1, hc _ _ p.2.2.2, hx⟩
theorem qds_set : ∀ (l : List Q4) (k : Nat) (x : Q4), ((((qds l).set (k * 4) (.int .i64 x.1)).set (k * 4 + 1) (.int .i64 x.2.1)).set (k * 4 + 2) (.int .i64 x.2.2.1)).set (k * 4 + 3) (.int .i64 x.2.2.2) = qds (l.set k x) := by
  intro l
  induction l with
  | nil => intro k x; simp [qds]
  | cons y l ih =>
    intro k x
    cases k with
    | zero => rfl
    | succ k =>
      rw [show (y :: l).set (k + 1) x = y :: l.set k x from rfl, qds_cons y (l.set k x), ← ih k x, qds_cons, show (k + 1) * 4 = k * 4 + 1 + 1 + 1 + 1 by omega]
      rfl
theorem qds_rep (n : Nat) : qds (List.replicate n (0, 0, 0, 0)) = List.replicate (n * 4) (.int .i64 0) := by
  induction n with
  | zero => rfl
  | succ n ih => rw [List.replicate_succ, qds_cons, ih, show (n + 1) * 4 = n * 4 + 1 + 1 + 1 + 1 by omega]; rfl
end K
namespace C
theorem qr_of_takes {l m : List K.Q4} {n : Nat} (h1 : l.length = n) (h2 : m.length = n) (h : l.take n = m.take n) : l = m := by
  rw [List.take_of_length_le (by omega), List.take_of_length_le (by omega)] at h
  exact h
def halfQ (l : List K.Q4) (k : Nat) : List K.Q4 := l.take k ++ List.replicate (l.length - k) (0, 0, 0, 0)
theorem halfQ_set {l : List K.Q4} {k : Nat} {x : K.Q4} (hx : l[k]? = some x) : (halfQ l k).set k x = halfQ l (k + 1) := by
  obtain ⟨hk, rfl⟩ := List.getElem?_eq_some_iff.1 hx
  unfold halfQ
  rw [K.take_snoc hx, List.set_append_right _ _ (by simp; omega), List.length_take, Nat.min_eq_left (by omega), Nat.sub_self, show l.length - k = (l.length - (k + 1)) + 1 by omega, List.replicate_succ, List.set_cons_zero, List.append_assoc]
  rfl
theorem halfQ_len {l : List K.Q4} {k : Nat} (h : k ≤ l.length) : (halfQ l k).length = l.length := by simp [halfQ]; omega
theorem halfQ_all {l : List K.Q4} {n : Nat} (h : l.length = n) : halfQ l n = l := by rw [halfQ, K.take_all h, h]; simp
theorem made_quads (n : Nat) : (madeCells #[Value.int .i64 0, .int .i64 0, .int .i64 0, .int .i64 0] n).toList = List.replicate n (.int .i64 0) :=
  made_all _ _ n (fun i hi => by match i, hi with | 0, _ => rfl | 1, _ => rfl | 2, _ => rfl | 3, _ => rfl) (by decide)
def FreshQ (t : TypeId) (w : World) (l : List K.Q4) (e : Ending) (w' : World) : Prop := ∃ (A : Option Addr) (n c : Nat), e = .returned (.slice A n c) ∧ l.length = n ∧ w'.ownsRow w.heap.size t 4 (.slice A n c) n (K.qds l) ∧ K.Kept w w'
def marksQ (k0 : Int) (n : Nat) : List K.Q4 := (List.range n).map fun i => (k0 + 4 * (i : Nat), k0 + 4 * (i : Nat) + 1, k0 + 4 * (i : Nat) + 2, k0 + 4 * (i : Nat) + 3)
theorem marksQ_len (k0 : Int) (n : Nat) : (marksQ k0 n).length = n := by simp [marksQ]
theorem marksQ_at {k0 : Int} {n k : Nat} (h : k < n) : (marksQ k0 n)[k]? = some (k0 + 4 * (k : Nat), k0 + 4 * (k : Nat) + 1, k0 + 4 * (k : Nat) + 2, k0 + 4 * (k : Nat) + 3) := by simp [marksQ, h]
def markedQ (k0 : Int) (k : Nat) (l : List K.Q4) : List K.Q4 := marksQ k0 k ++ l.drop k
theorem markedQ_zero (k0 : Int) (l : List K.Q4) : markedQ k0 0 l = l := by simp [markedQ, marksQ]
theorem markedQ_all (k0 : Int) {l : List K.Q4} {n : Nat} (h : l.length = n) : markedQ k0 n l = marksQ k0 n := by subst h; simp [markedQ]
theorem markedQ_len {k0 : Int} {k : Nat} {l : List K.Q4} (h : k ≤ l.length) : (markedQ k0 k l).length = l.length := by simp [markedQ, marksQ]; omega
theorem markedQ_set {k0 : Int} {k : Nat} {l : List K.Q4} (h : k < l.length) : (markedQ k0 k l).set k (k0 + 4 * (k : Nat), k0 + 4 * (k : Nat) + 1, k0 + 4 * (k : Nat) + 2, k0 + 4 * (k : Nat) + 3) = markedQ k0 (k + 1) l := by
  have e : marksQ k0 (k + 1) = marksQ k0 k ++ [(k0 + 4 * (k : Nat), k0 + 4 * (k : Nat) + 1, k0 + 4 * (k : Nat) + 2, k0 + 4 * (k : Nat) + 3)] := by simp [marksQ, List.range_succ]
  unfold markedQ
  rw [e, List.set_append_right _ _ (by simp [marksQ]), marksQ_len, Nat.sub_self, List.drop_eq_getElem_cons h, List.set_cons_zero, List.append_assoc]
  rfl
theorem toArticle_k (x y z v : Int) (w : World) : Calls Try.prog 59 #[.agg #[.int .i64 x, .int .i64 y, .int .i64 z, .int .i64 v]] w fun e w' => e = .returned (.agg #[.int .i64 x, .int .i64 y, .int .i64 z, .int .i64 v]) ∧ K.Kept w w' := by
  go_enter Try.func59, Try.ntmps59
  go_wp2
  go_returns
  exact ⟨rfl, by go_grown⟩
theorem eqArticle_yes (x y z v : Int) (w : World) : Calls Try.prog 61 #[.agg #[.int .i64 x, .int .i64 y, .int .i64 z, .int .i64 v], .agg #[.int .i64 x, .int .i64 y, .int .i64 z, .int .i64 v]] w fun e w' => e = .returned (.bool true) ∧ K.Kept w w' := by
  have e1 : (x != x) = false := by simp
  have e2 : (y != y) = false := by simp
  have e3 : (z != z) = false := by simp
  have e4 : (v != v) = false := by simp
  go_enter Try.func61, Try.ntmps61
  go_wp2
  go_ret
  exact ⟨rfl, by go_grown⟩
theorem eqArticle_no (x y z v x' y' z' v' : Int) (w : World) (h : ¬ (x, y, z, v) = (x', y', z', v')) : Calls Try.prog 61 #[.agg #[.int .i64 x, .int .i64 y, .int .i64 z, .int .i64 v], .agg #[.int .i64 x', .int .i64 y', .int .i64 z', .int .i64 v']] w fun e w' => e = .returned (.bool false) ∧ K.Kept w w' := by
  by_cases h1 : x = x'
  · subst h1
    have e1 : (x != x) = false := by simp
    by_cases h2 : y = y'
    · subst h2
      have e2 : (y != y) = false := by simp
      by_cases h3 : z = z'
      · subst h3
        have e3 : (z != z) = false := by simp
        have h4 : ¬ v = v' := fun e => h (by rw [e])
        have e4 : (v != v') = true := by simp [h4]
        clear h h4
        go_enter Try.func61, Try.ntmps61
        go_wp2
        go_ret
        exact ⟨rfl, by go_grown⟩
      · have e3 : (z != z') = true := by simp [h3]
        clear h h3
        go_enter Try.func61, Try.ntmps61
        go_wp2
        go_ret
        exact ⟨rfl, by go_grown⟩
    · have e2 : (y != y') = true := by simp [h2]
      clear h h2
      go_enter Try.func61, Try.ntmps61
      go_wp2
      go_ret
      exact ⟨rfl, by go_grown⟩
  · have e1 : (x != x') = true := by simp [h1]
    clear h h1
    go_enter Try.func61, Try.ntmps61
    go_wp2
    go_ret
    exact ⟨rfl, by go_grown⟩
theorem szArticleS_yes (w : World) (A : Option Addr) (n c : Nat) (left : Int) (h0 : left ≤ 1048576) (hn : (n : Int) ≤ left) : Calls Try.prog 22 #[.slice A n c, .int .i64 left] w fun e w' => e = .returned (.int .i64 (left - n)) ∧ w = w' := by
  go_enter Try.func22, Try.ntmps22
  go_wp2
  go_ret
  exact ⟨rfl, rfl⟩
theorem szArticleS_no (w : World) (A : Option Addr) (n c : Nat) (left : Int) (h0 : 0 ≤ left ∧ left ≤ 1048576) (hc : n ≤ c ∧ c ≤ maxLen) (hn : left < (n : Int)) : Calls Try.prog 22 #[.slice A n c, .int .i64 left] w fun e w' => e = .returned (.int .i64 (-1)) ∧ w = w' := by
  unfold maxLen at hc
  go_enter Try.func22, Try.ntmps22
  go_wp2
  go_ret
  exact ⟨rfl, rfl⟩
theorem infoArticle : (Try.prog.info? 45).map (fun i => (i.zero, i.size, i.bytes)) = some (some (.agg #[.int .i64 0, .int .i64 0, .int .i64 0, .int .i64 0]), 4, 32) := by kernel_rfl
set_option maxHeartbeats 1000000 in
theorem toArticleS_c (w : World) (A : Option Addr) (n c : Nat) (l : List K.Q4) (h : K.QR w w.heap.size A n l) (hn : n ≤ 1099511627776) : Calls Try.prog 24 #[.slice A n c] w (FreshQ 45 w l) := by
  have L := Lib.hid (K.QR.len h)
  obtain ⟨i0, hi, hz0, hz1, hz2⟩ := info_parts infoArticle
  go_enter Try.func24, Try.ntmps24
  go_wp2_with (at_make; refine wpList_make_full _ rfl _ _ 25 rfl w.heap.size 45 i0 (.agg #[.int .i64 0, .int .i64 0, .int .i64 0, .int .i64 0]) 4 Try.underlying25 hi hz0 hz1 _ _ _ _ n rfl rfl rfl rfl (by rw [hz2]; omega) (by unfold maxLen; omega) (Nat.le_refl _) ?_)
  intro w1 hown1 hgrow1
  have Hown : Hid (w1.ownsRow w.heap.size 45 4 (.slice (some ⟨w.heap.size, 0, none⟩) n n) n (K.qds (halfQ l 0))) := by
    unfold Hid
    have e : K.qds (halfQ l 0) = (madeCells (Value.agg #[.int .i64 0, .int .i64 0, .int .i64 0, .int .i64 0]).cells (n * 4)).toList := by
      rw [show (Value.agg #[.int .i64 0, .int .i64 0, .int .i64 0, .int .i64 0]).cells = #[Value.int .i64 0, .int .i64 0, .int .i64 0, .int .i64 0] from rfl, made_quads, ← K.qds_rep]
      simp [halfQ, L.out]
    rw [e]; exact hown1
  have hk1 : K.Kept w w1 := (Below.refl _ _).grown hgrow1 (Nat.le_refl _) (by intro k hk; cases hk)
  clear hown1 hgrow1 hi hz0 hz1 hz2
  go_wp2
  go_loopw [4] (fun i wr => ∃ k : Nat, k ≤ n ∧ i = .int .i64 k ∧ K.Kept w wr ∧ Hid (wr.ownsRow w.heap.size 45 4 (.slice (some ⟨w.heap.size, 0, none⟩) n n) n (K.qds (halfQ l k)))) (fun i _ => n - (intOf i).toNat)
  case atStart => exact ⟨0, Nat.zero_le _, rfl, hk1, Hown⟩
  case round =>
    clear hk1 Hown
    obtain ⟨k, hk, rfl, hkw, hr⟩ := hrel
    by_cases hlt : k < n
    · obtain ⟨b, o, x, y, z, v, rfl, hb, c1, c2, c3, c4, hx⟩ := K.QR.cell (K.Rd.below h hkw) hlt
      go_wp2_with fail
      refine (toArticle_k x y z v wr).mono ?_
      rintro e w2 ⟨rfl, k2⟩
      have hr2 := Lib.hid (K.own_kept hr.out k2)
      have d1 := hr2.out.cellAt (k * 4) (by omega)
      have d2 := hr2.out.cellAt (k * 4 + 1) (by omega)
      have d3 := hr2.out.cellAt (k * 4 + 2) (by omega)
      have d4 := hr2.out.cellAt (k * 4 + 3) (by omega)
      have p0 := K.qds_at (show (halfQ l k)[k]? = some ((halfQ l k)[k]'(by rw [halfQ_len (by have := L.out; omega)]; have := L.out; omega)) from List.getElem?_eq_getElem _)
      rw [p0.1] at d1
      rw [p0.2.1] at d2
      rw [p0.2.2.1] at d3
      rw [p0.2.2.2] at d4
      have f1 := hr2.out.frozenAt (k * 4)
      have f2 := hr2.out.frozenAt (k * 4 + 1)
      have f3 := hr2.out.frozenAt (k * 4 + 2)
      have f4 := hr2.out.frozenAt (k * 4 + 3)
      have kw2 := K.Kept.trans hkw k2
      clear p0 hr k2 hkw c1 c2 c3 c4
      go_wp2
      go_roundw
      case rel =>
        have s1 := hr2.out.stored (k * 4) (.int .i64 x)
        have s2 := s1.1.stored (k * 4 + 1) (.int .i64 y)
        have s3 := s2.1.stored (k * 4 + 2) (.int .i64 z)
        have s4 := s3.1.stored (k * 4 + 3) (.int .i64 v)
        have e := K.qds_set (halfQ l k) k (x, y, z, v)
        simp only at e
        rw [e, halfQ_set hx.out] at s4
        exact ⟨k + 1, by omega, by go_num, (((kw2.setCell (p := ⟨w.heap.size, k * 4, none⟩) (Nat.le_refl _) _).setCell (p := ⟨w.heap.size, k * 4 + 1, none⟩) (Nat.le_refl _) _).setCell (p := ⟨w.heap.size, k * 4 + 2, none⟩) (Nat.le_refl _) _).setCell (p := ⟨w.heap.size, k * 4 + 3, none⟩) (Nat.le_refl _) _, s4.1⟩
      case measure => simp [intOf]; omega
    · have hkn : n = k := by omega
      subst hkn
      have := hr.out
      rw [halfQ_all L.out] at this
      have HO := Lib.hid this
      clear this hr
      go_wp2
      go_ret
      exact ⟨_, _, _, rfl, L.out, HO.out, hkw⟩
set_option maxHeartbeats 1000000 in
theorem eqArticleS_c (w : World) (A1 A2 : Option Addr) (n m c d : Nat) (l1 l2 : List K.Q4) (h1 : K.QR w w.heap.size A1 n l1) (h2 : K.QR w w.heap.size A2 m l2) (hn : n ≤ 1099511627776) (hm : m ≤ 1099511627776) :
    Calls Try.prog 26 #[.slice A1 n c, .slice A2 m d] w fun e w' => e = .returned (.bool (decide (l1 = l2))) ∧ K.Kept w w' := by
  have e1 := K.QR.len h1
  have e2 := K.QR.len h2
  by_cases hnm : n = m
  · subst hnm
    have E1 := Lib.hid e1
    have E2 := Lib.hid e2
    clear e1 e2
    go_enter Try.func26, Try.ntmps26
    go_wp2
    go_loopw [5] (fun i wr => ∃ k : Nat, k ≤ n ∧ i = .int .i64 k ∧ K.Kept w wr ∧ Hid (l1.take k = l2.take k)) (fun i _ => n - (intOf i).toNat)
    case atStart => exact ⟨0, Nat.zero_le _, rfl, Below.refl _ _, by unfold Hid; simp⟩
    case round =>
      obtain ⟨k, hk, rfl, hkw, ht⟩ := hrel
      by_cases hlt : k < n
      · obtain ⟨b1, o1, x, y, z, v, rfl, hb1, c1, c2, c3, c4, hx⟩ := K.QR.cell (K.Rd.below h1 hkw) hlt
        obtain ⟨b2, o2, x', y', z', v', rfl, hb2, d1, d2, d3, d4, hy⟩ := K.QR.cell (K.Rd.below h2 hkw) hlt
        have HK := Lib.hid hkw
        clear hkw h1 h2
        by_cases hd : (x, y, z, v) = (x', y', z', v')
        · injection hd with a1 a2
          injection a2 with a2 a3
          injection a3 with a3 a4
          subst a1 a2 a3 a4
          go_wp2_with fail
          (have rg0 := cell_regrown c1; have rg1 := cell_regrown c2; have rg2 := cell_regrown c3; have rg3 := cell_regrown c4; have rg4 := cell_regrown d1; have rg5 := cell_regrown d2; have rg6 := cell_regrown d3; have rg7 := cell_regrown d4; refine wp_region_quiet_below (by kernel_rfl) (by kernel_rfl) ?_; (repeat (go_big_quiet_step ((first | (go_at_call 61; exact Calls.regrown_of (eqArticle_yes _ _ _ _ _)))))); refine wpQuiet_nil ?_; intro w2 hw2; have kw2 := K.of_regrown hw2; clear hw2 rg0 rg1 rg2 rg3 rg4 rg5 rg6 rg7)
          go_wp2
          go_roundw
          case rel => exact ⟨k + 1, by omega, by go_num, K.Kept.trans HK.out kw2, by unfold Hid; rw [K.take_snoc hx.out, K.take_snoc hy.out, ht.out]⟩
          case measure => simp [intOf]; omega
        · have hne : ¬ l1 = l2 := fun e => hd (by have a := hx.out; have b := hy.out; rw [e] at a; rw [a] at b; exact Option.some.inj b)
          have HD := Lib.hid hd
          clear hd
          go_wp2_with fail
          (have rg0 := cell_regrown c1; have rg1 := cell_regrown c2; have rg2 := cell_regrown c3; have rg3 := cell_regrown c4; have rg4 := cell_regrown d1; have rg5 := cell_regrown d2; have rg6 := cell_regrown d3; have rg7 := cell_regrown d4; refine wp_region_quiet_below (by kernel_rfl) (by kernel_rfl) ?_; (repeat (go_big_quiet_step ((first | (go_at_call 61; exact Calls.regrown_of (eqArticle_no _ _ _ _ _ _ _ _ _ HD.out)))))); refine wpQuiet_nil ?_; intro w2 hw2; have kw2 := K.of_regrown hw2; clear hw2 rg0 rg1 rg2 rg3 rg4 rg5 rg6 rg7)
          go_wp2
          go_ret
          exact ⟨K.rb (Eq.symm (decide_eq_false hne)), K.Kept.trans HK.out kw2⟩
      · have hkn : n = k := by omega
        subst hkn
        go_wp2
        go_ret
        exact ⟨K.rb (Eq.symm (decide_eq_true (qr_of_takes E1.out E2.out ht.out))), hkw⟩
  · have e3 : ((n : Int) != (m : Int)) = true := by simp; omega
    have hne : decide (l1 = l2) = false := decide_eq_false (fun e => hnm (by rw [← e1, ← e2, e]))
    go_enter Try.func26, Try.ntmps26
    go_wp2
    go_ret
    exact ⟨K.rb hne.symm, Below.refl _ _⟩
set_option maxHeartbeats 1000000 in
theorem markArticleS_c (w : World) (A : Option Addr) (base n c : Nat) (l : List K.Q4) (k0 : Int) (h : w.ownsRow base 45 4 (.slice A n c) n (K.qds l)) (hn : n ≤ 1099511627776) (h0 : 0 ≤ k0 ∧ k0 ≤ 1099511627776) :
    Calls Try.prog 53 #[.slice A n c, .int .i64 k0] w fun e w' => e = .returned (.int .i64 (k0 + 4 * (n : Int))) ∧ w'.ownsRow base 45 4 (.slice A n c) n (K.qds (marksQ k0 n)) ∧ w.grownBy w' (Value.slice A n c).ownBlock := by
  have hl : l.length = n := by have := h.1; rw [K.qds_len] at this; omega
  by_cases hn0 : n = 0
  · subst hn0
    have hnil : l = [] := List.eq_nil_of_length_eq_zero hl
    subst hnil
    go_enter Try.func53, Try.ntmps53
    go_wp2
    refine wp_loop_rounds 1 ?_
    rw [rounds_succ]
    go_wp2
    go_ret
    exact ⟨K.ri (by simp), by simpa [marksQ] using h, World.grownBy.refl _ _⟩
  obtain ⟨g, rfl⟩ : ∃ g, A = some ⟨g, 0, none⟩ := by
    rcases h.2 with ⟨hv, h0⟩ | ⟨g, cap, cur, hv, _⟩
    · exact absurd h0 hn0
    · injection hv with h1; exact ⟨g, h1⟩
  have H := Lib.hid h
  have L := Lib.hid hl
  clear h hl hn0
  go_enter Try.func53, Try.ntmps53
  go_wp2
  go_loopw [1, 5] (fun m i wr => ∃ k : Nat, k ≤ n ∧ i = .int .i64 k ∧ m = .int .i64 (k0 + 4 * (k : Int)) ∧ Hid (wr.ownsRow base 45 4 (.slice (some ⟨g, 0, none⟩) n c) n (K.qds (markedQ k0 k l)) ∧ w.grownBy wr (some g))) (fun _ i _ => n - (intOf i).toNat)
  case atStart => exact ⟨0, Nat.zero_le _, rfl, by go_num, by unfold Hid; rw [markedQ_zero]; exact ⟨H.out, World.grownBy.refl _ _⟩⟩
  case round =>
    obtain ⟨k, hk, rfl, rfl, hr⟩ := hrel
    by_cases hlt : k < n
    · have p0 := K.qds_at (show (markedQ k0 k l)[k]? = some ((markedQ k0 k l)[k]'(by rw [markedQ_len (by have := L.out; omega)]; have := L.out; omega)) from List.getElem?_eq_getElem _)
      have d1 := hr.out.1.cellAt (k * 4) (by omega)
      rw [p0.1] at d1
      have f1 := hr.out.1.frozenAt (k * 4)
      have s1 := hr.out.1.stored (k * 4) (.int .i64 (k0 + 4 * (k : Int)))
      have d2 := s1.1.cellAt (k * 4 + 1) (by omega)
      rw [List.getElem?_set_ne (by omega), p0.2.1] at d2
      have f2 := s1.1.frozenAt (k * 4 + 1)
      have s2 := s1.1.stored (k * 4 + 1) (.int .i64 (k0 + 4 * (k : Int) + 1))
      have d3 := s2.1.cellAt (k * 4 + 2) (by omega)
      rw [List.getElem?_set_ne (by omega), List.getElem?_set_ne (by omega), p0.2.2.1] at d3
      have f3 := s2.1.frozenAt (k * 4 + 2)
      have s3 := s2.1.stored (k * 4 + 2) (.int .i64 (k0 + 4 * (k : Int) + 2))
      have d4 := s3.1.cellAt (k * 4 + 3) (by omega)
      rw [List.getElem?_set_ne (by omega), List.getElem?_set_ne (by omega), List.getElem?_set_ne (by omega), p0.2.2.2] at d4
      have f4 := s3.1.frozenAt (k * 4 + 3)
      have s4 := s3.1.stored (k * 4 + 3) (.int .i64 (k0 + 4 * (k : Int) + 3))
      have e := K.qds_set (markedQ k0 k l) k (k0 + 4 * (k : Int), k0 + 4 * (k : Int) + 1, k0 + 4 * (k : Int) + 2, k0 + 4 * (k : Int) + 3)
      simp only at e
      rw [e, markedQ_set (by have := L.out; omega)] at s4
      have HS := Lib.hid (And.intro s4.1 (K.But.trans hr.out.2 (K.But.trans s1.2 (K.But.trans s2.2 (K.But.trans s3.2 s4.2)))))
      clear s1 s2 s3 s4 e p0
      have e1 : k0 + 4 * (k : Int) + 1 + 1 = k0 + 4 * (k : Int) + 2 := by omega
      have e2 : k0 + 4 * (k : Int) + 2 + 1 = k0 + 4 * (k : Int) + 3 := by omega
      go_wp2
      go_roundw
      case rel => exact ⟨k + 1, by omega, by go_num, by go_num, HS⟩
      case measure => simp [intOf]; omega
    · have hkn : n = k := by omega
      subst hkn
      have e := hr.out
      rw [markedQ_all k0 L.out] at e
      have HE := Lib.hid e
      clear e hr
      go_wp2
      go_ret
      exact ⟨rfl, HE.out.1, HE.out.2⟩
end C
end Go.Proofs.Ytikfblaaacgalaa

/-
  Contracts of Apportion, of the program and of the reference: both return the same plain function. Conditions: none.
-/
import Derived.Test.YtcgaffhoggkbkaaIntsW
import Derived.Test.YtcgaffhoggkbkaaPMoney
import Derived.Test.YtcgaffhoggkbkaaDraw0
namespace Go.Proofs.Ytcgaffhoggkbkaa
open Go.RowKit
namespace C

/-- Two rows of the call's own, n numbers each. -/
def Two (w wr : World) (g1 g2 n : Nat) (o r : List Int) : Prop :=
  wr.ownsRow w.heap.size 3 1 (.slice (some ⟨g1, 0, none⟩) n n) n (o.map (Value.int .i64)) ∧ wr.ownsRow w.heap.size 3 1 (.slice (some ⟨g2, 0, none⟩) n n) n (r.map (Value.int .i64)) ∧ g1 ≠ g2 ∧ K.Kept w wr
section
variable {w wr : World} {g1 g2 n : Nat} {o r : List Int}
theorem Two.l1 (h : Two w wr g1 g2 n o r) : o.length = n := by have := h.1.1; simpa using this
theorem Two.l2 (h : Two w wr g1 g2 n o r) : r.length = n := by have := h.2.1.1; simpa using this
theorem row_cell {g : Nat} {l : List Int} (h : wr.ownsRow w.heap.size 3 1 (.slice (some ⟨g, 0, none⟩) n n) n (l.map (Value.int .i64))) {k : Nat} (hk : k < n) : ∃ x, wr.cell? ⟨g, k, none⟩ = some (.int .i64 x) ∧ Hid (x = l.getD k 0) := by
  have hl : l.length = n := by have := h.1; simpa using this
  have hx : l[k]? = some (l[k]'(by omega)) := List.getElem?_eq_getElem (by omega)
  refine ⟨l[k]'(by omega), ?_, ?_⟩
  · rw [h.cellAt k (by omega), List.getElem?_map, hx]; rfl
  · unfold Hid; rw [List.getD_eq_getElem?_getD, hx]; rfl
theorem Two.c1 (h : Two w wr g1 g2 n o r) {k : Nat} (hk : k < n) : ∃ x, wr.cell? ⟨g1, k, none⟩ = some (.int .i64 x) ∧ Hid (x = o.getD k 0) := row_cell h.1 hk
theorem Two.c2 (h : Two w wr g1 g2 n o r) {k : Nat} (hk : k < n) : ∃ x, wr.cell? ⟨g2, k, none⟩ = some (.int .i64 x) ∧ Hid (x = r.getD k 0) := row_cell h.2.1 hk
theorem Two.f1 (h : Two w wr g1 g2 n o r) (k : Nat) : wr.frozen? ⟨g1, k, none⟩ = false := h.1.frozenAt k
theorem Two.f2 (h : Two w wr g1 g2 n o r) (k : Nat) : wr.frozen? ⟨g2, k, none⟩ = false := h.2.1.frozenAt k
theorem Two.kept (h : Two w wr g1 g2 n o r) : K.Kept w wr := h.2.2.2
theorem own_ge {g : Nat} {xs : List Value} (h : wr.ownsRow w.heap.size 3 1 (.slice (some ⟨g, 0, none⟩) n n) n xs) : w.heap.size ≤ g := (h.lt g rfl).1
theorem Two.s1 (h : Two w wr g1 g2 n o r) (k : Nat) (v : Int) : Two w (wr.setCell ⟨g1, k, none⟩ (.int .i64 v)) g1 g2 n (o.set k v) r := by
  have s := h.1.stored k (.int .i64 v)
  refine ⟨by rw [← map_set]; exact s.1, h.2.1.kept s.2 (.inr (by simp [Value.ownBlock]; exact fun e => h.2.2.1 e.symm)), h.2.2.1, h.2.2.2.setCell (p := ⟨g1, k, none⟩) (own_ge h.1) _⟩
theorem Two.s2 (h : Two w wr g1 g2 n o r) (k : Nat) (v : Int) : Two w (wr.setCell ⟨g2, k, none⟩ (.int .i64 v)) g1 g2 n o (r.set k v) := by
  have s := h.2.1.stored k (.int .i64 v)
  refine ⟨h.1.kept s.2 (.inr (by simp [Value.ownBlock]; exact h.2.2.1)), by rw [← map_set]; exact s.1, h.2.2.1, h.2.2.2.setCell (p := ⟨g2, k, none⟩) (own_ge h.2.1) _⟩
theorem Two.drewN (h : Two w wr g1 g2 n o r) (q : Nat) : Two w (wr.drewN q) g1 g2 n o r := ⟨h.1, h.2.1, h.2.2.1, K.below_drewN h.2.2.2 q⟩
end
theorem half_all {l : List Int} {n : Nat} (h : l.length = n) : half l n = l := by rw [half, K.take_all h, h]; simp
theorem getD_of {l : List Int} {k : Nat} {x : Int} (h : l[k]? = some x) : l.getD k 0 = x := by rw [List.getD_eq_getElem?_getD, h]; rfl
theorem quos_at {a : Int} {l : List Int} {k : Nat} {x : Int} (h : l[k]? = some x) : (Plain.quos a l)[k]? = some (a * x / l.sum) := by simp [Plain.quos, h]
theorem rsts_at {a : Int} {l : List Int} {k : Nat} {x : Int} (h : l[k]? = some x) : (Plain.rsts a l)[k]? = some (a * x % l.sum) := by simp [Plain.rsts, h]
theorem quos_len (a : Int) (l : List Int) : (Plain.quos a l).length = l.length := by simp [Plain.quos]
theorem rsts_len (a : Int) (l : List Int) : (Plain.rsts a l).length = l.length := by simp [Plain.rsts]
/-- Weights that are as they should be. -/
def WOk (a : Int) (l : List Int) : Prop := (0 ≤ a ∧ a ≤ 1000000) ∧ (1 ≤ l.length ∧ l.length ≤ 8) ∧ ∀ x ∈ l, 0 ≤ x ∧ x ≤ 1000000
theorem WOk.small {a : Int} {l : List Int} (h : WOk a l) : Small l := fun x hx => by have := h.2.2 x hx; omega
theorem sum_nonneg : ∀ {l : List Int}, (∀ x ∈ l, 0 ≤ x) → 0 ≤ l.sum ∧ ∀ x ∈ l, x ≤ l.sum := by
  intro l
  induction l with
  | nil => intro _; exact ⟨by simp, by simp⟩
  | cons y l ih =>
    intro h
    have hy := h y (by simp)
    obtain ⟨i1, i2⟩ := ih fun x hx => h x (by simp [hx])
    simp only [List.sum_cons]
    refine ⟨by omega, fun x hx => ?_⟩
    rcases List.mem_cons.1 hx with rfl | hx
    · omega
    · have := i2 x hx; omega
theorem WOk.quo {a : Int} {l : List Int} (h : WOk a l) (hs : 0 < l.sum) {x : Int} (hx : x ∈ l) : (0 ≤ a * x ∧ a * x ≤ 1000000000000) ∧ (0 ≤ a * x / l.sum ∧ a * x / l.sum ≤ a) ∧ (0 ≤ a * x % l.sum ∧ a * x % l.sum < l.sum) := by
  have hxx := h.2.2 x hx
  have hxs := (sum_nonneg fun y hy => (h.2.2 y hy).1).2 x hx
  have p0 : 0 ≤ a * x := Int.mul_nonneg h.1.1 hxx.1
  have p1 : a * x ≤ 1000000 * 1000000 := Int.mul_le_mul h.1.2 hxx.2 hxx.1 (by omega)
  have p2 : a * x ≤ a * l.sum := Int.mul_le_mul_of_nonneg_left hxs h.1.1
  refine ⟨⟨p0, by omega⟩, ⟨Int.ediv_nonneg p0 (by omega), ?_⟩, Int.emod_nonneg _ (by omega), Int.emod_lt_of_pos _ hs⟩
  have := Int.ediv_le_ediv hs p2
  rwa [Int.mul_ediv_cancel _ (by omega)] at this
/-- The share of the first k. -/
theorem WOk.left {a : Int} {l : List Int} (h : WOk a l) (hs : 0 < l.sum) (k : Nat) : 0 ≤ a - ((Plain.quos a l).take k).sum ∧ 0 ≤ ((Plain.quos a l).take k).sum := by
  have ok : Plain.Ok a l := ⟨h.1.1, hs, fun x hx => (h.2.2 x hx).1⟩
  have q0 : ∀ x ∈ Plain.quos a l, 0 ≤ x := fun x hx => by
    obtain ⟨y, hy, rfl⟩ := List.mem_map.1 hx
    exact (h.quo hs hy).2.1.1
  have t := Plain.quos_sum_le ok
  have e : ((Plain.quos a l).take k).sum + ((Plain.quos a l).drop k).sum = (Plain.quos a l).sum := by rw [← List.sum_append, List.take_append_drop]
  have d0 := (sum_nonneg fun x hx => q0 x (List.mem_of_mem_drop (i := k) hx)).1
  have d1 := (sum_nonneg fun x hx => q0 x (List.mem_of_mem_take (i := k) hx)).1
  omega
theorem rep_row {w w1 : World} {n g : Nat} (h : w1.ownsRow w.heap.size 3 1 (.slice (some ⟨g, 0, none⟩) n n) n (madeCells (Value.int .i64 0).cells (n * 1)).toList) : Hid (w1.ownsRow w.heap.size 3 1 (.slice (some ⟨g, 0, none⟩) n n) n ((List.replicate n (0 : Int)).map (Value.int .i64))) := by
  unfold Hid
  rw [show (Value.int .i64 0).cells = #[.int .i64 0] from rfl, Nat.mul_one, toList_madeCells_one] at h
  simpa using h
theorem two_new {w w1 w2 : World} {n : Nat} (H1 : Hid (w1.ownsRow w.heap.size 3 1 (.slice (some ⟨w.heap.size, 0, none⟩) n n) n ((List.replicate n (0 : Int)).map (Value.int .i64)))) (g1 : w.grownBy w1 none)
    (H2 : Hid (w2.ownsRow w.heap.size 3 1 (.slice (some ⟨w1.heap.size, 0, none⟩) n n) n ((List.replicate n (0 : Int)).map (Value.int .i64)))) (g2 : w1.grownBy w2 none) : Two w w2 w.heap.size w1.heap.size n (List.replicate n 0) (List.replicate n 0) := by
  have h1 := H1.out
  have h2 := H2.out
  have k1 : K.Kept w w1 := (Below.refl _ _).grown g1 (Nat.le_refl _) (fun k hk => by cases hk)
  have hl := (h1.lt w.heap.size rfl).2
  exact ⟨h1.kept g2 (.inr (by simp [Value.ownBlock])), h2, by omega, k1.grown g2 k1.size (fun k hk => by cases hk)⟩
set_option maxHeartbeats 1600000 in
theorem apportion_s (w : World) (a : Int) (A : Option Addr) (n c : Nat) (l : List Int) (h : K.IR w w.heap.size A n l) (ok : WOk a l) : Calls Try.prog 40 #[.int .i64 a, .slice A n c] w (Fresh w (Plain.appo a l)) := by
  have L := Lib.hid (K.IR.len h)
  have hn : 1 ≤ n ∧ n ≤ 8 := by have := ok.2.1; have := L.out; omega
  obtain ⟨i0, hi, hz0, hz1, hz2⟩ := info_parts info_int
  go_enter Try.func40, Try.ntmps40
  go_wp2_with (first | (at_make; refine wpList_make_full _ rfl (.tmp 13) (.tmp 13) 25 rfl w.heap.size 3 i0 (.int .i64 0) 1 Try.underlying25 hi hz0 hz1 _ _ _ _ n rfl rfl rfl rfl (by rw [hz2]; omega) (by unfold maxLen; omega) (Nat.le_refl _) ?_; intro w1 hown1 hg1; replace hown1 := rep_row hown1) | (at_make; refine wpList_make_full _ rfl (.tmp 16) (.tmp 16) 25 rfl w.heap.size 3 i0 (.int .i64 0) 1 Try.underlying25 hi hz0 hz1 _ _ _ _ n rfl rfl rfl rfl (by rw [hz2]; omega) (by unfold maxLen; omega) hg1.size ?_; intro w2 hown2 hg2; replace hown2 := rep_row hown2))
  have H := two_new hown1 hg1 hown2 hg2
  have hr2 := K.Rd.below h H.kept
  clear hown1 hg1 hown2 hg2 hi hz0 hz1 hz2
  have hS := sum_bd ok.small
  refine (sum_s w2 A n c l (K.Rd.more hr2 H.kept.size) (by omega) ok.small).mono ?_
  rintro e w3 ⟨rfl, rfl⟩
  obtain ⟨S, hSd⟩ : ∃ S, S = l.sum := ⟨_, rfl⟩
  by_cases h0 : S = 0
  · have e0 : l.sum = 0 := by rw [← hSd, h0]
    have HF := Lib.hid (show Plain.appo a l = List.replicate n 0 by rw [Plain.appo, if_pos e0, L.out])
    have hs0 : (l.sum == 0) = true := by rw [e0]; rfl
    clear hSd h0 hS e0 hr2 h
    go_wp2
    go_ret
    refine ⟨_, n, n, rfl, by rw [HF.out]; simp, ?_, H.kept⟩
    rw [HF.out]
    exact H.1
  have hpos : 0 < l.sum := by have := hS.1; omega
  have HF := Lib.hid (show Plain.appo a l = Plain.itr (a - (Plain.quos a l).sum).toNat (Plain.quos a l) (Plain.rsts a l) by rw [Plain.appo, if_neg (by omega)])
  have hs0 : (l.sum == 0) = false := by rw [beq_eq_false_iff_ne]; omega
  have hSb : 1 ≤ l.sum ∧ l.sum ≤ 80000000 := by have := hS.2; have := L.out; omega
  have ha := ok.1
  have QL := Lib.hid (quos_len a l)
  have RL := Lib.hid (rsts_len a l)
  have OK := Lib.hid ok
  have HP := Lib.hid hpos
  clear hSd h0 hS hpos ok
  go_wp2
  go_loopw [8, 9] (fun lf i wr => ∃ k : Nat, k ≤ n ∧ i = .int .i64 k ∧ lf = .int .i64 (a - ((Plain.quos a l).take k).sum) ∧ Two w wr w.heap.size w1.heap.size n (half (Plain.quos a l) k) (half (Plain.rsts a l) k)) (fun _ i _ => n - (intOf i).toNat)
  case atStart =>
    refine ⟨0, Nat.zero_le _, rfl, by simp, ?_⟩
    have e1 : half (Plain.quos a l) 0 = List.replicate n 0 := by simp [half, QL.out, L.out]
    have e2 : half (Plain.rsts a l) 0 = List.replicate n 0 := by simp [half, RL.out, L.out]
    rw [e1, e2]; exact H
  case round =>
    obtain ⟨k, hk, rfl, rfl, HT⟩ := hrel
    have lb := OK.out.left HP.out k
    by_cases hlt : k < n
    · obtain ⟨b, o, x, rfl, hb, c1, hx⟩ := K.IR.cell (K.Rd.below h HT.kept) hlt
      have qb := OK.out.quo HP.out (List.mem_of_getElem? hx.out)
      have qa := Lib.hid (quos_at (a := a) hx.out)
      have ra := Lib.hid (rsts_at (a := a) hx.out)
      obtain ⟨y1, d1, _⟩ := HT.c1 hlt
      have g1 := HT.f1 k
      have H1 := HT.s1 k (a * x / l.sum)
      have c2 := (H1.kept.cell (p := ⟨b, o + k, none⟩) (by exact hb)).trans ((HT.kept.cell (p := ⟨b, o + k, none⟩) (by exact hb)).symm.trans c1)
      obtain ⟨y2, d2, _⟩ := H1.c2 hlt
      have g2 := H1.f2 k
      have H2 := H1.s2 k (a * x % l.sum)
      have c3 : ((wr.setCell ⟨w.heap.size, k, none⟩ (.int .i64 (a * x / l.sum))).setCell ⟨w1.heap.size, k, none⟩ (.int .i64 (a * x % l.sum))).cell? ⟨w.heap.size, k, none⟩ = some (.int .i64 (a * x / l.sum)) := by
        obtain ⟨z, hz, hzz⟩ := H2.c1 hlt
        rw [hz, hzz.out]
        have := HT.l1
        simp [List.getD_eq_getElem?_getD, hlt, this]
      have H3 : Hid (Two w ((wr.setCell ⟨w.heap.size, k, none⟩ (.int .i64 (a * x / l.sum))).setCell ⟨w1.heap.size, k, none⟩ (.int .i64 (a * x % l.sum))) w.heap.size w1.heap.size n (half (Plain.quos a l) (k + 1)) (half (Plain.rsts a l) (k + 1))) := by
        unfold Hid
        rw [← half_set qa.out, ← half_set ra.out]; exact H2
      have lb' := OK.out.left HP.out (k + 1)
      have le : ((Plain.quos a l).take (k + 1)).sum = ((Plain.quos a l).take k).sum + a * x / l.sum := by rw [K.take_snoc qa.out, sum_snoc]
      have LE := Lib.hid le
      clear HT H1 H2 h hr2 le
      go_wp2
      go_roundw
      case rel => exact ⟨k + 1, by omega, by go_num, by rw [LE.out]; go_num, H3.out⟩
      case measure => simp [intOf]; omega
    · have hkn : n = k := by omega
      subst hkn
      have tq : (Plain.quos a l).take n = Plain.quos a l := K.take_all (by rw [QL.out, L.out])
      rw [tq] at lb
      rw [tq]
      obtain ⟨L0, hL0⟩ := Int.eq_ofNat_of_zero_le lb.1
      rw [hL0]
      have HF' : Hid (Plain.itr L0 (Plain.quos a l) (Plain.rsts a l) = Plain.appo a l) := by
        unfold Hid
        rw [HF.out, hL0, Int.toNat_natCast]
      have HB : Hid (∀ x ∈ Plain.quos a l, 0 ≤ x ∧ x + L0 ≤ 2000000) := fun x hx => by
        obtain ⟨y, hy, rfl⟩ := List.mem_map.1 hx
        have := (OK.out.quo HP.out hy).2.1
        omega
      have hq : half (Plain.quos a l) n = Plain.quos a l := half_all (by rw [QL.out, L.out])
      have hrr : half (Plain.rsts a l) n = Plain.rsts a l := half_all (by rw [RL.out, L.out])
      rw [hq, hrr] at HT
      have hL0b : L0 ≤ 1000000 := by omega
      clear hq hrr hL0 tq lb HF h hr2 H
      go_wp2_with fail
      go_loopw [8] (fun lf wr => ∃ (L : Nat) (o r : List Int), L ≤ 1000000 ∧ lf = .int .i64 L ∧ Two w wr w.heap.size w1.heap.size n o r ∧ Hid (Plain.itr L o r = Plain.appo a l) ∧ Hid (∀ x ∈ o, 0 ≤ x ∧ x + L ≤ 2000000)) (fun lf _ => (intOf lf).toNat)
      case atStart => exact ⟨L0, _, _, hL0b, rfl, HT, HF', HB⟩
      case round =>
        clear HT HF' HB
        obtain ⟨L, o, r, hLb, rfl, HT, HF, HB⟩ := hrel
        by_cases hL : L = 0
        · subst hL
          go_wp2
          go_ret
          have e := HF.out
          refine ⟨_, n, n, rfl, by rw [← e]; exact HT.l1, ?_, HT.kept⟩
          rw [← e]; exact HT.1
        · obtain ⟨L', rfl⟩ : ∃ L', L = L' + 1 := ⟨L - 1, by omega⟩
          obtain ⟨wo, hwo⟩ : ∃ wo : World, wo = wr := ⟨_, rfl⟩
          subst hwo
          rw [show ((L' + 1 : Nat) : Int) = (L' : Int) + 1 from by omega]
          go_wp2_with fail
          go_loopw [10, 11] (fun b i wi => ∃ k : Nat, 1 ≤ k ∧ k ≤ n ∧ i = .int .i64 k ∧ b = .int .i64 (Plain.bst r k : Nat) ∧ Two w wi w.heap.size w1.heap.size n o r) (fun _ i _ => n - (intOf i).toNat)
          case atStart => exact ⟨1, by omega, by omega, rfl, by rw [Plain.bst_one]; rfl, HT⟩
          case round =>
            clear HT
            obtain ⟨k, hk1, hk, rfl, rfl, HT⟩ := hrel
            have hbl := Plain.bst_lt r k (by omega)
            by_cases hlt : k < n
            · obtain ⟨y, cy, hy⟩ := HT.c2 hlt
              obtain ⟨x, cx, hx⟩ := HT.c2 (show Plain.bst r k < n by omega)
              have HN : Hid (Plain.bst r (k + 1) = if x < y then k else Plain.bst r k) := by
                unfold Hid
                rw [Plain.bst, hx.out, hy.out]
              generalize hbd : Plain.bst r k = b at *
              by_cases hxy : x < y
              · go_wp2
                go_quiet (fail)
                go_wp2
                go_roundw
                case rel => exact ⟨k + 1, by omega, by omega, by go_num, by rw [HN.out, if_pos (by omega)], HT.drewN _⟩
                case measure => simp [intOf]; omega
              · go_wp2
                go_quiet (fail)
                go_wp2
                go_roundw
                case rel => exact ⟨k + 1, by omega, by omega, by go_num, by rw [HN.out, if_neg (by omega)], HT.drewN _⟩
                case measure => simp [intOf]; omega
            · have hkn : n = k := by omega
              subst hkn
              have hrn := HT.l2
              have HI : Hid (Plain.itr (L' + 1) o r = Plain.itr L' (o.set (Plain.bst r n) (o.getD (Plain.bst r n) 0 + 1)) (r.set (Plain.bst r n) (-1))) := by
                unfold Hid
                rw [Plain.itr, hrn]
              generalize Plain.bst r n = b at *
              obtain ⟨v, cv, hv⟩ := HT.c1 hbl
              have hvb : 0 ≤ v ∧ v + (L' + 1 : Nat) ≤ 2000000 := by
                rw [hv.out]
                refine HB.out _ ?_
                have hbo : b < o.length := by rw [HT.l1]; exact hbl
                rw [List.getD_eq_getElem?_getD, List.getElem?_eq_getElem hbo]
                exact List.getElem_mem _
              have fv := HT.f1 b
              have H1 := HT.s1 b (v + 1)
              obtain ⟨u, cu, _⟩ := H1.c2 hbl
              have fu := H1.f2 b
              have H2 := H1.s2 b (-1)
              have HF2 : Hid (Plain.itr L' (o.set b (v + 1)) (r.set b (-1)) = Plain.appo a l) := by
                unfold Hid
                rw [← HF.out, HI.out, hv.out]
              have HB2 : Hid (∀ x ∈ o.set b (v + 1), 0 ≤ x ∧ x + L' ≤ 2000000) := fun x hx => by
                rcases List.mem_or_eq_of_mem_set hx with hx | rfl
                · have := HB.out x hx; omega
                · omega
              have H2' := Lib.hid H2
              clear HT H1 H2 HF HB HI hrn
              go_wp2
              go_roundw
              case rel => exact ⟨L', _, _, by omega, by go_num, H2'.out, HF2, HB2⟩
              case measure => simp [intOf]
/-- What Apportion returns. -/
def ap (a : Int) (l : List Int) : List Int := if wi a 0 1000000 = true ∧ wi (l.length : Int) 1 8 = true ∧ allB l 0 1000000 = true then Plain.appo a l else []
theorem ap_bad {a : Int} {l : List Int} (h : ¬ (wi a 0 1000000 = true ∧ wi (l.length : Int) 1 8 = true ∧ allB l 0 1000000 = true)) : ap a l = [] := by rw [ap, if_neg h]
theorem ap_good {a : Int} {l : List Int} (h : wi a 0 1000000 = true ∧ wi (l.length : Int) 1 8 = true ∧ allB l 0 1000000 = true) : ap a l = Plain.appo a l := by rw [ap, if_pos h]
theorem wok_of {a : Int} {l : List Int} (h : wi a 0 1000000 = true ∧ wi (l.length : Int) 1 8 = true ∧ allB l 0 1000000 = true) : WOk a l := by
  refine ⟨wi_true.1 h.1, by have := wi_true.1 h.2.1; omega, fun x hx => wi_true.1 (List.all_eq_true.1 h.2.2 x hx)⟩
theorem ap_spec (w : World) (a : Int) (A : Option Addr) (n c : Nat) (l : List Int) (h : K.IR w w.heap.size A n l) (hn : n ≤ 1099511627776) : Calls Try.prog 27 #[.int .i64 a, .slice A n c] w (Fresh w (ap a l)) := by
  have L := K.IR.len h
  subst L
  cases h1 : wi a 0 1000000 <;> cases h2 : wi (l.length : Int) 1 8 <;> cases h3 : allB l 0 1000000
  case true.true.true =>
    rw [ap_good ⟨h1, h2, h3⟩]
    have ok := wok_of ⟨h1, h2, h3⟩
    go_enter Try.func27, Try.ntmps27
    go_wp2_with (first | (go_at_call 36; refine (inRange_c _ _ _ _).mono ?_; rintro e w' ⟨rfl, rfl⟩) | (go_at_call 39; refine (allIn_c w A l.length c l _ _ h hn).mono ?_; rintro e w' ⟨rfl, rfl⟩))
    refine (apportion_s w a A l.length c l h ok).mono ?_
    rintro e w1 ⟨A1, n1, c1, rfl, hl1, own1, k1⟩
    go_wp2
    go_ret
    exact ⟨_, _, _, rfl, hl1, own1, k1⟩
  all_goals
    rw [ap_bad (by rw [h1, h2, h3]; simp)]
    go_enter Try.func27, Try.ntmps27
    go_wp2_with (first | (go_at_call 36; refine (inRange_c _ _ _ _).mono ?_; rintro e w' ⟨rfl, rfl⟩) | (go_at_call 39; refine (allIn_c w A l.length c l _ _ h hn).mono ?_; rintro e w' ⟨rfl, rfl⟩))
    go_ret
    exact ⟨_, _, _, rfl, rfl, World.ownsRow_nil _ _ _ _, Below.refl _ _⟩
theorem sum_set' {l : List Int} {b : Nat} {v : Int} (h : b < l.length) (hv : v = l.getD b 0) : (l.set b (v + 1)).sum = l.sum + 1 := by
  rw [Plain.sum_set l b _ h, hv]; omega
set_option maxHeartbeats 3200000 in
theorem ap_impl (w : World) (a : Int) (A : Option Addr) (n c : Nat) (l : List Int) (h : K.IR w w.heap.size A n l) (hn0 : n ≤ 1099511627776) : Calls Try.prog 29 #[.int .i64 a, .slice A n c] w (Fresh w (ap a l)) := by
  have L := Lib.hid (K.IR.len h)
  have hempty : ∀ W : World, (W.alloc (.cells #[] 3)).ownsRow W.heap.size 3 1 (.slice (some ⟨W.heap.size, 0, none⟩) 0 0) 0 [] := fun W => World.ownsRow_lit W #[] 0 (Nat.le_refl _) (by unfold maxLen; omega) rfl
  by_cases hg : wi a 0 1000000 = true ∧ wi (n : Int) 1 8 = true
  case neg =>
    rw [ap_bad (by rw [L.out]; exact fun hh => hg ⟨hh.1, hh.2.1⟩)]
    cases h1 : wi a 0 1000000 <;> cases h2 : wi (n : Int) 1 8
    case true.true => exact absurd ⟨h1, h2⟩ hg
    all_goals
      clear hg h
      go_enter Try.func29, Try.ntmps29
      go_wp2_with (first | (go_at_call 38; refine (within_c _ _ _ _).mono ?_; rintro e w' ⟨rfl, rfl⟩) | (go_at_call 37; refine (money_c _ _).mono ?_; rintro e w' ⟨rfl, rfl⟩))
      go_ret
      exact ⟨_, _, _, rfl, rfl, hempty w, (Below.refl _ _).alloc (Nat.le_refl _) _⟩
  obtain ⟨h1, h2⟩ := hg
  have ha := wi_true.1 h1
  have hn1 := wi_true.1 h2
  have hn : 1 ≤ n ∧ n ≤ 8 := by omega
  obtain ⟨i0, hi, hz0, hz1, hz2⟩ := info_parts info_int
  have h1' := Lib.hid h1
  have h2' := Lib.hid h2
  go_enter Try.func29, Try.ntmps29
  go_wp2_with (first | (go_at_call 38; refine (within_c _ _ _ _).mono ?_; rintro e w' ⟨rfl, rfl⟩) | (go_at_call 37; refine (money_c _ _).mono ?_; rintro e w' ⟨rfl, rfl⟩))
  go_loop [26] (fun i => ∃ k : Nat, k ≤ n ∧ i = .int .i64 k ∧ Hid (allB (l.take k) 0 1000000 = true)) (fun i => n - (intOf i).toNat)
  case atStart => exact ⟨0, Nat.zero_le _, rfl, by unfold Hid; simp [allB]⟩
  case round =>
    obtain ⟨k, hk, rfl, hall⟩ := hrel
    by_cases hlt : k < n
    · obtain ⟨b, o, x, rfl, hb, c1, hx⟩ := K.IR.cell h hlt
      cases hw : wi x 0 1000000
      · go_wp2_with (first | (go_at_call 38; refine (within_c _ _ _ _).mono ?_; rintro e w' ⟨rfl, rfl⟩) | (go_at_call 37; refine (money_c _ _).mono ?_; rintro e w' ⟨rfl, rfl⟩))
        go_ret
        have hbad : ap a l = [] := ap_bad (fun hh => by
          have := List.all_eq_true.1 hh.2.2 x (List.mem_of_getElem? hx.out)
          rw [hw] at this; cases this)
        rw [hbad]
        exact ⟨_, _, _, rfl, rfl, hempty w, (Below.refl _ _).alloc (Nat.le_refl _) _⟩
      · go_wp2_with (first | (go_at_call 38; refine (within_c _ _ _ _).mono ?_; rintro e w' ⟨rfl, rfl⟩) | (go_at_call 37; refine (money_c _ _).mono ?_; rintro e w' ⟨rfl, rfl⟩))
        go_round
        case rel => exact ⟨k + 1, by omega, by go_num, by unfold Hid; rw [K.take_snoc hx.out, allB, List.all_append]; have := hall.out; rw [allB] at this; rw [this]; simp [hw]⟩
        case measure => simp [intOf]; omega
    · have hkn : n = k := by omega
      subst hkn
      have hall' : allB l 0 1000000 = true := by have := hall.out; rwa [K.take_all L.out] at this
      have hgood := (⟨h1'.out, by rw [L.out]; exact h2'.out, hall'⟩ : wi a 0 1000000 = true ∧ wi (l.length : Int) 1 8 = true ∧ allB l 0 1000000 = true)
      have ok := wok_of hgood
      have AG := Lib.hid (ap_good hgood)
      clear hgood hall' hall h1 h2
      go_wp2_with (at_make; refine wpList_make_full _ rfl (.tmp 36) (.tmp 36) 25 rfl w.heap.size 3 i0 (.int .i64 0) 1 Try.underlying25 hi hz0 hz1 _ _ _ _ n rfl rfl rfl rfl (by rw [hz2]; omega) (by unfold maxLen; omega) (Nat.le_refl _) ?_; intro w1 hown1 hg1; replace hown1 := rep_row hown1)
      have k1 : K.Kept w w1 := (Below.refl _ _).grown hg1 (Nat.le_refl _) (fun k hk => by cases hk)
      have hr1 := K.Rd.below h k1
      have hS := sum_bd ok.small
      refine (total_c w1 A n c l (K.Rd.more hr1 k1.size) (by omega) ok.small).mono ?_
      rintro e w3 ⟨rfl, rfl⟩
      obtain ⟨S, hSd⟩ : ∃ S, S = l.sum := ⟨_, rfl⟩
      by_cases h0 : S = 0
      · have e0 : l.sum = 0 := by rw [← hSd, h0]
        have HF := Lib.hid (show ap a l = List.replicate n 0 by rw [AG.out, Plain.appo, if_pos e0, L.out])
        have hs0 : (l.sum == 0) = true := by rw [e0]; rfl
        clear hSd h0 hS e0 hr1 h
        go_wp2
        go_ret
        refine ⟨_, n, n, rfl, by rw [HF.out]; simp, ?_, k1⟩
        rw [HF.out]
        exact hown1.out
      have hpos : 0 < l.sum := by have := hS.1; omega
      have HF := Lib.hid (show ap a l = Plain.itr (a - (Plain.quos a l).sum).toNat (Plain.quos a l) (Plain.rsts a l) by rw [AG.out, Plain.appo, if_neg (by omega)])
      have hs0 : (l.sum == 0) = false := by rw [beq_eq_false_iff_ne]; omega
      have hSb : 1 ≤ l.sum ∧ l.sum ≤ 80000000 := by have := hS.2; have := L.out; omega
      have QL := Lib.hid (quos_len a l)
      have RL := Lib.hid (rsts_len a l)
      have OK := Lib.hid ok
      have HP := Lib.hid hpos
      clear hSd h0 hS hpos ok hr1
      go_wp2_with (at_make; refine wpList_make_full _ rfl (.tmp 44) (.tmp 44) 25 rfl w.heap.size 3 i0 (.int .i64 0) 1 Try.underlying25 hi hz0 hz1 _ _ _ _ n rfl rfl rfl rfl (by rw [hz2]; omega) (by unfold maxLen; omega) hg1.size ?_; intro w2 hown2 hg2; replace hown2 := rep_row hown2)
      have H := two_new hown1 hg1 hown2 hg2
      clear hown1 hg1 hown2 hg2 hi hz0 hz1 hz2 k1
      go_loopw [48] (fun i wr => ∃ k : Nat, k ≤ n ∧ i = .int .i64 k ∧ Two w wr w.heap.size w1.heap.size n (half (Plain.quos a l) k) (half (Plain.rsts a l) k)) (fun i _ => n - (intOf i).toNat)
      case atStart =>
        refine ⟨0, Nat.zero_le _, rfl, ?_⟩
        have e1 : half (Plain.quos a l) 0 = List.replicate n 0 := by simp [half, QL.out, L.out]
        have e2 : half (Plain.rsts a l) 0 = List.replicate n 0 := by simp [half, RL.out, L.out]
        rw [e1, e2]; exact H
      case round =>
        obtain ⟨k, hk, rfl, HT⟩ := hrel
        by_cases hlt : k < n
        · obtain ⟨b, o, x, rfl, hb, c1, hx⟩ := K.IR.cell (K.Rd.below h HT.kept) hlt
          have qb := OK.out.quo HP.out (List.mem_of_getElem? hx.out)
          have qa := Lib.hid (quos_at (a := a) hx.out)
          have ra := Lib.hid (rsts_at (a := a) hx.out)
          obtain ⟨y1, d1, _⟩ := HT.c1 hlt
          have g1 := HT.f1 k
          have H1 := HT.s1 k (a * x / l.sum)
          obtain ⟨y2, d2, _⟩ := H1.c2 hlt
          have g2 := H1.f2 k
          have H2 := H1.s2 k (a * x % l.sum)
          have H3 : Hid (Two w ((wr.setCell ⟨w.heap.size, k, none⟩ (.int .i64 (a * x / l.sum))).setCell ⟨w1.heap.size, k, none⟩ (.int .i64 (a * x % l.sum))) w.heap.size w1.heap.size n (half (Plain.quos a l) (k + 1)) (half (Plain.rsts a l) (k + 1))) := by
            unfold Hid
            rw [← half_set qa.out, ← half_set ra.out]; exact H2
          clear HT H1 H2 h H
          go_wp2
          go_roundw
          case rel => exact ⟨k + 1, by omega, by go_num, H3.out⟩
          case measure => simp [intOf]; omega
        · have hkn : n = k := by omega
          subst hkn
          have tq : (Plain.quos a l).take n = Plain.quos a l := K.take_all (by rw [QL.out, L.out])
          have lb := OK.out.left HP.out n
          rw [tq] at lb
          obtain ⟨L0, hL0⟩ := Int.eq_ofNat_of_zero_le lb.1
          have HF' : Hid (Plain.itr L0 (Plain.quos a l) (Plain.rsts a l) = ap a l) := by
            unfold Hid
            rw [HF.out, hL0, Int.toNat_natCast]
          have HB : Hid (∀ x ∈ Plain.quos a l, 0 ≤ x ∧ x + L0 ≤ 2000000) := fun x hx => by
            obtain ⟨y, hy, rfl⟩ := List.mem_map.1 hx
            have := (OK.out.quo HP.out hy).2.1
            omega
          have hq : half (Plain.quos a l) n = Plain.quos a l := half_all (by rw [QL.out, L.out])
          have hrr : half (Plain.rsts a l) n = Plain.rsts a l := half_all (by rw [RL.out, L.out])
          rw [hq, hrr] at HT
          have hL0b : L0 ≤ 1000000 := by omega
          have HSum : Hid ((Plain.quos a l).sum = a - L0) := by unfold Hid; omega
          clear hq hrr hL0 tq lb HF h H
          go_wp2_with fail
          go_loopg [12] L0 (fun L _ wr => L ≤ 1000000 ∧ ∃ (o r : List Int), Two w wr w.heap.size w1.heap.size n o r ∧ Hid (Plain.itr L o r = ap a l) ∧ Hid (∀ x ∈ o, 0 ≤ x ∧ x + L ≤ 2000000) ∧ Hid (o.sum = a - L))
          case atStart => exact ⟨hL0b, _, _, HT, HF', HB, HSum⟩
          case round =>
            clear HT HF' HB HSum
            obtain ⟨hLb, o, r, HT, HF, HB, HSm⟩ := hrel
            have SMo : Small o := fun x hx => by have := HB.out x hx; omega
            go_wp2_with fail
            refine (total_c wr _ n n o (K.rd_own HT.1) (by omega) SMo).mono ?_
            rintro e w3 ⟨rfl, rfl⟩
            clear SMo
            by_cases hL : gk = 0
            · subst hL
              have hd : decide (o.sum < a) = false := decide_eq_false (by have := HSm.out; omega)
              go_wp2
              go_ret
              have e := HF.out
              refine ⟨_, n, n, rfl, by rw [← e]; exact HT.l1, ?_, HT.kept⟩
              rw [← e]; exact HT.1
            · obtain ⟨L', rfl⟩ : ∃ L', gk = L' + 1 := ⟨gk - 1, by omega⟩
              have hd : o.sum < a := by have := HSm.out; omega
              obtain ⟨wo, hwo⟩ : ∃ wo : World, wo = wr := ⟨_, rfl⟩
              subst hwo
              go_wp2_with fail
              go_loopw [12, 76] (fun b i wi => ∃ k : Nat, k ≤ n ∧ i = .int .i64 k ∧ b = .int .i64 (Plain.bst r k : Nat) ∧ Two w wi w.heap.size w1.heap.size n o r) (fun _ i _ => n - (intOf i).toNat)
              case atStart => exact ⟨0, by omega, rfl, rfl, HT⟩
              case round =>
                clear HT
                obtain ⟨k, hk, rfl, rfl, HT⟩ := hrel
                have hbl := Plain.bst_le r k
                by_cases hlt : k < n
                · obtain ⟨y, cy, hy⟩ := HT.c2 hlt
                  obtain ⟨x, cx, hx⟩ := HT.c2 (show Plain.bst r k < n by omega)
                  have HN : Hid (Plain.bst r (k + 1) = if x < y then k else Plain.bst r k) := by
                    unfold Hid
                    rw [Plain.bst, hx.out, hy.out]
                  generalize hbd : Plain.bst r k = b at *
                  by_cases hxy : x < y
                  · go_wp2
                    go_quiet (fail)
                    go_wp2
                    go_roundw
                    case rel => exact ⟨k + 1, by omega, by go_num, by rw [HN.out, if_pos (by omega)], HT.drewN _⟩
                    case measure => simp [intOf]; omega
                  · go_wp2
                    go_quiet (fail)
                    go_wp2
                    go_roundw
                    case rel => exact ⟨k + 1, by omega, by go_num, by rw [HN.out, if_neg (by omega)], HT.drewN _⟩
                    case measure => simp [intOf]; omega
                · have hkn : n = k := by omega
                  subst hkn
                  have hrn := HT.l2
                  have hbl := Plain.bst_lt r n (by omega)
                  have HI : Hid (Plain.itr (L' + 1) o r = Plain.itr L' (o.set (Plain.bst r n) (o.getD (Plain.bst r n) 0 + 1)) (r.set (Plain.bst r n) (-1))) := by
                    unfold Hid
                    rw [Plain.itr, hrn]
                  generalize Plain.bst r n = b at *
                  obtain ⟨v, cv, hv⟩ := HT.c1 hbl
                  have hvb : 0 ≤ v ∧ v + (L' + 1 : Nat) ≤ 2000000 := by
                    rw [hv.out]
                    refine HB.out _ ?_
                    have hbo : b < o.length := by rw [HT.l1]; exact hbl
                    rw [List.getD_eq_getElem?_getD, List.getElem?_eq_getElem hbo]
                    exact List.getElem_mem _
                  have fv := HT.f1 b
                  have H1 := HT.s1 b (v + 1)
                  obtain ⟨u, cu, _⟩ := H1.c2 hbl
                  have fu := H1.f2 b
                  have H2 := H1.s2 b (-1)
                  have HF2 : Hid (Plain.itr L' (o.set b (v + 1)) (r.set b (-1)) = ap a l) := by
                    unfold Hid
                    rw [← HF.out, HI.out, hv.out]
                  have HB2 : Hid (∀ x ∈ o.set b (v + 1), 0 ≤ x ∧ x + L' ≤ 2000000) := fun x hx => by
                    rcases List.mem_or_eq_of_mem_set hx with hx | rfl
                    · have := HB.out x hx; omega
                    · omega
                  have HS2 : Hid ((o.set b (v + 1)).sum = a - L') := by
                    unfold Hid
                    rw [sum_set' (by rw [HT.l1]; exact hbl) hv.out, HSm.out]; omega
                  have H2' := Lib.hid H2
                  clear HT H1 H2 HF HB HI hrn
                  go_wp2
                  go_roundg L'
                  case measure => omega
                  case rel => exact ⟨by omega, _, _, H2'.out, HF2, HB2, HS2⟩
theorem appo_len {a : Int} {l : List Int} (h : WOk a l) : (Plain.appo a l).length = l.length := by
  by_cases h0 : l.sum = 0
  · rw [Plain.appo, if_pos h0]; simp
  · have := (sum_nonneg fun x hx => (h.2.2 x hx).1).1
    exact (Plain.appo_good ⟨h.1.1, by omega, fun x hx => (h.2.2 x hx).1⟩).len
theorem ap_len (a : Int) (l : List Int) : (ap a l).length ≤ 8 := by
  by_cases h : wi a 0 1000000 = true ∧ wi (l.length : Int) 1 8 = true ∧ allB l 0 1000000 = true
  · rw [ap_good h, appo_len (wok_of h)]
    exact (wok_of h).2.1.2
  · rw [ap_bad h]; simp
set_option maxHeartbeats 1600000 in
theorem exactApportion (a : Int) (A : Option Addr) (n c : Nat) (l : List Int) (w : World) (h : K.IR w w.heap.size A n l) : Calls Try.prog 7 #[.int .i64 a, .slice A n c] w fun e w' => e = .returned (.bool true) ∧ Below w.heap.size w w' := by
  by_cases hn : 1048576 < n
  · go_enter Try.func7, Try.ntmps7
    go_wp2
    go_ret
    exact ⟨rfl, Below.refl _ _⟩
  have hn' : n ≤ 1048576 := by omega
  have hL := K.IR.len h
  have hlen := ap_len a l
  clear hn
  go_enter Try.func7, Try.ntmps7
  go_wp2_with fail
  refine (toIntS_c w A n c l h (by omega)).mono ?_
  rintro e w1 ⟨Aa, ma, ca, rfl, hla, owna, kk⟩
  have z1 := kk.size
  have kw := kk
  clear kk
  have sa := owna.lt
  go_wp2_with fail
  refine (ap_spec _ a _ _ _ l (K.rd_own owna) (by omega)).mono ?_
  rintro e w2 ⟨As, ns, cs, rfl, hls, owns, kk⟩
  have owna := K.own_kept owna kk
  have z2 := kk.size
  have kw := K.Kept.trans kw kk
  clear kk
  have ss := owns.lt
  clear owna sa
  go_wp2_with fail
  refine (toIntS_c w2 A n c l (K.Rd.more (K.Rd.below h kw) kw.size) (by omega)).mono ?_
  rintro e w3 ⟨Ax, mx, cx, rfl, hlx, ownx, kk⟩
  have owns := K.own_kept owns kk
  have z3 := kk.size
  have kw := K.Kept.trans kw kk
  clear kk
  have sx := ownx.lt
  go_wp2_with fail
  refine (ap_impl _ a _ _ _ l (K.rd_own ownx) (by omega)).mono ?_
  rintro e w4 ⟨Ag, ng, cg, rfl, hlg, owng, kk⟩
  have owns := K.own_kept owns kk
  have ownx := K.own_kept ownx kk
  have z4 := kk.size
  have kw := K.Kept.trans kw kk
  clear kk
  have sg := owng.lt
  go_wp2_with fail
  refine (eqIntS_c _ _ _ _ _ _ _ (ap a l) (ap a l) (K.rd_own owng) (K.rd_own owns) (by omega) (by omega)).mono ?_
  rintro e w5 ⟨rfl, kk⟩
  have owns := K.own_kept owns kk
  have ownx := K.own_kept ownx kk
  have owng := K.own_kept owng kk
  have z5 := kk.size
  have kw := K.Kept.trans kw kk
  clear kk
  go_wp2_with fail
  refine (toIntS_c w5 A n c l (K.Rd.more (K.Rd.below h kw) kw.size) (by omega)).mono ?_
  rintro e w6 ⟨Ab, mb, cb, rfl, hlb, ownb, kk⟩
  have owns := K.own_kept owns kk
  have ownx := K.own_kept ownx kk
  have owng := K.own_kept owng kk
  have z6 := kk.size
  have kw := K.Kept.trans kw kk
  clear kk
  have sb := ownb.lt
  go_wp2_with fail
  refine (eqIntS_c _ _ _ _ _ _ _ (l) (l) (K.rd_own ownx) (K.rd_own ownb) (by omega) (by omega)).mono ?_
  rintro e w7 ⟨rfl, kk⟩
  have owns := K.own_kept owns kk
  have ownx := K.own_kept ownx kk
  have owng := K.own_kept owng kk
  have ownb := K.own_kept ownb kk
  have z7 := kk.size
  have kw := K.Kept.trans kw kk
  clear kk
  clear ownb sb
  go_wp2_with fail
  refine (markIntS_c _ _ _ _ _ l 1 ownx (by omega) (by omega)).mono ?_
  rintro e w8 ⟨rfl, ownN, gg⟩
  have owns := K.own_other owns gg (fun i j hi hj => by have := ss i hi; have := sx j hj; omega)
  have owng := K.own_other owng gg (fun i j hi hj => by have := sg i hi; have := sx j hj; omega)
  have kw := kw.grown gg (by omega) (fun i hi => by have := sx i hi; omega)
  have z8 := gg.size
  clear gg
  clear ownx
  have ownx := ownN
  clear ownN
  go_wp2_with fail
  refine (eqIntS_c _ _ _ _ _ _ _ (ap a l) (ap a l) (K.rd_own owng) (K.rd_own owns) (by omega) (by omega)).mono ?_
  rintro e w9 ⟨rfl, kk⟩
  have owns := K.own_kept owns kk
  have ownx := K.own_kept ownx kk
  have owng := K.own_kept owng kk
  have z9 := kk.size
  have kw := K.Kept.trans kw kk
  clear kk
  clear ownx sx
  go_wp2_with fail
  refine (markIntS_c _ _ _ _ _ (ap a l) 1 owng (by omega) (by omega)).mono ?_
  rintro e w10 ⟨rfl, ownN, gg⟩
  have owns := K.own_other owns gg (fun i j hi hj => by have := ss i hi; have := sg j hj; omega)
  have kw := kw.grown gg (by omega) (fun i hi => by have := sg i hi; omega)
  have z10 := gg.size
  clear gg
  clear owng
  have owng := ownN
  clear ownN
  go_wp2_with fail
  refine (heldIntS_c _ _ _ _ 1 (K.rd_own owng) (by omega) (by omega)).mono ?_
  rintro e w11' ⟨rfl, rfl⟩
  go_wp2_with fail
  refine (toIntS_c w10 A n c l (K.Rd.more (K.Rd.below h kw) kw.size) (by omega)).mono ?_
  rintro e w11 ⟨Ad, md, cd, rfl, hld, ownd, kk⟩
  have owns := K.own_kept owns kk
  have owng := K.own_kept owng kk
  have z11 := kk.size
  have kw := K.Kept.trans kw kk
  clear kk
  have sd := ownd.lt
  go_wp2_with fail
  refine (ap_impl _ a _ _ _ l (K.rd_own ownd) (by omega)).mono ?_
  rintro e w12 ⟨Ak, nk, ck, rfl, hlk, ownk, kk⟩
  have owns := K.own_kept owns kk
  have owng := K.own_kept owng kk
  have ownd := K.own_kept ownd kk
  have z12 := kk.size
  have kw := K.Kept.trans kw kk
  clear kk
  have sk := ownk.lt
  clear ownd sd
  go_wp2_with fail
  refine (eqIntS_c _ _ _ _ _ _ _ (ap a l) (ap a l) (K.rd_own ownk) (K.rd_own owns) (by omega) (by omega)).mono ?_
  rintro e w13 ⟨rfl, kk⟩
  have owns := K.own_kept owns kk
  have owng := K.own_kept owng kk
  have ownk := K.own_kept ownk kk
  have z13 := kk.size
  have kw := K.Kept.trans kw kk
  clear kk
  go_wp2_with fail
  refine (heldIntS_c _ _ _ _ 1 (K.rd_own owng) (by omega) (by omega)).mono ?_
  rintro e w14' ⟨rfl, rfl⟩
  go_wp2
  go_ret
  exact ⟨rfl, kw⟩
end C
end Go.Proofs.Ytcgaffhoggkbkaa

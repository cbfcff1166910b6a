/-
  The laws of Apportion, for every code. Conditions: none.
-/
import Derived.Test.YtcgaffhoggkbkaaApp
import Derived.Test.YtcgaffhoggkbkaaDrawM
import Derived.Test.YtcgaffhoggkbkaaSplit
namespace Go.Proofs.Ytcgaffhoggkbkaa
open Go.RowKit
namespace C

set_option maxHeartbeats 1600000 in
theorem apportionWhole (w : World) (n c : Nat) (A : Option Addr) (h : Code w w.heap.size A n c) : Calls Try.prog 17 #[.slice A n c] w fun e w' => e = .returned (.bool true) ∧ Below w.heap.size w w' := by
  by_cases hn : 1048576 < n
  · go_enter Try.func17, Try.ntmps17
    go_wp2
    go_ret
    exact ⟨rfl, Below.refl _ _⟩
  have hc := h
  unfold Code maxLen at hc
  have hn' : n ≤ 1048576 := by omega
  clear hc hn
  go_enter Try.func17, Try.ntmps17
  go_wp2_with fail
  refine (drawApportion_c w n c A h).mono ?_
  rintro e w1 ⟨x, Aw, nw, cw, lw, rfl, hnw, rdw, kw⟩
  clear h
  have z1 := kw.size
  have hLw := Lib.hid (K.IR.len rdw)
  have hlen := ap_len x lw
  go_wp2_with fail
  refine (ap_impl _ x _ _ _ lw rdw (by omega)).mono ?_
  rintro e w2 ⟨Ao, no, co, rfl, hlo, owno, kk⟩
  have rdw := K.Rd.more (K.Rd.below rdw kk) kk.size
  have z2 := kk.size
  have kw := K.Kept.trans kw kk
  clear kk
  have so := owno.lt
  go_wp2_with fail
  refine (ap_spec _ x _ _ _ lw rdw (by omega)).mono ?_
  rintro e w3 ⟨As, ns, cs, rfl, hls, owns, kk⟩
  have owno := K.own_kept owno kk
  have rdw := K.Rd.more (K.Rd.below rdw kk) kk.size
  have z3 := kk.size
  have kw := K.Kept.trans kw kk
  clear kk
  have ss := owns.lt
  go_wp2_with fail
  refine (equalInts_c _ _ _ _ _ _ _ (ap x lw) (ap x lw) (K.rd_own owno) (K.rd_own owns) (by omega) (by omega)).mono ?_
  rintro e w4 ⟨rfl, kk⟩
  have owno := K.own_kept owno kk
  have owns := K.own_kept owns kk
  have rdw := K.Rd.more (K.Rd.below rdw kk) kk.size
  have z4 := kk.size
  have kw := K.Kept.trans kw kk
  clear kk
  clear owns ss
  clear hls
  by_cases hv : wi x 0 1000000 = true ∧ wi (lw.length : Int) 1 8 = true ∧ allB lw 0 1000000 = true
  case neg =>
    have hnil := ap_bad hv
    rw [hnil] at hlo
    have hno : no = 0 := by simpa using hlo.symm
    subst hno
    clear hv hnil
    go_wp2_with fail
    refine (ap_spec _ x _ _ _ lw rdw (by omega)).mono ?_
    rintro e w5 ⟨At, nt, ct, rfl, hlt, ownt, kk⟩
    have owno := K.own_kept owno kk
    have rdw := K.Rd.more (K.Rd.below rdw kk) kk.size
    have z5 := kk.size
    have kw := K.Kept.trans kw kk
    clear kk
    have st := ownt.lt
    go_wp2_with fail
    refine (equalInts_c _ _ _ _ _ _ _ (ap x lw) (ap x lw) (K.rd_own owno) (K.rd_own ownt) (by omega) (by omega)).mono ?_
    rintro e w6 ⟨rfl, kk⟩
    have owno := K.own_kept owno kk
    have ownt := K.own_kept ownt kk
    have rdw := K.Rd.more (K.Rd.below rdw kk) kk.size
    have z6 := kk.size
    have kw := K.Kept.trans kw kk
    clear kk
    go_wp2
    go_ret
    exact ⟨rfl, kw⟩
  have ok := wok_of hv
  have hag := ap_good hv
  clear hv
  rw [hag] at owno hlo
  have hlo' := appo_len ok
  have hnn : no = nw := by have := hLw.out; omega
  subst hnn
  have hn8 : 1 ≤ no ∧ no ≤ 8 := by have := ok.2.1; have := hLw.out; omega
  have hno0 : ((no : Int) == 0) = false := by rw [beq_eq_false_iff_ne]; omega
  have SM := ok.small
  have sb := sum_bd SM
  have hW := Lib.hid (Plain.appo_whole (l := lw) fun x hx => (ok.2.2 x hx).1)
  go_wp2_with fail
  refine (sum_l _ _ _ _ lw rdw (by omega) SM).mono ?_
  rintro e w5' ⟨rfl, rfl⟩
  by_cases hbig : 1000000 < lw.sum
  · skip
    go_wp2_with fail
    refine (ap_spec _ x _ _ _ lw rdw (by omega)).mono ?_
    rintro e w5 ⟨At, nt, ct, rfl, hlt, ownt, kk⟩
    have owno := K.own_kept owno kk
    have rdw := K.Rd.more (K.Rd.below rdw kk) kk.size
    have z5 := kk.size
    have kw := K.Kept.trans kw kk
    clear kk
    have st := ownt.lt
    rw [hag] at ownt hlt
    go_wp2_with fail
    refine (equalInts_c _ _ _ _ _ _ _ (Plain.appo x lw) (Plain.appo x lw) (K.rd_own owno) (K.rd_own ownt) (by omega) (by omega)).mono ?_
    rintro e w6 ⟨rfl, kk⟩
    have owno := K.own_kept owno kk
    have ownt := K.own_kept ownt kk
    have rdw := K.Rd.more (K.Rd.below rdw kk) kk.size
    have z6 := kk.size
    have kw := K.Kept.trans kw kk
    clear kk
    go_wp2
    go_ret
    exact ⟨rfl, kw⟩
  · skip
    go_wp2_with fail
    refine (sum_l _ _ _ _ lw rdw (by omega) SM).mono ?_
    rintro e w5' ⟨rfl, rfl⟩
    have hv2 : wi lw.sum 0 1000000 = true ∧ wi (lw.length : Int) 1 8 = true ∧ allB lw 0 1000000 = true := ⟨wi_true.2 (by omega), wi_true.2 (by have := ok.2.1; omega), List.all_eq_true.2 fun x hx => wi_true.2 (ok.2.2 x hx)⟩
    have hag2 := ap_good hv2
    rw [hW.out] at hag2
    clear hv2 ok
    go_wp2_with fail
    refine (ap_impl _ lw.sum _ _ _ lw rdw (by omega)).mono ?_
    rintro e w5 ⟨At, nt, ct, rfl, hlt, ownt, kk⟩
    have owno := K.own_kept owno kk
    have rdw := K.Rd.more (K.Rd.below rdw kk) kk.size
    have z5 := kk.size
    have kw := K.Kept.trans kw kk
    clear kk
    have st := ownt.lt
    rw [hag2] at ownt hlt
    go_wp2_with fail
    refine (equalInts_c _ _ _ _ _ _ _ lw lw (K.rd_own ownt) rdw (by omega) (by omega)).mono ?_
    rintro e w6 ⟨rfl, kk⟩
    have owno := K.own_kept owno kk
    have ownt := K.own_kept ownt kk
    have rdw := K.Rd.more (K.Rd.below rdw kk) kk.size
    have z6 := kk.size
    have kw := K.Kept.trans kw kk
    clear kk
    go_wp2
    go_ret
    exact ⟨rfl, kw⟩
theorem good_at {a : Int} {l : List Int} (ok : WOk a l) (hp : 0 < l.sum) {i : Nat} {x y : Int} (hx : l[i]? = some x) (hy : (Plain.appo a l)[i]? = some y) :
    (0 ≤ y ∧ y ≤ 2000000) ∧ (0 ≤ x ∧ x ≤ 1000000) ∧ (0 ≤ y * l.sum ∧ y * l.sum ≤ 200000000000000) ∧ (0 ≤ a * x ∧ a * x ≤ 1000000000000) ∧ y * l.sum - a * x < l.sum ∧ -(y * l.sum - a * x) < l.sum := by
  have ok' : Plain.Ok a l := ⟨ok.1.1, hp, fun x hx => (ok.2.2 x hx).1⟩
  have G := Plain.appo_good ok'
  have hi : i < l.length := (List.getElem?_eq_some_iff.1 hx).1
  have n := G.near i hi
  rw [getD_of hx, getD_of hy] at n
  have q := ok.quo hp (List.mem_of_getElem? hx)
  have b := sum_bd ok.small
  have hl := ok.2.1
  have p1 : 0 < (y + 1) * l.sum := by rw [Int.add_mul]; omega
  have y0 : 0 ≤ y := by have := Int.pos_of_mul_pos_left p1 hp; omega
  have y1 : y ≤ 1000001 := by
    have hd := Int.mul_ediv_add_emod (a * x) l.sum
    have e1 : y * l.sum < (a * x / l.sum + 2) * l.sum := by rw [Int.add_mul, Int.mul_comm (a * x / l.sum)]; omega
    have := Int.lt_of_mul_lt_mul_right e1 (by omega)
    have := q.2.1.2
    have := ok.1.2
    omega
  have y2 : y * l.sum ≤ 2000000 * 80000000 := Int.mul_le_mul (by omega) (by omega) (by omega) (by omega)
  exact ⟨⟨y0, by omega⟩, ok.2.2 x (List.mem_of_getElem? hx), ⟨Int.mul_nonneg y0 (by omega), by omega⟩, q.1, n.1, n.2⟩
theorem out_small {a : Int} {l : List Int} (ok : WOk a l) : Small (Plain.appo a l) := by
  intro y hy
  by_cases h0 : l.sum = 0
  · have e : Plain.appo a l = List.replicate l.length 0 := by rw [Plain.appo, if_pos h0]
    rw [e] at hy
    have := List.eq_of_mem_replicate hy
    omega
  · obtain ⟨i, hi, rfl⟩ := List.getElem_of_mem hy
    have hs := (sum_nonneg fun x hx => (ok.2.2 x hx).1).1
    have hil : i < l.length := by rw [← appo_len ok]; exact hi
    have := good_at ok (by omega) (List.getElem?_eq_getElem hil) (List.getElem?_eq_getElem hi)
    omega
set_option maxHeartbeats 1600000 in
theorem apportionLaw (w : World) (n c : Nat) (A : Option Addr) (h : Code w w.heap.size A n c) : Calls Try.prog 16 #[.slice A n c] w fun e w' => e = .returned (.bool true) ∧ Below w.heap.size w w' := by
  by_cases hn : 1048576 < n
  · go_enter Try.func16, Try.ntmps16
    go_wp2
    go_ret
    exact ⟨rfl, Below.refl _ _⟩
  have hc := h
  unfold Code maxLen at hc
  have hn' : n ≤ 1048576 := by omega
  clear hc hn
  go_enter Try.func16, Try.ntmps16
  go_wp2_with fail
  refine (drawApportion_c w n c A h).mono ?_
  rintro e w1 ⟨x, Aw, nw, cw, lw, rfl, hnw, rdw, kw⟩
  clear h
  have z1 := kw.size
  have hLw := Lib.hid (K.IR.len rdw)
  have hlen := ap_len x lw
  go_wp2_with fail
  refine (ap_impl _ x _ _ _ lw rdw (by omega)).mono ?_
  rintro e w2 ⟨Ao, no, co, rfl, hlo, owno, kk⟩
  have rdw := K.Rd.more (K.Rd.below rdw kk) kk.size
  have z2 := kk.size
  have kw := K.Kept.trans kw kk
  clear kk
  have so := owno.lt
  go_wp2_with fail
  refine (ap_spec _ x _ _ _ lw rdw (by omega)).mono ?_
  rintro e w3 ⟨As, ns, cs, rfl, hls, owns, kk⟩
  have owno := K.own_kept owno kk
  have rdw := K.Rd.more (K.Rd.below rdw kk) kk.size
  have z3 := kk.size
  have kw := K.Kept.trans kw kk
  clear kk
  have ss := owns.lt
  go_wp2_with fail
  refine (equalInts_c _ _ _ _ _ _ _ (ap x lw) (ap x lw) (K.rd_own owno) (K.rd_own owns) (by omega) (by omega)).mono ?_
  rintro e w4 ⟨rfl, kk⟩
  have owno := K.own_kept owno kk
  have owns := K.own_kept owns kk
  have rdw := K.Rd.more (K.Rd.below rdw kk) kk.size
  have z4 := kk.size
  have kw := K.Kept.trans kw kk
  clear kk
  clear owns ss
  clear hls
  by_cases hv : wi x 0 1000000 = true ∧ wi (lw.length : Int) 1 8 = true ∧ allB lw 0 1000000 = true
  case neg =>
    have hnil := ap_bad hv
    rw [hnil] at hlo
    have hno : no = 0 := by simpa using hlo.symm
    subst hno
    clear hv hnil
    go_wp2_with fail
    refine (ap_spec _ x _ _ _ lw rdw (by omega)).mono ?_
    rintro e w5 ⟨At, nt, ct, rfl, hlt, ownt, kk⟩
    have owno := K.own_kept owno kk
    have rdw := K.Rd.more (K.Rd.below rdw kk) kk.size
    have z5 := kk.size
    have kw := K.Kept.trans kw kk
    clear kk
    have st := ownt.lt
    go_wp2_with fail
    refine (equalInts_c _ _ _ _ _ _ _ (ap x lw) (ap x lw) (K.rd_own owno) (K.rd_own ownt) (by omega) (by omega)).mono ?_
    rintro e w6 ⟨rfl, kk⟩
    have owno := K.own_kept owno kk
    have ownt := K.own_kept ownt kk
    have rdw := K.Rd.more (K.Rd.below rdw kk) kk.size
    have z6 := kk.size
    have kw := K.Kept.trans kw kk
    clear kk
    go_wp2
    go_ret
    exact ⟨rfl, kw⟩
  have ok := wok_of hv
  have hag := ap_good hv
  clear hv
  rw [hag] at owno hlo
  have hlo' := appo_len ok
  have hnn : no = nw := by have := hLw.out; omega
  subst hnn
  have hn8 : 1 ≤ no ∧ no ≤ 8 := by have := ok.2.1; have := hLw.out; omega
  have hno0 : ((no : Int) == 0) = false := by rw [beq_eq_false_iff_ne]; omega
  have SM := ok.small
  have sb := sum_bd SM
  have SO := out_small ok
  go_wp2_with fail
  refine (sum_l _ _ _ _ lw rdw (by omega) SM).mono ?_
  rintro e w5' ⟨rfl, rfl⟩
  by_cases h0 : lw.sum = 0
  · have hz : (lw.sum == 0) = true := by rw [h0]; rfl
    have ho : (Plain.appo x lw).sum = 0 := by rw [Plain.appo, if_pos h0, Plain.sum_rep]; simp
    have hoz : ((Plain.appo x lw).sum == 0) = true := by rw [ho]; rfl
    clear h0 ho sb ok SM
    go_wp2_with fail
    refine (sum_l _ _ _ _ (Plain.appo x lw) (K.rd_own owno) (by omega) SO).mono ?_
    rintro e w5' ⟨rfl, rfl⟩
    go_wp2
    go_ret
    exact ⟨rfl, kw⟩
  have hz : (lw.sum == 0) = false := by rw [beq_eq_false_iff_ne]; exact h0
  have hp : 0 < lw.sum := by have := sb.1; omega
  have GA := Lib.hid (fun (i : Nat) (u y : Int) (hx : lw[i]? = some u) (hy : (Plain.appo x lw)[i]? = some y) => good_at ok hp hx hy)
  have SA := Lib.hid (Plain.appo_good (a := x) ⟨ok.1.1, hp, fun x hx => (ok.2.2 x hx).1⟩).sum
  have xb := ok.1
  have sb2 : 1 ≤ lw.sum ∧ lw.sum ≤ 80000000 := by have := ok.2.1; omega
  clear h0 hp sb ok SM
  have rdo := K.rd_own owno
  go_wp2_with fail
  go_loopw [7] (fun i wr => ∃ k : Nat, k ≤ no ∧ i = .int .i64 k ∧ K.Kept w4 wr) (fun i _ => no - (intOf i).toNat)
  case atStart => exact ⟨0, by omega, rfl, Below.refl _ _⟩
  case round =>
    obtain ⟨k, hk, rfl, hkw⟩ := hrel
    by_cases hlt : k < no
    · obtain ⟨b1, o1, y, rfl, hb1, c1, hy⟩ := K.IR.cell (K.Rd.below rdo hkw) hlt
      obtain ⟨b2, o2, u, rfl, hb2, c2, hu⟩ := K.IR.cell (K.Rd.below rdw hkw) hlt
      obtain ⟨f1, f2, f3, f4, f5, f6⟩ := GA.out k u y hu.out hy.out
      clear rdo rdw owno
      go_wp2
      go_quiet (fail)
      go_wp2
      go_roundw
      case rel => exact ⟨k + 1, by omega, by go_num, K.below_drewN hkw _⟩
      case measure => simp [intOf]; omega
    · have hkn : no = k := by omega
      subst hkn
      go_wp2_with fail
      refine (sum_l _ _ _ _ (Plain.appo x lw) (K.Rd.more (K.Rd.below rdo hkw) hkw.size) (by omega) SO).mono ?_
      rintro e w5' ⟨rfl, rfl⟩
      have hs : ((Plain.appo x lw).sum == x) = true := by rw [SA.out]; simp
      go_wp2
      go_ret
      exact ⟨rfl, K.Kept.trans kw hkw⟩
theorem none_at {a : Int} {l : List Int} (ok : WOk a l) {i j : Nat} {x y u v : Int} (hx : l[i]? = some x) (hy : (Plain.appo a l)[i]? = some y) (hu : l[j]? = some u) (hv : (Plain.appo a l)[j]? = some v) :
    (x = 0 → y = 0) ∧ (u < x → v ≤ y) := by
  by_cases h0 : l.sum = 0
  · have e : Plain.appo a l = List.replicate l.length 0 := by rw [Plain.appo, if_pos h0]
    rw [e] at hy hv
    have a1 := List.eq_of_mem_replicate (List.mem_of_getElem? hy)
    have a2 := List.eq_of_mem_replicate (List.mem_of_getElem? hv)
    omega
  · have hs := (sum_nonneg fun x hx => (ok.2.2 x hx).1).1
    have G := Plain.appo_good (a := a) (ws := l) ⟨ok.1.1, by omega, fun x hx => (ok.2.2 x hx).1⟩
    have hi : i < l.length := (List.getElem?_eq_some_iff.1 hx).1
    have hj : j < l.length := (List.getElem?_eq_some_iff.1 hu).1
    have n := G.none i hi
    have m := G.mono i j hi hj
    rw [getD_of hx, getD_of hy] at n
    rw [getD_of hx, getD_of hy, getD_of hu, getD_of hv] at m
    exact ⟨n, m⟩
set_option maxHeartbeats 1600000 in
theorem apportionNone (w : World) (n c : Nat) (A : Option Addr) (h : Code w w.heap.size A n c) : Calls Try.prog 14 #[.slice A n c] w fun e w' => e = .returned (.bool true) ∧ Below w.heap.size w w' := by
  by_cases hn : 1048576 < n
  · go_enter Try.func14, Try.ntmps14
    go_wp2
    go_ret
    exact ⟨rfl, Below.refl _ _⟩
  have hc := h
  unfold Code maxLen at hc
  have hn' : n ≤ 1048576 := by omega
  clear hc hn
  go_enter Try.func14, Try.ntmps14
  go_wp2_with fail
  refine (drawApportion_c w n c A h).mono ?_
  rintro e w1 ⟨x, Aw, nw, cw, lw, rfl, hnw, rdw, kw⟩
  clear h
  have z1 := kw.size
  have hLw := Lib.hid (K.IR.len rdw)
  have hlen := ap_len x lw
  go_wp2_with fail
  refine (ap_impl _ x _ _ _ lw rdw (by omega)).mono ?_
  rintro e w2 ⟨Ao, no, co, rfl, hlo, owno, kk⟩
  have rdw := K.Rd.more (K.Rd.below rdw kk) kk.size
  have z2 := kk.size
  have kw := K.Kept.trans kw kk
  clear kk
  have so := owno.lt
  go_wp2_with fail
  refine (ap_spec _ x _ _ _ lw rdw (by omega)).mono ?_
  rintro e w3 ⟨As, ns, cs, rfl, hls, owns, kk⟩
  have owno := K.own_kept owno kk
  have rdw := K.Rd.more (K.Rd.below rdw kk) kk.size
  have z3 := kk.size
  have kw := K.Kept.trans kw kk
  clear kk
  have ss := owns.lt
  go_wp2_with fail
  refine (equalInts_c _ _ _ _ _ _ _ (ap x lw) (ap x lw) (K.rd_own owno) (K.rd_own owns) (by omega) (by omega)).mono ?_
  rintro e w4 ⟨rfl, kk⟩
  have owno := K.own_kept owno kk
  have owns := K.own_kept owns kk
  have rdw := K.Rd.more (K.Rd.below rdw kk) kk.size
  have z4 := kk.size
  have kw := K.Kept.trans kw kk
  clear kk
  clear owns ss
  clear hls
  by_cases hv : wi x 0 1000000 = true ∧ wi (lw.length : Int) 1 8 = true ∧ allB lw 0 1000000 = true
  case neg =>
    have hnil := ap_bad hv
    rw [hnil] at hlo
    have hno : no = 0 := by simpa using hlo.symm
    subst hno
    clear hv hnil
    go_wp2_with fail
    refine (ap_spec _ x _ _ _ lw rdw (by omega)).mono ?_
    rintro e w5 ⟨At, nt, ct, rfl, hlt, ownt, kk⟩
    have owno := K.own_kept owno kk
    have rdw := K.Rd.more (K.Rd.below rdw kk) kk.size
    have z5 := kk.size
    have kw := K.Kept.trans kw kk
    clear kk
    have st := ownt.lt
    go_wp2_with fail
    refine (equalInts_c _ _ _ _ _ _ _ (ap x lw) (ap x lw) (K.rd_own owno) (K.rd_own ownt) (by omega) (by omega)).mono ?_
    rintro e w6 ⟨rfl, kk⟩
    have owno := K.own_kept owno kk
    have ownt := K.own_kept ownt kk
    have rdw := K.Rd.more (K.Rd.below rdw kk) kk.size
    have z6 := kk.size
    have kw := K.Kept.trans kw kk
    clear kk
    go_wp2
    go_ret
    exact ⟨rfl, kw⟩
  have ok := wok_of hv
  have hag := ap_good hv
  clear hv
  rw [hag] at owno hlo
  have hlo' := appo_len ok
  have hnn : no = nw := by have := hLw.out; omega
  subst hnn
  have hn8 : 1 ≤ no ∧ no ≤ 8 := by have := ok.2.1; have := hLw.out; omega
  have hno0 : ((no : Int) == 0) = false := by rw [beq_eq_false_iff_ne]; omega
  have NA := Lib.hid (fun (i j : Nat) (x' y u v : Int) (hx : lw[i]? = some x') (hy : (Plain.appo x lw)[i]? = some y) (hu : lw[j]? = some u) (hv : (Plain.appo x lw)[j]? = some v) => none_at ok hx hy hu hv)
  clear ok
  have rdo := K.rd_own owno
  go_wp2_with fail
  go_loopw [6] (fun i wr => ∃ k : Nat, k ≤ no ∧ i = .int .i64 k ∧ K.Kept w4 wr) (fun i _ => no - (intOf i).toNat)
  case atStart => exact ⟨0, by omega, rfl, Below.refl _ _⟩
  case round =>
    obtain ⟨k, hk, rfl, hkw⟩ := hrel
    by_cases hlt : k < no
    · obtain ⟨wo, hwo⟩ : ∃ wo : World, wo = wr := ⟨_, rfl⟩
      subst hwo
      obtain ⟨b1, o1, y, rfl, hb1, c1, hy⟩ := K.IR.cell (K.Rd.below rdo hkw) hlt
      obtain ⟨b2, o2, u, rfl, hb2, c2, hu⟩ := K.IR.cell (K.Rd.below rdw hkw) hlt
      have NK := Lib.hid ((NA.out k k u y u y hu.out hy.out hu.out hy.out).1)
      have d : u = 0 ∧ y = 0 ∨ u ≠ 0 := by
        by_cases hu0 : u = 0
        · exact .inl ⟨hu0, NK.out hu0⟩
        · exact .inr hu0
      have d1 : (u == 0) = false ∨ ((u == 0) = true ∧ (y != 0) = false) := by
        rcases d with ⟨h1, h2⟩ | h1
        · exact .inr ⟨by rw [h1]; rfl, by rw [h2]; rfl⟩
        · exact .inl (by simp [h1])
      clear d NK
      rcases d1 with d1 | ⟨d1, d2⟩
      all_goals
        go_wp2_with fail
        go_loopw [7] (fun i wi => ∃ j : Nat, j ≤ no ∧ i = .int .i64 j ∧ K.Kept w4 wi) (fun i _ => no - (intOf i).toNat)
        case atStart => exact ⟨0, by omega, rfl, hkw⟩
        case round =>
          clear hkw c1 c2
          obtain ⟨j, hj, rfl, hkw⟩ := hrel
          by_cases hltj : j < no
          · have cy := (hkw.cell (p := ⟨b1, o1 + k, none⟩) (by exact hb1))
            obtain ⟨b1', o1', y', e1, _, c1, hy1⟩ := K.IR.cell (K.Rd.below rdo hkw) hlt
            obtain ⟨b2', o2', u', e2, _, c2, hu2⟩ := K.IR.cell (K.Rd.below rdw hkw) hlt
            injection e1 with e1; injection e1 with ea eb; subst ea eb
            injection e2 with e2; injection e2 with ea eb; subst ea eb
            obtain ⟨b3, o3, v, e3, _, c3, hv3⟩ := K.IR.cell (K.Rd.below rdo hkw) hltj
            obtain ⟨b4, o4, z, e4, _, c4, hz4⟩ := K.IR.cell (K.Rd.below rdw hkw) hltj
            injection e3 with e3; injection e3 with ea eb; subst ea eb
            injection e4 with e4; injection e4 with ea eb; subst ea eb
            have M := Lib.hid ((NA.out k j u' y' z v hu2.out hy1.out hz4.out hv3.out).2)
            clear cy
            by_cases hm : z < u'
            · have hle := M.out hm
              have d3 : decide (y' < v) = false := decide_eq_false (by omega)
              go_wp2
              go_quiet (fail)
              go_wp2
              go_roundw
              case rel => exact ⟨j + 1, by omega, by go_num, K.below_drewN hkw _⟩
              case measure => simp [intOf]; omega
            · have d3 : decide (z < u') = false := decide_eq_false hm
              clear hm
              go_wp2
              go_quiet (fail)
              go_wp2
              go_roundw
              case rel => exact ⟨j + 1, by omega, by go_num, K.below_drewN hkw _⟩
              case measure => simp [intOf]; omega
          · have hjn : no = j := by omega
            subst hjn
            go_wp2
            go_roundw
            case rel => exact ⟨k + 1, by omega, by go_num, hkw⟩
            case measure => simp [intOf]; omega
    · have hkn : no = k := by omega
      subst hkn
      go_wp2
      go_ret
      exact ⟨rfl, K.Kept.trans kw hkw⟩
set_option maxHeartbeats 1600000 in
theorem apportionScale (w : World) (n c : Nat) (A : Option Addr) (h : Code w w.heap.size A n c) : Calls Try.prog 15 #[.slice A n c] w fun e w' => e = .returned (.bool true) ∧ Below w.heap.size w w' := by
  by_cases hn : 1048576 < n
  · go_enter Try.func15, Try.ntmps15
    go_wp2
    go_ret
    exact ⟨rfl, Below.refl _ _⟩
  have hc := h
  unfold Code maxLen at hc
  have hn' : n ≤ 1048576 := by omega
  clear hc hn
  go_enter Try.func15, Try.ntmps15
  go_wp2_with fail
  refine (drawApportion_c w n c A h).mono ?_
  rintro e w1 ⟨x, Aw, nw, cw, lw, rfl, hnw, rdw, kw⟩
  clear h
  have z1 := kw.size
  have hLw := Lib.hid (K.IR.len rdw)
  have hlen := ap_len x lw
  go_wp2_with fail
  refine (ap_impl _ x _ _ _ lw rdw (by omega)).mono ?_
  rintro e w2 ⟨Ao, no, co, rfl, hlo, owno, kk⟩
  have rdw := K.Rd.more (K.Rd.below rdw kk) kk.size
  have z2 := kk.size
  have kw := K.Kept.trans kw kk
  clear kk
  have so := owno.lt
  go_wp2_with fail
  refine (ap_spec _ x _ _ _ lw rdw (by omega)).mono ?_
  rintro e w3 ⟨As, ns, cs, rfl, hls, owns, kk⟩
  have owno := K.own_kept owno kk
  have rdw := K.Rd.more (K.Rd.below rdw kk) kk.size
  have z3 := kk.size
  have kw := K.Kept.trans kw kk
  clear kk
  have ss := owns.lt
  go_wp2_with fail
  refine (equalInts_c _ _ _ _ _ _ _ (ap x lw) (ap x lw) (K.rd_own owno) (K.rd_own owns) (by omega) (by omega)).mono ?_
  rintro e w4 ⟨rfl, kk⟩
  have owno := K.own_kept owno kk
  have owns := K.own_kept owns kk
  have rdw := K.Rd.more (K.Rd.below rdw kk) kk.size
  have z4 := kk.size
  have kw := K.Kept.trans kw kk
  clear kk
  clear owns ss
  clear hls
  by_cases hv : wi x 0 1000000 = true ∧ wi (lw.length : Int) 1 8 = true ∧ allB lw 0 1000000 = true
  case neg =>
    have hnil := ap_bad hv
    rw [hnil] at hlo
    have hno : no = 0 := by simpa using hlo.symm
    subst hno
    clear hv hnil
    go_wp2_with fail
    refine (ap_spec _ x _ _ _ lw rdw (by omega)).mono ?_
    rintro e w5 ⟨At, nt, ct, rfl, hlt, ownt, kk⟩
    have owno := K.own_kept owno kk
    have rdw := K.Rd.more (K.Rd.below rdw kk) kk.size
    have z5 := kk.size
    have kw := K.Kept.trans kw kk
    clear kk
    have st := ownt.lt
    go_wp2_with fail
    refine (equalInts_c _ _ _ _ _ _ _ (ap x lw) (ap x lw) (K.rd_own owno) (K.rd_own ownt) (by omega) (by omega)).mono ?_
    rintro e w6 ⟨rfl, kk⟩
    have owno := K.own_kept owno kk
    have ownt := K.own_kept ownt kk
    have rdw := K.Rd.more (K.Rd.below rdw kk) kk.size
    have z6 := kk.size
    have kw := K.Kept.trans kw kk
    clear kk
    go_wp2
    go_ret
    exact ⟨rfl, kw⟩
  have ok := wok_of hv
  have hag := ap_good hv
  clear hv
  rw [hag] at owno hlo
  have hlo' := appo_len ok
  have hnn : no = nw := by have := hLw.out; omega
  subst hnn
  have hn8 : 1 ≤ no ∧ no ≤ 8 := by have := ok.2.1; have := hLw.out; omega
  have hno0 : ((no : Int) == 0) = false := by rw [beq_eq_false_iff_ne]; omega
  obtain ⟨i0, hi, hz0, hz1, hz2⟩ := info_parts info_int
  have hnew : (w4.alloc (.cells #[] 3)).ownsRow w4.heap.size 3 1 (.slice (some ⟨w4.heap.size, 0, none⟩) 0 0) 0 [] := World.ownsRow_lit w4 #[] 0 (Nat.le_refl _) (by unfold maxLen; omega) rfl
  have k0 : K.Kept w4 (w4.alloc (.cells #[] 3)) := (Below.refl _ _).alloc (Nat.le_refl _) _
  have rdo := K.rd_own owno
  have TW := Lib.hid (Plain.appo_twice (a := x) (l := lw) (fun x hx => (ok.2.2 x hx).1) (sum_nonneg fun x hx => (ok.2.2 x hx).1).1)
  have OKH := Lib.hid ok
  have WB := Lib.hid ok.2.2
  clear ok hag
  go_wp2_with fail
  go_loopw [6, 7] (fun v i wr => ∃ (k c : Nat) (A : Option Addr), k ≤ no ∧ i = .int .i64 k ∧ v = .slice A k c ∧ wr.ownsRow w4.heap.size 3 1 (.slice A k c) k ((Plain.twice (lw.take k)).map (Value.int .i64)) ∧ K.Kept w4 wr ∧ Hid (∀ x ∈ lw.take k, 2 * x ≤ 1000000)) (fun _ i _ => no - (intOf i).toNat)
  case atStart => exact ⟨0, 0, _, by omega, rfl, rfl, hnew, k0, by unfold Hid; simp⟩
  case round =>
    clear hnew k0
    obtain ⟨k, c', A', hk, rfl, rfl, own, hkw, hsm⟩ := hrel
    have hzz := hkw.size
    by_cases hlt : k < no
    · obtain ⟨b2, o2, u, rfl, hb2, c2, hu⟩ := K.IR.cell (K.Rd.below rdw hkw) hlt
      have ub := WB.out u (List.mem_of_getElem? hu.out)
      by_cases hbig : 1000000 < 2 * u
      · go_wp2
        go_ret
        exact ⟨rfl, K.Kept.trans kw hkw⟩
      · have ub2 : 2 * u ≤ 1000000 := by omega
        clear hbig
        go_wp2_with (at_builtin; refine K.wpList_app rfl _ _ 25 rfl w4.heap.size 3 1 8 i0 (.int .i64 0) Try.underlying25 hi hz0 hz1 hz2 rfl (by decide) wr _ k _ (by rfl) own _ (by rfl) (by rfl) (by rfl) (by unfold maxLen; omega) (by omega) (by omega) ?_; intro A6 c6 w6 own6 g6)
        have k6 := K.kept_own hkw own g6 hzz
        have own6' : Hid (w6.ownsRow w4.heap.size 3 1 (.slice A6 (k + 1) c6) (k + 1) ((Plain.twice (lw.take (k + 1))).map (Value.int .i64))) := by
          unfold Hid
          rw [K.take_snoc hu.out, Plain.twice, List.map_append, List.map_append]
          exact own6
        clear own own6 g6 hkw
        go_wp2
        go_roundw
        case rel =>
          refine ⟨k + 1, c6, A6, by omega, by go_num, rfl, own6'.out, k6, ?_⟩
          unfold Hid
          rw [K.take_snoc hu.out]
          intro z hz
          rcases List.mem_append.1 hz with hz | hz
          · exact hsm.out z hz
          · simp at hz; omega
        case measure => simp [intOf]; omega
    · have hkn : no = k := by omega
      subst hkn
      rw [K.take_all hLw.out] at own hsm
      have hlt2 : (Plain.twice lw).length = lw.length := by simp [Plain.twice]
      have hv2 : wi x 0 1000000 = true ∧ wi ((Plain.twice lw).length : Int) 1 8 = true ∧ allB (Plain.twice lw) 0 1000000 = true := by
        have o := OKH.out
        refine ⟨wi_true.2 o.1, wi_true.2 (by rw [hlt2]; have := o.2.1; omega), List.all_eq_true.2 fun z hz => ?_⟩
        obtain ⟨y, hy, rfl⟩ := List.mem_map.1 hz
        have := o.2.2 y hy
        have := hsm.out y hy
        exact wi_true.2 (by omega)
      have hag2 := ap_good hv2
      rw [TW.out] at hag2
      clear hv2
      go_wp2_with fail
      refine (ap_impl _ x _ _ _ (Plain.twice lw) (K.rd_own own) (by omega)).mono ?_
      rintro e w5 ⟨A5, n5, c5, rfl, hl5, own5, k5⟩
      rw [hag2] at own5 hl5
      have rdo5 := K.Rd.below (K.Rd.below rdo hkw) (k5.mono hkw.size)
      have k5' := K.Kept.trans (K.Kept.trans kw hkw) k5
      go_wp2_with fail
      refine (equalInts_c _ _ _ _ _ _ _ (Plain.appo x lw) (Plain.appo x lw) (K.rd_own own5) (K.Rd.more rdo5 (Nat.le_trans hkw.size k5.size)) (by omega) (by omega)).mono ?_
      rintro e w7 ⟨rfl, k7⟩
      go_wp2
      go_ret
      exact ⟨rfl, K.Kept.trans k5' k7⟩
theorem sep_even {a : Int} {p : Nat} : ∀ m : Nat, (m : Int) = a % (p : Int) → ∀ k, sep a p k = List.replicate (min k m) (a / (p : Int) + 1) ++ List.replicate (k - m) (a / (p : Int)) := by
  intro m hm k
  induction k with
  | zero => simp [sep]
  | succ k ih =>
    rw [sep_snoc, ih, ← hm]
    by_cases h : k < m
    · rw [if_pos (by omega), show k - m = 0 by omega, show k + 1 - m = 0 by omega, show min k m = k by omega, show min (k + 1) m = k + 1 by omega, List.replicate_succ']
      simp
    · rw [if_neg (by omega), show min k m = m by omega, show min (k + 1) m = m by omega, show k + 1 - m = (k - m) + 1 by omega, List.replicate_succ', List.append_assoc, Int.add_zero]
theorem even_same {a : Int} {p : Nat} (hp : 1 ≤ p) : Plain.appo a (List.replicate p 7) = sep a p p := by
  have m0 : 0 ≤ a % (p : Int) := Int.emod_nonneg _ (by omega)
  have m1 : a % (p : Int) < (p : Int) := Int.emod_lt_of_pos _ (by omega)
  rw [Plain.appo_even hp, sep_even (a % (p : Int)).toNat (by omega) p, show min p (a % (p : Int)).toNat = (a % (p : Int)).toNat by omega]
set_option maxHeartbeats 1600000 in
theorem apportionEven (w : World) (n c : Nat) (A : Option Addr) (h : Code w w.heap.size A n c) : Calls Try.prog 13 #[.slice A n c] w fun e w' => e = .returned (.bool true) ∧ Below w.heap.size w w' := by
  by_cases hn : 1048576 < n
  · go_enter Try.func13, Try.ntmps13
    go_wp2
    go_ret
    exact ⟨rfl, Below.refl _ _⟩
  have hc := h
  unfold Code maxLen at hc
  have hn' : n ≤ 1048576 := by omega
  clear hc hn
  go_enter Try.func13, Try.ntmps13
  go_wp2_with fail
  refine (drawSplitEven_c w n c A h).mono ?_
  rintro e w1 ⟨⟨x, y, rfl⟩, kw⟩
  clear h
  have z1 := kw.size
  have hlen := se_len x y
  go_wp2_with fail
  refine (se_impl x y _).mono ?_
  rintro e w2 ⟨Ao, no, co, rfl, hlo, owno, kk⟩
  have z2 := kk.size
  have kw := K.Kept.trans kw kk
  clear kk
  have so := owno.lt
  go_wp2_with fail
  refine (se_spec x y _).mono ?_
  rintro e w3 ⟨As, ns, cs, rfl, hls, owns, kk⟩
  have owno := K.own_kept owno kk
  have z3 := kk.size
  have kw := K.Kept.trans kw kk
  clear kk
  have ss := owns.lt
  go_wp2_with fail
  refine (equalInts_c _ _ _ _ _ _ _ (se x y) (se x y) (K.rd_own owno) (K.rd_own owns) (by omega) (by omega)).mono ?_
  rintro e w4 ⟨rfl, kk⟩
  have owno := K.own_kept owno kk
  have owns := K.own_kept owns kk
  have z4 := kk.size
  have kw := K.Kept.trans kw kk
  clear kk
  clear owns ss
  clear hls
  by_cases hv : wi x 0 1000000 = true ∧ wi y 1 8 = true
  case neg =>
    have hnil := se_bad hv
    rw [hnil] at hlo
    have hno : no = 0 := by simpa using hlo.symm
    subst hno
    clear hv hnil
    go_wp2_with fail
    refine (se_spec x y _).mono ?_
    rintro e w5 ⟨At, nt, ct, rfl, hlt, ownt, kk⟩
    have owno := K.own_kept owno kk
    have z5 := kk.size
    have kw := K.Kept.trans kw kk
    clear kk
    have st := ownt.lt
    go_wp2_with fail
    refine (equalInts_c _ _ _ _ _ _ _ (se x y) (se x y) (K.rd_own owno) (K.rd_own ownt) (by omega) (by omega)).mono ?_
    rintro e w6 ⟨rfl, kk⟩
    have owno := K.own_kept owno kk
    have ownt := K.own_kept ownt kk
    have z6 := kk.size
    have kw := K.Kept.trans kw kk
    clear kk
    go_wp2
    go_ret
    exact ⟨rfl, kw⟩
  have b1 := wi_true.1 hv.1
  have b2 := wi_true.1 hv.2
  obtain ⟨p, rfl⟩ := Int.eq_ofNat_of_zero_le (show 0 ≤ y by omega)
  rw [se_good hv] at hlo owno
  rw [sep_len] at hlo
  subst hlo
  have hP : 1 ≤ p ∧ p ≤ 8 := by omega
  have hp0 : ((p : Int) == 0) = false := by rw [beq_eq_false_iff_ne]; omega
  clear hv hlen
  obtain ⟨i0, hi, hz0, hz1, hz2⟩ := info_parts info_int
  have hnew : (w4.alloc (.cells #[] 3)).ownsRow w4.heap.size 3 1 (.slice (some ⟨w4.heap.size, 0, none⟩) 0 0) 0 [] := World.ownsRow_lit w4 #[] 0 (Nat.le_refl _) (by unfold maxLen; omega) rfl
  have k0 : K.Kept w4 (w4.alloc (.cells #[] 3)) := (Below.refl _ _).alloc (Nat.le_refl _) _
  have rdo := K.rd_own owno
  have EV := Lib.hid (even_same (a := x) hP.1)
  go_wp2_with fail
  go_loopw [6, 7] (fun v i wr => ∃ (k c : Nat) (A : Option Addr), k ≤ p ∧ i = .int .i64 k ∧ v = .slice A k c ∧ wr.ownsRow w4.heap.size 3 1 (.slice A k c) k ((List.replicate k (7 : Int)).map (Value.int .i64)) ∧ K.Kept w4 wr) (fun _ i _ => p - (intOf i).toNat)
  case atStart => exact ⟨0, 0, _, by omega, rfl, rfl, hnew, k0⟩
  case round =>
    clear hnew k0
    obtain ⟨k, c', A', hk, rfl, rfl, own, hkw⟩ := hrel
    have hzz := hkw.size
    by_cases hlt : k < p
    · go_wp2_with (at_builtin; refine K.wpList_app rfl _ _ 25 rfl w4.heap.size 3 1 8 i0 (.int .i64 0) Try.underlying25 hi hz0 hz1 hz2 rfl (by decide) wr _ k _ (by rfl) own _ (by rfl) (by rfl) (by rfl) (by unfold maxLen; omega) (by omega) (by omega) ?_; intro A6 c6 w6 own6 g6)
      have k6 := K.kept_own hkw own g6 hzz
      have own6' : Hid (w6.ownsRow w4.heap.size 3 1 (.slice A6 (k + 1) c6) (k + 1) ((List.replicate (k + 1) (7 : Int)).map (Value.int .i64))) := by
        unfold Hid
        rw [List.replicate_succ', List.map_append]
        exact own6
      clear own own6 g6 hkw
      go_wp2
      go_roundw
      case rel => exact ⟨k + 1, c6, A6, by omega, by go_num, rfl, own6'.out, k6⟩
      case measure => simp [intOf]; omega
    · have hkn : p = k := by omega
      subst hkn
      have hv2 : wi x 0 1000000 = true ∧ wi ((List.replicate p (7 : Int)).length : Int) 1 8 = true ∧ allB (List.replicate p (7 : Int)) 0 1000000 = true := by
        refine ⟨wi_true.2 b1, wi_true.2 (by rw [List.length_replicate]; omega), List.all_eq_true.2 fun z hz => ?_⟩
        rw [List.eq_of_mem_replicate hz]; decide
      have hag2 := ap_good hv2
      rw [EV.out] at hag2
      clear hv2
      go_wp2_with fail
      refine (ap_impl _ x _ _ _ (List.replicate p 7) (K.rd_own own) (by omega)).mono ?_
      rintro e w5 ⟨A5, n5, c5, rfl, hl5, own5, k5⟩
      rw [hag2] at own5 hl5
      rw [sep_len] at hl5
      subst hl5
      have rdo5 := K.Rd.below (K.Rd.below rdo hkw) (k5.mono hkw.size)
      have k5' := K.Kept.trans (K.Kept.trans kw hkw) k5
      go_wp2_with fail
      refine (equalInts_c _ _ _ _ _ _ _ (sep x p p) (sep x p p) (K.rd_own own5) (K.Rd.more rdo5 (Nat.le_trans hkw.size k5.size)) (by omega) (by omega)).mono ?_
      rintro e w7 ⟨rfl, k7⟩
      go_wp2
      go_ret
      exact ⟨rfl, K.Kept.trans k5' k7⟩
end C
end Go.Proofs.Ytcgaffhoggkbkaa

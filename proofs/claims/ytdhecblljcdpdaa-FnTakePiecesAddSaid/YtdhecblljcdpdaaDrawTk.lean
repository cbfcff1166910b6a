/-
  Contract of the generator of the arguments of TakePieces. Conditions: none.
-/
import Derived.Test.YtdhecblljcdpdaaDrawC
namespace Go.Proofs.Ytdhecblljcdpdaa
open Go.RowKit
namespace C

/-- A shop, a cart and two numbers have been drawn; all that was there is as it was. -/
def DrawnBT (w : World) (e : Ending) (w' : World) : Prop := ∃ (S : Option Addr) (sn sc : Nat) (ls : List K.Q4) (A : Option Addr) (n c : Nat) (l : List (Int × Int)) (a z : Int), e = .returned (.tuple #[.slice S sn sc, .slice A n c, .int .i64 a, .int .i64 z]) ∧ sn ≤ 10 ∧ n ≤ 9 ∧ w'.ownsRow w.heap.size 35 4 (.slice S sn sc) sn (K.qds ls) ∧ w'.ownsRow w.heap.size 37 2 (.slice A n c) n (K.prs l) ∧ K.Kept w w'
set_option maxHeartbeats 2000000 in
theorem drawTakePieces_c (w : World) (n c : Nat) (A : Option Addr) (h : Code w w.heap.size A n c) : Calls Try.prog 37 #[.slice A n c] w (DrawnBT w) := by
  go_enter Try.func37, Try.ntmps37
  go_wp2_with fail
  refine (newReader_c w w.heap.size n c A (Nat.le_refl _) h).mono ?_
  rintro e w1 ⟨rfl, hr1, hk1⟩
  have s1 := hr1.lt
  go_wp2_with fail
  refine (anyBasket_c w1 _ _ 0 (by omega) hk1.size hr1).mono ?_
  rintro e w2 ⟨S, sn, sc, ls, A', n', c', l, q, rfl, hsn, hn', hcb, owns, ownl, rr, hq, hb2⟩
  have HC := Lib.hid hcb
  have bw := hb2
  have zw := bw.size
  have z1 := hk1.size
  have lts := owns.lt
  have ltl := ownl.lt
  have hgl := s1
  clear hr1 h hcb hb2
  by_cases hn0 : n' = 0
  · subst hn0
    (try clear zw)
    go_wp2_with fail
    refine (pick_c _ w2 _ _ _ (by omega) rr).mono ?_
    rintro e v1 ⟨v, rfl, hv, rn, bb⟩
    have hv0 := hv.1
    have hv1 := hv.2.1 (by omega)
    clear hv
    replace owns := owns.kept bb (.inr (fun e => by have := lts _ e; omega))
    replace ownl := ownl.kept bb (.inr (fun e => by have := ltl _ e; omega))
    replace bw := K.But.trans bw bb
    have zw := bw.size
    have y1 := bb.size
    clear bb rr
    have rr := rn
    clear rn
    have kw := K.But.below hk1 bw (by omega) (Nat.le_refl _)
    have O1 := Lib.hid (own_monoP owns hk1.size)
    have O2 := Lib.hid (own_monoP ownl hk1.size)
    clear owns ownl rr bw
    go_wp2
    go_returns
    exact ⟨S, sn, sc, ls, A', 0, c', l, _, _, rfl, hsn, hn', O1.out, O2.out, kw⟩
  · have hn1 : 1 ≤ n' := by omega
    have hnd : decide (0 < n') = true := by simp; omega
    (try clear zw)
    go_wp2_with fail
    refine (pick_c _ w2 _ _ _ (by omega) rr).mono ?_
    rintro e v1 ⟨u, rfl, hu, rn, bb⟩
    have hu0 := hu.1
    have hu1 := hu.2.1 (by omega)
    clear hu
    replace owns := owns.kept bb (.inr (fun e => by have := lts _ e; omega))
    replace ownl := ownl.kept bb (.inr (fun e => by have := ltl _ e; omega))
    replace bw := K.But.trans bw bb
    have zw := bw.size
    have y1 := bb.size
    clear bb rr
    have rr := rn
    clear rn
    by_cases hu0 : u = 0
    · subst hu0
      (try clear zw)
      go_wp2_with fail
      refine (pick_c _ v1 _ _ _ (by omega) rr).mono ?_
      rintro e v2 ⟨v, rfl, hv, rn, bb⟩
      have hv0 := hv.1
      have hv1 := hv.2.1 (by omega)
      clear hv
      replace owns := owns.kept bb (.inr (fun e => by have := lts _ e; omega))
      replace ownl := ownl.kept bb (.inr (fun e => by have := ltl _ e; omega))
      replace bw := K.But.trans bw bb
      have zw := bw.size
      have y2 := bb.size
      clear bb rr
      have rr := rn
      clear rn
      have kw := K.But.below hk1 bw (by omega) (Nat.le_refl _)
      have O1 := Lib.hid (own_monoP owns hk1.size)
      have O2 := Lib.hid (own_monoP ownl hk1.size)
      clear owns ownl rr bw
      go_wp2
      go_returns
      exact ⟨S, sn, sc, ls, A', n', c', l, _, _, rfl, hsn, hn', O1.out, O2.out, kw⟩
    · have hu1 : 1 ≤ u := by omega
      have hud : decide (0 < u) = true := by simp; omega
      (try clear zw)
      go_wp2_with fail
      refine (pick_c _ v1 _ _ _ (by omega) rr).mono ?_
      rintro e v2 ⟨v, rfl, hv, rn, bb⟩
      have hv0 := hv.1
      have hv1 := hv.2.1 (by omega)
      clear hv
      replace owns := owns.kept bb (.inr (fun e => by have := lts _ e; omega))
      replace ownl := ownl.kept bb (.inr (fun e => by have := ltl _ e; omega))
      replace bw := K.But.trans bw bb
      have zw := bw.size
      have y2 := bb.size
      clear bb rr
      have rr := rn
      clear rn
      obtain ⟨k, rfl⟩ := Int.eq_ofNat_of_zero_le hv0
      have hk : k < n' := by omega
      obtain ⟨b, o, x, y, rfl, hb, c1, c2, hx⟩ := K.PR.cell (K.rd_own ownl) hk
      have hxy := HC.out _ (List.mem_of_getElem? hx.out)
      have bx := Box2.new v2 (.int .i64 x) (.int .i64 y) 37
      have kx := kp1 v2 (.cells #[.int .i64 x, .int .i64 y] 37)
      have r3 := rr.kept kx
      have os := K.own_kept owns kx
      have ol := K.own_kept ownl kx
      have bw3 := bw.trans (K.But.of_kept kx)
      have zx := kx.size
      generalize hwx : v2.alloc (.cells #[.int .i64 x, .int .i64 y] 37) = wx at bx kx r3 os ol bw3 zx
      clear owns ownl rr bw kx
      have hs1 : IntKind.i64.wrap (y + 1) = y + 1 := by rw [IntKind.wrap_i64]; omega
      obtain ⟨j0, j1, j2, j3, j4⟩ := id bx
      have l3 := r3.lt
      go_wp2_with fail
      go_region_held3 (fun w' => w'.cell? ⟨v2.heap.size, 0, none⟩ = some (.int .i64 x) ∧ w'.cell? ⟨v2.heap.size, 1, none⟩ = some (.int .i64 y)) (first | exact ⟨j0, j1⟩ | exact ⟨i0, i1⟩ | go_keep) (first | (go_at_call 51; refine (one_new' (fun _ => true) wx.drew _ _ _ 5 _ _ (by omega) (r3.kept (kdrew _)) (by omega) rfl rfl rfl).mono ?_; rintro e w4 ⟨z, rfl, _, r4, b4⟩; have t0 : wx.drew.heap.size = wx.heap.size := rfl; have d5 := (bx.kept (kdrew _)).but b4 (by omega); have o1 := (K.own_kept os (kdrew _)).kept b4 (.inr (fun e => by have := lts _ e; omega)); have o2 := (K.own_kept ol (kdrew _)).kept b4 (.inr (fun e => by have := ltl _ e; omega)); have bw4 := (bw3.trans (K.But.of_kept (kdrew _))).trans b4; obtain ⟨i0, i1, i2, i3, i4⟩ := id d5))
      all_goals
        have kw := K.But.below hk1 bw4 (by omega) (Nat.le_refl _)
        have O1 := Lib.hid (own_monoP o1 hk1.size)
        have O2 := Lib.hid (own_monoP o2 hk1.size)
        clear o1 o2 os ol r3 r4 bw3 bw4 b4
        go_wp2
        go_returns
        exact ⟨S, sn, sc, ls, _, n', c', l, _, _, rfl, hsn, hn', O1.out, O2.out, kw⟩
end C
end Go.Proofs.Ytdhecblljcdpdaa

/-
  Contracts of UnionSpan, of the program and of the reference: both return the same plain function. Conditions: lengths below 2^40.
-/
import Derived.Test.YtoooliadnjojeaaSpansV
import Derived.Test.YtoooliadnjojeaaBox
namespace Go.Proofs.Ytoooliadnjojeaa
open Go.RowKit
namespace C

/-- What UnionSpan returns. -/
def uOk (l : List (Int × Int)) (s : Int × Int) : Bool := Plain.vSpans l && vsp s.1 s.2 && decide ((Plain.uni l s).length ≤ 6)
def uL (l : List (Int × Int)) (s : Int × Int) : List (Int × Int) := if uOk l s = true then Plain.uni l s else []
theorem uOk_no1 {l : List (Int × Int)} {s : Int × Int} (h : Plain.vSpans l = false) : uOk l s = false := by rw [uOk, h]; rfl
theorem uOk_no2 {l : List (Int × Int)} {s : Int × Int} (h : vsp s.1 s.2 = false) : uOk l s = false := by rw [uOk, h]; simp
theorem uL_no {l : List (Int × Int)} {s : Int × Int} (h : uOk l s = false) : uL l s = [] := by rw [uL, h]; rfl
theorem uL_yes {l : List (Int × Int)} {s : Int × Int} (h : uOk l s = true) : uL l s = Plain.uni l s := by rw [uL, if_pos h]
/-- A fresh list, and whether there is one. -/
def LB (t : TypeId) (w : World) (l : List (Int × Int)) (b : Bool) (e : Ending) (w' : World) : Prop := ∃ (A : Option Addr) (n c : Nat), e = .returned (.tuple #[.slice A n c, .bool b]) ∧ l.length = n ∧ w'.ownsRow w.heap.size t 2 (.slice A n c) n (K.prs l) ∧ K.Kept w w'
theorem LB.of {t : TypeId} {w : World} {l l' : List (Int × Int)} {b b' : Bool} {e : Ending} {w' : World} (h : LB t w l b e w') (h1 : l = l') (h2 : b = b') : LB t w l' b' e w' := by subst h1 h2; exact h
theorem LB.nil (t : TypeId) {w w' : World} (b : Bool) (h : K.Kept w w') : LB t w [] b (.returned (.tuple #[.slice none 0 0, .bool b])) w' := ⟨_, _, _, rfl, rfl, World.ownsRow_nil _ _ _ _, h⟩
theorem LB.lit (t : TypeId) {w w0 : World} (b : Bool) (h : K.Kept w w0) {g : Nat} (hg : g = w0.heap.size) : LB t w [] b (.returned (.tuple #[.slice (some ⟨g, 0, none⟩) 0 0, .bool b])) (w0.alloc (.cells #[] t)) :=
  hg ▸ ⟨_, _, _, rfl, rfl, World.ownsRow_lit w0 #[] 0 h.size (by unfold maxLen; omega) rfl, K.Kept.trans h (kp1 _ _)⟩
/-- The state of the program's loop: two rows of the call's own and the span in its block. -/
def UInv (T : TypeId) (l : List (Int × Int)) (s0 : Int × Int) (w wr : World) (k : Nat) (A : Option Addr) (j c : Nat) (B : Option Addr) (m d : Nat) (bl al : List (Int × Int)) (s1 s2 : Int) : Prop :=
  wr.ownsRow (w.heap.size + 1) T 2 (.slice A j c) j (K.prs bl) ∧ wr.ownsRow (w.heap.size + 1) T 2 (.slice B m d) m (K.prs al) ∧
  (∀ i i', (Value.slice A j c).ownBlock = some i → (Value.slice B m d).ownBlock = some i' → i ≠ i') ∧ Box2 wr w.heap.size (.int .i64 s1) (.int .i64 s2) ∧ K.Kept w wr ∧
  (l.take k).foldl Plain.ustep ([], s0, []) = (bl, (s1, s2), al) ∧ j + m ≤ k ∧ Plain.V (s1, s2)
section
variable {T : TypeId} {l : List (Int × Int)} {s0 : Int × Int} {w wr w3 : World} {k j c m d c3 : Nat} {A B A3 : Option Addr} {bl al : List (Int × Int)} {s1 s2 p q : Int}
theorem ufold_snoc (hx : l[k]? = some (p, q)) {st : List (Int × Int) × (Int × Int) × List (Int × Int)} (h : (l.take k).foldl Plain.ustep ([], s0, []) = st) : (l.take (k + 1)).foldl Plain.ustep ([], s0, []) = Plain.ustep st (p, q) := by
  rw [K.take_snoc hx, List.foldl_append, h]; rfl
theorem UInv.bef (H : UInv T l s0 w wr k A j c B m d bl al s1 s2) (hx : l[k]? = some (p, q)) (hc : q + 1 < s1) (o : Obj)
    (h3 : w3.ownsRow (w.heap.size + 1) T 2 (.slice A3 (j + 1) c3) (j + 1) (K.prs bl ++ [.int .i64 p, .int .i64 q])) (hg : (wr.alloc o).grownBy w3 (Value.slice A j c).ownBlock)
    (hn : ∀ i, (Value.slice A3 (j + 1) c3).ownBlock = some i → (Value.slice A j c).ownBlock = some i ∨ (wr.alloc o).heap.size < i) :
    UInv T l s0 w w3 (k + 1) A3 (j + 1) c3 B m d (bl ++ [(p, q)]) al s1 s2 := by
  obtain ⟨ob, oa, ne, bx, kp, st, jm, v⟩ := H
  have la := oa.lt
  have lb := ob.lt
  have sz : (wr.alloc o).heap.size = wr.heap.size + 1 := by simp
  refine ⟨by rw [K.prs_append]; exact h3, ?_, ?_, ?_, ?_, ?_, by omega, v⟩
  · refine K.own_other (oa.alloc o) hg fun i i' hi hi' => ?_
    exact fun e => ne i' i hi' hi e.symm
  · intro i i' hi hi'
    rcases hn i hi with h | h
    · exact ne i i' h hi'
    · have := la i' hi'; omega
  · refine Box2.grown (bx.kept (kp1 _ o)) hg fun e => ?_
    have := lb _ e; omega
  · exact (K.Kept.trans kp (kp1 _ o)).grown hg (by have := kp.size; omega) fun i hi => by have := lb i hi; omega
  · rw [ufold_snoc hx st, Plain.ustep]; simp only; rw [if_pos hc]
theorem UInv.aft (H : UInv T l s0 w wr k A j c B m d bl al s1 s2) (hx : l[k]? = some (p, q)) (hc1 : ¬ q + 1 < s1) (hc : s2 + 1 < p) (o : Obj)
    (h3 : w3.ownsRow (w.heap.size + 1) T 2 (.slice A3 (m + 1) c3) (m + 1) (K.prs al ++ [.int .i64 p, .int .i64 q])) (hg : (wr.alloc o).grownBy w3 (Value.slice B m d).ownBlock)
    (hn : ∀ i, (Value.slice A3 (m + 1) c3).ownBlock = some i → (Value.slice B m d).ownBlock = some i ∨ (wr.alloc o).heap.size < i) :
    UInv T l s0 w w3 (k + 1) A j c A3 (m + 1) c3 bl (al ++ [(p, q)]) s1 s2 := by
  obtain ⟨ob, oa, ne, bx, kp, st, jm, v⟩ := H
  have la := oa.lt
  have lb := ob.lt
  have sz : (wr.alloc o).heap.size = wr.heap.size + 1 := by simp
  refine ⟨?_, by rw [K.prs_append]; exact h3, ?_, ?_, ?_, ?_, by omega, v⟩
  · refine K.own_other (ob.alloc o) hg fun i i' hi hi' => ?_
    exact ne i i' hi hi'
  · intro i i' hi hi'
    rcases hn i' hi' with h | h
    · exact ne i i' hi h
    · have := lb i hi; omega
  · refine Box2.grown (bx.kept (kp1 _ o)) hg fun e => ?_
    have := la _ e; omega
  · exact (K.Kept.trans kp (kp1 _ o)).grown hg (by have := kp.size; omega) fun i hi => by have := la i hi; omega
  · rw [ufold_snoc hx st, Plain.ustep]; simp only; rw [if_neg hc1, if_pos hc]
theorem UInv.mid (H : UInv T l s0 w wr k A j c B m d bl al s1 s2) (hx : l[k]? = some (p, q)) (vp : Plain.V (p, q)) (hc1 : ¬ q + 1 < s1) (hc : ¬ s2 + 1 < p) (o : Obj) {m1 m2 : Int} (h1 : m1 = min s1 p) (h2 : m2 = max s2 q) :
    UInv T l s0 w (((wr.setCell ⟨w.heap.size, 0, none⟩ (.int .i64 m1)).setCell ⟨w.heap.size, 1, none⟩ (.int .i64 m2)).alloc o) (k + 1) A j c B m d bl al m1 m2 := by
  obtain ⟨ob, oa, ne, bx, kp, st, jm, v⟩ := H
  have la := oa.lt
  have lb := ob.lt
  have g1 : K.But w.heap.size wr ((wr.setCell ⟨w.heap.size, 0, none⟩ (.int .i64 m1)).setCell ⟨w.heap.size, 1, none⟩ (.int .i64 m2)) :=
    ((K.But.refl _ _).setCell (p := ⟨w.heap.size, 0, none⟩) (.inl rfl) _).setCell (p := ⟨w.heap.size, 1, none⟩) (.inl rfl) _
  refine ⟨(ob.kept g1 ?_).alloc o, (oa.kept g1 ?_).alloc o, ne, (bx.put _ _).kept (kp1 _ o), K.Kept.trans ((kp.setCell (p := ⟨w.heap.size, 0, none⟩) (Nat.le_refl _) _).setCell (p := ⟨w.heap.size, 1, none⟩) (Nat.le_refl _) _) (kp1 _ o), ?_, by omega, by rw [h1, h2]; exact Plain.v_hull v vp⟩
  · right; intro e; have := lb _ e; omega
  · right; intro e; have := la _ e; omega
  · rw [ufold_snoc hx st, Plain.ustep]; simp only; rw [if_neg hc1, if_neg hc, h1, h2]; rfl
end
theorem UInv.start {T : TypeId} {l : List (Int × Int)} {x y : Int} {w w2 : World} (hB : Box2 w2 w.heap.size (.int .i64 x) (.int .i64 y)) (hk : K.Kept w w2) (hv : Plain.V (x, y)) :
    UInv T l (x, y) w ((w2.alloc (.cells #[] T)).alloc (.cells #[] T)) 0 (some ⟨w2.heap.size, 0, none⟩) 0 0 (some ⟨w2.heap.size + 1, 0, none⟩) 0 0 [] [] x y := by
  have hb := hB.2.2.2.2
  have o1 : (w2.alloc (.cells #[] T)).ownsRow (w.heap.size + 1) T 2 (.slice (some ⟨w2.heap.size, 0, none⟩) 0 0) 0 [] := World.ownsRow_lit w2 #[] 0 (by omega) (by unfold maxLen; omega) rfl
  have o2 : ((w2.alloc (.cells #[] T)).alloc (.cells #[] T)).ownsRow (w.heap.size + 1) T 2 (.slice (some ⟨(w2.alloc (.cells #[] T)).heap.size, 0, none⟩) 0 0) 0 [] := World.ownsRow_lit _ #[] 0 (by simp; omega) (by unfold maxLen; omega) rfl
  rw [show (w2.alloc (.cells #[] T)).heap.size = w2.heap.size + 1 by simp] at o2
  refine ⟨o1.alloc _, o2, ?_, (hB.kept (kp1 _ _)).kept (kp1 _ _), K.Kept.trans hk (K.Kept.trans (kp1 _ _) (kp1 _ _)), by simp, by omega, hv⟩
  intro i i' h1 h2
  simp [Value.ownBlock] at h1 h2
  omega
theorem ch_of {l : List (Int × Int)} (h : Plain.vSpans l = true) : Plain.Ch l ∧ l.length ≤ 6 := (Plain.vSpans_iff l).1 h
theorem ch_at {l : List (Int × Int)} {k : Nat} {x : Int × Int} (h : Plain.Ch l) (hx : l[k]? = some x) : Plain.V x := h.1 x (List.mem_of_getElem? hx)
theorem uend {l : List (Int × Int)} {n : Nat} {s0 : Int × Int} {bl al : List (Int × Int)} {s1 s2 : Int} (hl : l.length = n) (hc : Plain.Ch l) (hv : Plain.V s0) (h : (l.take n).foldl Plain.ustep ([], s0, []) = (bl, (s1, s2), al)) : Plain.uni l s0 = bl ++ [(s1, s2)] ++ al := by
  rw [K.take_all hl, Plain.ufold l [] s0 [] hc hv] at h
  simp only [List.nil_append, Prod.mk.injEq] at h
  obtain ⟨h1, h2, h3⟩ := h
  unfold Plain.uni
  rw [h2] at h3
  rw [h1, h2, h3]
theorem uOk_eq {l : List (Int × Int)} {x y : Int} {u : List (Int × Int)} (h1 : Plain.vSpans l = true) (h2 : vsp x y = true) (_h : Plain.uni l (x, y) = u) : uOk l (x, y) = decide ((Plain.uni l (x, y)).length ≤ 6) := by rw [uOk, h1, h2]; rfl
theorem own_mono {w : World} {base base' : Nat} {e : TypeId} {size : Nat} {v : Value} {n : Nat} {xs : List Value} (h : w.ownsRow base e size v n xs) (hb : base' ≤ base) : w.ownsRow base' e size v n xs :=
  ⟨h.1, h.2.imp id fun ⟨g, cap, cur, a, b, c⟩ => ⟨g, cap, cur, a, Nat.le_trans hb b, c⟩⟩
theorem uni_own {w : World} {base : Nat} {e : TypeId} {v : Value} {j m : Nat} {u bl al : List (Int × Int)} {s1 s2 : Int} (hu : u = bl ++ [(s1, s2)] ++ al) (h : w.ownsRow base e 2 v (j + 1 + m) (K.prs bl ++ [.int .i64 s1, .int .i64 s2] ++ K.prs al)) :
    w.ownsRow base e 2 v (j + 1 + m) (K.prs u) ∧ u.length = j + 1 + m := by
  have e : K.prs u = K.prs bl ++ [.int .i64 s1, .int .i64 s2] ++ K.prs al := by rw [hu, K.prs_append, K.prs_append]; rfl
  rw [e]
  refine ⟨h, ?_⟩
  have := h.1
  rw [← e, K.prs_len] at this
  omega
set_option maxHeartbeats 2000000 in
theorem unionSpan_i (w : World) (A : Option Addr) (n c : Nat) (l : List (Int × Int)) (x y : Int) (h : K.PR w w.heap.size A n l) (hn : n ≤ 1099511627776) : Calls Try.prog 35 #[.slice A n c, .agg #[.int .i64 x, .int .i64 y]] w (LB 24 w (uL l (x, y)) (uOk l (x, y))) := by
  have L := Lib.hid (K.PR.len h)
  have b0 := Box2.new w (.int .i64 x) (.int .i64 y) 24
  have k0 := kp1 w (.cells #[.int .i64 x, .int .i64 y] 24)
  generalize hw0 : w.alloc (.cells #[.int .i64 x, .int .i64 y] 24) = w0 at b0 k0
  have h0 := (K.Rd.below h k0).more k0.size
  cases h1 : Plain.vSpans l
  · rw [uOk_no1 h1, uL_no (uOk_no1 h1)]
    go_enter Try.func35, Try.ntmps35
    go_wp2_with fail
    refine (validSpans_i w0 A n c l h0 hn).mono ?_
    rintro e w1 ⟨rfl, k1⟩
    go_wp2
    go_ret2
    exact LB.lit _ _ (K.Kept.trans k0 k1) rfl
  · cases h2 : vsp x y
    · rw [uOk_no2 h2, uL_no (uOk_no2 h2)]
      go_enter Try.func35, Try.ntmps35
      go_wp2_with fail
      refine (validSpans_i w0 A n c l h0 hn).mono ?_
      rintro e w1 ⟨rfl, k1⟩
      obtain ⟨d1, d2, d3, d4, d5⟩ := b0.kept k1
      go_wp2_with (go_at_call 25; refine (validSpan_i _ _ _).mono ?_; rintro e w' ⟨rfl, rfl⟩)
      go_ret2
      exact LB.lit _ _ (K.Kept.trans k0 (K.Kept.trans k1 (kp1 _ _))) (by simp)
    · have C := ch_of h1
      have hn6 : n ≤ 6 := by have := L.out; omega
      obtain ⟨i0, hi, hz0, hz1, hz2⟩ := info_parts infoSpan
      have CH := Lib.hid C.1
      have H1 := Lib.hid h1
      have H2 := Lib.hid h2
      clear C
      go_enter Try.func35, Try.ntmps35
      go_wp2_with fail
      refine (validSpans_i w0 A n c l h0 hn).mono ?_
      rintro e w1 ⟨rfl, k1⟩
      have bx := b0.kept k1
      obtain ⟨d1, d2, d3, d4, d5⟩ := id bx
      go_wp2_with fail
      refine (validSpan_ib x y true w1 h2).mono ?_
      rintro e w2 ⟨rfl, hw2⟩
      have k2 : K.Kept w w2 := K.Kept.trans k0 (K.Kept.trans k1 (hw2 ▸ kp1 _ _))
      have I0 := UInv.start (T := 24) (l := l) (bx.kept (hw2 ▸ kp1 _ _)) k2 (v_iff.2 H2.out)
      have h2' := (K.Rd.below h k2)
      clear d1 d2 d3 d4 d5 bx b0 hw2 k0 k1 h0 h1 h2
      go_wp2_with fail
      go_loopw [6, 7, 24] (fun v u i wr => ∃ (k j c m d : Nat) (A' B' : Option Addr) (bl al : List (Int × Int)) (s1 s2 : Int), k ≤ n ∧ i = .int .i64 k ∧ v = .slice A' j c ∧ u = .slice B' m d ∧ UInv 24 l (x, y) w wr k A' j c B' m d bl al s1 s2) (fun _ _ i _ => n - (intOf i).toNat)
      case atStart => exact ⟨0, 0, 0, 0, 0, _, _, [], [], x, y, Nat.zero_le _, rfl, rfl, rfl, I0⟩
      case round =>
        clear I0
        obtain ⟨k, j, c', m, d, A', B', bl, al, s1, s2, hk, rfl, rfl, rfl, I⟩ := hrel
        by_cases hlt : k < n
        · obtain ⟨b, o, p, q, rfl, hb, c1, c2, hx⟩ := K.PR.cell (K.Rd.below h I.2.2.2.2.1) hlt
          have vp := ch_at CH.out hx.out
          have vs := I.2.2.2.2.2.2.2
          have jm := I.2.2.2.2.2.2.1
          have vp' : 0 ≤ p ∧ p ≤ 1000000 ∧ p ≤ q ∧ q ≤ 1000000 := vp
          have vs' : 0 ≤ s1 ∧ s1 ≤ 1000000 ∧ s1 ≤ s2 ∧ s2 ≤ 1000000 := vs
          obtain ⟨e1, e2, e3, e4, e5⟩ := id I.2.2.2.1
          have z := I.2.2.2.2.1.size
          by_cases t1 : q + 1 < s1
          · have ob := I.1
            have IH := Lib.hid I
            clear I
            go_wp2_with (at_builtin; refine app3 rfl _ _ 33 rfl (w.heap.size + 1) 24 2 16 i0 (.agg #[.int .i64 0, .int .i64 0]) Try.underlying33 hi hz0 hz1 hz2 rfl (by decide) (wr.alloc (.cells #[.int .i64 p, .int .i64 q] 24)) _ j _ (by rfl) (ob.alloc _) _ _ (by rfl) (by first | rfl | simp) (by rfl) (by rfl) (by unfold maxLen; omega) (by omega) (by first | omega | (simp; omega)) ?_; intro A3 c3 w3 own3 hg3 hn3)
            have I3 := Lib.hid (UInv.bef IH.out hx.out (by omega) _ own3 hg3 hn3)
            clear own3 hg3 hn3 ob e1 e2 e3 e4 e5 c1 c2
            go_wp2
            go_roundw
            case rel => exact ⟨k + 1, j + 1, c3, m, d, A3, B', bl ++ [(p, q)], al, s1, s2, by omega, by go_num, rfl, rfl, I3.out⟩
            case measure => simp [intOf]; omega
          · by_cases t2 : s2 + 1 < p
            · have oa := I.2.1
              have IH := Lib.hid I
              clear I
              go_wp2_with (at_builtin; refine app3 rfl _ _ 33 rfl (w.heap.size + 1) 24 2 16 i0 (.agg #[.int .i64 0, .int .i64 0]) Try.underlying33 hi hz0 hz1 hz2 rfl (by decide) (wr.alloc (.cells #[.int .i64 p, .int .i64 q] 24)) _ m _ (by rfl) (oa.alloc _) _ _ (by rfl) (by first | rfl | simp) (by rfl) (by rfl) (by unfold maxLen; omega) (by omega) (by first | omega | (simp; omega)) ?_; intro A3 c3 w3 own3 hg3 hn3)
              have I3 := Lib.hid (UInv.aft IH.out hx.out (by omega) (by omega) _ own3 hg3 hn3)
              clear own3 hg3 hn3 oa e1 e2 e3 e4 e5 c1 c2
              go_wp2
              go_roundw
              case rel => exact ⟨k + 1, j, c', m + 1, c3, A', A3, bl, al ++ [(p, q)], s1, s2, by omega, by go_num, rfl, rfl, I3.out⟩
              case measure => simp [intOf]; omega
            · have I3 := Lib.hid (fun m1 m2 => UInv.mid (m1 := m1) (m2 := m2) I hx.out vp t1 t2 (.cells #[.int .i64 p, .int .i64 q] 24))
              clear I
              go_wp2
              go_roundw
              case rel => exact ⟨k + 1, j, c', m, d, A', B', bl, al, _, _, by omega, by go_num, rfl, rfl, I3.out _ _ (by split <;> omega) (by split <;> omega)⟩
              case measure => simp [intOf]; omega
        · have hkn : n = k := by omega
          subst hkn
          obtain ⟨ob, oa, ne, bx, kp, st, jm, v⟩ := I
          have st' := uend L.out CH.out (v_iff.2 H2.out) st
          have UO := Lib.hid (uOk_eq H1.out H2.out st')
          have ST := Lib.hid st'
          have lb := ob.lt
          have la := oa.lt
          have z := kp.size
          have NE := Lib.hid ne
          obtain ⟨e1, e2, e3, e4, e5⟩ := bx
          clear st st' ne v
          go_wp2_with (first | (at_builtin; refine app3 rfl _ _ 33 rfl (w.heap.size + 1) 24 2 16 i0 (.agg #[.int .i64 0, .int .i64 0]) Try.underlying33 hi hz0 hz1 hz2 rfl (by decide) wr _ j _ (by rfl) ob _ _ (by rfl) (by first | rfl | simp) (by rfl) (by rfl) (by unfold maxLen; omega) (by omega) (by first | omega | (simp; omega)) ?_; intro A3 c3 w3 own3 hg3 hn3) | (at_builtin; have kp3 : K.Kept w w3 := kp.grown hg3 (by omega) (fun i hi => by have := lb i hi; omega); have oa3 := K.own_other oa hg3 (fun i i' hi hi' e => NE.out i' i hi' hi e.symm); have lb3 := own3.lt; have z3 := kp3.size; have z4 := hg3.size; have z5 : w.heap.size < w3.heap.size := (by omega); have RA := K.rd_own oa3; clear hg3 hn3 ob oa e1 e2 e3 e4 e5; refine K.wpList_appAny rfl _ _ 33 rfl (w.heap.size + 1) 24 2 16 i0 (.agg #[.int .i64 0, .int .i64 0]) Try.underlying33 hi hz0 hz1 hz2 rfl (by decide) w3 _ (j + 1) _ (by rfl) own3 _ B' m d _ (by rfl) RA (K.prs_one al) (by unfold maxLen; omega) (by omega) (by omega) ?_; intro A4 c4 w4 own4 hg4; have kp4 : K.Kept w w4 := kp3.grown hg4 (by omega) (fun i hi => by have := lb3 i hi; omega); have OW := Lib.hid (uni_own ST.out (own_mono own4 (Nat.le_succ _))); clear own3 hg4 RA oa3 own4; generalize hq : j + 1 + m = q at OW ⊢; clear hq))
          all_goals go_ret2
          · have hok := Lib.hid (UO.out.trans (decide_eq_false (by have := OW.out.2; omega)))
            rw [uL_no hok.out, hok.out]
            exact LB.lit _ _ kp4 rfl
          · have hok := Lib.hid (UO.out.trans (decide_eq_true (by have := OW.out.2; omega)))
            rw [uL_yes hok.out, hok.out]
            exact ⟨_, _, _, rfl, OW.out.2, OW.out.1, kp4⟩
end C
end Go.Proofs.Ytoooliadnjojeaa

/-
  Contracts of what marks guards and points and reads the marks of points. Conditions: lengths below 2^40.
-/
import Derived.Test.YtapjlbcpfemeiaaGPlain
namespace Go.Proofs.Ytapjlbcpfemeiaa
open Go.RowKit
namespace C

theorem grown_alloc {w w' : World} {row : Option Nat} (o : Obj) (h : (w.alloc o).grownBy w' row) : w.grownBy w' row :=
  ⟨h.os, h.tape, h.output, Nat.le_trans (by simp) h.size, fun k hk hne => by
    rw [h.block k (by simp; omega) hne]
    exact Below.heap_alloc w o k hk⟩
set_option maxRecDepth 100000 in
set_option maxHeartbeats 1000000 in
theorem markGuard_c (w : World) (base : Nat) (x y u : Int) (A : Option Addr) (n c : Nat) (l : List (Int × Int)) (k0 : Int) (h : w.ownsRow base 24 2 (.slice A n c) n (K.prs l)) (hn : n ≤ 1099511627776) (h0 : 0 ≤ k0 ∧ k0 ≤ 1099511627776) : Calls Try.prog 37 #[.agg #[.int .i64 x, .int .i64 y, .slice A n c, .int .i64 u], .int .i64 k0] w fun e w' => e = .returned (.int .i64 (k0 + 2 * (n : Int))) ∧ w.grownBy w' (Value.slice A n c).ownBlock := by
  have bx_g : BoxN (w.alloc (.cells #[.int .i64 x, .int .i64 y, .slice A n c, .int .i64 u] 27)) w.heap.size (#[.int .i64 x, .int .i64 y, .slice A n c, .int .i64 u] : Array Value).toList := BoxN.new w _ _
  have own := h.alloc (.cells #[.int .i64 x, .int .i64 y, .slice A n c, .int .i64 u] 27)
  obtain ⟨g0, g1, g2, g3, g4, g5, g6, g7, g8⟩ := BoxN.at4 bx_g
  go_enter Try.func37, Try.ntmps37
  go_wp2_with fail
  refine (markSpanS_c _ A base n c l k0 own hn h0).mono ?_
  rintro e w2 ⟨rfl, _, gg⟩
  go_wp2
  go_ret
  exact ⟨rfl, grown_alloc _ gg⟩
set_option maxRecDepth 100000 in
set_option maxHeartbeats 1000000 in
theorem markPoint_c (w : World) (base : Nat) (t : Int) (D : Option Addr) (nd cd : Nat) (cs : List Int) (E : Option Addr) (ne ce : Nat) (co : List Int) (k0 : Int) (h1 : w.ownsRow base 3 1 (.slice D nd cd) nd (cs.map (Value.int .i64))) (h2 : w.ownsRow base 3 1 (.slice E ne ce) ne (co.map (Value.int .i64))) (hne : ∀ i j, (Value.slice D nd cd).ownBlock = some i → (Value.slice E ne ce).ownBlock = some j → i ≠ j) (hd : nd ≤ 1048576) (he : ne ≤ 1048576) (h0 : 0 ≤ k0 ∧ k0 ≤ 1048576) (hb : base ≤ w.heap.size) : Calls Try.prog 38 #[.agg #[.int .i64 t, .slice D nd cd, .slice E ne ce], .int .i64 k0] w fun e w' => e = .returned (.int .i64 (k0 + nd + ne)) ∧ w'.ownsRow base 3 1 (.slice D nd cd) nd ((marks k0 nd).map (Value.int .i64)) ∧ w'.ownsRow base 3 1 (.slice E ne ce) ne ((marks (k0 + nd) ne).map (Value.int .i64)) ∧ (∀ B, B ≤ base → Below B w w') ∧ (∀ b, b < base → w'.heap[b]? = w.heap[b]?) ∧ (∀ b vs, BoxN w b vs → (∀ i, (Value.slice D nd cd).ownBlock = some i → i ≠ b) → (∀ i, (Value.slice E ne ce).ownBlock = some i → i ≠ b) → BoxN w' b vs) := by
  have bx_p : BoxN (w.alloc (.cells #[.int .i64 t, .slice D nd cd, .slice E ne ce] 30)) w.heap.size (#[.int .i64 t, .slice D nd cd, .slice E ne ce] : Array Value).toList := BoxN.new w _ _
  have o1 := h1.alloc (.cells #[.int .i64 t, .slice D nd cd, .slice E ne ce] 30)
  have o2 := h2.alloc (.cells #[.int .i64 t, .slice D nd cd, .slice E ne ce] 30)
  have l1 := h1.lt
  have l2 := h2.lt
  have HN := Lib.hid hne
  have K0 := kp1 w (.cells #[.int .i64 t, .slice D nd cd, .slice E ne ce] 30)
  generalize hw0 : w.alloc (.cells #[.int .i64 t, .slice D nd cd, .slice E ne ce] 30) = w0 at bx_p o1 o2 K0
  obtain ⟨p0, p1, p2, p3, p4, p5, p6⟩ := BoxN.at3 bx_p
  go_enter Try.func38, Try.ntmps38
  go_wp2_with fail
  refine (markIntS_c _ D base nd cd cs k0 o1 (by omega) (by omega)).mono ?_
  rintro e w2 ⟨rfl, o3, gg⟩
  have o4 := K.own_other o2 gg (fun i j hi hj e => HN.out j i hj hi e.symm)
  have bx_2 := bx_p.grown gg (fun e => by have := (l1 _ e).2; omega)
  clear p0 p1 p2 p3 p4 p5 p6
  obtain ⟨p0, p1, p2, p3, p4, p5, p6⟩ := BoxN.at3 bx_2
  go_wp2_with fail
  refine (markIntS_c _ E base ne ce co (k0 + nd) o4 (by omega) (by omega)).mono ?_
  rintro e w3 ⟨rfl, o5, gh⟩
  have o6 := K.own_other o3 gh HN.out
  go_wp2
  go_ret
  have sz := K0.size
  refine ⟨rfl, o6, o5, fun B hB => ?_, fun b hb' => ?_, fun b vs hx n1 n2 => ?_⟩
  · exact kgrown (kgrown (K0.mono (Nat.le_trans hB hb)) gg (by omega) (fun i hi => by have := (l1 i hi).1; omega)) gh (by have := gg.size; omega) (fun i hi => by have := (l2 i hi).1; omega)
  · have e1 := gh.block b (by have := gg.size; omega) (fun e => by have := (l2 b e.symm).1; omega)
    have e2 := gg.block b (by omega) (fun e => by have := (l1 b e.symm).1; omega)
    exact e1.trans (e2.trans (K0.block b (by omega)))
  · exact BoxN.grown (BoxN.grown (hx.kept K0) gg (fun e => n1 _ e rfl)) gh (fun e => n2 _ e rfl)
set_option maxRecDepth 100000 in
set_option maxHeartbeats 1000000 in
theorem heldPoint_c (w : World) (t : Int) (D : Option Addr) (nd cd : Nat) (E : Option Addr) (ne ce : Nat) (k0 : Int) (h1 : K.IR w w.heap.size D nd (marks k0 nd)) (h2 : K.IR w w.heap.size E ne (marks (k0 + nd) ne)) (hd : nd ≤ 1048576) (he : ne ≤ 1048576) (h0 : 0 ≤ k0 ∧ k0 ≤ 1048576) : Calls Try.prog 39 #[.agg #[.int .i64 t, .slice D nd cd, .slice E ne ce], .int .i64 k0] w fun e w' => e = .returned (.int .i64 (k0 + nd + ne)) ∧ K.Kept w w' := by
  have bx_p : BoxN (w.alloc (.cells #[.int .i64 t, .slice D nd cd, .slice E ne ce] 30)) w.heap.size (#[.int .i64 t, .slice D nd cd, .slice E ne ce] : Array Value).toList := BoxN.new w _ _
  have K0 := kp1 w (.cells #[.int .i64 t, .slice D nd cd, .slice E ne ce] 30)
  have R1 := rdw h1 K0
  have R2 := rdw h2 K0
  generalize hw0 : w.alloc (.cells #[.int .i64 t, .slice D nd cd, .slice E ne ce] 30) = w0 at bx_p R1 R2 K0
  obtain ⟨p0, p1, p2, p3, p4, p5, p6⟩ := BoxN.at3 bx_p
  go_enter Try.func39, Try.ntmps39
  go_wp2_with fail
  refine (heldIntS_c _ D nd cd k0 R1 (by omega) (by omega)).mono ?_
  rintro e w2 ⟨rfl, rfl⟩
  have q1 : decide (k0 + (nd : Int) < 0) = false := by simp; omega
  go_wp2_with fail
  refine (heldIntS_c _ E ne ce (k0 + nd) R2 (by omega) (by omega)).mono ?_
  rintro e w2 ⟨rfl, rfl⟩
  have q2 : decide (k0 + (nd : Int) + (ne : Int) < 0) = false := by simp; omega
  go_wp2
  go_ret
  exact ⟨rfl, K0⟩
end C
end Go.Proofs.Ytapjlbcpfemeiaa

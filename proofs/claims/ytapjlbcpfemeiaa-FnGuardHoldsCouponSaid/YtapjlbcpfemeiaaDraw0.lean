/-
  Contracts of the generators of amounts. Conditions: a position below some hundred thousands.
-/
import Derived.Test.YtapjlbcpfemeiaaReader
namespace Go.Proofs.Ytapjlbcpfemeiaa
open Go.RowKit
namespace C

/-- A code that came in: bytes below block B. -/
def Code (w : World) (B : Nat) (A : Option Addr) (n c : Nat) : Prop := n ≤ c ∧ c ≤ maxLen ∧ ∃ zs : List Int, K.Rd w B 1 A n (zs.map (Value.int .u8)) ∧ ∀ z ∈ zs, 0 ≤ z ∧ z ≤ 255
theorem rd_take {w : World} {B n k : Nat} {A : Option Addr} {xs : List Value} (h : K.Rd w B 1 A n xs) (hk : k ≤ n) : K.Rd w B 1 A k (xs.take k) := by
  refine ⟨by have := h.1; simp; omega, fun hn => ?_⟩
  obtain ⟨b, off, e, hb, hc⟩ := h.2 (by omega)
  refine ⟨b, off, e, hb, fun j u hu => hc j u ?_⟩
  rw [List.getElem?_take] at hu
  split at hu
  · exact hu
  · cases hu
theorem rdr_new {w : World} {B m c : Nat} {A : Option Addr} {zs : List Int} (hB : B ≤ w.heap.size) (hm : m ≤ 2000) (hr : K.Rd w B 1 A m (zs.map (Value.int .u8))) (hz : ∀ z ∈ zs, 0 ≤ z ∧ z ≤ 255) :
    Rdr (w.alloc (.cells #[.slice A m c, .int .i64 0] 99)) B w.heap.size 0 :=
  ⟨hB, A, m, c, zs, heap_alloc_new w _, hr.alloc hB _, hm, hz⟩
theorem Code.mk' {w : World} {B n c : Nat} {A : Option Addr} {zs : List Int} (h1 : n ≤ c) (h2 : c ≤ maxLen) (h3 : K.Rd w B 1 A n (zs.map (Value.int .u8))) (h4 : ∀ z ∈ zs, (Lit.int .u8 z).wf = true) : Code w B A n c :=
  ⟨h1, h2, zs, h3, fun z hz => by simpa [Lit.wf, IntKind.min, IntKind.max, IntKind.signed, IntKind.bits] using h4 z hz⟩
def NewRdr (w : World) (B : Nat) (e : Ending) (w' : World) : Prop := e = .returned (.pointer (some ⟨w.heap.size, 0, none⟩)) ∧ Rdr w' B w.heap.size 0 ∧ K.Kept w w'
theorem newReader_c (w : World) (B n c : Nat) (A : Option Addr) (hB : B ≤ w.heap.size) (h : Code w B A n c) : Calls Try.prog 42 #[.slice A n c] w (NewRdr w B) := by
  obtain ⟨hnc, hcm, zs, hr, hz⟩ := h
  unfold maxLen at hcm
  by_cases hn : n ≤ 2000
  · have S := rdr_new (c := c) hB hn hr hz
    clear hr
    go_enter Try.func42, Try.ntmps42
    go_wp2
    go_ret
    exact ⟨rfl, S, (Below.refl _ _).alloc (Nat.le_refl _) _⟩
  · obtain ⟨b, off, rfl, _⟩ := hr.2 (by omega)
    have S := rdr_new (c := c) (zs := zs.take 2000) hB (Nat.le_refl _) (by rw [List.map_take]; exact rd_take hr (by omega)) (fun z h => hz z (List.mem_of_mem_take h))
    clear hr
    have hc0 : 0 < c := by omega
    go_enter Try.func42, Try.ntmps42
    go_wp2
    go_ret
    exact ⟨rfl, S, (Below.refl _ _).alloc (Nat.le_refl _) _⟩

/-- An amount has been drawn: some number. -/
def Amount (k : Nat) (w : World) (B g p : Nat) (e : Ending) (w' : World) : Prop := ∃ (x : Int) (q : Nat), e = .returned (.int .i64 x) ∧ Rdr w' B g q ∧ q ≤ p + k ∧ K.But g w w'
theorem someAmount_c (w : World) (B g p : Nat) (hp : p ≤ 900000) (h0 : Rdr w B g p) : Calls Try.prog 44 #[.pointer (some ⟨g, 0, none⟩)] w (Amount 2 w B g p) := by
  go_enter Try.func44, Try.ntmps44
  go_wp2_with fail
  refine (pick_c _ _ B g p (by omega) h0).mono ?_
  rintro e w1 ⟨x, rfl, hx, hr1, hb1⟩
  go_wp2_with fail
  refine (one_new (fun _ => true) w1 B g _ 10 _ (by omega) hr1 (by omega) rfl rfl).mono ?_
  rintro e w2 ⟨y, rfl, hy, hr2, hb2⟩
  go_wp2
  go_ret
  exact ⟨y, _, rfl, hr2, by omega, hb1.trans hb2⟩
end C
end Go.Proofs.Ytapjlbcpfemeiaa

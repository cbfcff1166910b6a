/-
  Contracts of the functions that copy, mark and look again at a list of integers in memory of the call's own. Conditions: lengths below 2^40.
-/
import Derived.Test.YtapjlbcpfemeiaaInts
namespace Go.Proofs.Ytapjlbcpfemeiaa
open Go.RowKit
namespace C

theorem info_int : (Try.prog.info? 3).map (fun i => (i.zero, i.size, i.bytes)) = some (some (.int .i64 0), 1, 8) := by kernel_rfl
/-- The marks: k0, k0 + 1, .. -/
def marks (k0 : Int) (n : Nat) : List Int := (List.range n).map fun i => k0 + (i : Nat)
theorem marks_len (k0 : Int) (n : Nat) : (marks k0 n).length = n := by simp [marks]
theorem marks_at {k0 : Int} {n k : Nat} (h : k < n) : (marks k0 n)[k]? = some (k0 + (k : Nat)) := by simp [marks, h]
/-- A list whose first k are marks. -/
def marked (k0 : Int) (k : Nat) (l : List Int) : List Int := marks k0 k ++ l.drop k
theorem marked_zero (k0 : Int) (l : List Int) : marked k0 0 l = l := by simp [marked, marks]
theorem marked_all (k0 : Int) (l : List Int) : marked k0 l.length l = marks k0 l.length := by simp [marked]
theorem marked_len {k0 : Int} {k : Nat} {l : List Int} (h : k ≤ l.length) : (marked k0 k l).length = l.length := by simp [marked, marks]; omega
theorem marked_set {k0 : Int} {k : Nat} {l : List Int} (h : k < l.length) : (marked k0 k l).set k (k0 + (k : Nat)) = marked k0 (k + 1) l := by
  have e : marks k0 (k + 1) = marks k0 k ++ [k0 + (k : Nat)] := by simp [marks, List.range_succ]
  unfold marked
  rw [e, List.set_append_right _ _ (by simp [marks]), marks_len, Nat.sub_self, List.drop_eq_getElem_cons h, List.set_cons_zero, List.append_assoc]
  rfl
theorem map_set (l : List Int) (k : Nat) (x : Int) : (l.map (Value.int .i64)).set k (.int .i64 x) = (l.set k x).map (Value.int .i64) := by rw [List.map_set]
theorem markIntS_c (w : World) (A : Option Addr) (base n c : Nat) (l : List Int) (k0 : Int) (h : w.ownsRow base 3 1 (.slice A n c) n (l.map (Value.int .i64))) (hn : n ≤ 1099511627776) (h0 : 0 ≤ k0 ∧ k0 ≤ 1099511627776) :
    Calls Try.prog 76 #[.slice A n c, .int .i64 k0] w fun e w' => e = .returned (.int .i64 (k0 + n)) ∧ w'.ownsRow base 3 1 (.slice A n c) n ((marks k0 n).map (Value.int .i64)) ∧ w.grownBy w' (Value.slice A n c).ownBlock := by
  have hl : l.length = n := by have := h.1; simpa using this
  by_cases hn0 : n = 0
  · subst hn0
    have hnil : l = [] := List.eq_nil_of_length_eq_zero hl
    subst hnil
    go_enter Try.func76, Try.ntmps76
    go_wp2
    refine wp_loop_rounds 1 ?_
    rw [rounds_succ]
    go_wp2
    go_ret
    exact ⟨K.ri (by simp), by simpa [marks] using h, World.grownBy.refl _ _⟩
  obtain ⟨g, rfl⟩ : ∃ g, A = some ⟨g, 0, none⟩ := by
    rcases h.2 with ⟨hv, h0⟩ | ⟨g, cap, cur, hv, _⟩
    · exact absurd h0 hn0
    · injection hv with h1; exact ⟨g, h1⟩
  have H := Lib.hid h
  have L := Lib.hid hl
  clear h hl hn0
  go_enter Try.func76, Try.ntmps76
  go_wp2
  go_loopw [1, 5] (fun m i wr => ∃ k : Nat, k ≤ n ∧ i = .int .i64 k ∧ m = .int .i64 (k0 + k) ∧ Hid (wr.ownsRow base 3 1 (.slice (some ⟨g, 0, none⟩) n c) n ((marked k0 k l).map (Value.int .i64)) ∧ w.grownBy wr (some g))) (fun _ i _ => n - (intOf i).toNat)
  case atStart => exact ⟨0, Nat.zero_le _, rfl, by go_num, by unfold Hid; rw [marked_zero]; exact ⟨H.out, World.grownBy.refl _ _⟩⟩
  case round =>
    obtain ⟨k, hk, rfl, rfl, hr⟩ := hrel
    by_cases hlt : k < n
    · have c1 := hr.out.1.cellAt k (by omega)
      rw [List.getElem?_map, List.getElem?_eq_getElem (by rw [marked_len (by have := L.out; omega)]; have := L.out; omega)] at c1
      have f1 := hr.out.1.frozenAt k
      simp only [Option.map_some] at c1
      go_wp2
      go_roundw
      case rel =>
        refine ⟨k + 1, by omega, by go_num, by go_num, ?_⟩
        unfold Hid
        have s := hr.out.1.stored k (.int .i64 (k0 + (k : Nat)))
        rw [map_set, marked_set (by have := L.out; omega)] at s
        exact ⟨s.1, K.But.trans hr.out.2 s.2⟩
      case measure => simp [intOf]; omega
    · have hkn : n = k := by omega
      subst hkn
      go_wp2
      go_ret
      have := hr.out
      have e := marked_all k0 l
      rw [L.out] at e
      rw [e] at this
      exact ⟨rfl, this.1, this.2⟩
theorem heldIntS_c (w : World) (A : Option Addr) (n c : Nat) (k0 : Int) (h : K.IR w w.heap.size A n (marks k0 n)) (hn : n ≤ 1099511627776) (h0 : 0 ≤ k0 ∧ k0 ≤ 1099511627776) :
    Calls Try.prog 77 #[.slice A n c, .int .i64 k0] w fun e w' => e = .returned (.int .i64 (k0 + n)) ∧ w = w' := by
  go_enter Try.func77, Try.ntmps77
  go_wp2
  go_loop [1, 5] (fun m i => ∃ k : Nat, k ≤ n ∧ i = .int .i64 k ∧ m = .int .i64 (k0 + k)) (fun _ i => n - (intOf i).toNat)
  case atStart => exact ⟨0, Nat.zero_le _, rfl, by go_num⟩
  case round =>
    obtain ⟨k, hk, rfl, rfl⟩ := hrel
    by_cases hlt : k < n
    · obtain ⟨b, o, x, rfl, hb, c1, hx⟩ := K.IR.cell h hlt
      have e : x = k0 + (k : Nat) := by have := hx.out; rw [marks_at hlt] at this; exact (Option.some.inj this).symm
      subst e
      go_wp2
      go_round
      case rel => exact ⟨k + 1, by omega, by go_num, by go_num⟩
      case measure => simp [intOf]; omega
    · have hkn : n = k := by omega
      subst hkn
      go_wp2
      go_ret
      exact ⟨rfl, rfl⟩
/-- A list of which the first k are l's. -/
def half (l : List Int) (k : Nat) : List Int := l.take k ++ List.replicate (l.length - k) 0
theorem half_set {l : List Int} {k : Nat} {x : Int} (hx : l[k]? = some x) : (half l k).set k x = half l (k + 1) := by
  obtain ⟨hk, rfl⟩ := List.getElem?_eq_some_iff.1 hx
  unfold half
  rw [K.take_snoc hx, List.set_append_right _ _ (by simp; omega), List.length_take, Nat.min_eq_left (by omega), Nat.sub_self, show l.length - k = (l.length - (k + 1)) + 1 by omega, List.replicate_succ, List.set_cons_zero, List.append_assoc]
  rfl
theorem half_len {l : List Int} {k : Nat} (h : k ≤ l.length) : (half l k).length = l.length := by simp [half]; omega
/-- A fresh slice that reads l. -/
def Fresh (w : World) (l : List Int) (e : Ending) (w' : World) : Prop := ∃ (A : Option Addr) (n c : Nat), e = .returned (.slice A n c) ∧ l.length = n ∧ w'.ownsRow w.heap.size 3 1 (.slice A n c) n (l.map (Value.int .i64)) ∧ K.Kept w w'
theorem toIntS_c (w : World) (A : Option Addr) (n c : Nat) (l : List Int) (h : K.IR w w.heap.size A n l) (hn : n ≤ 1099511627776) : Calls Try.prog 79 #[.slice A n c] w (Fresh w l) := by
  have L := Lib.hid (K.IR.len h)
  obtain ⟨i0, hi, hz0, hz1, hz2⟩ := info_parts info_int
  go_enter Try.func79, Try.ntmps79
  go_wp2_with (at_make; refine wpList_make_full _ rfl _ _ 28 rfl w.heap.size 3 i0 (.int .i64 0) 1 Try.underlying28 hi hz0 hz1 _ _ _ _ n rfl rfl rfl rfl (by rw [hz2]; omega) (by unfold maxLen; omega) (Nat.le_refl _) ?_)
  intro w1 hown1 hgrow1
  have Hown : Hid (w1.ownsRow w.heap.size 3 1 (.slice (some ⟨w.heap.size, 0, none⟩) n n) n ((half l 0).map (Value.int .i64))) := by
    unfold Hid
    rw [toList_madeCells_one] at hown1
    have e : List.replicate n (Value.int .i64 0) = (half l 0).map (Value.int .i64) := by simp [half, L.out]
    rw [← e]; exact hown1
  have hk1 : K.Kept w w1 := (Below.refl _ _).grown hgrow1 (Nat.le_refl _) (by intro k hk; cases hk)
  clear hown1 hgrow1 hi hz0 hz1 hz2
  go_wp2
  go_loopw [4] (fun i wr => ∃ k : Nat, k ≤ n ∧ i = .int .i64 k ∧ K.Kept w wr ∧ Hid (wr.ownsRow w.heap.size 3 1 (.slice (some ⟨w.heap.size, 0, none⟩) n n) n ((half l k).map (Value.int .i64)))) (fun i _ => n - (intOf i).toNat)
  case atStart => exact ⟨0, Nat.zero_le _, rfl, hk1, Hown⟩
  case round =>
    obtain ⟨k, hk, rfl, hkw, hr⟩ := hrel
    by_cases hlt : k < n
    · obtain ⟨b, o, x, rfl, hb, c1, hx⟩ := K.IR.cell (K.Rd.below h hkw) hlt
      have c2 := hr.out.cellAt k (by omega)
      rw [List.getElem?_map, List.getElem?_eq_getElem (by rw [half_len (by have := L.out; omega)]; have := L.out; omega)] at c2
      have f2 := hr.out.frozenAt k
      simp only [Option.map_some] at c2
      go_wp2
      go_roundw
      case rel =>
        have s := hr.out.stored k (.int .i64 x)
        rw [map_set, half_set hx.out] at s
        exact ⟨k + 1, by omega, by go_num, hkw.setCell (p := ⟨w.heap.size, k, none⟩) (Nat.le_refl _) _, s.1⟩
      case measure => simp [intOf]; omega
    · have hkn : n = k := by omega
      subst hkn
      go_wp2
      go_ret
      refine ⟨_, _, _, rfl, L.out, ?_, hkw⟩
      have := hr.out
      have e : half l n = l := by rw [half, K.take_all L.out, L.out]; simp
      rw [e] at this
      exact this
end C
end Go.Proofs.Ytapjlbcpfemeiaa

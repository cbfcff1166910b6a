/-
  Contracts of the generator's reader: a number is drawn out of the code's bytes, and only the reader's own block is written. Conditions: a position below one million.
-/
import Derived.Test.YtapjlbcpfemeiaaNum
namespace Go.Proofs.Ytapjlbcpfemeiaa
open Go.RowKit
namespace C

/-- Block g holds the reader: a slice of bytes below block B, and the position p. -/
def Rdr (w : World) (B g p : Nat) : Prop :=
  B ≤ g ∧ ∃ (A : Option Addr) (m c : Nat) (zs : List Int), w.heap[g]? = some (.cells #[.slice A m c, .int .i64 p] 99 (0, 0)) ∧ K.Rd w B 1 A m (zs.map (Value.int .u8)) ∧ m ≤ 2000 ∧ ∀ z ∈ zs, 0 ≤ z ∧ z ≤ 255
theorem Rdr.lt {w : World} {B g p : Nat} (h : Rdr w B g p) : g < w.heap.size := by
  obtain ⟨_, A, m, c, zs, hg, _⟩ := h
  exact (Array.getElem?_eq_some_iff.1 hg).1
theorem Rdr.kept {w w' : World} {B g p : Nat} (h : Rdr w B g p) (hk : K.Kept w w') : Rdr w' B g p := by
  have hl := h.lt
  obtain ⟨hB, A, m, c, zs, hg, hr, hm, hz⟩ := h
  exact ⟨hB, A, m, c, zs, (hk.block g hl).trans hg, hr.below (hk.mono (by omega)), hm, hz⟩
/-- What a draw of a number below n leaves. -/
def Picks (n x : Int) : Prop := 0 ≤ x ∧ (1 ≤ n → x < n) ∧ (n < 1 → x = 0)
def Picked (n : Int) (w : World) (B g p : Nat) (e : Ending) (w' : World) : Prop := ∃ x : Int, e = .returned (.int .i64 x) ∧ Picks n x ∧ Rdr w' B g (p + 1) ∧ K.But g w w'

theorem heap_set {w : World} {g T : Nat} {cs : Array Value} (h : w.heap[g]? = some (.cells cs T (0, 0))) (i : Nat) (u : Value) : (w.setCell ⟨g, i, none⟩ u).heap[g]? = some (.cells (cs.setIfInBounds i u) T (0, 0)) := by
  simp [World.setCell, Array.getElem?_modify, h]
/-- The reader behind its own step. -/
theorem rdr_step {w : World} {B g p m c : Nat} {A : Option Addr} {zs : List Int} (hB : B ≤ g) (hg : w.heap[g]? = some (.cells #[.slice A m c, .int .i64 p] 99 (0, 0))) (hr : K.Rd w B 1 A m (zs.map (Value.int .u8))) (hm : m ≤ 2000) (hz : ∀ z ∈ zs, 0 ≤ z ∧ z ≤ 255) (k : Nat) :
    Rdr ((w.setCell ⟨g, 1, none⟩ (.int .i64 ((p : Int) + 1))).drewN k) B g (p + 1) ∧ K.But g w ((w.setCell ⟨g, 1, none⟩ (.int .i64 ((p : Int) + 1))).drewN k) := by
  have hb : K.But g w (w.setCell ⟨g, 1, none⟩ (.int .i64 ((p : Int) + 1))) := (K.But.refl g w).setCell (p := ⟨g, 1, none⟩) (.inl rfl) _
  refine ⟨⟨hB, A, m, c, zs, ?_, (hr.but hb ?_ hB).drewN k, hm, hz⟩, hb.drewN k⟩
  · show (w.setCell ⟨g, 1, none⟩ _).heap[g]? = _
    rw [heap_set hg]
    rfl
  · have := (Array.getElem?_eq_some_iff.1 hg).1
    omega
theorem picks_mod {x n : Int} (hn : 1 ≤ n) : Picks n (x % n) := ⟨Int.emod_nonneg _ (by omega), fun _ => Int.emod_lt_of_pos _ (by omega), fun _ => by omega⟩
theorem xor_nat (v : Int) (h0 : 0 ≤ v) (h1 : v ≤ 1000000000) : ∃ x : Nat, bits .xor .i64 v (v / 64) = (x : Int) := by
  obtain ⟨a, rfl⟩ := Int.eq_ofNat_of_zero_le h0
  obtain ⟨b, hb⟩ := Int.eq_ofNat_of_zero_le (show 0 ≤ (a : Int) / 64 by omega)
  have ofInt : ∀ k : Nat, k ≤ 1000000000 → (BitVec.ofInt 64 (k : Int)).toNat = k := fun k hk => by
    rw [BitVec.ofInt_natCast, BitVec.toNat_ofNat]; exact Nat.mod_eq_of_lt (by omega)
  have hx : a ^^^ b < 2 ^ 30 := Nat.xor_lt_two_pow (by omega) (by omega)
  refine ⟨a ^^^ b, ?_⟩
  rw [hb]
  show IntKind.i64.wrap ((BitVec.ofInt 64 (a : Int) ^^^ BitVec.ofInt 64 (b : Int)).toNat : Int) = _
  rw [BitVec.toNat_xor, ofInt a (by omega), ofInt b (by omega), IntKind.wrap_i64]
  omega

set_option maxHeartbeats 1000000 in
theorem pick_c (n : Int) (w : World) (B g p : Nat) (hp : p ≤ 1000000) (h0 : Rdr w B g p) :
    Calls Try.prog 45 #[.pointer (some ⟨g, 0, none⟩), .int .i64 n] w (Picked n w B g p) := by
  obtain ⟨hB, A, m, c, zs, hg, hr, hm, hz⟩ := h0
  have S := rdr_step hB hg hr hm hz
  have c0 : w.cell? ⟨g, 0, none⟩ = some (.slice A m c) := by rw [cell_of_row w g 0 _ _ _ hg]; rfl
  have c1 : w.cell? ⟨g, 1, none⟩ = some (.int .i64 p) := by rw [cell_of_row w g 1 _ _ _ hg]; rfl
  have f1 : w.frozen? ⟨g, 1, none⟩ = false := frozen_of_row w g 1 _ _ hg
  by_cases hn : n < 1
  · clear hr hg
    go_enter Try.func45, Try.ntmps45
    go_wp2
    go_ret
    exact ⟨0, rfl, by rw [Picks]; omega, (S 0).1, (S 0).2⟩
  have hn1 : 1 ≤ n := by omega
  by_cases hm0 : m = 0
  · subst hm0
    clear hr hg
    go_enter Try.func45, Try.ntmps45
    go_wp2
    go_ret
    exact ⟨0, rfl, by rw [Picks]; omega, (S 0).1, (S 0).2⟩
  obtain ⟨b, off, rfl, hb, hcell⟩ := hr.2 (by omega)
  have hlen : zs.length = m := by have := hr.1; simpa using this
  have byte : ∀ i, i < m → ∃ z : Int, (0 ≤ z ∧ z ≤ 255) ∧ (w.setCell ⟨g, 1, none⟩ (.int .i64 ((p : Int) + 1))).cell? ⟨b, off + i, none⟩ = some (.int .u8 z) := by
    intro i hi
    have e : zs[i]? = some (zs[i]'(by omega)) := List.getElem?_eq_getElem (by omega)
    refine ⟨zs[i]'(by omega), hz _ (List.getElem_mem (by omega)), ?_⟩
    rw [World.cell?_setCell_other w _ ⟨b, off + i, none⟩ _ (fun e => by have := congrArg Addr.block e; simp at this; omega)]
    exact hcell i _ (by rw [List.getElem?_map, e]; rfl)
  have hl0 : ((m : Int) == 0) = false := by rw [beq_eq_false_iff_ne]; omega
  clear hr hg hcell
  by_cases hk : p < m
  · obtain ⟨z, hz1, hx⟩ := byte p hk
    clear byte
    go_enter Try.func45, Try.ntmps45
    go_wp2
    go_ret
    exact ⟨_, rfl, picks_mod hn1, (S 0).1, (S 0).2⟩
  · have l1 : p % m < m := Nat.mod_lt _ (by omega)
    have l2 : (p * 7 + 3) % m < m := Nat.mod_lt _ (by omega)
    obtain ⟨z1, hz1, hx1⟩ := byte (p % m) l1
    obtain ⟨z2, hz2, hx2⟩ := byte ((p * 7 + 3) % m) l2
    clear byte
    have hmi : (1 : Int) ≤ (m : Int) := by omega
    have i1 : 0 ≤ (p : Int) % (m : Int) := Int.emod_nonneg _ (by omega)
    have i2 : (p : Int) % (m : Int) < (m : Int) := Int.emod_lt_of_pos _ (by omega)
    have i3 : 0 ≤ ((p : Int) * 7 + 3) % (m : Int) := Int.emod_nonneg _ (by omega)
    have i4 : ((p : Int) * 7 + 3) % (m : Int) < (m : Int) := Int.emod_lt_of_pos _ (by omega)
    have i5 : 0 ≤ (p : Int) / (m : Int) := Int.ediv_nonneg (by omega) (by omega)
    have i6 : (p : Int) / (m : Int) ≤ (p : Int) := Int.ediv_le_self _ (by omega)
    obtain ⟨x, hxor⟩ := xor_nat (z1 * 131 + z2 * 1117 + (p : Int) * 29 + (p : Int) / (m : Int) * 53) (by omega) (by omega)
    go_enter Try.func45, Try.ntmps45
    go_wp2
    go_quiet (fail)
    go_wp2
    go_ret
    exact ⟨_, rfl, picks_mod hn1, (S _).1, (S _).2⟩

/-- One of the numbers of a list has been drawn. -/
def Oned (zs : List Int) (w : World) (B g p : Nat) (e : Ending) (w' : World) : Prop := ∃ x : Int, e = .returned (.int .i64 x) ∧ x ∈ zs ∧ Rdr w' B g (p + 1) ∧ K.But g w w'
theorem one_c (w : World) (B g p b n : Nat) (zs : List Int) (hp : p ≤ 1000000) (h0 : Rdr w B g p) (hn : 1 ≤ n ∧ n ≤ 1000) (hl : zs.length = n) (hbg : b ≠ g) (hblk : w.heap[b]? = some (.cells (zs.map (Value.int .i64)).toArray 3 (0, 0))) :
    Calls Try.prog 47 #[.pointer (some ⟨g, 0, none⟩), .slice (some ⟨b, 0, none⟩) n n] w (Oned zs w B g p) := by
  have hlt := (Array.getElem?_eq_some_iff.1 hblk).1
  go_enter Try.func47, Try.ntmps47
  go_wp2_with fail
  refine (pick_c _ _ B g p hp h0).mono ?_
  rintro e w1 ⟨x, rfl, hx, hr1, hb1⟩
  obtain ⟨k, rfl⟩ := Int.eq_ofNat_of_zero_le hx.1
  have hk : k < n := by have := hx.2.1 (by omega); omega
  have hz : zs[k]? = some (zs[k]'(by omega)) := List.getElem?_eq_getElem (by omega)
  have hc : w1.cell? ⟨b, k, none⟩ = some (.int .i64 (zs[k]'(by omega))) := by
    rw [hb1.cell (p := ⟨b, k, none⟩) hlt hbg, cell_of_row w b k _ _ _ hblk, List.getElem?_toArray, List.getElem?_map, hz]
    rfl
  clear hx hblk h0 hz
  go_wp2
  go_ret
  exact ⟨_, rfl, List.getElem_mem _, hr1, hb1⟩

/-- The numbers of a block, and what holds of each. -/
def nums (q : Int → Bool) (cs : Array Value) : Bool := cs.toList.all fun v => match v with | .int .i64 x => q x | _ => false
theorem nums_map {q : Int → Bool} : ∀ {l : List Value}, (l.all fun v => match v with | .int .i64 x => q x | _ => false) = true → ∃ zs : List Int, l = zs.map (Value.int .i64) ∧ ∀ z ∈ zs, q z = true := by
  intro l
  induction l with
  | nil => intro _; exact ⟨[], rfl, by simp⟩
  | cons v l ih =>
    intro h
    rw [List.all_cons, Bool.and_eq_true] at h
    obtain ⟨zs, rfl, hz⟩ := ih h.2
    have h1 := h.1
    split at h1
    · rename_i x
      exact ⟨x :: zs, rfl, fun z hm => by
        rcases List.mem_cons.1 hm with rfl | hm
        · exact h1
        · exact hz z hm⟩
    · cases h1
def OneQ (q : Int → Bool) (w : World) (B g p : Nat) (e : Ending) (w' : World) : Prop := ∃ x : Int, e = .returned (.int .i64 x) ∧ q x = true ∧ Rdr w' B g (p + 1) ∧ K.But g w w'
/-- 'one' at a list that has just been laid. -/
theorem one_new (q : Int → Bool) (w : World) (B g p n : Nat) (cs : Array Value) (hp : p ≤ 1000000) (h0 : Rdr w B g p) (hn : 1 ≤ n ∧ n ≤ 1000) (hl : cs.size = n) (hq : nums q cs = true) :
    Calls Try.prog 47 #[.pointer (some ⟨g, 0, none⟩), .slice (some ⟨w.heap.size, 0, none⟩) n n] (w.alloc (.cells cs 3)) (OneQ q w B g p) := by
  obtain ⟨zs, hzs, hz⟩ := nums_map hq
  have hb : K.Kept w (w.alloc (.cells cs 3)) := (Below.refl _ _).alloc (Nat.le_refl _) _
  have hlt := h0.lt
  refine (one_c _ B g p w.heap.size n zs hp (h0.kept hb) hn (by rw [← hl, ← Array.length_toList, hzs]; simp) (by omega) (by rw [← hzs]; exact heap_alloc_new w _)).mono ?_
  rintro e w' ⟨x, he, hx, hr, hb'⟩
  exact ⟨x, he, hz x hx, hr, (K.But.of_kept hb).trans hb'⟩
/-- The same where the heap's size is spelt otherwise. -/
theorem one_new' (q : Int → Bool) (w : World) (B g p n b : Nat) (cs : Array Value) (hp : p ≤ 1000000) (h0 : Rdr w B g p) (hn : 1 ≤ n ∧ n ≤ 1000) (hb : b = w.heap.size) (hl : cs.size = n) (hq : nums q cs = true) :
    Calls Try.prog 47 #[.pointer (some ⟨g, 0, none⟩), .slice (some ⟨b, 0, none⟩) n n] (w.alloc (.cells cs 3)) (OneQ q w B g p) := by
  subst hb
  exact one_new q w B g p n cs hp h0 hn hl hq
end C
end Go.Proofs.Ytapjlbcpfemeiaa

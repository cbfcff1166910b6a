/-
  GuardHolds returns what the reference returns, for all arguments. Conditions: none.
-/
import Derived.Test.YtapjlbcpfemeiaaSeat
import Derived.Test.YtapjlbcpfemeiaaExactG
import Derived.Test.YtapjlbcpfemeiaaOpenG
namespace Go.Proofs.Ytapjlbcpfemeiaa.fnExactGuardHolds
open Go.ChangeShapes Go.WideShapes Go.ChangeAt Go.RowKit

theorem readable : (Try.f13.params.toList.all fun t => Try.prog.readableRec t && decide (t < Try.prog.types.size)) = true := by kernel_rfl

set_option maxRecDepth 100000 in
theorem lifted (os : Os) (started : os.Started) (H : Type) (enc : TypeId × Value → H) :
    ReturnsInHanded {} Try.checked os 13 .any (Rows.fnExactGuardHoldsSpec.pre6 enc Try.prog Try.f13 Rows.fnExactGuardHoldsRow.domain false) (Rows.fnExactGuardHoldsSpec.post enc Try.prog Try.f13 false true false false) := by
  refine returnsInHanded_of_change (C := Try.checked) Seat.own started (by kernel_rfl) Try.func13
    (ChangeSpec.witness6 (enc := enc) (C := Try.checked) false ⟨#[], #[.agg #[.int .i64 0, .int .i64 0, .slice none 0 0, .int .i64 0], .agg #[.int .i64 0, .slice none 0 0, .slice none 0 0]], []⟩ 8 (by kernel_rfl) (by kernel_rfl) (by kernel_rfl) (by kernel_rfl)) ?_
  intro W base args ds gs before hval0 hW _ _
  have hval : ∀ (j : Nat) t v, Try.f13.params[j]? = some t → args[j]? = some v → Value.okWide Try.prog W .any base t v := hval0
  have hW' := hW
  obtain ⟨p, q, hA0, hV, rfl, hfz, hnd⟩ := hW
  have hA : DataW.TrodAll enc Try.prog W 0 (fun _ => true) true Try.f13.params.toList args.toList ds p := hA0
  rw [Try.params13] at hA hval
  obtain ⟨v0, vs0, d0, ds0, p0, q0, hargs, rfl, rfl, h0, r0⟩ := trodAll_cons hA
  obtain ⟨v1, vs1, d1, ds1, p1, q1, rfl, rfl, rfl, h1, r1⟩ := trodAll_cons r0
  obtain ⟨rfl, rfl, rfl⟩ := trodAll_nil r1
  obtain rfl : args = #[v0, v1] := by cases args; simp_all
  obtain ⟨rfl, rfl⟩ := trodVars_none hV
  obtain ⟨x0, y0, u0, A0, n0, c0, l0, rfl, hc0, hr0⟩ := K.open_guard Try.underlying51 (by kernel_rfl) ⟨rfl, by kernel_rfl⟩ ⟨rfl, by kernel_rfl⟩ ⟨rfl, by kernel_rfl⟩ Try.underlying48 ⟨rfl, by kernel_rfl⟩ ⟨rfl, by kernel_rfl⟩ (by rfl) (by rfl) (by rfl) Try.underlying49 Try.underlying48 (by kernel_rfl) rfl rfl (by kernel_rfl) (by kernel_rfl) (by rfl) (by rfl) (hval 0 51 v0 rfl rfl) h0
  obtain ⟨x1, D1, n1, c1, l1, E1, m1, k1, q1, rfl, hc1, hm1, hr1, hs1⟩ := K.open_point Try.underlying64 (by kernel_rfl) (by kernel_rfl) (by rfl) Try.underlying28 Try.underlying28 Try.underlying3 (by kernel_rfl) Try.underlying3 (by kernel_rfl) (hval 1 64 v1 rfl rfl) h1
  clear hA0 hval0 hA hval
  refine (C.exactGuardHolds W x0 y0 u0 A0 n0 c0 l0 x1 D1 n1 c1 l1 E1 m1 k1 q1 hc0 hc1 hm1 hr0 hr1 hs1).mono fun e W' ⟨he, hb⟩ => ?_
  subst he
  exact ⟨_, rfl, K.law_post Seat.laid readable rfl Try.underlying4 rfl hW' rfl rfl rfl hb⟩

theorem c1 : Rows.fnExactGuardHoldsRow.wf (OpenSpec.ofChange Rows.fnExactGuardHoldsSpec) = true := by kernel_rfl
theorem c2 : (Rows.fnExactGuardHoldsRow.inPlace == Try.prog.inPlace 13) = true := by kernel_rfl
theorem c3 : (Rows.fnExactGuardHoldsRow.unfollowed == Try.prog.unfollowed 13) = true := by kernel_rfl
theorem c4 : (Rows.fnExactGuardHoldsRow.recurses == Try.prog.recurses 13) = true := by kernel_rfl
theorem c5 : (Rows.fnExactGuardHoldsRow.named == Try.prog.varsNamed 13) = true := by kernel_rfl
theorem closed : joinedFacts Try.prog 13 Try.f13 Rows.fnExactGuardHoldsSpec Rows.fnExactGuardHoldsRow = true :=
  Hd.joined Seat.laid Seat.mapsRowed' Seat.stops Seat.stopKnobs Seat.plainKeys Seat.stopsHeard Seat.enter Seat.lifts Seat.make c1 c2 c3 c4 c5 (by kernel_rfl)
theorem named : Try.prog.funcNamed Rows.fnExactGuardHoldsRow.func = some 13 := by kernel_rfl
theorem inst : Try.f13.isInstance Try.prog Rows.fnExactGuardHoldsRow.origin Rows.fnExactGuardHoldsRow.targs := of_decide_eq_true (by kernel_rfl)
theorem wrapped : Try.f13.isWrapper Try.prog Rows.fnExactGuardHoldsRow.wrapper Rows.fnExactGuardHoldsRow.mainSum := by
  unfold Func.isWrapper; rw [if_neg (by decide +kernel)]; exact ⟨rfl, rfl⟩
theorem over : Rows.fnExactGuardHoldsRow.holds Try.pinned (OpenSpec.ofChange Rows.fnExactGuardHoldsSpec) :=
  OpenClaim.holds_of_wide 13 Try.f13 rfl rfl rfl rfl rfl rfl rfl ⟨rfl, rfl, rfl, rfl, rfl⟩ rfl rfl rfl rfl rfl named Try.func13 closed inst wrapped
    (fun os started H enc _ => lifted os started H enc)

theorem proved : Rows.FnExactGuardHoldsSaid := over
#print axioms proved
end Go.Proofs.Ytapjlbcpfemeiaa.fnExactGuardHolds

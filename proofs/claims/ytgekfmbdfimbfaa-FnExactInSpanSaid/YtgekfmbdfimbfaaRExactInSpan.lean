/-
  InSpan returns what the reference returns, for all arguments. Conditions: none.
-/
import Derived.Test.YtgekfmbdfimbfaaSeat
import Derived.Test.YtgekfmbdfimbfaaSpanL
import Derived.Test.YtgekfmbdfimbfaaOpen
namespace Go.Proofs.Ytgekfmbdfimbfaa.fnExactInSpan
open Go.ChangeShapes Go.WideShapes Go.ChangeAt Go.RowKit

theorem readable : (Try.f4.params.toList.all fun t => Try.prog.readableRec t && decide (t < Try.prog.types.size)) = true := by kernel_rfl

set_option maxRecDepth 100000 in
theorem lifted (os : Os) (started : os.Started) (H : Type) (enc : TypeId × Value → H) :
    ReturnsInHanded {} Try.checked os 4 .any (Rows.fnExactInSpanSpec.pre6 enc Try.prog Try.f4 Rows.fnExactInSpanRow.domain false) (Rows.fnExactInSpanSpec.post enc Try.prog Try.f4 false true false false) := by
  refine returnsInHanded_of_change (C := Try.checked) Seat.own started (by kernel_rfl) Try.func4
    (ChangeSpec.witness6 (enc := enc) (C := Try.checked) false ⟨#[], #[.agg #[.int .i64 0, .int .i64 0], .int .i64 0], []⟩ 8 (by kernel_rfl) (by kernel_rfl) (by kernel_rfl) (by kernel_rfl)) ?_
  intro W base args ds gs before hval0 hW _ _
  have hval : ∀ (j : Nat) t v, Try.f4.params[j]? = some t → args[j]? = some v → Value.okWide Try.prog W .any base t v := hval0
  have hW' := hW
  obtain ⟨p, q, hA0, hV, rfl, hfz, hnd⟩ := hW
  have hA : DataW.TrodAll enc Try.prog W 0 (fun _ => true) true Try.f4.params.toList args.toList ds p := hA0
  rw [Try.params4] at hA hval
  obtain ⟨v0, vs0, d0, ds0, p0, q0, hargs, rfl, rfl, h0, r0⟩ := trodAll_cons hA
  obtain ⟨v1, vs1, d1, ds1, p1, q1, rfl, rfl, rfl, h1, r1⟩ := trodAll_cons r0
  obtain ⟨rfl, rfl, rfl⟩ := trodAll_nil r1
  obtain rfl : args = #[v0, v1] := by cases args; simp_all
  obtain ⟨rfl, rfl⟩ := trodVars_none hV
  obtain ⟨a0, b0, rfl, w0, u0⟩ := K.open_pair Try.underlying23 (by kernel_rfl) (by kernel_rfl) (by rfl) (by rfl) (hval 0 23 v0 rfl rfl) h0
  obtain ⟨a1, rfl, rfl, rfl, w1⟩ := open_int Try.underlying3 (hval 1 3 v1 rfl rfl) h1
  clear hA0 hval0 hA hval
  refine (C.exactInSpan a0 b0 a1 W).mono fun e W' ⟨he, hb⟩ => ?_
  subst he
  exact ⟨_, rfl, K.law_post Seat.laid readable rfl Try.underlying4 rfl hW' rfl rfl rfl hb⟩

theorem c1 : Rows.fnExactInSpanRow.wf (OpenSpec.ofChange Rows.fnExactInSpanSpec) = true := by kernel_rfl
theorem c2 : (Rows.fnExactInSpanRow.inPlace == Try.prog.inPlace 4) = true := by kernel_rfl
theorem c3 : (Rows.fnExactInSpanRow.unfollowed == Try.prog.unfollowed 4) = true := by kernel_rfl
theorem c4 : (Rows.fnExactInSpanRow.recurses == Try.prog.recurses 4) = true := by kernel_rfl
theorem c5 : (Rows.fnExactInSpanRow.named == Try.prog.varsNamed 4) = true := by kernel_rfl
theorem closed : joinedFacts Try.prog 4 Try.f4 Rows.fnExactInSpanSpec Rows.fnExactInSpanRow = true :=
  Hd.joined Seat.laid Seat.mapsRowed' Seat.stops Seat.stopKnobs Seat.plainKeys Seat.stopsHeard Seat.enter Seat.lifts Seat.make c1 c2 c3 c4 c5 (by kernel_rfl)
theorem named : Try.prog.funcNamed Rows.fnExactInSpanRow.func = some 4 := by kernel_rfl
theorem inst : Try.f4.isInstance Try.prog Rows.fnExactInSpanRow.origin Rows.fnExactInSpanRow.targs := of_decide_eq_true (by kernel_rfl)
theorem wrapped : Try.f4.isWrapper Try.prog Rows.fnExactInSpanRow.wrapper Rows.fnExactInSpanRow.mainSum := by
  unfold Func.isWrapper; rw [if_neg (by decide +kernel)]; exact ⟨rfl, rfl⟩
theorem over : Rows.fnExactInSpanRow.holds Try.pinned (OpenSpec.ofChange Rows.fnExactInSpanSpec) :=
  OpenClaim.holds_of_wide 4 Try.f4 rfl rfl rfl rfl rfl rfl rfl ⟨rfl, rfl, rfl, rfl, rfl⟩ rfl rfl rfl rfl rfl named Try.func4 closed inst wrapped
    (fun os started H enc _ => lifted os started H enc)

theorem proved : Rows.FnExactInSpanSaid := over
#print axioms proved
end Go.Proofs.Ytgekfmbdfimbfaa.fnExactInSpan

/-
  WithoutSpan returns what the reference returns, for all arguments, in memory of its own. Conditions: none.
-/
import Derived.Test.YtoooliadnjojeaaSeat
import Derived.Test.YtoooliadnjojeaaExactU
import Derived.Test.YtoooliadnjojeaaOpen
namespace Go.Proofs.Ytoooliadnjojeaa.fnExactWithoutSpan
open Go.ChangeShapes Go.WideShapes Go.ChangeAt Go.RowKit

theorem readable : (Try.f7.params.toList.all fun t => Try.prog.readableRec t && decide (t < Try.prog.types.size)) = true := by kernel_rfl

set_option maxRecDepth 100000 in
theorem lifted (os : Os) (started : os.Started) (H : Type) (enc : TypeId × Value → H) :
    ReturnsInHanded {} Try.checked os 7 .any (Rows.fnExactWithoutSpanSpec.pre6 enc Try.prog Try.f7 Rows.fnExactWithoutSpanRow.domain false) (Rows.fnExactWithoutSpanSpec.post enc Try.prog Try.f7 false true false false) := by
  refine returnsInHanded_of_change (C := Try.checked) Seat.own started (by kernel_rfl) Try.func7
    (ChangeSpec.witness6 (enc := enc) (C := Try.checked) false ⟨#[], #[.slice none 0 0, .agg #[.int .i64 0, .int .i64 0]], []⟩ 8 (by kernel_rfl) (by kernel_rfl) (by kernel_rfl) (by kernel_rfl)) ?_
  intro W base args ds gs before hval0 hW _ _
  have hval : ∀ (j : Nat) t v, Try.f7.params[j]? = some t → args[j]? = some v → Value.okWide Try.prog W .any base t v := hval0
  have hW' := hW
  obtain ⟨p, q, hA0, hV, rfl, hfz, hnd⟩ := hW
  have hA : DataW.TrodAll enc Try.prog W 0 (fun _ => true) true Try.f7.params.toList args.toList ds p := hA0
  rw [Try.params7] at hA hval
  obtain ⟨v0, vs0, d0, ds0, p0, q0, hargs, rfl, rfl, h0, r0⟩ := trodAll_cons hA
  obtain ⟨v1, vs1, d1, ds1, p1, q1, rfl, rfl, rfl, h1, r1⟩ := trodAll_cons r0
  obtain ⟨rfl, rfl, rfl⟩ := trodAll_nil r1
  obtain rfl : args = #[v0, v1] := by cases args; simp_all
  obtain ⟨rfl, rfl⟩ := trodVars_none hV
  obtain ⟨A0, n0, c0, l0, rfl, hn0, hc0, hl0, hr0, hw0⟩ := K.open_prs Try.underlying30 Try.underlying23 (by kernel_rfl) rfl rfl (by kernel_rfl) (by kernel_rfl) (by rfl) (by rfl) (hval 0 30 v0 rfl rfl) h0
  obtain ⟨a1, b1, rfl, w1, u1⟩ := K.open_pair Try.underlying23 (by kernel_rfl) (by kernel_rfl) (by rfl) (by rfl) (hval 1 23 v1 rfl rfl) h1
  clear hA0 hval0 hA hval
  refine (C.exactWithoutSpan W A0 n0 c0 l0 a1 b1 ⟨hn0, hc0⟩ hr0).mono fun e W' ⟨he, hb⟩ => ?_
  subst he
  exact ⟨_, rfl, K.law_post Seat.laid readable rfl Try.underlying4 rfl hW' rfl rfl rfl hb⟩

theorem c1 : Rows.fnExactWithoutSpanRow.wf (OpenSpec.ofChange Rows.fnExactWithoutSpanSpec) = true := by kernel_rfl
theorem c2 : (Rows.fnExactWithoutSpanRow.inPlace == Try.prog.inPlace 7) = true := by kernel_rfl
theorem c3 : (Rows.fnExactWithoutSpanRow.unfollowed == Try.prog.unfollowed 7) = true := by kernel_rfl
theorem c4 : (Rows.fnExactWithoutSpanRow.recurses == Try.prog.recurses 7) = true := by kernel_rfl
theorem c5 : (Rows.fnExactWithoutSpanRow.named == Try.prog.varsNamed 7) = true := by kernel_rfl
theorem closed : joinedFacts Try.prog 7 Try.f7 Rows.fnExactWithoutSpanSpec Rows.fnExactWithoutSpanRow = true :=
  Hd.joined Seat.laid Seat.mapsRowed' Seat.stops Seat.stopKnobs Seat.plainKeys Seat.stopsHeard Seat.enter Seat.lifts Seat.make c1 c2 c3 c4 c5 (by kernel_rfl)
theorem named : Try.prog.funcNamed Rows.fnExactWithoutSpanRow.func = some 7 := by kernel_rfl
theorem inst : Try.f7.isInstance Try.prog Rows.fnExactWithoutSpanRow.origin Rows.fnExactWithoutSpanRow.targs := of_decide_eq_true (by kernel_rfl)
theorem wrapped : Try.f7.isWrapper Try.prog Rows.fnExactWithoutSpanRow.wrapper Rows.fnExactWithoutSpanRow.mainSum := by
  unfold Func.isWrapper; rw [if_neg (by decide +kernel)]; exact ⟨rfl, rfl⟩
theorem over : Rows.fnExactWithoutSpanRow.holds Try.pinned (OpenSpec.ofChange Rows.fnExactWithoutSpanSpec) :=
  OpenClaim.holds_of_wide 7 Try.f7 rfl rfl rfl rfl rfl rfl rfl ⟨rfl, rfl, rfl, rfl, rfl⟩ rfl rfl rfl rfl rfl named Try.func7 closed inst wrapped
    (fun os started H enc _ => lifted os started H enc)

theorem proved : Rows.FnExactWithoutSpanSaid := over
#print axioms proved
end Go.Proofs.Ytoooliadnjojeaa.fnExactWithoutSpan

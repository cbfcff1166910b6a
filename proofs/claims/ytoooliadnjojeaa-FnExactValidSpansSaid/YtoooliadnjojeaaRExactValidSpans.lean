/-
  ValidSpans returns what the reference returns, for all arguments. Conditions: none.
-/
import Derived.Test.YtoooliadnjojeaaSeat
import Derived.Test.YtoooliadnjojeaaSpansV
import Derived.Test.YtoooliadnjojeaaOpen
namespace Go.Proofs.Ytoooliadnjojeaa.fnExactValidSpans
open Go.ChangeShapes Go.WideShapes Go.ChangeAt Go.RowKit

theorem readable : (Try.f4.params.toList.all fun t => Try.prog.readableRec t && decide (t < Try.prog.types.size)) = true := by kernel_rfl

set_option maxRecDepth 100000 in
theorem lifted (os : Os) (started : os.Started) (H : Type) (enc : TypeId × Value → H) :
    ReturnsInHanded {} Try.checked os 4 .any (Rows.fnExactValidSpansSpec.pre6 enc Try.prog Try.f4 Rows.fnExactValidSpansRow.domain false) (Rows.fnExactValidSpansSpec.post enc Try.prog Try.f4 false true false false) := by
  refine returnsInHanded_of_change (C := Try.checked) Seat.own started (by kernel_rfl) Try.func4
    (ChangeSpec.witness6 (enc := enc) (C := Try.checked) false ⟨#[], #[.slice none 0 0], []⟩ 8 (by kernel_rfl) (by kernel_rfl) (by kernel_rfl) (by kernel_rfl)) ?_
  intro W base args ds gs before hval0 hW _ _
  have hval : ∀ (j : Nat) t v, Try.f4.params[j]? = some t → args[j]? = some v → Value.okWide Try.prog W .any base t v := hval0
  have hW' := hW
  obtain ⟨p, q, hA0, hV, rfl, hfz, hnd⟩ := hW
  have hA : DataW.TrodAll enc Try.prog W 0 (fun _ => true) true Try.f4.params.toList args.toList ds p := hA0
  rw [Try.params4] at hA hval
  obtain ⟨v0, vs0, d0, ds0, p0, q0, hargs, rfl, rfl, h0, r0⟩ := trodAll_cons hA
  obtain ⟨rfl, rfl, rfl⟩ := trodAll_nil r0
  obtain rfl : args = #[v0] := by cases args; simp_all
  obtain ⟨rfl, rfl⟩ := trodVars_none hV
  obtain ⟨A0, n0, c0, l0, rfl, hn0, hc0, hl0, hr0, hw0⟩ := K.open_prs Try.underlying30 Try.underlying23 (by kernel_rfl) rfl rfl (by kernel_rfl) (by kernel_rfl) (by rfl) (by rfl) (hval 0 30 v0 rfl rfl) h0
  clear hA0 hval0 hA hval
  refine (C.exactValidSpans W A0 n0 c0 l0 ⟨hn0, hc0⟩ hr0).mono fun e W' ⟨he, hb⟩ => ?_
  subst he
  exact ⟨_, rfl, K.law_post Seat.laid readable rfl Try.underlying4 rfl hW' rfl rfl rfl hb⟩

theorem c1 : Rows.fnExactValidSpansRow.wf (OpenSpec.ofChange Rows.fnExactValidSpansSpec) = true := by kernel_rfl
theorem c2 : (Rows.fnExactValidSpansRow.inPlace == Try.prog.inPlace 4) = true := by kernel_rfl
theorem c3 : (Rows.fnExactValidSpansRow.unfollowed == Try.prog.unfollowed 4) = true := by kernel_rfl
theorem c4 : (Rows.fnExactValidSpansRow.recurses == Try.prog.recurses 4) = true := by kernel_rfl
theorem c5 : (Rows.fnExactValidSpansRow.named == Try.prog.varsNamed 4) = true := by kernel_rfl
theorem closed : joinedFacts Try.prog 4 Try.f4 Rows.fnExactValidSpansSpec Rows.fnExactValidSpansRow = true :=
  Hd.joined Seat.laid Seat.mapsRowed' Seat.stops Seat.stopKnobs Seat.plainKeys Seat.stopsHeard Seat.enter Seat.lifts Seat.make c1 c2 c3 c4 c5 (by kernel_rfl)
theorem named : Try.prog.funcNamed Rows.fnExactValidSpansRow.func = some 4 := by kernel_rfl
theorem inst : Try.f4.isInstance Try.prog Rows.fnExactValidSpansRow.origin Rows.fnExactValidSpansRow.targs := of_decide_eq_true (by kernel_rfl)
theorem wrapped : Try.f4.isWrapper Try.prog Rows.fnExactValidSpansRow.wrapper Rows.fnExactValidSpansRow.mainSum := by
  unfold Func.isWrapper; rw [if_neg (by decide +kernel)]; exact ⟨rfl, rfl⟩
theorem over : Rows.fnExactValidSpansRow.holds Try.pinned (OpenSpec.ofChange Rows.fnExactValidSpansSpec) :=
  OpenClaim.holds_of_wide 4 Try.f4 rfl rfl rfl rfl rfl rfl rfl ⟨rfl, rfl, rfl, rfl, rfl⟩ rfl rfl rfl rfl rfl named Try.func4 closed inst wrapped
    (fun os started H enc _ => lifted os started H enc)

theorem proved : Rows.FnExactValidSpansSaid := over
#print axioms proved
end Go.Proofs.Ytoooliadnjojeaa.fnExactValidSpans

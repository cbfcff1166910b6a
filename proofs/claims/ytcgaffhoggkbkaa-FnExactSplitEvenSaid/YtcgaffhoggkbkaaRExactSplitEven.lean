/-
  SplitEven returns what the reference returns, for all arguments, in memory of its own. Conditions: none.
-/
import Derived.Test.YtcgaffhoggkbkaaSeat
import Derived.Test.YtcgaffhoggkbkaaSplit
namespace Go.Proofs.Ytcgaffhoggkbkaa.fnExactSplitEven
open Go.ChangeShapes Go.WideShapes Go.ChangeAt Go.RowKit

theorem readable : (Try.f6.params.toList.all fun t => Try.prog.readableRec t && decide (t < Try.prog.types.size)) = true := by kernel_rfl

set_option maxRecDepth 100000 in
theorem lifted (os : Os) (started : os.Started) (H : Type) (enc : TypeId × Value → H) :
    ReturnsInHanded {} Try.checked os 6 .any (Rows.fnExactSplitEvenSpec.pre6 enc Try.prog Try.f6 Rows.fnExactSplitEvenRow.domain false) (Rows.fnExactSplitEvenSpec.post enc Try.prog Try.f6 false true false false) := by
  refine returnsInHanded_of_change (C := Try.checked) Seat.own started (by kernel_rfl) Try.func6
    (ChangeSpec.witness6 (enc := enc) (C := Try.checked) false ⟨#[], #[.int .i64 0, .int .i64 0], []⟩ 8 (by kernel_rfl) (by kernel_rfl) (by kernel_rfl) (by kernel_rfl)) ?_
  intro W base args ds gs before hval0 hW _ _
  have hval : ∀ (j : Nat) t v, Try.f6.params[j]? = some t → args[j]? = some v → Value.okWide Try.prog W .any base t v := hval0
  have hW' := hW
  obtain ⟨p, q, hA0, hV, rfl, hfz, hnd⟩ := hW
  have hA : DataW.TrodAll enc Try.prog W 0 (fun _ => true) true Try.f6.params.toList args.toList ds p := hA0
  rw [Try.params6] at hA hval
  obtain ⟨v0, vs0, d0, ds0, p0, q0, hargs, rfl, rfl, h0, r0⟩ := trodAll_cons hA
  obtain ⟨v1, vs1, d1, ds1, p1, q1, rfl, rfl, rfl, h1, r1⟩ := trodAll_cons r0
  obtain ⟨rfl, rfl, rfl⟩ := trodAll_nil r1
  obtain rfl : args = #[v0, v1] := by cases args; simp_all
  obtain ⟨rfl, rfl⟩ := trodVars_none hV
  obtain ⟨a0, rfl, rfl, rfl, w0⟩ := open_int Try.underlying3 (hval 0 3 v0 rfl rfl) h0
  obtain ⟨a1, rfl, rfl, rfl, w1⟩ := open_int Try.underlying3 (hval 1 3 v1 rfl rfl) h1
  clear hA0 hval0 hA hval
  refine (C.exactSplitEven a0 a1 W).mono fun e W' ⟨he, hb⟩ => ?_
  subst he
  exact ⟨_, rfl, K.law_post Seat.laid readable rfl Try.underlying4 rfl hW' rfl rfl rfl hb⟩

theorem c1 : Rows.fnExactSplitEvenRow.wf (OpenSpec.ofChange Rows.fnExactSplitEvenSpec) = true := by kernel_rfl
theorem c2 : (Rows.fnExactSplitEvenRow.inPlace == Try.prog.inPlace 6) = true := by kernel_rfl
theorem c3 : (Rows.fnExactSplitEvenRow.unfollowed == Try.prog.unfollowed 6) = true := by kernel_rfl
theorem c4 : (Rows.fnExactSplitEvenRow.recurses == Try.prog.recurses 6) = true := by kernel_rfl
theorem c5 : (Rows.fnExactSplitEvenRow.named == Try.prog.varsNamed 6) = true := by kernel_rfl
theorem closed : joinedFacts Try.prog 6 Try.f6 Rows.fnExactSplitEvenSpec Rows.fnExactSplitEvenRow = true :=
  Hd.joined Seat.laid Seat.mapsRowed' Seat.stops Seat.stopKnobs Seat.plainKeys Seat.stopsHeard Seat.enter Seat.lifts Seat.make c1 c2 c3 c4 c5 (by kernel_rfl)
theorem named : Try.prog.funcNamed Rows.fnExactSplitEvenRow.func = some 6 := by kernel_rfl
theorem inst : Try.f6.isInstance Try.prog Rows.fnExactSplitEvenRow.origin Rows.fnExactSplitEvenRow.targs := of_decide_eq_true (by kernel_rfl)
theorem wrapped : Try.f6.isWrapper Try.prog Rows.fnExactSplitEvenRow.wrapper Rows.fnExactSplitEvenRow.mainSum := by
  unfold Func.isWrapper; rw [if_neg (by decide +kernel)]; exact ⟨rfl, rfl⟩
theorem over : Rows.fnExactSplitEvenRow.holds Try.pinned (OpenSpec.ofChange Rows.fnExactSplitEvenSpec) :=
  OpenClaim.holds_of_wide 6 Try.f6 rfl rfl rfl rfl rfl rfl rfl ⟨rfl, rfl, rfl, rfl, rfl⟩ rfl rfl rfl rfl rfl named Try.func6 closed inst wrapped
    (fun os started H enc _ => lifted os started H enc)

theorem proved : Rows.FnExactSplitEvenSaid := over
#print axioms proved
end Go.Proofs.Ytcgaffhoggkbkaa.fnExactSplitEven

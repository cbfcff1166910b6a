/-
  GroupCounts returns what the reference returns, for all arguments, in memory of its own. Conditions: none.
-/
import Derived.Test.YtikfblaaacgalaaSeat
import Derived.Test.YtikfblaaacgalaaExactL
import Derived.Test.YtikfblaaacgalaaOpenQ
namespace Go.Proofs.Ytikfblaaacgalaa.fnExactGroupCounts
open Go.ChangeShapes Go.WideShapes Go.ChangeAt Go.RowKit

theorem readable : (Try.f19.params.toList.all fun t => Try.prog.readableRec t && decide (t < Try.prog.types.size)) = true := by kernel_rfl

set_option maxRecDepth 100000 in
theorem lifted (os : Os) (started : os.Started) (H : Type) (enc : TypeId × Value → H) :
    ReturnsInHanded {} Try.checked os 19 .any (Rows.fnExactGroupCountsSpec.pre6 enc Try.prog Try.f19 Rows.fnExactGroupCountsRow.domain false) (Rows.fnExactGroupCountsSpec.post enc Try.prog Try.f19 false true false false) := by
  refine returnsInHanded_of_change (C := Try.checked) Seat.own started (by kernel_rfl) Try.func19
    (ChangeSpec.witness6 (enc := enc) (C := Try.checked) false ⟨#[], #[.slice none 0 0, .slice none 0 0], []⟩ 8 (by kernel_rfl) (by kernel_rfl) (by kernel_rfl) (by kernel_rfl)) ?_
  intro W base args ds gs before hval0 hW _ _
  have hval : ∀ (j : Nat) t v, Try.f19.params[j]? = some t → args[j]? = some v → Value.okWide Try.prog W .any base t v := hval0
  have hW' := hW
  obtain ⟨p, q, hA0, hV, rfl, hfz, hnd⟩ := hW
  have hA : DataW.TrodAll enc Try.prog W 0 (fun _ => true) true Try.f19.params.toList args.toList ds p := hA0
  rw [Try.params19] at hA hval
  obtain ⟨v0, vs0, d0, ds0, p0, q0, hargs, rfl, rfl, h0, r0⟩ := trodAll_cons hA
  obtain ⟨v1, vs1, d1, ds1, p1, q1, rfl, rfl, rfl, h1, r1⟩ := trodAll_cons r0
  obtain ⟨rfl, rfl, rfl⟩ := trodAll_nil r1
  obtain rfl : args = #[v0, v1] := by cases args; simp_all
  obtain ⟨rfl, rfl⟩ := trodVars_none hV
  obtain ⟨A0, n0, c0, l0, rfl, hn0, hc0, hl0, hr0, hw0⟩ := K.open_qds Try.underlying22 Try.underlying59 (by kernel_rfl) rfl rfl rfl rfl (by kernel_rfl) (by kernel_rfl) (by kernel_rfl) (by kernel_rfl) (by rfl) (by rfl) (by rfl) (by rfl) (hval 0 22 v0 rfl rfl) h0
  obtain ⟨A1, n1, c1, l1, rfl, hn1, hc1, hl1, hr1, hw1⟩ := K.open_prs Try.underlying36 Try.underlying68 (by kernel_rfl) rfl rfl (by kernel_rfl) (by kernel_rfl) (by rfl) (by rfl) (hval 1 36 v1 rfl rfl) h1
  clear hA0 hval0 hA hval
  refine (C.exactGroupCounts W A0 n0 c0 l0 A1 n1 c1 l1 ⟨hn0, hc0⟩ hr0 ⟨hn1, hc1⟩ hr1).mono fun e W' ⟨he, hb⟩ => ?_
  subst he
  exact ⟨_, rfl, K.law_post Seat.laid readable rfl Try.underlying4 rfl hW' rfl rfl rfl hb⟩

theorem c1 : Rows.fnExactGroupCountsRow.wf (OpenSpec.ofChange Rows.fnExactGroupCountsSpec) = true := by kernel_rfl
theorem c2 : (Rows.fnExactGroupCountsRow.inPlace == Try.prog.inPlace 19) = true := by kernel_rfl
theorem c3 : (Rows.fnExactGroupCountsRow.unfollowed == Try.prog.unfollowed 19) = true := by kernel_rfl
theorem c4 : (Rows.fnExactGroupCountsRow.recurses == Try.prog.recurses 19) = true := by kernel_rfl
theorem c5 : (Rows.fnExactGroupCountsRow.named == Try.prog.varsNamed 19) = true := by kernel_rfl
theorem closed : joinedFacts Try.prog 19 Try.f19 Rows.fnExactGroupCountsSpec Rows.fnExactGroupCountsRow = true :=
  Hd.joined Seat.laid Seat.mapsRowed' Seat.stops Seat.stopKnobs Seat.plainKeys Seat.stopsHeard Seat.enter Seat.lifts Seat.make c1 c2 c3 c4 c5 (by kernel_rfl)
theorem named : Try.prog.funcNamed Rows.fnExactGroupCountsRow.func = some 19 := by kernel_rfl
theorem inst : Try.f19.isInstance Try.prog Rows.fnExactGroupCountsRow.origin Rows.fnExactGroupCountsRow.targs := of_decide_eq_true (by kernel_rfl)
theorem wrapped : Try.f19.isWrapper Try.prog Rows.fnExactGroupCountsRow.wrapper Rows.fnExactGroupCountsRow.mainSum := by
  unfold Func.isWrapper; rw [if_neg (by decide +kernel)]; exact ⟨rfl, rfl⟩
theorem over : Rows.fnExactGroupCountsRow.holds Try.pinned (OpenSpec.ofChange Rows.fnExactGroupCountsSpec) :=
  OpenClaim.holds_of_wide 19 Try.f19 rfl rfl rfl rfl rfl rfl rfl ⟨rfl, rfl, rfl, rfl, rfl⟩ rfl rfl rfl rfl rfl named Try.func19 closed inst wrapped
    (fun os started H enc _ => lifted os started H enc)

theorem proved : Rows.FnExactGroupCountsSaid := over
#print axioms proved
end Go.Proofs.Ytikfblaaacgalaa.fnExactGroupCounts

/-
  A guard that holds with some coupons holds with all the same and one more, if there are not too many. Conditions: none.
-/
import Derived.Test.YtapjlbcpfemeiaaSeat
import Derived.Test.YtapjlbcpfemeiaaHoldsMore
namespace Go.Proofs.Ytapjlbcpfemeiaa.fnGuardHoldsCoupon
open Go.ChangeShapes Go.WideShapes Go.ChangeAt Go.RowKit

theorem readable : (Try.f12.params.toList.all fun t => Try.prog.readableRec t && decide (t < Try.prog.types.size)) = true := by kernel_rfl

set_option maxRecDepth 100000 in
theorem lifted (os : Os) (started : os.Started) (H : Type) (enc : TypeId × Value → H) :
    ReturnsInHanded {} Try.checked os 12 .any (Rows.fnGuardHoldsCouponSpec.pre6 enc Try.prog Try.f12 Rows.fnGuardHoldsCouponRow.domain false) (Rows.fnGuardHoldsCouponSpec.post enc Try.prog Try.f12 false true false false) := by
  refine returnsInHanded_of_change (C := Try.checked) Seat.own started (by kernel_rfl) Try.func12
    (ChangeSpec.witness6 (enc := enc) (C := Try.checked) false ⟨#[], #[.slice none 0 0], []⟩ 8 (by kernel_rfl) (by kernel_rfl) (by kernel_rfl) (by kernel_rfl)) ?_
  intro W base args ds gs before hval0 hW _ _
  have hval : ∀ (j : Nat) t v, Try.f12.params[j]? = some t → args[j]? = some v → Value.okWide Try.prog W .any base t v := hval0
  have hW' := hW
  obtain ⟨p, q, hA0, hV, rfl, hfz, hnd⟩ := hW
  have hA : DataW.TrodAll enc Try.prog W 0 (fun _ => true) true Try.f12.params.toList args.toList ds p := hA0
  rw [Try.params12] at hA hval
  obtain ⟨v0, vs0, d0, ds0, p0, q0, hargs, rfl, rfl, h0, r0⟩ := trodAll_cons hA
  obtain ⟨rfl, rfl, rfl⟩ := trodAll_nil r0
  obtain rfl : args = #[v0] := by cases args; simp_all
  obtain ⟨rfl, rfl⟩ := trodVars_none hV
  obtain ⟨A0, n0, c0, z0, rfl, hn0, hc0, hl0, hr0, hw0⟩ := K.open_nums Try.underlying22 Try.underlying5 (by kernel_rfl) (hval 0 22 v0 rfl rfl) h0
  clear hA0 hval0 hA hval
  refine (C.guardHoldsCouponLaw W n0 c0 A0 (C.Code.mk' hn0 hc0 hr0 hw0)).mono fun e W' ⟨he, hb⟩ => ?_
  subst he
  exact ⟨_, rfl, K.law_post Seat.laid readable rfl Try.underlying4 rfl hW' rfl rfl rfl hb⟩

theorem c1 : Rows.fnGuardHoldsCouponRow.wf (OpenSpec.ofChange Rows.fnGuardHoldsCouponSpec) = true := by kernel_rfl
theorem c2 : (Rows.fnGuardHoldsCouponRow.inPlace == Try.prog.inPlace 12) = true := by kernel_rfl
theorem c3 : (Rows.fnGuardHoldsCouponRow.unfollowed == Try.prog.unfollowed 12) = true := by kernel_rfl
theorem c4 : (Rows.fnGuardHoldsCouponRow.recurses == Try.prog.recurses 12) = true := by kernel_rfl
theorem c5 : (Rows.fnGuardHoldsCouponRow.named == Try.prog.varsNamed 12) = true := by kernel_rfl
theorem closed : joinedFacts Try.prog 12 Try.f12 Rows.fnGuardHoldsCouponSpec Rows.fnGuardHoldsCouponRow = true :=
  Hd.joined Seat.laid Seat.mapsRowed' Seat.stops Seat.stopKnobs Seat.plainKeys Seat.stopsHeard Seat.enter Seat.lifts Seat.make c1 c2 c3 c4 c5 (by kernel_rfl)
theorem named : Try.prog.funcNamed Rows.fnGuardHoldsCouponRow.func = some 12 := by kernel_rfl
theorem inst : Try.f12.isInstance Try.prog Rows.fnGuardHoldsCouponRow.origin Rows.fnGuardHoldsCouponRow.targs := of_decide_eq_true (by kernel_rfl)
theorem wrapped : Try.f12.isWrapper Try.prog Rows.fnGuardHoldsCouponRow.wrapper Rows.fnGuardHoldsCouponRow.mainSum := by
  unfold Func.isWrapper; rw [if_neg (by decide +kernel)]; exact ⟨rfl, rfl⟩
theorem over : Rows.fnGuardHoldsCouponRow.holds Try.pinned (OpenSpec.ofChange Rows.fnGuardHoldsCouponSpec) :=
  OpenClaim.holds_of_wide 12 Try.f12 rfl rfl rfl rfl rfl rfl rfl ⟨rfl, rfl, rfl, rfl, rfl⟩ rfl rfl rfl rfl rfl named Try.func12 closed inst wrapped
    (fun os started H enc _ => lifted os started H enc)

theorem proved : Rows.FnGuardHoldsCouponSaid := over
#print axioms proved
end Go.Proofs.Ytapjlbcpfemeiaa.fnGuardHoldsCoupon

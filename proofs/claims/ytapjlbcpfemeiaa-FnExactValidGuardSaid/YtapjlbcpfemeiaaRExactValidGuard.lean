/-
  ValidGuard returns what the reference returns, for all arguments. Conditions: none.
-/
import Derived.Test.YtapjlbcpfemeiaaSeat
import Derived.Test.YtapjlbcpfemeiaaExactG
import Derived.Test.YtapjlbcpfemeiaaOpenG
namespace Go.Proofs.Ytapjlbcpfemeiaa.fnExactValidGuard
open Go.ChangeShapes Go.WideShapes Go.ChangeAt Go.RowKit

theorem readable : (Try.f6.params.toList.all fun t => Try.prog.readableRec t && decide (t < Try.prog.types.size)) = true := by kernel_rfl

set_option maxRecDepth 100000 in
theorem lifted (os : Os) (started : os.Started) (H : Type) (enc : TypeId × Value → H) :
    ReturnsInHanded {} Try.checked os 6 .any (Rows.fnExactValidGuardSpec.pre6 enc Try.prog Try.f6 Rows.fnExactValidGuardRow.domain false) (Rows.fnExactValidGuardSpec.post enc Try.prog Try.f6 false true false false) := by
  refine returnsInHanded_of_change (C := Try.checked) Seat.own started (by kernel_rfl) Try.func6
    (ChangeSpec.witness6 (enc := enc) (C := Try.checked) false ⟨#[], #[.agg #[.int .i64 0, .int .i64 0, .slice none 0 0, .int .i64 0]], []⟩ 8 (by kernel_rfl) (by kernel_rfl) (by kernel_rfl) (by kernel_rfl)) ?_
  intro W base args ds gs before hval0 hW _ _
  have hval : ∀ (j : Nat) t v, Try.f6.params[j]? = some t → args[j]? = some v → Value.okWide Try.prog W .any base t v := hval0
  have hW' := hW
  obtain ⟨p, q, hA0, hV, rfl, hfz, hnd⟩ := hW
  have hA : DataW.TrodAll enc Try.prog W 0 (fun _ => true) true Try.f6.params.toList args.toList ds p := hA0
  rw [Try.params6] at hA hval
  obtain ⟨v0, vs0, d0, ds0, p0, q0, hargs, rfl, rfl, h0, r0⟩ := trodAll_cons hA
  obtain ⟨rfl, rfl, rfl⟩ := trodAll_nil r0
  obtain rfl : args = #[v0] := by cases args; simp_all
  obtain ⟨rfl, rfl⟩ := trodVars_none hV
  obtain ⟨x0, y0, u0, A0, n0, c0, l0, rfl, hc0, hr0⟩ := K.open_guard Try.underlying51 (by kernel_rfl) ⟨rfl, by kernel_rfl⟩ ⟨rfl, by kernel_rfl⟩ ⟨rfl, by kernel_rfl⟩ Try.underlying48 ⟨rfl, by kernel_rfl⟩ ⟨rfl, by kernel_rfl⟩ (by rfl) (by rfl) (by rfl) Try.underlying49 Try.underlying48 (by kernel_rfl) rfl rfl (by kernel_rfl) (by kernel_rfl) (by rfl) (by rfl) (hval 0 51 v0 rfl rfl) h0
  clear hA0 hval0 hA hval
  refine (C.exactValidGuard W x0 y0 u0 A0 n0 c0 l0 hc0 hr0).mono fun e W' ⟨he, hb⟩ => ?_
  subst he
  exact ⟨_, rfl, K.law_post Seat.laid readable rfl Try.underlying4 rfl hW' rfl rfl rfl hb⟩

theorem c1 : Rows.fnExactValidGuardRow.wf (OpenSpec.ofChange Rows.fnExactValidGuardSpec) = true := by kernel_rfl
theorem c2 : (Rows.fnExactValidGuardRow.inPlace == Try.prog.inPlace 6) = true := by kernel_rfl
theorem c3 : (Rows.fnExactValidGuardRow.unfollowed == Try.prog.unfollowed 6) = true := by kernel_rfl
theorem c4 : (Rows.fnExactValidGuardRow.recurses == Try.prog.recurses 6) = true := by kernel_rfl
theorem c5 : (Rows.fnExactValidGuardRow.named == Try.prog.varsNamed 6) = true := by kernel_rfl
theorem closed : joinedFacts Try.prog 6 Try.f6 Rows.fnExactValidGuardSpec Rows.fnExactValidGuardRow = true :=
  Hd.joined Seat.laid Seat.mapsRowed' Seat.stops Seat.stopKnobs Seat.plainKeys Seat.stopsHeard Seat.enter Seat.lifts Seat.make c1 c2 c3 c4 c5 (by kernel_rfl)
theorem named : Try.prog.funcNamed Rows.fnExactValidGuardRow.func = some 6 := by kernel_rfl
theorem inst : Try.f6.isInstance Try.prog Rows.fnExactValidGuardRow.origin Rows.fnExactValidGuardRow.targs := of_decide_eq_true (by kernel_rfl)
theorem wrapped : Try.f6.isWrapper Try.prog Rows.fnExactValidGuardRow.wrapper Rows.fnExactValidGuardRow.mainSum := by
  unfold Func.isWrapper; rw [if_neg (by decide +kernel)]; exact ⟨rfl, rfl⟩
theorem over : Rows.fnExactValidGuardRow.holds Try.pinned (OpenSpec.ofChange Rows.fnExactValidGuardSpec) :=
  OpenClaim.holds_of_wide 6 Try.f6 rfl rfl rfl rfl rfl rfl rfl ⟨rfl, rfl, rfl, rfl, rfl⟩ rfl rfl rfl rfl rfl named Try.func6 closed inst wrapped
    (fun os started H enc _ => lifted os started H enc)

theorem proved : Rows.FnExactValidGuardSaid := over
#print axioms proved
end Go.Proofs.Ytapjlbcpfemeiaa.fnExactValidGuard

/-
  GuardsMeet returns what the reference returns, for all arguments, in memory of its own. Conditions: none.
-/
import Derived.Test.YtapjlbcpfemeiaaSeat
import Derived.Test.YtapjlbcpfemeiaaExactM
import Derived.Test.YtapjlbcpfemeiaaOpenG
namespace Go.Proofs.Ytapjlbcpfemeiaa.fnExactGuardsMeet
open Go.ChangeShapes Go.WideShapes Go.ChangeAt Go.RowKit

theorem readable : (Try.f11.params.toList.all fun t => Try.prog.readableRec t && decide (t < Try.prog.types.size)) = true := by kernel_rfl

set_option maxRecDepth 100000 in
theorem lifted (os : Os) (started : os.Started) (H : Type) (enc : TypeId × Value → H) :
    ReturnsInHanded {} Try.checked os 11 .any (Rows.fnExactGuardsMeetSpec.pre6 enc Try.prog Try.f11 Rows.fnExactGuardsMeetRow.domain false) (Rows.fnExactGuardsMeetSpec.post enc Try.prog Try.f11 false true false false) := by
  refine returnsInHanded_of_change (C := Try.checked) Seat.own started (by kernel_rfl) Try.func11
    (ChangeSpec.witness6 (enc := enc) (C := Try.checked) false ⟨#[], #[.agg #[.int .i64 0, .int .i64 0, .slice none 0 0, .int .i64 0], .agg #[.int .i64 0, .int .i64 0, .slice none 0 0, .int .i64 0]], []⟩ 8 (by kernel_rfl) (by kernel_rfl) (by kernel_rfl) (by kernel_rfl)) ?_
  intro W base args ds gs before hval0 hW _ _
  have hval : ∀ (j : Nat) t v, Try.f11.params[j]? = some t → args[j]? = some v → Value.okWide Try.prog W .any base t v := hval0
  have hW' := hW
  obtain ⟨p, q, hA0, hV, rfl, hfz, hnd⟩ := hW
  have hA : DataW.TrodAll enc Try.prog W 0 (fun _ => true) true Try.f11.params.toList args.toList ds p := hA0
  rw [Try.params11] at hA hval
  obtain ⟨v0, vs0, d0, ds0, p0, q0, hargs, rfl, rfl, h0, r0⟩ := trodAll_cons hA
  obtain ⟨v1, vs1, d1, ds1, p1, q1, rfl, rfl, rfl, h1, r1⟩ := trodAll_cons r0
  obtain ⟨rfl, rfl, rfl⟩ := trodAll_nil r1
  obtain rfl : args = #[v0, v1] := by cases args; simp_all
  obtain ⟨rfl, rfl⟩ := trodVars_none hV
  obtain ⟨x0, y0, u0, A0, n0, c0, l0, rfl, hc0, hr0⟩ := K.open_guard Try.underlying51 (by kernel_rfl) ⟨rfl, by kernel_rfl⟩ ⟨rfl, by kernel_rfl⟩ ⟨rfl, by kernel_rfl⟩ Try.underlying48 ⟨rfl, by kernel_rfl⟩ ⟨rfl, by kernel_rfl⟩ (by rfl) (by rfl) (by rfl) Try.underlying49 Try.underlying48 (by kernel_rfl) rfl rfl (by kernel_rfl) (by kernel_rfl) (by rfl) (by rfl) (hval 0 51 v0 rfl rfl) h0
  obtain ⟨x1, y1, u1, A1, n1, c1, l1, rfl, hc1, hr1⟩ := K.open_guard Try.underlying51 (by kernel_rfl) ⟨rfl, by kernel_rfl⟩ ⟨rfl, by kernel_rfl⟩ ⟨rfl, by kernel_rfl⟩ Try.underlying48 ⟨rfl, by kernel_rfl⟩ ⟨rfl, by kernel_rfl⟩ (by rfl) (by rfl) (by rfl) Try.underlying49 Try.underlying48 (by kernel_rfl) rfl rfl (by kernel_rfl) (by kernel_rfl) (by rfl) (by rfl) (hval 1 51 v1 rfl rfl) h1
  clear hA0 hval0 hA hval
  refine (C.exactGuardsMeet W x0 y0 u0 A0 n0 c0 l0 x1 y1 u1 A1 n1 c1 l1 hc0 hc1 hr0 hr1).mono fun e W' ⟨he, hb⟩ => ?_
  subst he
  exact ⟨_, rfl, K.law_post Seat.laid readable rfl Try.underlying4 rfl hW' rfl rfl rfl hb⟩

theorem c1 : Rows.fnExactGuardsMeetRow.wf (OpenSpec.ofChange Rows.fnExactGuardsMeetSpec) = true := by kernel_rfl
theorem c2 : (Rows.fnExactGuardsMeetRow.inPlace == Try.prog.inPlace 11) = true := by kernel_rfl
theorem c3 : (Rows.fnExactGuardsMeetRow.unfollowed == Try.prog.unfollowed 11) = true := by kernel_rfl
theorem c4 : (Rows.fnExactGuardsMeetRow.recurses == Try.prog.recurses 11) = true := by kernel_rfl
theorem c5 : (Rows.fnExactGuardsMeetRow.named == Try.prog.varsNamed 11) = true := by kernel_rfl
theorem closed : joinedFacts Try.prog 11 Try.f11 Rows.fnExactGuardsMeetSpec Rows.fnExactGuardsMeetRow = true :=
  Hd.joined Seat.laid Seat.mapsRowed' Seat.stops Seat.stopKnobs Seat.plainKeys Seat.stopsHeard Seat.enter Seat.lifts Seat.make c1 c2 c3 c4 c5 (by kernel_rfl)
theorem named : Try.prog.funcNamed Rows.fnExactGuardsMeetRow.func = some 11 := by kernel_rfl
theorem inst : Try.f11.isInstance Try.prog Rows.fnExactGuardsMeetRow.origin Rows.fnExactGuardsMeetRow.targs := of_decide_eq_true (by kernel_rfl)
theorem wrapped : Try.f11.isWrapper Try.prog Rows.fnExactGuardsMeetRow.wrapper Rows.fnExactGuardsMeetRow.mainSum := by
  unfold Func.isWrapper; rw [if_neg (by decide +kernel)]; exact ⟨rfl, rfl⟩
theorem over : Rows.fnExactGuardsMeetRow.holds Try.pinned (OpenSpec.ofChange Rows.fnExactGuardsMeetSpec) :=
  OpenClaim.holds_of_wide 11 Try.f11 rfl rfl rfl rfl rfl rfl rfl ⟨rfl, rfl, rfl, rfl, rfl⟩ rfl rfl rfl rfl rfl named Try.func11 closed inst wrapped
    (fun os started H enc _ => lifted os started H enc)

theorem proved : Rows.FnExactGuardsMeetSaid := over
#print axioms proved
end Go.Proofs.Ytapjlbcpfemeiaa.fnExactGuardsMeet

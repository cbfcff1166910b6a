/-
  AddPieces returns what the reference returns, for all arguments, in memory of its own. Conditions: none.
-/
import Derived.Test.YtikfblaaacgalaaSeat
import Derived.Test.YtikfblaaacgalaaExactA
import Derived.Test.YtikfblaaacgalaaOpenQ
namespace Go.Proofs.Ytikfblaaacgalaa.fnExactAddPieces
open Go.ChangeShapes Go.WideShapes Go.ChangeAt Go.RowKit

theorem readable : (Try.f21.params.toList.all fun t => Try.prog.readableRec t && decide (t < Try.prog.types.size)) = true := by kernel_rfl

set_option maxRecDepth 100000 in
theorem lifted (os : Os) (started : os.Started) (H : Type) (enc : TypeId × Value → H) :
    ReturnsInHanded {} Try.checked os 21 .any (Rows.fnExactAddPiecesSpec.pre6 enc Try.prog Try.f21 Rows.fnExactAddPiecesRow.domain false) (Rows.fnExactAddPiecesSpec.post enc Try.prog Try.f21 false true false false) := by
  refine returnsInHanded_of_change (C := Try.checked) Seat.own started (by kernel_rfl) Try.func21
    (ChangeSpec.witness6 (enc := enc) (C := Try.checked) false ⟨#[], #[.slice none 0 0, .slice none 0 0, .int .i64 0, .int .i64 0], []⟩ 8 (by kernel_rfl) (by kernel_rfl) (by kernel_rfl) (by kernel_rfl)) ?_
  intro W base args ds gs before hval0 hW _ _
  have hval : ∀ (j : Nat) t v, Try.f21.params[j]? = some t → args[j]? = some v → Value.okWide Try.prog W .any base t v := hval0
  have hW' := hW
  obtain ⟨p, q, hA0, hV, rfl, hfz, hnd⟩ := hW
  have hA : DataW.TrodAll enc Try.prog W 0 (fun _ => true) true Try.f21.params.toList args.toList ds p := hA0
  rw [Try.params21] at hA hval
  obtain ⟨v0, vs0, d0, ds0, p0, q0, hargs, rfl, rfl, h0, r0⟩ := trodAll_cons hA
  obtain ⟨v1, vs1, d1, ds1, p1, q1, rfl, rfl, rfl, h1, r1⟩ := trodAll_cons r0
  obtain ⟨v2, vs2, d2, ds2, p2, q2, rfl, rfl, rfl, h2, r2⟩ := trodAll_cons r1
  obtain ⟨v3, vs3, d3, ds3, p3, q3, rfl, rfl, rfl, h3, r3⟩ := trodAll_cons r2
  obtain ⟨rfl, rfl, rfl⟩ := trodAll_nil r3
  obtain rfl : args = #[v0, v1, v2, v3] := by cases args; simp_all
  obtain ⟨rfl, rfl⟩ := trodVars_none hV
  obtain ⟨A0, n0, c0, l0, rfl, hn0, hc0, hl0, hr0, hw0⟩ := K.open_qds Try.underlying22 Try.underlying59 (by kernel_rfl) rfl rfl rfl rfl (by kernel_rfl) (by kernel_rfl) (by kernel_rfl) (by kernel_rfl) (by rfl) (by rfl) (by rfl) (by rfl) (hval 0 22 v0 rfl rfl) h0
  obtain ⟨A1, n1, c1, l1, rfl, hn1, hc1, hl1, hr1, hw1⟩ := K.open_prs Try.underlying36 Try.underlying68 (by kernel_rfl) rfl rfl (by kernel_rfl) (by kernel_rfl) (by rfl) (by rfl) (hval 1 36 v1 rfl rfl) h1
  obtain ⟨a2, rfl, rfl, rfl, w2⟩ := open_int Try.underlying3 (hval 2 3 v2 rfl rfl) h2
  obtain ⟨a3, rfl, rfl, rfl, w3⟩ := open_int Try.underlying3 (hval 3 3 v3 rfl rfl) h3
  clear hA0 hval0 hA hval
  refine (C.exactAddPieces W A0 n0 c0 l0 A1 n1 c1 l1 a2 a3 ⟨hn0, hc0⟩ hr0 ⟨hn1, hc1⟩ hr1).mono fun e W' ⟨he, hb⟩ => ?_
  subst he
  exact ⟨_, rfl, K.law_post Seat.laid readable rfl Try.underlying4 rfl hW' rfl rfl rfl hb⟩

theorem c1 : Rows.fnExactAddPiecesRow.wf (OpenSpec.ofChange Rows.fnExactAddPiecesSpec) = true := by kernel_rfl
theorem c2 : (Rows.fnExactAddPiecesRow.inPlace == Try.prog.inPlace 21) = true := by kernel_rfl
theorem c3 : (Rows.fnExactAddPiecesRow.unfollowed == Try.prog.unfollowed 21) = true := by kernel_rfl
theorem c4 : (Rows.fnExactAddPiecesRow.recurses == Try.prog.recurses 21) = true := by kernel_rfl
theorem c5 : (Rows.fnExactAddPiecesRow.named == Try.prog.varsNamed 21) = true := by kernel_rfl
theorem closed : joinedFacts Try.prog 21 Try.f21 Rows.fnExactAddPiecesSpec Rows.fnExactAddPiecesRow = true :=
  Hd.joined Seat.laid Seat.mapsRowed' Seat.stops Seat.stopKnobs Seat.plainKeys Seat.stopsHeard Seat.enter Seat.lifts Seat.make c1 c2 c3 c4 c5 (by kernel_rfl)
theorem named : Try.prog.funcNamed Rows.fnExactAddPiecesRow.func = some 21 := by kernel_rfl
theorem inst : Try.f21.isInstance Try.prog Rows.fnExactAddPiecesRow.origin Rows.fnExactAddPiecesRow.targs := of_decide_eq_true (by kernel_rfl)
theorem wrapped : Try.f21.isWrapper Try.prog Rows.fnExactAddPiecesRow.wrapper Rows.fnExactAddPiecesRow.mainSum := by
  unfold Func.isWrapper; rw [if_neg (by decide +kernel)]; exact ⟨rfl, rfl⟩
theorem over : Rows.fnExactAddPiecesRow.holds Try.pinned (OpenSpec.ofChange Rows.fnExactAddPiecesSpec) :=
  OpenClaim.holds_of_wide 21 Try.f21 rfl rfl rfl rfl rfl rfl rfl ⟨rfl, rfl, rfl, rfl, rfl⟩ rfl rfl rfl rfl rfl named Try.func21 closed inst wrapped
    (fun os started H enc _ => lifted os started H enc)

theorem proved : Rows.FnExactAddPiecesSaid := over
#print axioms proved
end Go.Proofs.Ytikfblaaacgalaa.fnExactAddPieces

/-
  No cell of these rows narrows 'for every input' (looked for: loops, veiled, ifaces, maps, wideKeys, modest, calm, conditions, laid).
  DERIVED. THE GIVEN ROWS OF THIS SEAT. 11 by the template 'for every input the law returns true; each argument reads behind the call as it read before'; 0 by the template 'total and deterministic' (their statements: YtapjlbcpfemeiaaTotals.lean).
  GIVEN WITH THE SEED: the statements are not yours to turn. If you find one false, say at which input.
  Laid BY PROGRAM, IN A SANDBOX (cutbox-rows.mjs): the forced cells as the released guide's own fill.sh prints them over the translation 450b7036bf7747fc… (all of the seat's roots in one cut). By AI agents, Wed Nov 11 2026. No macro, syntax, notation, axiom, sorry.
-/
import Derived.Test.YtapjlbcpfemeiaaChecked
import GoSem.Claim
import GoSem.ClaimJoined
import GoSem.ClaimMapViews
import Derived.JoinedTies
import Derived.KernelRfl
namespace Go.Proofs.Ytapjlbcpfemeiaa
/- THE CELL 'sum', in the pinned program and in every row, IS THE sha256 OF THE DUMP (.gsa) THAT YtapjlbcpfemeiaaProg.lean LOADS. Nothing in Lean hashes anything: it is a label: what it is worth is what the hold of that sum in a sandbox is worth. -/
noncomputable def Try.pinned : Pinned := { name := "ytapjlbcpfemeiaa", sum := "450b7036bf7747fc6842bca80dac42e2e9acaca6b925f1a048b1fafc601c48de", checked := Try.checked }
namespace Rows
def none {H : Type} : Left H := { results := [], args := [] }

/-- 'laws.FnGuardHolds': WHATEVER THE INPUT: true; the input reads as it did. -/
def fnGuardHoldsSpec : ChangeSpec := { name := "fnGuardHolds", fn := fun _ => fun
  | [d] => { results := [.lit (.bool true)], args := [d] }
  | _ => none }
def fnGuardHoldsRow : OpenClaim := { program := "ytapjlbcpfemeiaa", sum := "450b7036bf7747fc6842bca80dac42e2e9acaca6b925f1a048b1fafc601c48de", func := "loop.example/promotionengine/laws.FnGuardHolds", spec := "fnGuardHolds", apart := false }
def FnGuardHoldsSaid : Prop := fnGuardHoldsRow.holds Try.pinned (OpenSpec.ofChange fnGuardHoldsSpec)

/-- ITS FALSE NEIGHBOUR: 'it returns false'. Refute it at one input. -/
def fnGuardHoldsWrong : ChangeSpec := { name := "fnGuardHolds", fn := fun _ => fun
  | [d] => { results := [.lit (.bool false)], args := [d] }
  | _ => none }
def FnGuardHoldsWrongFalsely : Prop := fnGuardHoldsRow.holds Try.pinned (OpenSpec.ofChange fnGuardHoldsWrong)

/-- 'laws.FnPointOfCoupons': WHATEVER THE INPUT: true; the input reads as it did. -/
def fnPointOfCouponsSpec : ChangeSpec := { name := "fnPointOfCoupons", fn := fun _ => fun
  | [d] => { results := [.lit (.bool true)], args := [d] }
  | _ => none }
def fnPointOfCouponsRow : OpenClaim := { program := "ytapjlbcpfemeiaa", sum := "450b7036bf7747fc6842bca80dac42e2e9acaca6b925f1a048b1fafc601c48de", func := "loop.example/promotionengine/laws.FnPointOfCoupons", spec := "fnPointOfCoupons", apart := false }
def FnPointOfCouponsSaid : Prop := fnPointOfCouponsRow.holds Try.pinned (OpenSpec.ofChange fnPointOfCouponsSpec)

/-- ITS FALSE NEIGHBOUR: 'it returns false'. Refute it at one input. -/
def fnPointOfCouponsWrong : ChangeSpec := { name := "fnPointOfCoupons", fn := fun _ => fun
  | [d] => { results := [.lit (.bool false)], args := [d] }
  | _ => none }
def FnPointOfCouponsWrongFalsely : Prop := fnPointOfCouponsRow.holds Try.pinned (OpenSpec.ofChange fnPointOfCouponsWrong)

/-- 'laws.FnPointOf': WHATEVER THE INPUT: true; the input reads as it did. -/
def fnPointOfSpec : ChangeSpec := { name := "fnPointOf", fn := fun _ => fun
  | [d] => { results := [.lit (.bool true)], args := [d] }
  | _ => none }
def fnPointOfRow : OpenClaim := { program := "ytapjlbcpfemeiaa", sum := "450b7036bf7747fc6842bca80dac42e2e9acaca6b925f1a048b1fafc601c48de", func := "loop.example/promotionengine/laws.FnPointOf", spec := "fnPointOf", apart := false }
def FnPointOfSaid : Prop := fnPointOfRow.holds Try.pinned (OpenSpec.ofChange fnPointOfSpec)

/-- ITS FALSE NEIGHBOUR: 'it returns false'. Refute it at one input. -/
def fnPointOfWrong : ChangeSpec := { name := "fnPointOf", fn := fun _ => fun
  | [d] => { results := [.lit (.bool false)], args := [d] }
  | _ => none }
def FnPointOfWrongFalsely : Prop := fnPointOfRow.holds Try.pinned (OpenSpec.ofChange fnPointOfWrong)

/-- 'laws.FnExactValidGuard': WHATEVER THE INPUT: true; the input reads as it did. -/
def fnExactValidGuardSpec : ChangeSpec := { name := "fnExactValidGuard", fn := fun _ => fun
  | [d] => { results := [.lit (.bool true)], args := [d] }
  | _ => none }
def fnExactValidGuardRow : OpenClaim := { program := "ytapjlbcpfemeiaa", sum := "450b7036bf7747fc6842bca80dac42e2e9acaca6b925f1a048b1fafc601c48de", func := "loop.example/promotionengine/laws.FnExactValidGuard", spec := "fnExactValidGuard", apart := false }
def FnExactValidGuardSaid : Prop := fnExactValidGuardRow.holds Try.pinned (OpenSpec.ofChange fnExactValidGuardSpec)

/-- ITS FALSE NEIGHBOUR: 'it returns false'. Refute it at one input. -/
def fnExactValidGuardWrong : ChangeSpec := { name := "fnExactValidGuard", fn := fun _ => fun
  | [d] => { results := [.lit (.bool false)], args := [d] }
  | _ => none }
def FnExactValidGuardWrongFalsely : Prop := fnExactValidGuardRow.holds Try.pinned (OpenSpec.ofChange fnExactValidGuardWrong)

/-- 'laws.FnValidGuard': WHATEVER THE INPUT: true; the input reads as it did. -/
def fnValidGuardSpec : ChangeSpec := { name := "fnValidGuard", fn := fun _ => fun
  | [d] => { results := [.lit (.bool true)], args := [d] }
  | _ => none }
def fnValidGuardRow : OpenClaim := { program := "ytapjlbcpfemeiaa", sum := "450b7036bf7747fc6842bca80dac42e2e9acaca6b925f1a048b1fafc601c48de", func := "loop.example/promotionengine/laws.FnValidGuard", spec := "fnValidGuard", apart := false }
def FnValidGuardSaid : Prop := fnValidGuardRow.holds Try.pinned (OpenSpec.ofChange fnValidGuardSpec)

/-- ITS FALSE NEIGHBOUR: 'it returns false'. Refute it at one input. -/
def fnValidGuardWrong : ChangeSpec := { name := "fnValidGuard", fn := fun _ => fun
  | [d] => { results := [.lit (.bool false)], args := [d] }
  | _ => none }
def FnValidGuardWrongFalsely : Prop := fnValidGuardRow.holds Try.pinned (OpenSpec.ofChange fnValidGuardWrong)

/-- 'laws.FnGuardsMeet': WHATEVER THE INPUT: true; the input reads as it did. -/
def fnGuardsMeetSpec : ChangeSpec := { name := "fnGuardsMeet", fn := fun _ => fun
  | [d] => { results := [.lit (.bool true)], args := [d] }
  | _ => none }
def fnGuardsMeetRow : OpenClaim := { program := "ytapjlbcpfemeiaa", sum := "450b7036bf7747fc6842bca80dac42e2e9acaca6b925f1a048b1fafc601c48de", func := "loop.example/promotionengine/laws.FnGuardsMeet", spec := "fnGuardsMeet", apart := false }
def FnGuardsMeetSaid : Prop := fnGuardsMeetRow.holds Try.pinned (OpenSpec.ofChange fnGuardsMeetSpec)

/-- ITS FALSE NEIGHBOUR: 'it returns false'. Refute it at one input. -/
def fnGuardsMeetWrong : ChangeSpec := { name := "fnGuardsMeet", fn := fun _ => fun
  | [d] => { results := [.lit (.bool false)], args := [d] }
  | _ => none }
def FnGuardsMeetWrongFalsely : Prop := fnGuardsMeetRow.holds Try.pinned (OpenSpec.ofChange fnGuardsMeetWrong)

/-- 'laws.FnGuardsMeetNone': WHATEVER THE INPUT: true; the input reads as it did. -/
def fnGuardsMeetNoneSpec : ChangeSpec := { name := "fnGuardsMeetNone", fn := fun _ => fun
  | [d] => { results := [.lit (.bool true)], args := [d] }
  | _ => none }
def fnGuardsMeetNoneRow : OpenClaim := { program := "ytapjlbcpfemeiaa", sum := "450b7036bf7747fc6842bca80dac42e2e9acaca6b925f1a048b1fafc601c48de", func := "loop.example/promotionengine/laws.FnGuardsMeetNone", spec := "fnGuardsMeetNone", apart := false }
def FnGuardsMeetNoneSaid : Prop := fnGuardsMeetNoneRow.holds Try.pinned (OpenSpec.ofChange fnGuardsMeetNoneSpec)

/-- ITS FALSE NEIGHBOUR: 'it returns false'. Refute it at one input. -/
def fnGuardsMeetNoneWrong : ChangeSpec := { name := "fnGuardsMeetNone", fn := fun _ => fun
  | [d] => { results := [.lit (.bool false)], args := [d] }
  | _ => none }
def FnGuardsMeetNoneWrongFalsely : Prop := fnGuardsMeetNoneRow.holds Try.pinned (OpenSpec.ofChange fnGuardsMeetNoneWrong)

/-- 'laws.FnGuardsMeetSelf': WHATEVER THE INPUT: true; the input reads as it did. -/
def fnGuardsMeetSelfSpec : ChangeSpec := { name := "fnGuardsMeetSelf", fn := fun _ => fun
  | [d] => { results := [.lit (.bool true)], args := [d] }
  | _ => none }
def fnGuardsMeetSelfRow : OpenClaim := { program := "ytapjlbcpfemeiaa", sum := "450b7036bf7747fc6842bca80dac42e2e9acaca6b925f1a048b1fafc601c48de", func := "loop.example/promotionengine/laws.FnGuardsMeetSelf", spec := "fnGuardsMeetSelf", apart := false }
def FnGuardsMeetSelfSaid : Prop := fnGuardsMeetSelfRow.holds Try.pinned (OpenSpec.ofChange fnGuardsMeetSelfSpec)

/-- ITS FALSE NEIGHBOUR: 'it returns false'. Refute it at one input. -/
def fnGuardsMeetSelfWrong : ChangeSpec := { name := "fnGuardsMeetSelf", fn := fun _ => fun
  | [d] => { results := [.lit (.bool false)], args := [d] }
  | _ => none }
def FnGuardsMeetSelfWrongFalsely : Prop := fnGuardsMeetSelfRow.holds Try.pinned (OpenSpec.ofChange fnGuardsMeetSelfWrong)

/-- 'laws.FnExactGuardsMeet': WHATEVER THE INPUT: true; the input reads as it did. -/
def fnExactGuardsMeetSpec : ChangeSpec := { name := "fnExactGuardsMeet", fn := fun _ => fun
  | [d1, d2] => { results := [.lit (.bool true)], args := [d1, d2] }
  | _ => none }
def fnExactGuardsMeetRow : OpenClaim := { program := "ytapjlbcpfemeiaa", sum := "450b7036bf7747fc6842bca80dac42e2e9acaca6b925f1a048b1fafc601c48de", func := "loop.example/promotionengine/laws.FnExactGuardsMeet", spec := "fnExactGuardsMeet", apart := false }
def FnExactGuardsMeetSaid : Prop := fnExactGuardsMeetRow.holds Try.pinned (OpenSpec.ofChange fnExactGuardsMeetSpec)

/-- ITS FALSE NEIGHBOUR: 'it returns false'. Refute it at one input. -/
def fnExactGuardsMeetWrong : ChangeSpec := { name := "fnExactGuardsMeet", fn := fun _ => fun
  | [d1, d2] => { results := [.lit (.bool false)], args := [d1, d2] }
  | _ => none }
def FnExactGuardsMeetWrongFalsely : Prop := fnExactGuardsMeetRow.holds Try.pinned (OpenSpec.ofChange fnExactGuardsMeetWrong)

/-- 'laws.FnGuardHoldsCoupon': WHATEVER THE INPUT: true; the input reads as it did. -/
def fnGuardHoldsCouponSpec : ChangeSpec := { name := "fnGuardHoldsCoupon", fn := fun _ => fun
  | [d] => { results := [.lit (.bool true)], args := [d] }
  | _ => none }
def fnGuardHoldsCouponRow : OpenClaim := { program := "ytapjlbcpfemeiaa", sum := "450b7036bf7747fc6842bca80dac42e2e9acaca6b925f1a048b1fafc601c48de", func := "loop.example/promotionengine/laws.FnGuardHoldsCoupon", spec := "fnGuardHoldsCoupon", apart := false }
def FnGuardHoldsCouponSaid : Prop := fnGuardHoldsCouponRow.holds Try.pinned (OpenSpec.ofChange fnGuardHoldsCouponSpec)

/-- ITS FALSE NEIGHBOUR: 'it returns false'. Refute it at one input. -/
def fnGuardHoldsCouponWrong : ChangeSpec := { name := "fnGuardHoldsCoupon", fn := fun _ => fun
  | [d] => { results := [.lit (.bool false)], args := [d] }
  | _ => none }
def FnGuardHoldsCouponWrongFalsely : Prop := fnGuardHoldsCouponRow.holds Try.pinned (OpenSpec.ofChange fnGuardHoldsCouponWrong)

/-- 'laws.FnExactGuardHolds': WHATEVER THE INPUT: true; the input reads as it did. -/
def fnExactGuardHoldsSpec : ChangeSpec := { name := "fnExactGuardHolds", fn := fun _ => fun
  | [d1, d2] => { results := [.lit (.bool true)], args := [d1, d2] }
  | _ => none }
def fnExactGuardHoldsRow : OpenClaim := { program := "ytapjlbcpfemeiaa", sum := "450b7036bf7747fc6842bca80dac42e2e9acaca6b925f1a048b1fafc601c48de", func := "loop.example/promotionengine/laws.FnExactGuardHolds", spec := "fnExactGuardHolds", apart := false }
def FnExactGuardHoldsSaid : Prop := fnExactGuardHoldsRow.holds Try.pinned (OpenSpec.ofChange fnExactGuardHoldsSpec)

/-- ITS FALSE NEIGHBOUR: 'it returns false'. Refute it at one input. -/
def fnExactGuardHoldsWrong : ChangeSpec := { name := "fnExactGuardHolds", fn := fun _ => fun
  | [d1, d2] => { results := [.lit (.bool false)], args := [d1, d2] }
  | _ => none }
def FnExactGuardHoldsWrongFalsely : Prop := fnExactGuardHoldsRow.holds Try.pinned (OpenSpec.ofChange fnExactGuardHoldsWrong)

/- THE SECOND FORM. 'bulk': how many values and letters a reading holds, each counted each time it is reached (what is shared counts as often as it is met; a slice's spare places count too). A statement '..UptoSaid' is the law's where the arguments, and the package variables that the reading takes, are together of bulk at most 1048576: NARROWER than '..Said'. Prove '..Said' where nothing that the law and all that it calls make is longer than what came in: it says more and counts as full. Else prove '..UptoSaid'. A law counts once. -/
mutual
def uptoBulk {H : Type} : DataW H → Nat
  | .lit (.string bytes) => bytes.length + 1
  | .lit _ => 1
  | .nil => 1
  | .ptr d => uptoBulk d + 1
  | .slice elems spare => uptoBulkAll elems + uptoBulkAll spare + 1
  | .agg parts => uptoBulkAll parts + 1
  | .iface _ d => uptoBulk d + 1
  | .map entries => uptoBulkEntries entries + 1
  | .held _ => 1
def uptoBulkAll {H : Type} : List (DataW H) → Nat
  | [] => 0
  | d :: r => uptoBulk d + uptoBulkAll r
def uptoBulkEntries {H : Type} : List (Lit × DataW H) → Nat
  | [] => 0
  | x :: r => uptoBulkEntry x + uptoBulkEntries r
def uptoBulkEntry {H : Type} : Lit × DataW H → Nat
  | (.string bytes, d) => bytes.length + uptoBulk d + 1
  | (_, d) => uptoBulk d + 1
 end
def uptoSmall : (H : Type) → List (DataW H) → Bool := fun _ ds => decide (uptoBulkAll ds ≤ 1048576)
def OpenSpec.upto (s : _root_.Go.ChangeSpec) : _root_.Go.OpenSpec := { _root_.Go.OpenSpec.ofChange s with cond := some uptoSmall }

/-- 'laws.FnGuardHolds', WHERE WHAT IT READS IS OF BULK AT MOST 1048576: true; the input reads as it did. -/
def fnGuardHoldsUptoRow : OpenClaim := { program := "ytapjlbcpfemeiaa", sum := "450b7036bf7747fc6842bca80dac42e2e9acaca6b925f1a048b1fafc601c48de", func := "loop.example/promotionengine/laws.FnGuardHolds", spec := "fnGuardHolds", apart := false, narrowed := true }
def FnGuardHoldsUptoSaid : Prop := fnGuardHoldsUptoRow.holds Try.pinned (OpenSpec.upto fnGuardHoldsSpec)

/-- 'laws.FnPointOfCoupons', WHERE WHAT IT READS IS OF BULK AT MOST 1048576: true; the input reads as it did. -/
def fnPointOfCouponsUptoRow : OpenClaim := { program := "ytapjlbcpfemeiaa", sum := "450b7036bf7747fc6842bca80dac42e2e9acaca6b925f1a048b1fafc601c48de", func := "loop.example/promotionengine/laws.FnPointOfCoupons", spec := "fnPointOfCoupons", apart := false, narrowed := true }
def FnPointOfCouponsUptoSaid : Prop := fnPointOfCouponsUptoRow.holds Try.pinned (OpenSpec.upto fnPointOfCouponsSpec)

/-- 'laws.FnPointOf', WHERE WHAT IT READS IS OF BULK AT MOST 1048576: true; the input reads as it did. -/
def fnPointOfUptoRow : OpenClaim := { program := "ytapjlbcpfemeiaa", sum := "450b7036bf7747fc6842bca80dac42e2e9acaca6b925f1a048b1fafc601c48de", func := "loop.example/promotionengine/laws.FnPointOf", spec := "fnPointOf", apart := false, narrowed := true }
def FnPointOfUptoSaid : Prop := fnPointOfUptoRow.holds Try.pinned (OpenSpec.upto fnPointOfSpec)

/-- 'laws.FnExactValidGuard', WHERE WHAT IT READS IS OF BULK AT MOST 1048576: true; the input reads as it did. -/
def fnExactValidGuardUptoRow : OpenClaim := { program := "ytapjlbcpfemeiaa", sum := "450b7036bf7747fc6842bca80dac42e2e9acaca6b925f1a048b1fafc601c48de", func := "loop.example/promotionengine/laws.FnExactValidGuard", spec := "fnExactValidGuard", apart := false, narrowed := true }
def FnExactValidGuardUptoSaid : Prop := fnExactValidGuardUptoRow.holds Try.pinned (OpenSpec.upto fnExactValidGuardSpec)

/-- 'laws.FnValidGuard', WHERE WHAT IT READS IS OF BULK AT MOST 1048576: true; the input reads as it did. -/
def fnValidGuardUptoRow : OpenClaim := { program := "ytapjlbcpfemeiaa", sum := "450b7036bf7747fc6842bca80dac42e2e9acaca6b925f1a048b1fafc601c48de", func := "loop.example/promotionengine/laws.FnValidGuard", spec := "fnValidGuard", apart := false, narrowed := true }
def FnValidGuardUptoSaid : Prop := fnValidGuardUptoRow.holds Try.pinned (OpenSpec.upto fnValidGuardSpec)

/-- 'laws.FnGuardsMeet', WHERE WHAT IT READS IS OF BULK AT MOST 1048576: true; the input reads as it did. -/
def fnGuardsMeetUptoRow : OpenClaim := { program := "ytapjlbcpfemeiaa", sum := "450b7036bf7747fc6842bca80dac42e2e9acaca6b925f1a048b1fafc601c48de", func := "loop.example/promotionengine/laws.FnGuardsMeet", spec := "fnGuardsMeet", apart := false, narrowed := true }
def FnGuardsMeetUptoSaid : Prop := fnGuardsMeetUptoRow.holds Try.pinned (OpenSpec.upto fnGuardsMeetSpec)

/-- 'laws.FnGuardsMeetNone', WHERE WHAT IT READS IS OF BULK AT MOST 1048576: true; the input reads as it did. -/
def fnGuardsMeetNoneUptoRow : OpenClaim := { program := "ytapjlbcpfemeiaa", sum := "450b7036bf7747fc6842bca80dac42e2e9acaca6b925f1a048b1fafc601c48de", func := "loop.example/promotionengine/laws.FnGuardsMeetNone", spec := "fnGuardsMeetNone", apart := false, narrowed := true }
def FnGuardsMeetNoneUptoSaid : Prop := fnGuardsMeetNoneUptoRow.holds Try.pinned (OpenSpec.upto fnGuardsMeetNoneSpec)

/-- 'laws.FnGuardsMeetSelf', WHERE WHAT IT READS IS OF BULK AT MOST 1048576: true; the input reads as it did. -/
def fnGuardsMeetSelfUptoRow : OpenClaim := { program := "ytapjlbcpfemeiaa", sum := "450b7036bf7747fc6842bca80dac42e2e9acaca6b925f1a048b1fafc601c48de", func := "loop.example/promotionengine/laws.FnGuardsMeetSelf", spec := "fnGuardsMeetSelf", apart := false, narrowed := true }
def FnGuardsMeetSelfUptoSaid : Prop := fnGuardsMeetSelfUptoRow.holds Try.pinned (OpenSpec.upto fnGuardsMeetSelfSpec)

/-- 'laws.FnExactGuardsMeet', WHERE WHAT IT READS IS OF BULK AT MOST 1048576: true; the input reads as it did. -/
def fnExactGuardsMeetUptoRow : OpenClaim := { program := "ytapjlbcpfemeiaa", sum := "450b7036bf7747fc6842bca80dac42e2e9acaca6b925f1a048b1fafc601c48de", func := "loop.example/promotionengine/laws.FnExactGuardsMeet", spec := "fnExactGuardsMeet", apart := false, narrowed := true }
def FnExactGuardsMeetUptoSaid : Prop := fnExactGuardsMeetUptoRow.holds Try.pinned (OpenSpec.upto fnExactGuardsMeetSpec)

/-- 'laws.FnGuardHoldsCoupon', WHERE WHAT IT READS IS OF BULK AT MOST 1048576: true; the input reads as it did. -/
def fnGuardHoldsCouponUptoRow : OpenClaim := { program := "ytapjlbcpfemeiaa", sum := "450b7036bf7747fc6842bca80dac42e2e9acaca6b925f1a048b1fafc601c48de", func := "loop.example/promotionengine/laws.FnGuardHoldsCoupon", spec := "fnGuardHoldsCoupon", apart := false, narrowed := true }
def FnGuardHoldsCouponUptoSaid : Prop := fnGuardHoldsCouponUptoRow.holds Try.pinned (OpenSpec.upto fnGuardHoldsCouponSpec)

/-- 'laws.FnExactGuardHolds', WHERE WHAT IT READS IS OF BULK AT MOST 1048576: true; the input reads as it did. -/
def fnExactGuardHoldsUptoRow : OpenClaim := { program := "ytapjlbcpfemeiaa", sum := "450b7036bf7747fc6842bca80dac42e2e9acaca6b925f1a048b1fafc601c48de", func := "loop.example/promotionengine/laws.FnExactGuardHolds", spec := "fnExactGuardHolds", apart := false, narrowed := true }
def FnExactGuardHoldsUptoSaid : Prop := fnExactGuardHoldsUptoRow.holds Try.pinned (OpenSpec.upto fnExactGuardHoldsSpec)

end Rows
end Go.Proofs.Ytapjlbcpfemeiaa

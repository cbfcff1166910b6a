/-
  No cell of these rows narrows 'for every input' (looked for: loops, veiled, ifaces, maps, wideKeys, modest, calm, conditions, laid).
  DERIVED. THE GIVEN ROWS OF THIS SEAT. 15 by the template 'for every input the law returns true; each argument reads behind the call as it read before'; 0 by the template 'total and deterministic' (their statements: YtcgaffhoggkbkaaTotals.lean).
  GIVEN WITH THE SEED: the statements are not yours to turn. If you find one false, say at which input.
  Laid BY PROGRAM, IN A SANDBOX (cutbox-rows.mjs): the forced cells as the released guide's own fill.sh prints them over the translation 4d0564fde73f0359… (all of the seat's roots in one cut). By AI agents, Wed Nov 11 2026. No macro, syntax, notation, axiom, sorry.
-/
import Derived.Test.YtcgaffhoggkbkaaChecked
import GoSem.Claim
import GoSem.ClaimJoined
import GoSem.ClaimMapViews
import Derived.JoinedTies
import Derived.KernelRfl
namespace Go.Proofs.Ytcgaffhoggkbkaa
/- THE CELL 'sum', in the pinned program and in every row, IS THE sha256 OF THE DUMP (.gsa) THAT YtcgaffhoggkbkaaProg.lean LOADS. Nothing in Lean hashes anything: it is a label: what it is worth is what the hold of that sum in a sandbox is worth. -/
noncomputable def Try.pinned : Pinned := { name := "ytcgaffhoggkbkaa", sum := "4d0564fde73f035976943a9e52f387a8421f37773af947f62011c83507640d53", checked := Try.checked }
namespace Rows
def none {H : Type} : Left H := { results := [], args := [] }

/-- 'laws.FnExactConstants': WHATEVER THE INPUT: true; the input reads as it did. -/
def fnExactConstantsSpec : ChangeSpec := { name := "fnExactConstants", fn := fun _ => fun
  | [] => { results := [.lit (.bool true)], args := [] }
  | _ => none }
def fnExactConstantsRow : OpenClaim := { program := "ytcgaffhoggkbkaa", sum := "4d0564fde73f035976943a9e52f387a8421f37773af947f62011c83507640d53", func := "loop.example/promotionengine/laws.FnExactConstants", spec := "fnExactConstants", apart := false }
def FnExactConstantsSaid : Prop := fnExactConstantsRow.holds Try.pinned (OpenSpec.ofChange fnExactConstantsSpec)

/-- ITS FALSE NEIGHBOUR: 'it returns false'. Refute it at one input. -/
def fnExactConstantsWrong : ChangeSpec := { name := "fnExactConstants", fn := fun _ => fun
  | [] => { results := [.lit (.bool false)], args := [] }
  | _ => none }
def FnExactConstantsWrongFalsely : Prop := fnExactConstantsRow.holds Try.pinned (OpenSpec.ofChange fnExactConstantsWrong)

/-- 'laws.FnExactPerMille': WHATEVER THE INPUT: true; the input reads as it did. -/
def fnExactPerMilleSpec : ChangeSpec := { name := "fnExactPerMille", fn := fun _ => fun
  | [d1, d2] => { results := [.lit (.bool true)], args := [d1, d2] }
  | _ => none }
def fnExactPerMilleRow : OpenClaim := { program := "ytcgaffhoggkbkaa", sum := "4d0564fde73f035976943a9e52f387a8421f37773af947f62011c83507640d53", func := "loop.example/promotionengine/laws.FnExactPerMille", spec := "fnExactPerMille", apart := false }
def FnExactPerMilleSaid : Prop := fnExactPerMilleRow.holds Try.pinned (OpenSpec.ofChange fnExactPerMilleSpec)

/-- ITS FALSE NEIGHBOUR: 'it returns false'. Refute it at one input. -/
def fnExactPerMilleWrong : ChangeSpec := { name := "fnExactPerMille", fn := fun _ => fun
  | [d1, d2] => { results := [.lit (.bool false)], args := [d1, d2] }
  | _ => none }
def FnExactPerMilleWrongFalsely : Prop := fnExactPerMilleRow.holds Try.pinned (OpenSpec.ofChange fnExactPerMilleWrong)

/-- 'laws.FnExactRoundTo': WHATEVER THE INPUT: true; the input reads as it did. -/
def fnExactRoundToSpec : ChangeSpec := { name := "fnExactRoundTo", fn := fun _ => fun
  | [d1, d2] => { results := [.lit (.bool true)], args := [d1, d2] }
  | _ => none }
def fnExactRoundToRow : OpenClaim := { program := "ytcgaffhoggkbkaa", sum := "4d0564fde73f035976943a9e52f387a8421f37773af947f62011c83507640d53", func := "loop.example/promotionengine/laws.FnExactRoundTo", spec := "fnExactRoundTo", apart := false }
def FnExactRoundToSaid : Prop := fnExactRoundToRow.holds Try.pinned (OpenSpec.ofChange fnExactRoundToSpec)

/-- ITS FALSE NEIGHBOUR: 'it returns false'. Refute it at one input. -/
def fnExactRoundToWrong : ChangeSpec := { name := "fnExactRoundTo", fn := fun _ => fun
  | [d1, d2] => { results := [.lit (.bool false)], args := [d1, d2] }
  | _ => none }
def FnExactRoundToWrongFalsely : Prop := fnExactRoundToRow.holds Try.pinned (OpenSpec.ofChange fnExactRoundToWrong)

/-- 'laws.FnExactSplitEven': WHATEVER THE INPUT: true; the input reads as it did. -/
def fnExactSplitEvenSpec : ChangeSpec := { name := "fnExactSplitEven", fn := fun _ => fun
  | [d1, d2] => { results := [.lit (.bool true)], args := [d1, d2] }
  | _ => none }
def fnExactSplitEvenRow : OpenClaim := { program := "ytcgaffhoggkbkaa", sum := "4d0564fde73f035976943a9e52f387a8421f37773af947f62011c83507640d53", func := "loop.example/promotionengine/laws.FnExactSplitEven", spec := "fnExactSplitEven", apart := false }
def FnExactSplitEvenSaid : Prop := fnExactSplitEvenRow.holds Try.pinned (OpenSpec.ofChange fnExactSplitEvenSpec)

/-- ITS FALSE NEIGHBOUR: 'it returns false'. Refute it at one input. -/
def fnExactSplitEvenWrong : ChangeSpec := { name := "fnExactSplitEven", fn := fun _ => fun
  | [d1, d2] => { results := [.lit (.bool false)], args := [d1, d2] }
  | _ => none }
def FnExactSplitEvenWrongFalsely : Prop := fnExactSplitEvenRow.holds Try.pinned (OpenSpec.ofChange fnExactSplitEvenWrong)

/-- 'laws.FnExactApportion': WHATEVER THE INPUT: true; the input reads as it did. -/
def fnExactApportionSpec : ChangeSpec := { name := "fnExactApportion", fn := fun _ => fun
  | [d1, d2] => { results := [.lit (.bool true)], args := [d1, d2] }
  | _ => none }
def fnExactApportionRow : OpenClaim := { program := "ytcgaffhoggkbkaa", sum := "4d0564fde73f035976943a9e52f387a8421f37773af947f62011c83507640d53", func := "loop.example/promotionengine/laws.FnExactApportion", spec := "fnExactApportion", apart := false }
def FnExactApportionSaid : Prop := fnExactApportionRow.holds Try.pinned (OpenSpec.ofChange fnExactApportionSpec)

/-- ITS FALSE NEIGHBOUR: 'it returns false'. Refute it at one input. -/
def fnExactApportionWrong : ChangeSpec := { name := "fnExactApportion", fn := fun _ => fun
  | [d1, d2] => { results := [.lit (.bool false)], args := [d1, d2] }
  | _ => none }
def FnExactApportionWrongFalsely : Prop := fnExactApportionRow.holds Try.pinned (OpenSpec.ofChange fnExactApportionWrong)

/-- 'laws.FnPerMille': WHATEVER THE INPUT: true; the input reads as it did. -/
def fnPerMilleSpec : ChangeSpec := { name := "fnPerMille", fn := fun _ => fun
  | [d] => { results := [.lit (.bool true)], args := [d] }
  | _ => none }
def fnPerMilleRow : OpenClaim := { program := "ytcgaffhoggkbkaa", sum := "4d0564fde73f035976943a9e52f387a8421f37773af947f62011c83507640d53", func := "loop.example/promotionengine/laws.FnPerMille", spec := "fnPerMille", apart := false }
def FnPerMilleSaid : Prop := fnPerMilleRow.holds Try.pinned (OpenSpec.ofChange fnPerMilleSpec)

/-- ITS FALSE NEIGHBOUR: 'it returns false'. Refute it at one input. -/
def fnPerMilleWrong : ChangeSpec := { name := "fnPerMille", fn := fun _ => fun
  | [d] => { results := [.lit (.bool false)], args := [d] }
  | _ => none }
def FnPerMilleWrongFalsely : Prop := fnPerMilleRow.holds Try.pinned (OpenSpec.ofChange fnPerMilleWrong)

/-- 'laws.FnPerMilleMore': WHATEVER THE INPUT: true; the input reads as it did. -/
def fnPerMilleMoreSpec : ChangeSpec := { name := "fnPerMilleMore", fn := fun _ => fun
  | [d] => { results := [.lit (.bool true)], args := [d] }
  | _ => none }
def fnPerMilleMoreRow : OpenClaim := { program := "ytcgaffhoggkbkaa", sum := "4d0564fde73f035976943a9e52f387a8421f37773af947f62011c83507640d53", func := "loop.example/promotionengine/laws.FnPerMilleMore", spec := "fnPerMilleMore", apart := false }
def FnPerMilleMoreSaid : Prop := fnPerMilleMoreRow.holds Try.pinned (OpenSpec.ofChange fnPerMilleMoreSpec)

/-- ITS FALSE NEIGHBOUR: 'it returns false'. Refute it at one input. -/
def fnPerMilleMoreWrong : ChangeSpec := { name := "fnPerMilleMore", fn := fun _ => fun
  | [d] => { results := [.lit (.bool false)], args := [d] }
  | _ => none }
def FnPerMilleMoreWrongFalsely : Prop := fnPerMilleMoreRow.holds Try.pinned (OpenSpec.ofChange fnPerMilleMoreWrong)

/-- 'laws.FnRoundTo': WHATEVER THE INPUT: true; the input reads as it did. -/
def fnRoundToSpec : ChangeSpec := { name := "fnRoundTo", fn := fun _ => fun
  | [d] => { results := [.lit (.bool true)], args := [d] }
  | _ => none }
def fnRoundToRow : OpenClaim := { program := "ytcgaffhoggkbkaa", sum := "4d0564fde73f035976943a9e52f387a8421f37773af947f62011c83507640d53", func := "loop.example/promotionengine/laws.FnRoundTo", spec := "fnRoundTo", apart := false }
def FnRoundToSaid : Prop := fnRoundToRow.holds Try.pinned (OpenSpec.ofChange fnRoundToSpec)

/-- ITS FALSE NEIGHBOUR: 'it returns false'. Refute it at one input. -/
def fnRoundToWrong : ChangeSpec := { name := "fnRoundTo", fn := fun _ => fun
  | [d] => { results := [.lit (.bool false)], args := [d] }
  | _ => none }
def FnRoundToWrongFalsely : Prop := fnRoundToRow.holds Try.pinned (OpenSpec.ofChange fnRoundToWrong)

/-- 'laws.FnRoundToAgain': WHATEVER THE INPUT: true; the input reads as it did. -/
def fnRoundToAgainSpec : ChangeSpec := { name := "fnRoundToAgain", fn := fun _ => fun
  | [d] => { results := [.lit (.bool true)], args := [d] }
  | _ => none }
def fnRoundToAgainRow : OpenClaim := { program := "ytcgaffhoggkbkaa", sum := "4d0564fde73f035976943a9e52f387a8421f37773af947f62011c83507640d53", func := "loop.example/promotionengine/laws.FnRoundToAgain", spec := "fnRoundToAgain", apart := false }
def FnRoundToAgainSaid : Prop := fnRoundToAgainRow.holds Try.pinned (OpenSpec.ofChange fnRoundToAgainSpec)

/-- ITS FALSE NEIGHBOUR: 'it returns false'. Refute it at one input. -/
def fnRoundToAgainWrong : ChangeSpec := { name := "fnRoundToAgain", fn := fun _ => fun
  | [d] => { results := [.lit (.bool false)], args := [d] }
  | _ => none }
def FnRoundToAgainWrongFalsely : Prop := fnRoundToAgainRow.holds Try.pinned (OpenSpec.ofChange fnRoundToAgainWrong)

/-- 'laws.FnSplitEven': WHATEVER THE INPUT: true; the input reads as it did. -/
def fnSplitEvenSpec : ChangeSpec := { name := "fnSplitEven", fn := fun _ => fun
  | [d] => { results := [.lit (.bool true)], args := [d] }
  | _ => none }
def fnSplitEvenRow : OpenClaim := { program := "ytcgaffhoggkbkaa", sum := "4d0564fde73f035976943a9e52f387a8421f37773af947f62011c83507640d53", func := "loop.example/promotionengine/laws.FnSplitEven", spec := "fnSplitEven", apart := false }
def FnSplitEvenSaid : Prop := fnSplitEvenRow.holds Try.pinned (OpenSpec.ofChange fnSplitEvenSpec)

/-- ITS FALSE NEIGHBOUR: 'it returns false'. Refute it at one input. -/
def fnSplitEvenWrong : ChangeSpec := { name := "fnSplitEven", fn := fun _ => fun
  | [d] => { results := [.lit (.bool false)], args := [d] }
  | _ => none }
def FnSplitEvenWrongFalsely : Prop := fnSplitEvenRow.holds Try.pinned (OpenSpec.ofChange fnSplitEvenWrong)

/-- 'laws.FnApportionEven': WHATEVER THE INPUT: true; the input reads as it did. -/
def fnApportionEvenSpec : ChangeSpec := { name := "fnApportionEven", fn := fun _ => fun
  | [d] => { results := [.lit (.bool true)], args := [d] }
  | _ => none }
def fnApportionEvenRow : OpenClaim := { program := "ytcgaffhoggkbkaa", sum := "4d0564fde73f035976943a9e52f387a8421f37773af947f62011c83507640d53", func := "loop.example/promotionengine/laws.FnApportionEven", spec := "fnApportionEven", apart := false }
def FnApportionEvenSaid : Prop := fnApportionEvenRow.holds Try.pinned (OpenSpec.ofChange fnApportionEvenSpec)

/-- ITS FALSE NEIGHBOUR: 'it returns false'. Refute it at one input. -/
def fnApportionEvenWrong : ChangeSpec := { name := "fnApportionEven", fn := fun _ => fun
  | [d] => { results := [.lit (.bool false)], args := [d] }
  | _ => none }
def FnApportionEvenWrongFalsely : Prop := fnApportionEvenRow.holds Try.pinned (OpenSpec.ofChange fnApportionEvenWrong)

/-- 'laws.FnApportionNone': WHATEVER THE INPUT: true; the input reads as it did. -/
def fnApportionNoneSpec : ChangeSpec := { name := "fnApportionNone", fn := fun _ => fun
  | [d] => { results := [.lit (.bool true)], args := [d] }
  | _ => none }
def fnApportionNoneRow : OpenClaim := { program := "ytcgaffhoggkbkaa", sum := "4d0564fde73f035976943a9e52f387a8421f37773af947f62011c83507640d53", func := "loop.example/promotionengine/laws.FnApportionNone", spec := "fnApportionNone", apart := false }
def FnApportionNoneSaid : Prop := fnApportionNoneRow.holds Try.pinned (OpenSpec.ofChange fnApportionNoneSpec)

/-- ITS FALSE NEIGHBOUR: 'it returns false'. Refute it at one input. -/
def fnApportionNoneWrong : ChangeSpec := { name := "fnApportionNone", fn := fun _ => fun
  | [d] => { results := [.lit (.bool false)], args := [d] }
  | _ => none }
def FnApportionNoneWrongFalsely : Prop := fnApportionNoneRow.holds Try.pinned (OpenSpec.ofChange fnApportionNoneWrong)

/-- 'laws.FnApportionScale': WHATEVER THE INPUT: true; the input reads as it did. -/
def fnApportionScaleSpec : ChangeSpec := { name := "fnApportionScale", fn := fun _ => fun
  | [d] => { results := [.lit (.bool true)], args := [d] }
  | _ => none }
def fnApportionScaleRow : OpenClaim := { program := "ytcgaffhoggkbkaa", sum := "4d0564fde73f035976943a9e52f387a8421f37773af947f62011c83507640d53", func := "loop.example/promotionengine/laws.FnApportionScale", spec := "fnApportionScale", apart := false }
def FnApportionScaleSaid : Prop := fnApportionScaleRow.holds Try.pinned (OpenSpec.ofChange fnApportionScaleSpec)

/-- ITS FALSE NEIGHBOUR: 'it returns false'. Refute it at one input. -/
def fnApportionScaleWrong : ChangeSpec := { name := "fnApportionScale", fn := fun _ => fun
  | [d] => { results := [.lit (.bool false)], args := [d] }
  | _ => none }
def FnApportionScaleWrongFalsely : Prop := fnApportionScaleRow.holds Try.pinned (OpenSpec.ofChange fnApportionScaleWrong)

/-- 'laws.FnApportion': WHATEVER THE INPUT: true; the input reads as it did. -/
def fnApportionSpec : ChangeSpec := { name := "fnApportion", fn := fun _ => fun
  | [d] => { results := [.lit (.bool true)], args := [d] }
  | _ => none }
def fnApportionRow : OpenClaim := { program := "ytcgaffhoggkbkaa", sum := "4d0564fde73f035976943a9e52f387a8421f37773af947f62011c83507640d53", func := "loop.example/promotionengine/laws.FnApportion", spec := "fnApportion", apart := false }
def FnApportionSaid : Prop := fnApportionRow.holds Try.pinned (OpenSpec.ofChange fnApportionSpec)

/-- ITS FALSE NEIGHBOUR: 'it returns false'. Refute it at one input. -/
def fnApportionWrong : ChangeSpec := { name := "fnApportion", fn := fun _ => fun
  | [d] => { results := [.lit (.bool false)], args := [d] }
  | _ => none }
def FnApportionWrongFalsely : Prop := fnApportionRow.holds Try.pinned (OpenSpec.ofChange fnApportionWrong)

/-- 'laws.FnApportionWhole': WHATEVER THE INPUT: true; the input reads as it did. -/
def fnApportionWholeSpec : ChangeSpec := { name := "fnApportionWhole", fn := fun _ => fun
  | [d] => { results := [.lit (.bool true)], args := [d] }
  | _ => none }
def fnApportionWholeRow : OpenClaim := { program := "ytcgaffhoggkbkaa", sum := "4d0564fde73f035976943a9e52f387a8421f37773af947f62011c83507640d53", func := "loop.example/promotionengine/laws.FnApportionWhole", spec := "fnApportionWhole", apart := false }
def FnApportionWholeSaid : Prop := fnApportionWholeRow.holds Try.pinned (OpenSpec.ofChange fnApportionWholeSpec)

/-- ITS FALSE NEIGHBOUR: 'it returns false'. Refute it at one input. -/
def fnApportionWholeWrong : ChangeSpec := { name := "fnApportionWhole", fn := fun _ => fun
  | [d] => { results := [.lit (.bool false)], args := [d] }
  | _ => none }
def FnApportionWholeWrongFalsely : Prop := fnApportionWholeRow.holds Try.pinned (OpenSpec.ofChange fnApportionWholeWrong)

/- THE SECOND FORM. 'bulk': how many values and letters a reading holds, each counted each time it is reached (what is shared counts as often as it is met; a slice's spare places count too). A statement '..UptoSaid' is the law's where the arguments, and the package variables that the reading takes, are together of bulk at most 1048576: NARROWER than '..Said'. Prove '..Said' where nothing that the law and all that it calls make is longer than what came in: it says more and counts as full. Else prove '..UptoSaid'. A law counts once. -/
mutual
def uptoBulk {H : Type} : DataW H → Nat
  | .lit (.string bytes) => bytes.length + 1
  | .lit _ => 1
  | .nil => 1
  | .ptr d => uptoBulk d + 1
  | .slice elems spare => uptoBulkAll elems + uptoBulkAll spare + 1
  | .agg parts => uptoBulkAll parts + 1
  | .iface _ d => uptoBulk d + 1
  | .map entries => uptoBulkEntries entries + 1
  | .held _ => 1
def uptoBulkAll {H : Type} : List (DataW H) → Nat
  | [] => 0
  | d :: r => uptoBulk d + uptoBulkAll r
def uptoBulkEntries {H : Type} : List (Lit × DataW H) → Nat
  | [] => 0
  | x :: r => uptoBulkEntry x + uptoBulkEntries r
def uptoBulkEntry {H : Type} : Lit × DataW H → Nat
  | (.string bytes, d) => bytes.length + uptoBulk d + 1
  | (_, d) => uptoBulk d + 1
 end
def uptoSmall : (H : Type) → List (DataW H) → Bool := fun _ ds => decide (uptoBulkAll ds ≤ 1048576)
def OpenSpec.upto (s : _root_.Go.ChangeSpec) : _root_.Go.OpenSpec := { _root_.Go.OpenSpec.ofChange s with cond := some uptoSmall }

/-- 'laws.FnExactConstants', WHERE WHAT IT READS IS OF BULK AT MOST 1048576: true; the input reads as it did. -/
def fnExactConstantsUptoRow : OpenClaim := { program := "ytcgaffhoggkbkaa", sum := "4d0564fde73f035976943a9e52f387a8421f37773af947f62011c83507640d53", func := "loop.example/promotionengine/laws.FnExactConstants", spec := "fnExactConstants", apart := false, narrowed := true }
def FnExactConstantsUptoSaid : Prop := fnExactConstantsUptoRow.holds Try.pinned (OpenSpec.upto fnExactConstantsSpec)

/-- 'laws.FnExactPerMille', WHERE WHAT IT READS IS OF BULK AT MOST 1048576: true; the input reads as it did. -/
def fnExactPerMilleUptoRow : OpenClaim := { program := "ytcgaffhoggkbkaa", sum := "4d0564fde73f035976943a9e52f387a8421f37773af947f62011c83507640d53", func := "loop.example/promotionengine/laws.FnExactPerMille", spec := "fnExactPerMille", apart := false, narrowed := true }
def FnExactPerMilleUptoSaid : Prop := fnExactPerMilleUptoRow.holds Try.pinned (OpenSpec.upto fnExactPerMilleSpec)

/-- 'laws.FnExactRoundTo', WHERE WHAT IT READS IS OF BULK AT MOST 1048576: true; the input reads as it did. -/
def fnExactRoundToUptoRow : OpenClaim := { program := "ytcgaffhoggkbkaa", sum := "4d0564fde73f035976943a9e52f387a8421f37773af947f62011c83507640d53", func := "loop.example/promotionengine/laws.FnExactRoundTo", spec := "fnExactRoundTo", apart := false, narrowed := true }
def FnExactRoundToUptoSaid : Prop := fnExactRoundToUptoRow.holds Try.pinned (OpenSpec.upto fnExactRoundToSpec)

/-- 'laws.FnExactSplitEven', WHERE WHAT IT READS IS OF BULK AT MOST 1048576: true; the input reads as it did. -/
def fnExactSplitEvenUptoRow : OpenClaim := { program := "ytcgaffhoggkbkaa", sum := "4d0564fde73f035976943a9e52f387a8421f37773af947f62011c83507640d53", func := "loop.example/promotionengine/laws.FnExactSplitEven", spec := "fnExactSplitEven", apart := false, narrowed := true }
def FnExactSplitEvenUptoSaid : Prop := fnExactSplitEvenUptoRow.holds Try.pinned (OpenSpec.upto fnExactSplitEvenSpec)

/-- 'laws.FnExactApportion', WHERE WHAT IT READS IS OF BULK AT MOST 1048576: true; the input reads as it did. -/
def fnExactApportionUptoRow : OpenClaim := { program := "ytcgaffhoggkbkaa", sum := "4d0564fde73f035976943a9e52f387a8421f37773af947f62011c83507640d53", func := "loop.example/promotionengine/laws.FnExactApportion", spec := "fnExactApportion", apart := false, narrowed := true }
def FnExactApportionUptoSaid : Prop := fnExactApportionUptoRow.holds Try.pinned (OpenSpec.upto fnExactApportionSpec)

/-- 'laws.FnPerMille', WHERE WHAT IT READS IS OF BULK AT MOST 1048576: true; the input reads as it did. -/
def fnPerMilleUptoRow : OpenClaim := { program := "ytcgaffhoggkbkaa", sum := "4d0564fde73f035976943a9e52f387a8421f37773af947f62011c83507640d53", func := "loop.example/promotionengine/laws.FnPerMille", spec := "fnPerMille", apart := false, narrowed := true }
def FnPerMilleUptoSaid : Prop := fnPerMilleUptoRow.holds Try.pinned (OpenSpec.upto fnPerMilleSpec)

/-- 'laws.FnPerMilleMore', WHERE WHAT IT READS IS OF BULK AT MOST 1048576: true; the input reads as it did. -/
def fnPerMilleMoreUptoRow : OpenClaim := { program := "ytcgaffhoggkbkaa", sum := "4d0564fde73f035976943a9e52f387a8421f37773af947f62011c83507640d53", func := "loop.example/promotionengine/laws.FnPerMilleMore", spec := "fnPerMilleMore", apart := false, narrowed := true }
def FnPerMilleMoreUptoSaid : Prop := fnPerMilleMoreUptoRow.holds Try.pinned (OpenSpec.upto fnPerMilleMoreSpec)

/-- 'laws.FnRoundTo', WHERE WHAT IT READS IS OF BULK AT MOST 1048576: true; the input reads as it did. -/
def fnRoundToUptoRow : OpenClaim := { program := "ytcgaffhoggkbkaa", sum := "4d0564fde73f035976943a9e52f387a8421f37773af947f62011c83507640d53", func := "loop.example/promotionengine/laws.FnRoundTo", spec := "fnRoundTo", apart := false, narrowed := true }
def FnRoundToUptoSaid : Prop := fnRoundToUptoRow.holds Try.pinned (OpenSpec.upto fnRoundToSpec)

/-- 'laws.FnRoundToAgain', WHERE WHAT IT READS IS OF BULK AT MOST 1048576: true; the input reads as it did. -/
def fnRoundToAgainUptoRow : OpenClaim := { program := "ytcgaffhoggkbkaa", sum := "4d0564fde73f035976943a9e52f387a8421f37773af947f62011c83507640d53", func := "loop.example/promotionengine/laws.FnRoundToAgain", spec := "fnRoundToAgain", apart := false, narrowed := true }
def FnRoundToAgainUptoSaid : Prop := fnRoundToAgainUptoRow.holds Try.pinned (OpenSpec.upto fnRoundToAgainSpec)

/-- 'laws.FnSplitEven', WHERE WHAT IT READS IS OF BULK AT MOST 1048576: true; the input reads as it did. -/
def fnSplitEvenUptoRow : OpenClaim := { program := "ytcgaffhoggkbkaa", sum := "4d0564fde73f035976943a9e52f387a8421f37773af947f62011c83507640d53", func := "loop.example/promotionengine/laws.FnSplitEven", spec := "fnSplitEven", apart := false, narrowed := true }
def FnSplitEvenUptoSaid : Prop := fnSplitEvenUptoRow.holds Try.pinned (OpenSpec.upto fnSplitEvenSpec)

/-- 'laws.FnApportionEven', WHERE WHAT IT READS IS OF BULK AT MOST 1048576: true; the input reads as it did. -/
def fnApportionEvenUptoRow : OpenClaim := { program := "ytcgaffhoggkbkaa", sum := "4d0564fde73f035976943a9e52f387a8421f37773af947f62011c83507640d53", func := "loop.example/promotionengine/laws.FnApportionEven", spec := "fnApportionEven", apart := false, narrowed := true }
def FnApportionEvenUptoSaid : Prop := fnApportionEvenUptoRow.holds Try.pinned (OpenSpec.upto fnApportionEvenSpec)

/-- 'laws.FnApportionNone', WHERE WHAT IT READS IS OF BULK AT MOST 1048576: true; the input reads as it did. -/
def fnApportionNoneUptoRow : OpenClaim := { program := "ytcgaffhoggkbkaa", sum := "4d0564fde73f035976943a9e52f387a8421f37773af947f62011c83507640d53", func := "loop.example/promotionengine/laws.FnApportionNone", spec := "fnApportionNone", apart := false, narrowed := true }
def FnApportionNoneUptoSaid : Prop := fnApportionNoneUptoRow.holds Try.pinned (OpenSpec.upto fnApportionNoneSpec)

/-- 'laws.FnApportionScale', WHERE WHAT IT READS IS OF BULK AT MOST 1048576: true; the input reads as it did. -/
def fnApportionScaleUptoRow : OpenClaim := { program := "ytcgaffhoggkbkaa", sum := "4d0564fde73f035976943a9e52f387a8421f37773af947f62011c83507640d53", func := "loop.example/promotionengine/laws.FnApportionScale", spec := "fnApportionScale", apart := false, narrowed := true }
def FnApportionScaleUptoSaid : Prop := fnApportionScaleUptoRow.holds Try.pinned (OpenSpec.upto fnApportionScaleSpec)

/-- 'laws.FnApportion', WHERE WHAT IT READS IS OF BULK AT MOST 1048576: true; the input reads as it did. -/
def fnApportionUptoRow : OpenClaim := { program := "ytcgaffhoggkbkaa", sum := "4d0564fde73f035976943a9e52f387a8421f37773af947f62011c83507640d53", func := "loop.example/promotionengine/laws.FnApportion", spec := "fnApportion", apart := false, narrowed := true }
def FnApportionUptoSaid : Prop := fnApportionUptoRow.holds Try.pinned (OpenSpec.upto fnApportionSpec)

/-- 'laws.FnApportionWhole', WHERE WHAT IT READS IS OF BULK AT MOST 1048576: true; the input reads as it did. -/
def fnApportionWholeUptoRow : OpenClaim := { program := "ytcgaffhoggkbkaa", sum := "4d0564fde73f035976943a9e52f387a8421f37773af947f62011c83507640d53", func := "loop.example/promotionengine/laws.FnApportionWhole", spec := "fnApportionWhole", apart := false, narrowed := true }
def FnApportionWholeUptoSaid : Prop := fnApportionWholeUptoRow.holds Try.pinned (OpenSpec.upto fnApportionWholeSpec)

end Rows
end Go.Proofs.Ytcgaffhoggkbkaa

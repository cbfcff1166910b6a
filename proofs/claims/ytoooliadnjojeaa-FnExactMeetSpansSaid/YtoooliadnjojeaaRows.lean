/-
  No cell of these rows narrows 'for every input' (looked for: loops, veiled, ifaces, maps, wideKeys, modest, calm, conditions, laid).
  DERIVED. THE GIVEN ROWS OF THIS SEAT. 12 by the template 'for every input the law returns true; each argument reads behind the call as it read before'; 0 by the template 'total and deterministic' (their statements: YtoooliadnjojeaaTotals.lean).
  GIVEN WITH THE SEED: the statements are not yours to turn. If you find one false, say at which input.
  Laid BY PROGRAM, IN A SANDBOX (cutbox-rows.mjs): the forced cells as the released guide's own fill.sh prints them over the translation c817b29beb8dda35… (all of the seat's roots in one cut). By AI agents, Wed Nov 11 2026. No macro, syntax, notation, axiom, sorry.
-/
import Derived.Test.YtoooliadnjojeaaChecked
import GoSem.Claim
import GoSem.ClaimJoined
import GoSem.ClaimMapViews
import Derived.JoinedTies
import Derived.KernelRfl
namespace Go.Proofs.Ytoooliadnjojeaa
/- THE CELL 'sum', in the pinned program and in every row, IS THE sha256 OF THE DUMP (.gsa) THAT YtoooliadnjojeaaProg.lean LOADS. Nothing in Lean hashes anything: it is a label: what it is worth is what the hold of that sum in a sandbox is worth. -/
noncomputable def Try.pinned : Pinned := { name := "ytoooliadnjojeaa", sum := "c817b29beb8dda3512b23bbf0d5d5edd5601dfd9b8cb40037ec5a02095893034", checked := Try.checked }
namespace Rows
def none {H : Type} : Left H := { results := [], args := [] }

/-- 'laws.FnExactMeetSpans': WHATEVER THE INPUT: true; the input reads as it did. -/
def fnExactMeetSpansSpec : ChangeSpec := { name := "fnExactMeetSpans", fn := fun _ => fun
  | [d1, d2] => { results := [.lit (.bool true)], args := [d1, d2] }
  | _ => none }
def fnExactMeetSpansRow : OpenClaim := { program := "ytoooliadnjojeaa", sum := "c817b29beb8dda3512b23bbf0d5d5edd5601dfd9b8cb40037ec5a02095893034", func := "loop.example/promotionengine/laws.FnExactMeetSpans", spec := "fnExactMeetSpans", apart := false }
def FnExactMeetSpansSaid : Prop := fnExactMeetSpansRow.holds Try.pinned (OpenSpec.ofChange fnExactMeetSpansSpec)

/-- ITS FALSE NEIGHBOUR: 'it returns false'. Refute it at one input. -/
def fnExactMeetSpansWrong : ChangeSpec := { name := "fnExactMeetSpans", fn := fun _ => fun
  | [d1, d2] => { results := [.lit (.bool false)], args := [d1, d2] }
  | _ => none }
def FnExactMeetSpansWrongFalsely : Prop := fnExactMeetSpansRow.holds Try.pinned (OpenSpec.ofChange fnExactMeetSpansWrong)

/-- 'laws.FnExactValidSpans': WHATEVER THE INPUT: true; the input reads as it did. -/
def fnExactValidSpansSpec : ChangeSpec := { name := "fnExactValidSpans", fn := fun _ => fun
  | [d] => { results := [.lit (.bool true)], args := [d] }
  | _ => none }
def fnExactValidSpansRow : OpenClaim := { program := "ytoooliadnjojeaa", sum := "c817b29beb8dda3512b23bbf0d5d5edd5601dfd9b8cb40037ec5a02095893034", func := "loop.example/promotionengine/laws.FnExactValidSpans", spec := "fnExactValidSpans", apart := false }
def FnExactValidSpansSaid : Prop := fnExactValidSpansRow.holds Try.pinned (OpenSpec.ofChange fnExactValidSpansSpec)

/-- ITS FALSE NEIGHBOUR: 'it returns false'. Refute it at one input. -/
def fnExactValidSpansWrong : ChangeSpec := { name := "fnExactValidSpans", fn := fun _ => fun
  | [d] => { results := [.lit (.bool false)], args := [d] }
  | _ => none }
def FnExactValidSpansWrongFalsely : Prop := fnExactValidSpansRow.holds Try.pinned (OpenSpec.ofChange fnExactValidSpansWrong)

/-- 'laws.FnMeetSpans': WHATEVER THE INPUT: true; the input reads as it did. -/
def fnMeetSpansSpec : ChangeSpec := { name := "fnMeetSpans", fn := fun _ => fun
  | [d] => { results := [.lit (.bool true)], args := [d] }
  | _ => none }
def fnMeetSpansRow : OpenClaim := { program := "ytoooliadnjojeaa", sum := "c817b29beb8dda3512b23bbf0d5d5edd5601dfd9b8cb40037ec5a02095893034", func := "loop.example/promotionengine/laws.FnMeetSpans", spec := "fnMeetSpans", apart := false }
def FnMeetSpansSaid : Prop := fnMeetSpansRow.holds Try.pinned (OpenSpec.ofChange fnMeetSpansSpec)

/-- ITS FALSE NEIGHBOUR: 'it returns false'. Refute it at one input. -/
def fnMeetSpansWrong : ChangeSpec := { name := "fnMeetSpans", fn := fun _ => fun
  | [d] => { results := [.lit (.bool false)], args := [d] }
  | _ => none }
def FnMeetSpansWrongFalsely : Prop := fnMeetSpansRow.holds Try.pinned (OpenSpec.ofChange fnMeetSpansWrong)

/-- 'laws.FnValidSpans': WHATEVER THE INPUT: true; the input reads as it did. -/
def fnValidSpansSpec : ChangeSpec := { name := "fnValidSpans", fn := fun _ => fun
  | [d] => { results := [.lit (.bool true)], args := [d] }
  | _ => none }
def fnValidSpansRow : OpenClaim := { program := "ytoooliadnjojeaa", sum := "c817b29beb8dda3512b23bbf0d5d5edd5601dfd9b8cb40037ec5a02095893034", func := "loop.example/promotionengine/laws.FnValidSpans", spec := "fnValidSpans", apart := false }
def FnValidSpansSaid : Prop := fnValidSpansRow.holds Try.pinned (OpenSpec.ofChange fnValidSpansSpec)

/-- ITS FALSE NEIGHBOUR: 'it returns false'. Refute it at one input. -/
def fnValidSpansWrong : ChangeSpec := { name := "fnValidSpans", fn := fun _ => fun
  | [d] => { results := [.lit (.bool false)], args := [d] }
  | _ => none }
def FnValidSpansWrongFalsely : Prop := fnValidSpansRow.holds Try.pinned (OpenSpec.ofChange fnValidSpansWrong)

/-- 'laws.FnExactWithoutSpan': WHATEVER THE INPUT: true; the input reads as it did. -/
def fnExactWithoutSpanSpec : ChangeSpec := { name := "fnExactWithoutSpan", fn := fun _ => fun
  | [d1, d2] => { results := [.lit (.bool true)], args := [d1, d2] }
  | _ => none }
def fnExactWithoutSpanRow : OpenClaim := { program := "ytoooliadnjojeaa", sum := "c817b29beb8dda3512b23bbf0d5d5edd5601dfd9b8cb40037ec5a02095893034", func := "loop.example/promotionengine/laws.FnExactWithoutSpan", spec := "fnExactWithoutSpan", apart := false }
def FnExactWithoutSpanSaid : Prop := fnExactWithoutSpanRow.holds Try.pinned (OpenSpec.ofChange fnExactWithoutSpanSpec)

/-- ITS FALSE NEIGHBOUR: 'it returns false'. Refute it at one input. -/
def fnExactWithoutSpanWrong : ChangeSpec := { name := "fnExactWithoutSpan", fn := fun _ => fun
  | [d1, d2] => { results := [.lit (.bool false)], args := [d1, d2] }
  | _ => none }
def FnExactWithoutSpanWrongFalsely : Prop := fnExactWithoutSpanRow.holds Try.pinned (OpenSpec.ofChange fnExactWithoutSpanWrong)

/-- 'laws.FnWithoutSpanTwice': WHATEVER THE INPUT: true; the input reads as it did. -/
def fnWithoutSpanTwiceSpec : ChangeSpec := { name := "fnWithoutSpanTwice", fn := fun _ => fun
  | [d] => { results := [.lit (.bool true)], args := [d] }
  | _ => none }
def fnWithoutSpanTwiceRow : OpenClaim := { program := "ytoooliadnjojeaa", sum := "c817b29beb8dda3512b23bbf0d5d5edd5601dfd9b8cb40037ec5a02095893034", func := "loop.example/promotionengine/laws.FnWithoutSpanTwice", spec := "fnWithoutSpanTwice", apart := false }
def FnWithoutSpanTwiceSaid : Prop := fnWithoutSpanTwiceRow.holds Try.pinned (OpenSpec.ofChange fnWithoutSpanTwiceSpec)

/-- ITS FALSE NEIGHBOUR: 'it returns false'. Refute it at one input. -/
def fnWithoutSpanTwiceWrong : ChangeSpec := { name := "fnWithoutSpanTwice", fn := fun _ => fun
  | [d] => { results := [.lit (.bool false)], args := [d] }
  | _ => none }
def FnWithoutSpanTwiceWrongFalsely : Prop := fnWithoutSpanTwiceRow.holds Try.pinned (OpenSpec.ofChange fnWithoutSpanTwiceWrong)

/-- 'laws.FnExactUnionSpan': WHATEVER THE INPUT: true; the input reads as it did. -/
def fnExactUnionSpanSpec : ChangeSpec := { name := "fnExactUnionSpan", fn := fun _ => fun
  | [d1, d2] => { results := [.lit (.bool true)], args := [d1, d2] }
  | _ => none }
def fnExactUnionSpanRow : OpenClaim := { program := "ytoooliadnjojeaa", sum := "c817b29beb8dda3512b23bbf0d5d5edd5601dfd9b8cb40037ec5a02095893034", func := "loop.example/promotionengine/laws.FnExactUnionSpan", spec := "fnExactUnionSpan", apart := false }
def FnExactUnionSpanSaid : Prop := fnExactUnionSpanRow.holds Try.pinned (OpenSpec.ofChange fnExactUnionSpanSpec)

/-- ITS FALSE NEIGHBOUR: 'it returns false'. Refute it at one input. -/
def fnExactUnionSpanWrong : ChangeSpec := { name := "fnExactUnionSpan", fn := fun _ => fun
  | [d1, d2] => { results := [.lit (.bool false)], args := [d1, d2] }
  | _ => none }
def FnExactUnionSpanWrongFalsely : Prop := fnExactUnionSpanRow.holds Try.pinned (OpenSpec.ofChange fnExactUnionSpanWrong)

/-- 'laws.FnUnionSpanOrder': WHATEVER THE INPUT: true; the input reads as it did. -/
def fnUnionSpanOrderSpec : ChangeSpec := { name := "fnUnionSpanOrder", fn := fun _ => fun
  | [d] => { results := [.lit (.bool true)], args := [d] }
  | _ => none }
def fnUnionSpanOrderRow : OpenClaim := { program := "ytoooliadnjojeaa", sum := "c817b29beb8dda3512b23bbf0d5d5edd5601dfd9b8cb40037ec5a02095893034", func := "loop.example/promotionengine/laws.FnUnionSpanOrder", spec := "fnUnionSpanOrder", apart := false }
def FnUnionSpanOrderSaid : Prop := fnUnionSpanOrderRow.holds Try.pinned (OpenSpec.ofChange fnUnionSpanOrderSpec)

/-- ITS FALSE NEIGHBOUR: 'it returns false'. Refute it at one input. -/
def fnUnionSpanOrderWrong : ChangeSpec := { name := "fnUnionSpanOrder", fn := fun _ => fun
  | [d] => { results := [.lit (.bool false)], args := [d] }
  | _ => none }
def FnUnionSpanOrderWrongFalsely : Prop := fnUnionSpanOrderRow.holds Try.pinned (OpenSpec.ofChange fnUnionSpanOrderWrong)

/-- 'laws.FnUnionSpanTwice': WHATEVER THE INPUT: true; the input reads as it did. -/
def fnUnionSpanTwiceSpec : ChangeSpec := { name := "fnUnionSpanTwice", fn := fun _ => fun
  | [d] => { results := [.lit (.bool true)], args := [d] }
  | _ => none }
def fnUnionSpanTwiceRow : OpenClaim := { program := "ytoooliadnjojeaa", sum := "c817b29beb8dda3512b23bbf0d5d5edd5601dfd9b8cb40037ec5a02095893034", func := "loop.example/promotionengine/laws.FnUnionSpanTwice", spec := "fnUnionSpanTwice", apart := false }
def FnUnionSpanTwiceSaid : Prop := fnUnionSpanTwiceRow.holds Try.pinned (OpenSpec.ofChange fnUnionSpanTwiceSpec)

/-- ITS FALSE NEIGHBOUR: 'it returns false'. Refute it at one input. -/
def fnUnionSpanTwiceWrong : ChangeSpec := { name := "fnUnionSpanTwice", fn := fun _ => fun
  | [d] => { results := [.lit (.bool false)], args := [d] }
  | _ => none }
def FnUnionSpanTwiceWrongFalsely : Prop := fnUnionSpanTwiceRow.holds Try.pinned (OpenSpec.ofChange fnUnionSpanTwiceWrong)

/-- 'laws.FnWithoutSpan': WHATEVER THE INPUT: true; the input reads as it did. -/
def fnWithoutSpanSpec : ChangeSpec := { name := "fnWithoutSpan", fn := fun _ => fun
  | [d] => { results := [.lit (.bool true)], args := [d] }
  | _ => none }
def fnWithoutSpanRow : OpenClaim := { program := "ytoooliadnjojeaa", sum := "c817b29beb8dda3512b23bbf0d5d5edd5601dfd9b8cb40037ec5a02095893034", func := "loop.example/promotionengine/laws.FnWithoutSpan", spec := "fnWithoutSpan", apart := false }
def FnWithoutSpanSaid : Prop := fnWithoutSpanRow.holds Try.pinned (OpenSpec.ofChange fnWithoutSpanSpec)

/-- ITS FALSE NEIGHBOUR: 'it returns false'. Refute it at one input. -/
def fnWithoutSpanWrong : ChangeSpec := { name := "fnWithoutSpan", fn := fun _ => fun
  | [d] => { results := [.lit (.bool false)], args := [d] }
  | _ => none }
def FnWithoutSpanWrongFalsely : Prop := fnWithoutSpanRow.holds Try.pinned (OpenSpec.ofChange fnWithoutSpanWrong)

/-- 'laws.FnUnionSpan': WHATEVER THE INPUT: true; the input reads as it did. -/
def fnUnionSpanSpec : ChangeSpec := { name := "fnUnionSpan", fn := fun _ => fun
  | [d] => { results := [.lit (.bool true)], args := [d] }
  | _ => none }
def fnUnionSpanRow : OpenClaim := { program := "ytoooliadnjojeaa", sum := "c817b29beb8dda3512b23bbf0d5d5edd5601dfd9b8cb40037ec5a02095893034", func := "loop.example/promotionengine/laws.FnUnionSpan", spec := "fnUnionSpan", apart := false }
def FnUnionSpanSaid : Prop := fnUnionSpanRow.holds Try.pinned (OpenSpec.ofChange fnUnionSpanSpec)

/-- ITS FALSE NEIGHBOUR: 'it returns false'. Refute it at one input. -/
def fnUnionSpanWrong : ChangeSpec := { name := "fnUnionSpan", fn := fun _ => fun
  | [d] => { results := [.lit (.bool false)], args := [d] }
  | _ => none }
def FnUnionSpanWrongFalsely : Prop := fnUnionSpanRow.holds Try.pinned (OpenSpec.ofChange fnUnionSpanWrong)

/-- 'laws.FnWithoutSpanUnion': WHATEVER THE INPUT: true; the input reads as it did. -/
def fnWithoutSpanUnionSpec : ChangeSpec := { name := "fnWithoutSpanUnion", fn := fun _ => fun
  | [d] => { results := [.lit (.bool true)], args := [d] }
  | _ => none }
def fnWithoutSpanUnionRow : OpenClaim := { program := "ytoooliadnjojeaa", sum := "c817b29beb8dda3512b23bbf0d5d5edd5601dfd9b8cb40037ec5a02095893034", func := "loop.example/promotionengine/laws.FnWithoutSpanUnion", spec := "fnWithoutSpanUnion", apart := false }
def FnWithoutSpanUnionSaid : Prop := fnWithoutSpanUnionRow.holds Try.pinned (OpenSpec.ofChange fnWithoutSpanUnionSpec)

/-- ITS FALSE NEIGHBOUR: 'it returns false'. Refute it at one input. -/
def fnWithoutSpanUnionWrong : ChangeSpec := { name := "fnWithoutSpanUnion", fn := fun _ => fun
  | [d] => { results := [.lit (.bool false)], args := [d] }
  | _ => none }
def FnWithoutSpanUnionWrongFalsely : Prop := fnWithoutSpanUnionRow.holds Try.pinned (OpenSpec.ofChange fnWithoutSpanUnionWrong)

/- THE SECOND FORM. 'bulk': how many values and letters a reading holds, each counted each time it is reached (what is shared counts as often as it is met; a slice's spare places count too). A statement '..UptoSaid' is the law's where the arguments, and the package variables that the reading takes, are together of bulk at most 1048576: NARROWER than '..Said'. Prove '..Said' where nothing that the law and all that it calls make is longer than what came in: it says more and counts as full. Else prove '..UptoSaid'. A law counts once. -/
mutual
def uptoBulk {H : Type} : DataW H → Nat
  | .lit (.string bytes) => bytes.length + 1
  | .lit _ => 1
  | .nil => 1
  | .ptr d => uptoBulk d + 1
  | .slice elems spare => uptoBulkAll elems + uptoBulkAll spare + 1
  | .agg parts => uptoBulkAll parts + 1
  | .iface _ d => uptoBulk d + 1
  | .map entries => uptoBulkEntries entries + 1
  | .held _ => 1
def uptoBulkAll {H : Type} : List (DataW H) → Nat
  | [] => 0
  | d :: r => uptoBulk d + uptoBulkAll r
def uptoBulkEntries {H : Type} : List (Lit × DataW H) → Nat
  | [] => 0
  | x :: r => uptoBulkEntry x + uptoBulkEntries r
def uptoBulkEntry {H : Type} : Lit × DataW H → Nat
  | (.string bytes, d) => bytes.length + uptoBulk d + 1
  | (_, d) => uptoBulk d + 1
 end
def uptoSmall : (H : Type) → List (DataW H) → Bool := fun _ ds => decide (uptoBulkAll ds ≤ 1048576)
def OpenSpec.upto (s : _root_.Go.ChangeSpec) : _root_.Go.OpenSpec := { _root_.Go.OpenSpec.ofChange s with cond := some uptoSmall }

/-- 'laws.FnExactMeetSpans', WHERE WHAT IT READS IS OF BULK AT MOST 1048576: true; the input reads as it did. -/
def fnExactMeetSpansUptoRow : OpenClaim := { program := "ytoooliadnjojeaa", sum := "c817b29beb8dda3512b23bbf0d5d5edd5601dfd9b8cb40037ec5a02095893034", func := "loop.example/promotionengine/laws.FnExactMeetSpans", spec := "fnExactMeetSpans", apart := false, narrowed := true }
def FnExactMeetSpansUptoSaid : Prop := fnExactMeetSpansUptoRow.holds Try.pinned (OpenSpec.upto fnExactMeetSpansSpec)

/-- 'laws.FnExactValidSpans', WHERE WHAT IT READS IS OF BULK AT MOST 1048576: true; the input reads as it did. -/
def fnExactValidSpansUptoRow : OpenClaim := { program := "ytoooliadnjojeaa", sum := "c817b29beb8dda3512b23bbf0d5d5edd5601dfd9b8cb40037ec5a02095893034", func := "loop.example/promotionengine/laws.FnExactValidSpans", spec := "fnExactValidSpans", apart := false, narrowed := true }
def FnExactValidSpansUptoSaid : Prop := fnExactValidSpansUptoRow.holds Try.pinned (OpenSpec.upto fnExactValidSpansSpec)

/-- 'laws.FnMeetSpans', WHERE WHAT IT READS IS OF BULK AT MOST 1048576: true; the input reads as it did. -/
def fnMeetSpansUptoRow : OpenClaim := { program := "ytoooliadnjojeaa", sum := "c817b29beb8dda3512b23bbf0d5d5edd5601dfd9b8cb40037ec5a02095893034", func := "loop.example/promotionengine/laws.FnMeetSpans", spec := "fnMeetSpans", apart := false, narrowed := true }
def FnMeetSpansUptoSaid : Prop := fnMeetSpansUptoRow.holds Try.pinned (OpenSpec.upto fnMeetSpansSpec)

/-- 'laws.FnValidSpans', WHERE WHAT IT READS IS OF BULK AT MOST 1048576: true; the input reads as it did. -/
def fnValidSpansUptoRow : OpenClaim := { program := "ytoooliadnjojeaa", sum := "c817b29beb8dda3512b23bbf0d5d5edd5601dfd9b8cb40037ec5a02095893034", func := "loop.example/promotionengine/laws.FnValidSpans", spec := "fnValidSpans", apart := false, narrowed := true }
def FnValidSpansUptoSaid : Prop := fnValidSpansUptoRow.holds Try.pinned (OpenSpec.upto fnValidSpansSpec)

/-- 'laws.FnExactWithoutSpan', WHERE WHAT IT READS IS OF BULK AT MOST 1048576: true; the input reads as it did. -/
def fnExactWithoutSpanUptoRow : OpenClaim := { program := "ytoooliadnjojeaa", sum := "c817b29beb8dda3512b23bbf0d5d5edd5601dfd9b8cb40037ec5a02095893034", func := "loop.example/promotionengine/laws.FnExactWithoutSpan", spec := "fnExactWithoutSpan", apart := false, narrowed := true }
def FnExactWithoutSpanUptoSaid : Prop := fnExactWithoutSpanUptoRow.holds Try.pinned (OpenSpec.upto fnExactWithoutSpanSpec)

/-- 'laws.FnWithoutSpanTwice', WHERE WHAT IT READS IS OF BULK AT MOST 1048576: true; the input reads as it did. -/
def fnWithoutSpanTwiceUptoRow : OpenClaim := { program := "ytoooliadnjojeaa", sum := "c817b29beb8dda3512b23bbf0d5d5edd5601dfd9b8cb40037ec5a02095893034", func := "loop.example/promotionengine/laws.FnWithoutSpanTwice", spec := "fnWithoutSpanTwice", apart := false, narrowed := true }
def FnWithoutSpanTwiceUptoSaid : Prop := fnWithoutSpanTwiceUptoRow.holds Try.pinned (OpenSpec.upto fnWithoutSpanTwiceSpec)

/-- 'laws.FnExactUnionSpan', WHERE WHAT IT READS IS OF BULK AT MOST 1048576: true; the input reads as it did. -/
def fnExactUnionSpanUptoRow : OpenClaim := { program := "ytoooliadnjojeaa", sum := "c817b29beb8dda3512b23bbf0d5d5edd5601dfd9b8cb40037ec5a02095893034", func := "loop.example/promotionengine/laws.FnExactUnionSpan", spec := "fnExactUnionSpan", apart := false, narrowed := true }
def FnExactUnionSpanUptoSaid : Prop := fnExactUnionSpanUptoRow.holds Try.pinned (OpenSpec.upto fnExactUnionSpanSpec)

/-- 'laws.FnUnionSpanOrder', WHERE WHAT IT READS IS OF BULK AT MOST 1048576: true; the input reads as it did. -/
def fnUnionSpanOrderUptoRow : OpenClaim := { program := "ytoooliadnjojeaa", sum := "c817b29beb8dda3512b23bbf0d5d5edd5601dfd9b8cb40037ec5a02095893034", func := "loop.example/promotionengine/laws.FnUnionSpanOrder", spec := "fnUnionSpanOrder", apart := false, narrowed := true }
def FnUnionSpanOrderUptoSaid : Prop := fnUnionSpanOrderUptoRow.holds Try.pinned (OpenSpec.upto fnUnionSpanOrderSpec)

/-- 'laws.FnUnionSpanTwice', WHERE WHAT IT READS IS OF BULK AT MOST 1048576: true; the input reads as it did. -/
def fnUnionSpanTwiceUptoRow : OpenClaim := { program := "ytoooliadnjojeaa", sum := "c817b29beb8dda3512b23bbf0d5d5edd5601dfd9b8cb40037ec5a02095893034", func := "loop.example/promotionengine/laws.FnUnionSpanTwice", spec := "fnUnionSpanTwice", apart := false, narrowed := true }
def FnUnionSpanTwiceUptoSaid : Prop := fnUnionSpanTwiceUptoRow.holds Try.pinned (OpenSpec.upto fnUnionSpanTwiceSpec)

/-- 'laws.FnWithoutSpan', WHERE WHAT IT READS IS OF BULK AT MOST 1048576: true; the input reads as it did. -/
def fnWithoutSpanUptoRow : OpenClaim := { program := "ytoooliadnjojeaa", sum := "c817b29beb8dda3512b23bbf0d5d5edd5601dfd9b8cb40037ec5a02095893034", func := "loop.example/promotionengine/laws.FnWithoutSpan", spec := "fnWithoutSpan", apart := false, narrowed := true }
def FnWithoutSpanUptoSaid : Prop := fnWithoutSpanUptoRow.holds Try.pinned (OpenSpec.upto fnWithoutSpanSpec)

/-- 'laws.FnUnionSpan', WHERE WHAT IT READS IS OF BULK AT MOST 1048576: true; the input reads as it did. -/
def fnUnionSpanUptoRow : OpenClaim := { program := "ytoooliadnjojeaa", sum := "c817b29beb8dda3512b23bbf0d5d5edd5601dfd9b8cb40037ec5a02095893034", func := "loop.example/promotionengine/laws.FnUnionSpan", spec := "fnUnionSpan", apart := false, narrowed := true }
def FnUnionSpanUptoSaid : Prop := fnUnionSpanUptoRow.holds Try.pinned (OpenSpec.upto fnUnionSpanSpec)

/-- 'laws.FnWithoutSpanUnion', WHERE WHAT IT READS IS OF BULK AT MOST 1048576: true; the input reads as it did. -/
def fnWithoutSpanUnionUptoRow : OpenClaim := { program := "ytoooliadnjojeaa", sum := "c817b29beb8dda3512b23bbf0d5d5edd5601dfd9b8cb40037ec5a02095893034", func := "loop.example/promotionengine/laws.FnWithoutSpanUnion", spec := "fnWithoutSpanUnion", apart := false, narrowed := true }
def FnWithoutSpanUnionUptoSaid : Prop := fnWithoutSpanUnionUptoRow.holds Try.pinned (OpenSpec.upto fnWithoutSpanUnionSpec)

end Rows
end Go.Proofs.Ytoooliadnjojeaa

/-
  No cell of these rows narrows 'for every input' (looked for: loops, veiled, ifaces, maps, wideKeys, modest, calm, conditions, laid).
  DERIVED. THE GIVEN ROWS OF THIS SEAT. 12 by the template 'for every input the law returns true; each argument reads behind the call as it read before'; 0 by the template 'total and deterministic' (their statements: YtdhecblljcdpdaaTotals.lean).
  GIVEN WITH THE SEED: the statements are not yours to turn. If you find one false, say at which input.
  Laid BY PROGRAM, IN A SANDBOX (cutbox-rows.mjs): the forced cells as the released guide's own fill.sh prints them over the translation c19530a2e50207b1… (all of the seat's roots in one cut). By AI agents, Wed Nov 11 2026. No macro, syntax, notation, axiom, sorry.
-/
import Derived.Test.YtdhecblljcdpdaaChecked
import GoSem.Claim
import GoSem.ClaimJoined
import GoSem.ClaimMapViews
import Derived.JoinedTies
import Derived.KernelRfl
namespace Go.Proofs.Ytdhecblljcdpdaa
/- THE CELL 'sum', in the pinned program and in every row, IS THE sha256 OF THE DUMP (.gsa) THAT YtdhecblljcdpdaaProg.lean LOADS. Nothing in Lean hashes anything: it is a label: what it is worth is what the hold of that sum in a sandbox is worth. -/
noncomputable def Try.pinned : Pinned := { name := "ytdhecblljcdpdaa", sum := "c19530a2e50207b14a8fb86e024ab143b4baae12179226f2d3345d37b9eb41f8", checked := Try.checked }
namespace Rows
def none {H : Type} : Left H := { results := [], args := [] }

/-- 'laws.FnValidShop': WHATEVER THE INPUT: true; the input reads as it did. -/
def fnValidShopSpec : ChangeSpec := { name := "fnValidShop", fn := fun _ => fun
  | [d] => { results := [.lit (.bool true)], args := [d] }
  | _ => none }
def fnValidShopRow : OpenClaim := { program := "ytdhecblljcdpdaa", sum := "c19530a2e50207b14a8fb86e024ab143b4baae12179226f2d3345d37b9eb41f8", func := "loop.example/promotionengine/laws.FnValidShop", spec := "fnValidShop", apart := false }
def FnValidShopSaid : Prop := fnValidShopRow.holds Try.pinned (OpenSpec.ofChange fnValidShopSpec)

/-- ITS FALSE NEIGHBOUR: 'it returns false'. Refute it at one input. -/
def fnValidShopWrong : ChangeSpec := { name := "fnValidShop", fn := fun _ => fun
  | [d] => { results := [.lit (.bool false)], args := [d] }
  | _ => none }
def FnValidShopWrongFalsely : Prop := fnValidShopRow.holds Try.pinned (OpenSpec.ofChange fnValidShopWrong)

/-- 'laws.FnValidCart': WHATEVER THE INPUT: true; the input reads as it did. -/
def fnValidCartSpec : ChangeSpec := { name := "fnValidCart", fn := fun _ => fun
  | [d] => { results := [.lit (.bool true)], args := [d] }
  | _ => none }
def fnValidCartRow : OpenClaim := { program := "ytdhecblljcdpdaa", sum := "c19530a2e50207b14a8fb86e024ab143b4baae12179226f2d3345d37b9eb41f8", func := "loop.example/promotionengine/laws.FnValidCart", spec := "fnValidCart", apart := false }
def FnValidCartSaid : Prop := fnValidCartRow.holds Try.pinned (OpenSpec.ofChange fnValidCartSpec)

/-- ITS FALSE NEIGHBOUR: 'it returns false'. Refute it at one input. -/
def fnValidCartWrong : ChangeSpec := { name := "fnValidCart", fn := fun _ => fun
  | [d] => { results := [.lit (.bool false)], args := [d] }
  | _ => none }
def FnValidCartWrongFalsely : Prop := fnValidCartRow.holds Try.pinned (OpenSpec.ofChange fnValidCartWrong)

/-- 'laws.FnLineAmounts': WHATEVER THE INPUT: true; the input reads as it did. -/
def fnLineAmountsSpec : ChangeSpec := { name := "fnLineAmounts", fn := fun _ => fun
  | [d] => { results := [.lit (.bool true)], args := [d] }
  | _ => none }
def fnLineAmountsRow : OpenClaim := { program := "ytdhecblljcdpdaa", sum := "c19530a2e50207b14a8fb86e024ab143b4baae12179226f2d3345d37b9eb41f8", func := "loop.example/promotionengine/laws.FnLineAmounts", spec := "fnLineAmounts", apart := false }
def FnLineAmountsSaid : Prop := fnLineAmountsRow.holds Try.pinned (OpenSpec.ofChange fnLineAmountsSpec)

/-- ITS FALSE NEIGHBOUR: 'it returns false'. Refute it at one input. -/
def fnLineAmountsWrong : ChangeSpec := { name := "fnLineAmounts", fn := fun _ => fun
  | [d] => { results := [.lit (.bool false)], args := [d] }
  | _ => none }
def FnLineAmountsWrongFalsely : Prop := fnLineAmountsRow.holds Try.pinned (OpenSpec.ofChange fnLineAmountsWrong)

/-- 'laws.FnGroupCounts': WHATEVER THE INPUT: true; the input reads as it did. -/
def fnGroupCountsSpec : ChangeSpec := { name := "fnGroupCounts", fn := fun _ => fun
  | [d] => { results := [.lit (.bool true)], args := [d] }
  | _ => none }
def fnGroupCountsRow : OpenClaim := { program := "ytdhecblljcdpdaa", sum := "c19530a2e50207b14a8fb86e024ab143b4baae12179226f2d3345d37b9eb41f8", func := "loop.example/promotionengine/laws.FnGroupCounts", spec := "fnGroupCounts", apart := false }
def FnGroupCountsSaid : Prop := fnGroupCountsRow.holds Try.pinned (OpenSpec.ofChange fnGroupCountsSpec)

/-- ITS FALSE NEIGHBOUR: 'it returns false'. Refute it at one input. -/
def fnGroupCountsWrong : ChangeSpec := { name := "fnGroupCounts", fn := fun _ => fun
  | [d] => { results := [.lit (.bool false)], args := [d] }
  | _ => none }
def FnGroupCountsWrongFalsely : Prop := fnGroupCountsRow.holds Try.pinned (OpenSpec.ofChange fnGroupCountsWrong)

/-- 'laws.FnTotalOf': WHATEVER THE INPUT: true; the input reads as it did. -/
def fnTotalOfSpec : ChangeSpec := { name := "fnTotalOf", fn := fun _ => fun
  | [d] => { results := [.lit (.bool true)], args := [d] }
  | _ => none }
def fnTotalOfRow : OpenClaim := { program := "ytdhecblljcdpdaa", sum := "c19530a2e50207b14a8fb86e024ab143b4baae12179226f2d3345d37b9eb41f8", func := "loop.example/promotionengine/laws.FnTotalOf", spec := "fnTotalOf", apart := false }
def FnTotalOfSaid : Prop := fnTotalOfRow.holds Try.pinned (OpenSpec.ofChange fnTotalOfSpec)

/-- ITS FALSE NEIGHBOUR: 'it returns false'. Refute it at one input. -/
def fnTotalOfWrong : ChangeSpec := { name := "fnTotalOf", fn := fun _ => fun
  | [d] => { results := [.lit (.bool false)], args := [d] }
  | _ => none }
def FnTotalOfWrongFalsely : Prop := fnTotalOfRow.holds Try.pinned (OpenSpec.ofChange fnTotalOfWrong)

/-- 'laws.FnTotalOfArticle': WHATEVER THE INPUT: true; the input reads as it did. -/
def fnTotalOfArticleSpec : ChangeSpec := { name := "fnTotalOfArticle", fn := fun _ => fun
  | [d] => { results := [.lit (.bool true)], args := [d] }
  | _ => none }
def fnTotalOfArticleRow : OpenClaim := { program := "ytdhecblljcdpdaa", sum := "c19530a2e50207b14a8fb86e024ab143b4baae12179226f2d3345d37b9eb41f8", func := "loop.example/promotionengine/laws.FnTotalOfArticle", spec := "fnTotalOfArticle", apart := false }
def FnTotalOfArticleSaid : Prop := fnTotalOfArticleRow.holds Try.pinned (OpenSpec.ofChange fnTotalOfArticleSpec)

/-- ITS FALSE NEIGHBOUR: 'it returns false'. Refute it at one input. -/
def fnTotalOfArticleWrong : ChangeSpec := { name := "fnTotalOfArticle", fn := fun _ => fun
  | [d] => { results := [.lit (.bool false)], args := [d] }
  | _ => none }
def FnTotalOfArticleWrongFalsely : Prop := fnTotalOfArticleRow.holds Try.pinned (OpenSpec.ofChange fnTotalOfArticleWrong)

/-- 'laws.FnAddPiecesOrder': WHATEVER THE INPUT: true; the input reads as it did. -/
def fnAddPiecesOrderSpec : ChangeSpec := { name := "fnAddPiecesOrder", fn := fun _ => fun
  | [d] => { results := [.lit (.bool true)], args := [d] }
  | _ => none }
def fnAddPiecesOrderRow : OpenClaim := { program := "ytdhecblljcdpdaa", sum := "c19530a2e50207b14a8fb86e024ab143b4baae12179226f2d3345d37b9eb41f8", func := "loop.example/promotionengine/laws.FnAddPiecesOrder", spec := "fnAddPiecesOrder", apart := false }
def FnAddPiecesOrderSaid : Prop := fnAddPiecesOrderRow.holds Try.pinned (OpenSpec.ofChange fnAddPiecesOrderSpec)

/-- ITS FALSE NEIGHBOUR: 'it returns false'. Refute it at one input. -/
def fnAddPiecesOrderWrong : ChangeSpec := { name := "fnAddPiecesOrder", fn := fun _ => fun
  | [d] => { results := [.lit (.bool false)], args := [d] }
  | _ => none }
def FnAddPiecesOrderWrongFalsely : Prop := fnAddPiecesOrderRow.holds Try.pinned (OpenSpec.ofChange fnAddPiecesOrderWrong)

/-- 'laws.FnGroupCountsAdd': WHATEVER THE INPUT: true; the input reads as it did. -/
def fnGroupCountsAddSpec : ChangeSpec := { name := "fnGroupCountsAdd", fn := fun _ => fun
  | [d] => { results := [.lit (.bool true)], args := [d] }
  | _ => none }
def fnGroupCountsAddRow : OpenClaim := { program := "ytdhecblljcdpdaa", sum := "c19530a2e50207b14a8fb86e024ab143b4baae12179226f2d3345d37b9eb41f8", func := "loop.example/promotionengine/laws.FnGroupCountsAdd", spec := "fnGroupCountsAdd", apart := false }
def FnGroupCountsAddSaid : Prop := fnGroupCountsAddRow.holds Try.pinned (OpenSpec.ofChange fnGroupCountsAddSpec)

/-- ITS FALSE NEIGHBOUR: 'it returns false'. Refute it at one input. -/
def fnGroupCountsAddWrong : ChangeSpec := { name := "fnGroupCountsAdd", fn := fun _ => fun
  | [d] => { results := [.lit (.bool false)], args := [d] }
  | _ => none }
def FnGroupCountsAddWrongFalsely : Prop := fnGroupCountsAddRow.holds Try.pinned (OpenSpec.ofChange fnGroupCountsAddWrong)

/-- 'laws.FnAddPiecesTake': WHATEVER THE INPUT: true; the input reads as it did. -/
def fnAddPiecesTakeSpec : ChangeSpec := { name := "fnAddPiecesTake", fn := fun _ => fun
  | [d] => { results := [.lit (.bool true)], args := [d] }
  | _ => none }
def fnAddPiecesTakeRow : OpenClaim := { program := "ytdhecblljcdpdaa", sum := "c19530a2e50207b14a8fb86e024ab143b4baae12179226f2d3345d37b9eb41f8", func := "loop.example/promotionengine/laws.FnAddPiecesTake", spec := "fnAddPiecesTake", apart := false }
def FnAddPiecesTakeSaid : Prop := fnAddPiecesTakeRow.holds Try.pinned (OpenSpec.ofChange fnAddPiecesTakeSpec)

/-- ITS FALSE NEIGHBOUR: 'it returns false'. Refute it at one input. -/
def fnAddPiecesTakeWrong : ChangeSpec := { name := "fnAddPiecesTake", fn := fun _ => fun
  | [d] => { results := [.lit (.bool false)], args := [d] }
  | _ => none }
def FnAddPiecesTakeWrongFalsely : Prop := fnAddPiecesTakeRow.holds Try.pinned (OpenSpec.ofChange fnAddPiecesTakeWrong)

/-- 'laws.FnAddPieces': WHATEVER THE INPUT: true; the input reads as it did. -/
def fnAddPiecesSpec : ChangeSpec := { name := "fnAddPieces", fn := fun _ => fun
  | [d] => { results := [.lit (.bool true)], args := [d] }
  | _ => none }
def fnAddPiecesRow : OpenClaim := { program := "ytdhecblljcdpdaa", sum := "c19530a2e50207b14a8fb86e024ab143b4baae12179226f2d3345d37b9eb41f8", func := "loop.example/promotionengine/laws.FnAddPieces", spec := "fnAddPieces", apart := false }
def FnAddPiecesSaid : Prop := fnAddPiecesRow.holds Try.pinned (OpenSpec.ofChange fnAddPiecesSpec)

/-- ITS FALSE NEIGHBOUR: 'it returns false'. Refute it at one input. -/
def fnAddPiecesWrong : ChangeSpec := { name := "fnAddPieces", fn := fun _ => fun
  | [d] => { results := [.lit (.bool false)], args := [d] }
  | _ => none }
def FnAddPiecesWrongFalsely : Prop := fnAddPiecesRow.holds Try.pinned (OpenSpec.ofChange fnAddPiecesWrong)

/-- 'laws.FnTakePieces': WHATEVER THE INPUT: true; the input reads as it did. -/
def fnTakePiecesSpec : ChangeSpec := { name := "fnTakePieces", fn := fun _ => fun
  | [d] => { results := [.lit (.bool true)], args := [d] }
  | _ => none }
def fnTakePiecesRow : OpenClaim := { program := "ytdhecblljcdpdaa", sum := "c19530a2e50207b14a8fb86e024ab143b4baae12179226f2d3345d37b9eb41f8", func := "loop.example/promotionengine/laws.FnTakePieces", spec := "fnTakePieces", apart := false }
def FnTakePiecesSaid : Prop := fnTakePiecesRow.holds Try.pinned (OpenSpec.ofChange fnTakePiecesSpec)

/-- ITS FALSE NEIGHBOUR: 'it returns false'. Refute it at one input. -/
def fnTakePiecesWrong : ChangeSpec := { name := "fnTakePieces", fn := fun _ => fun
  | [d] => { results := [.lit (.bool false)], args := [d] }
  | _ => none }
def FnTakePiecesWrongFalsely : Prop := fnTakePiecesRow.holds Try.pinned (OpenSpec.ofChange fnTakePiecesWrong)

/-- 'laws.FnTakePiecesAdd': WHATEVER THE INPUT: true; the input reads as it did. -/
def fnTakePiecesAddSpec : ChangeSpec := { name := "fnTakePiecesAdd", fn := fun _ => fun
  | [d] => { results := [.lit (.bool true)], args := [d] }
  | _ => none }
def fnTakePiecesAddRow : OpenClaim := { program := "ytdhecblljcdpdaa", sum := "c19530a2e50207b14a8fb86e024ab143b4baae12179226f2d3345d37b9eb41f8", func := "loop.example/promotionengine/laws.FnTakePiecesAdd", spec := "fnTakePiecesAdd", apart := false }
def FnTakePiecesAddSaid : Prop := fnTakePiecesAddRow.holds Try.pinned (OpenSpec.ofChange fnTakePiecesAddSpec)

/-- ITS FALSE NEIGHBOUR: 'it returns false'. Refute it at one input. -/
def fnTakePiecesAddWrong : ChangeSpec := { name := "fnTakePiecesAdd", fn := fun _ => fun
  | [d] => { results := [.lit (.bool false)], args := [d] }
  | _ => none }
def FnTakePiecesAddWrongFalsely : Prop := fnTakePiecesAddRow.holds Try.pinned (OpenSpec.ofChange fnTakePiecesAddWrong)

/- THE SECOND FORM. 'bulk': how many values and letters a reading holds, each counted each time it is reached (what is shared counts as often as it is met; a slice's spare places count too). A statement '..UptoSaid' is the law's where the arguments, and the package variables that the reading takes, are together of bulk at most 1048576: NARROWER than '..Said'. Prove '..Said' where nothing that the law and all that it calls make is longer than what came in: it says more and counts as full. Else prove '..UptoSaid'. A law counts once. -/
mutual
def uptoBulk {H : Type} : DataW H → Nat
  | .lit (.string bytes) => bytes.length + 1
  | .lit _ => 1
  | .nil => 1
  | .ptr d => uptoBulk d + 1
  | .slice elems spare => uptoBulkAll elems + uptoBulkAll spare + 1
  | .agg parts => uptoBulkAll parts + 1
  | .iface _ d => uptoBulk d + 1
  | .map entries => uptoBulkEntries entries + 1
  | .held _ => 1
def uptoBulkAll {H : Type} : List (DataW H) → Nat
  | [] => 0
  | d :: r => uptoBulk d + uptoBulkAll r
def uptoBulkEntries {H : Type} : List (Lit × DataW H) → Nat
  | [] => 0
  | x :: r => uptoBulkEntry x + uptoBulkEntries r
def uptoBulkEntry {H : Type} : Lit × DataW H → Nat
  | (.string bytes, d) => bytes.length + uptoBulk d + 1
  | (_, d) => uptoBulk d + 1
 end
def uptoSmall : (H : Type) → List (DataW H) → Bool := fun _ ds => decide (uptoBulkAll ds ≤ 1048576)
def OpenSpec.upto (s : _root_.Go.ChangeSpec) : _root_.Go.OpenSpec := { _root_.Go.OpenSpec.ofChange s with cond := some uptoSmall }

/-- 'laws.FnValidShop', WHERE WHAT IT READS IS OF BULK AT MOST 1048576: true; the input reads as it did. -/
def fnValidShopUptoRow : OpenClaim := { program := "ytdhecblljcdpdaa", sum := "c19530a2e50207b14a8fb86e024ab143b4baae12179226f2d3345d37b9eb41f8", func := "loop.example/promotionengine/laws.FnValidShop", spec := "fnValidShop", apart := false, narrowed := true }
def FnValidShopUptoSaid : Prop := fnValidShopUptoRow.holds Try.pinned (OpenSpec.upto fnValidShopSpec)

/-- 'laws.FnValidCart', WHERE WHAT IT READS IS OF BULK AT MOST 1048576: true; the input reads as it did. -/
def fnValidCartUptoRow : OpenClaim := { program := "ytdhecblljcdpdaa", sum := "c19530a2e50207b14a8fb86e024ab143b4baae12179226f2d3345d37b9eb41f8", func := "loop.example/promotionengine/laws.FnValidCart", spec := "fnValidCart", apart := false, narrowed := true }
def FnValidCartUptoSaid : Prop := fnValidCartUptoRow.holds Try.pinned (OpenSpec.upto fnValidCartSpec)

/-- 'laws.FnLineAmounts', WHERE WHAT IT READS IS OF BULK AT MOST 1048576: true; the input reads as it did. -/
def fnLineAmountsUptoRow : OpenClaim := { program := "ytdhecblljcdpdaa", sum := "c19530a2e50207b14a8fb86e024ab143b4baae12179226f2d3345d37b9eb41f8", func := "loop.example/promotionengine/laws.FnLineAmounts", spec := "fnLineAmounts", apart := false, narrowed := true }
def FnLineAmountsUptoSaid : Prop := fnLineAmountsUptoRow.holds Try.pinned (OpenSpec.upto fnLineAmountsSpec)

/-- 'laws.FnGroupCounts', WHERE WHAT IT READS IS OF BULK AT MOST 1048576: true; the input reads as it did. -/
def fnGroupCountsUptoRow : OpenClaim := { program := "ytdhecblljcdpdaa", sum := "c19530a2e50207b14a8fb86e024ab143b4baae12179226f2d3345d37b9eb41f8", func := "loop.example/promotionengine/laws.FnGroupCounts", spec := "fnGroupCounts", apart := false, narrowed := true }
def FnGroupCountsUptoSaid : Prop := fnGroupCountsUptoRow.holds Try.pinned (OpenSpec.upto fnGroupCountsSpec)

/-- 'laws.FnTotalOf', WHERE WHAT IT READS IS OF BULK AT MOST 1048576: true; the input reads as it did. -/
def fnTotalOfUptoRow : OpenClaim := { program := "ytdhecblljcdpdaa", sum := "c19530a2e50207b14a8fb86e024ab143b4baae12179226f2d3345d37b9eb41f8", func := "loop.example/promotionengine/laws.FnTotalOf", spec := "fnTotalOf", apart := false, narrowed := true }
def FnTotalOfUptoSaid : Prop := fnTotalOfUptoRow.holds Try.pinned (OpenSpec.upto fnTotalOfSpec)

/-- 'laws.FnTotalOfArticle', WHERE WHAT IT READS IS OF BULK AT MOST 1048576: true; the input reads as it did. -/
def fnTotalOfArticleUptoRow : OpenClaim := { program := "ytdhecblljcdpdaa", sum := "c19530a2e50207b14a8fb86e024ab143b4baae12179226f2d3345d37b9eb41f8", func := "loop.example/promotionengine/laws.FnTotalOfArticle", spec := "fnTotalOfArticle", apart := false, narrowed := true }
def FnTotalOfArticleUptoSaid : Prop := fnTotalOfArticleUptoRow.holds Try.pinned (OpenSpec.upto fnTotalOfArticleSpec)

/-- 'laws.FnAddPiecesOrder', WHERE WHAT IT READS IS OF BULK AT MOST 1048576: true; the input reads as it did. -/
def fnAddPiecesOrderUptoRow : OpenClaim := { program := "ytdhecblljcdpdaa", sum := "c19530a2e50207b14a8fb86e024ab143b4baae12179226f2d3345d37b9eb41f8", func := "loop.example/promotionengine/laws.FnAddPiecesOrder", spec := "fnAddPiecesOrder", apart := false, narrowed := true }
def FnAddPiecesOrderUptoSaid : Prop := fnAddPiecesOrderUptoRow.holds Try.pinned (OpenSpec.upto fnAddPiecesOrderSpec)

/-- 'laws.FnGroupCountsAdd', WHERE WHAT IT READS IS OF BULK AT MOST 1048576: true; the input reads as it did. -/
def fnGroupCountsAddUptoRow : OpenClaim := { program := "ytdhecblljcdpdaa", sum := "c19530a2e50207b14a8fb86e024ab143b4baae12179226f2d3345d37b9eb41f8", func := "loop.example/promotionengine/laws.FnGroupCountsAdd", spec := "fnGroupCountsAdd", apart := false, narrowed := true }
def FnGroupCountsAddUptoSaid : Prop := fnGroupCountsAddUptoRow.holds Try.pinned (OpenSpec.upto fnGroupCountsAddSpec)

/-- 'laws.FnAddPiecesTake', WHERE WHAT IT READS IS OF BULK AT MOST 1048576: true; the input reads as it did. -/
def fnAddPiecesTakeUptoRow : OpenClaim := { program := "ytdhecblljcdpdaa", sum := "c19530a2e50207b14a8fb86e024ab143b4baae12179226f2d3345d37b9eb41f8", func := "loop.example/promotionengine/laws.FnAddPiecesTake", spec := "fnAddPiecesTake", apart := false, narrowed := true }
def FnAddPiecesTakeUptoSaid : Prop := fnAddPiecesTakeUptoRow.holds Try.pinned (OpenSpec.upto fnAddPiecesTakeSpec)

/-- 'laws.FnAddPieces', WHERE WHAT IT READS IS OF BULK AT MOST 1048576: true; the input reads as it did. -/
def fnAddPiecesUptoRow : OpenClaim := { program := "ytdhecblljcdpdaa", sum := "c19530a2e50207b14a8fb86e024ab143b4baae12179226f2d3345d37b9eb41f8", func := "loop.example/promotionengine/laws.FnAddPieces", spec := "fnAddPieces", apart := false, narrowed := true }
def FnAddPiecesUptoSaid : Prop := fnAddPiecesUptoRow.holds Try.pinned (OpenSpec.upto fnAddPiecesSpec)

/-- 'laws.FnTakePieces', WHERE WHAT IT READS IS OF BULK AT MOST 1048576: true; the input reads as it did. -/
def fnTakePiecesUptoRow : OpenClaim := { program := "ytdhecblljcdpdaa", sum := "c19530a2e50207b14a8fb86e024ab143b4baae12179226f2d3345d37b9eb41f8", func := "loop.example/promotionengine/laws.FnTakePieces", spec := "fnTakePieces", apart := false, narrowed := true }
def FnTakePiecesUptoSaid : Prop := fnTakePiecesUptoRow.holds Try.pinned (OpenSpec.upto fnTakePiecesSpec)

/-- 'laws.FnTakePiecesAdd', WHERE WHAT IT READS IS OF BULK AT MOST 1048576: true; the input reads as it did. -/
def fnTakePiecesAddUptoRow : OpenClaim := { program := "ytdhecblljcdpdaa", sum := "c19530a2e50207b14a8fb86e024ab143b4baae12179226f2d3345d37b9eb41f8", func := "loop.example/promotionengine/laws.FnTakePiecesAdd", spec := "fnTakePiecesAdd", apart := false, narrowed := true }
def FnTakePiecesAddUptoSaid : Prop := fnTakePiecesAddUptoRow.holds Try.pinned (OpenSpec.upto fnTakePiecesAddSpec)

end Rows
end Go.Proofs.Ytdhecblljcdpdaa

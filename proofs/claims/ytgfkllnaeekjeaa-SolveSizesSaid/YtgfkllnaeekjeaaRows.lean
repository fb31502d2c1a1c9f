/-
  No cell of these rows narrows 'for every input' (looked for: loops, veiled, ifaces, maps, wideKeys, modest, calm, conditions, laid).
  DERIVED. THE GIVEN ROWS OF THIS SEAT. 9 by the template 'for every input the law returns true; each argument reads behind the call as it read before'; 0 by the template 'total and deterministic' (their statements: YtgfkllnaeekjeaaTotals.lean).
  GIVEN WITH THE SEED: the statements are not yours to turn. If you find one false, say at which input.
  Laid BY PROGRAM, IN A SANDBOX (cutbox-rows.mjs): the forced cells as the released guide's own fill.sh prints them over the translation 2aeff405fda5e3b7… (all of the seat's roots in one cut). By AI agents, Wed Nov 11 2026. No macro, syntax, notation, axiom, sorry.
-/
import Derived.Test.YtgfkllnaeekjeaaChecked
import GoSem.Claim
import GoSem.ClaimJoined
import GoSem.ClaimMapViews
import Derived.JoinedTies
import Derived.KernelRfl
namespace Go.Proofs.Ytgfkllnaeekjeaa
/- THE CELL 'sum', in the pinned program and in every row, IS THE sha256 OF THE DUMP (.gsa) THAT YtgfkllnaeekjeaaProg.lean LOADS. Nothing in Lean hashes anything: it is a label: what it is worth is what the hold of that sum in a sandbox is worth. -/
noncomputable def Try.pinned : Pinned := { name := "ytgfkllnaeekjeaa", sum := "2aeff405fda5e3b7155bbb88c0a2f7a16716fe6882e7a2b9a72bd19f83394488", checked := Try.checked }
namespace Rows
def none {H : Type} : Left H := { results := [], args := [] }

/-- 'frescolaw08.SolveRight': WHATEVER THE INPUT: true; the input reads as it did. -/
def solveRightSpec : ChangeSpec := { name := "solveRight", fn := fun _ => fun
  | [d] => { results := [.lit (.bool true)], args := [d] }
  | _ => none }
def solveRightRow : OpenClaim := { program := "ytgfkllnaeekjeaa", sum := "2aeff405fda5e3b7155bbb88c0a2f7a16716fe6882e7a2b9a72bd19f83394488", func := "fresco/frescolaw08.SolveRight", spec := "solveRight", apart := false }
def SolveRightSaid : Prop := solveRightRow.holds Try.pinned (OpenSpec.ofChange solveRightSpec)

/-- ITS FALSE NEIGHBOUR: 'it returns false'. Refute it at one input. -/
def solveRightWrong : ChangeSpec := { name := "solveRight", fn := fun _ => fun
  | [d] => { results := [.lit (.bool false)], args := [d] }
  | _ => none }
def SolveRightWrongFalsely : Prop := solveRightRow.holds Try.pinned (OpenSpec.ofChange solveRightWrong)

/-- 'frescolaw08.SolveSizes': WHATEVER THE INPUT: true; the input reads as it did. -/
def solveSizesSpec : ChangeSpec := { name := "solveSizes", fn := fun _ => fun
  | [d1, d2, d3, d4] => { results := [.lit (.bool true)], args := [d1, d2, d3, d4] }
  | _ => none }
def solveSizesRow : OpenClaim := { program := "ytgfkllnaeekjeaa", sum := "2aeff405fda5e3b7155bbb88c0a2f7a16716fe6882e7a2b9a72bd19f83394488", func := "fresco/frescolaw08.SolveSizes", spec := "solveSizes", unfollowed := true, recurses := true, apart := false }
def SolveSizesSaid : Prop := solveSizesRow.holds Try.pinned (OpenSpec.ofChange solveSizesSpec)

/-- ITS FALSE NEIGHBOUR: 'it returns false'. Refute it at one input. -/
def solveSizesWrong : ChangeSpec := { name := "solveSizes", fn := fun _ => fun
  | [d1, d2, d3, d4] => { results := [.lit (.bool false)], args := [d1, d2, d3, d4] }
  | _ => none }
def SolveSizesWrongFalsely : Prop := solveSizesRow.holds Try.pinned (OpenSpec.ofChange solveSizesWrong)

/-- 'frescolaw08.SolvePlaces': WHATEVER THE INPUT: true; the input reads as it did. -/
def solvePlacesSpec : ChangeSpec := { name := "solvePlaces", fn := fun _ => fun
  | [d1, d2, d3, d4, d5] => { results := [.lit (.bool true)], args := [d1, d2, d3, d4, d5] }
  | _ => none }
def solvePlacesRow : OpenClaim := { program := "ytgfkllnaeekjeaa", sum := "2aeff405fda5e3b7155bbb88c0a2f7a16716fe6882e7a2b9a72bd19f83394488", func := "fresco/frescolaw08.SolvePlaces", spec := "solvePlaces", unfollowed := true, recurses := true, apart := false }
def SolvePlacesSaid : Prop := solvePlacesRow.holds Try.pinned (OpenSpec.ofChange solvePlacesSpec)

/-- ITS FALSE NEIGHBOUR: 'it returns false'. Refute it at one input. -/
def solvePlacesWrong : ChangeSpec := { name := "solvePlaces", fn := fun _ => fun
  | [d1, d2, d3, d4, d5] => { results := [.lit (.bool false)], args := [d1, d2, d3, d4, d5] }
  | _ => none }
def SolvePlacesWrongFalsely : Prop := solvePlacesRow.holds Try.pinned (OpenSpec.ofChange solvePlacesWrong)

/-- 'frescolaw08.SolveSums': WHATEVER THE INPUT: true; the input reads as it did. -/
def solveSumsSpec : ChangeSpec := { name := "solveSums", fn := fun _ => fun
  | [d1, d2, d3] => { results := [.lit (.bool true)], args := [d1, d2, d3] }
  | _ => none }
def solveSumsRow : OpenClaim := { program := "ytgfkllnaeekjeaa", sum := "2aeff405fda5e3b7155bbb88c0a2f7a16716fe6882e7a2b9a72bd19f83394488", func := "fresco/frescolaw08.SolveSums", spec := "solveSums", unfollowed := true, recurses := true, apart := false }
def SolveSumsSaid : Prop := solveSumsRow.holds Try.pinned (OpenSpec.ofChange solveSumsSpec)

/-- ITS FALSE NEIGHBOUR: 'it returns false'. Refute it at one input. -/
def solveSumsWrong : ChangeSpec := { name := "solveSums", fn := fun _ => fun
  | [d1, d2, d3] => { results := [.lit (.bool false)], args := [d1, d2, d3] }
  | _ => none }
def SolveSumsWrongFalsely : Prop := solveSumsRow.holds Try.pinned (OpenSpec.ofChange solveSumsWrong)

/-- 'frescolaw08.SolveTiles': WHATEVER THE INPUT: true; the input reads as it did. -/
def solveTilesSpec : ChangeSpec := { name := "solveTiles", fn := fun _ => fun
  | [d1, d2, d3] => { results := [.lit (.bool true)], args := [d1, d2, d3] }
  | _ => none }
def solveTilesRow : OpenClaim := { program := "ytgfkllnaeekjeaa", sum := "2aeff405fda5e3b7155bbb88c0a2f7a16716fe6882e7a2b9a72bd19f83394488", func := "fresco/frescolaw08.SolveTiles", spec := "solveTiles", unfollowed := true, recurses := true, apart := false }
def SolveTilesSaid : Prop := solveTilesRow.holds Try.pinned (OpenSpec.ofChange solveTilesSpec)

/-- ITS FALSE NEIGHBOUR: 'it returns false'. Refute it at one input. -/
def solveTilesWrong : ChangeSpec := { name := "solveTiles", fn := fun _ => fun
  | [d1, d2, d3] => { results := [.lit (.bool false)], args := [d1, d2, d3] }
  | _ => none }
def SolveTilesWrongFalsely : Prop := solveTilesRow.holds Try.pinned (OpenSpec.ofChange solveTilesWrong)

/-- 'frescolaw08.SolveOrder': WHATEVER THE INPUT: true; the input reads as it did. -/
def solveOrderSpec : ChangeSpec := { name := "solveOrder", fn := fun _ => fun
  | [d1, d2, d3] => { results := [.lit (.bool true)], args := [d1, d2, d3] }
  | _ => none }
def solveOrderRow : OpenClaim := { program := "ytgfkllnaeekjeaa", sum := "2aeff405fda5e3b7155bbb88c0a2f7a16716fe6882e7a2b9a72bd19f83394488", func := "fresco/frescolaw08.SolveOrder", spec := "solveOrder", unfollowed := true, recurses := true, apart := false }
def SolveOrderSaid : Prop := solveOrderRow.holds Try.pinned (OpenSpec.ofChange solveOrderSpec)

/-- ITS FALSE NEIGHBOUR: 'it returns false'. Refute it at one input. -/
def solveOrderWrong : ChangeSpec := { name := "solveOrder", fn := fun _ => fun
  | [d1, d2, d3] => { results := [.lit (.bool false)], args := [d1, d2, d3] }
  | _ => none }
def SolveOrderWrongFalsely : Prop := solveOrderRow.holds Try.pinned (OpenSpec.ofChange solveOrderWrong)

/-- 'frescolaw08.SolveMore': WHATEVER THE INPUT: true; the input reads as it did. -/
def solveMoreSpec : ChangeSpec := { name := "solveMore", fn := fun _ => fun
  | [d1, d2, d3, d4] => { results := [.lit (.bool true)], args := [d1, d2, d3, d4] }
  | _ => none }
def solveMoreRow : OpenClaim := { program := "ytgfkllnaeekjeaa", sum := "2aeff405fda5e3b7155bbb88c0a2f7a16716fe6882e7a2b9a72bd19f83394488", func := "fresco/frescolaw08.SolveMore", spec := "solveMore", unfollowed := true, recurses := true, apart := false }
def SolveMoreSaid : Prop := solveMoreRow.holds Try.pinned (OpenSpec.ofChange solveMoreSpec)

/-- ITS FALSE NEIGHBOUR: 'it returns false'. Refute it at one input. -/
def solveMoreWrong : ChangeSpec := { name := "solveMore", fn := fun _ => fun
  | [d1, d2, d3, d4] => { results := [.lit (.bool false)], args := [d1, d2, d3, d4] }
  | _ => none }
def SolveMoreWrongFalsely : Prop := solveMoreRow.holds Try.pinned (OpenSpec.ofChange solveMoreWrong)

/-- 'frescolaw08.SolveWithin': WHATEVER THE INPUT: true; the input reads as it did. -/
def solveWithinSpec : ChangeSpec := { name := "solveWithin", fn := fun _ => fun
  | [d1, d2, d3, d4] => { results := [.lit (.bool true)], args := [d1, d2, d3, d4] }
  | _ => none }
def solveWithinRow : OpenClaim := { program := "ytgfkllnaeekjeaa", sum := "2aeff405fda5e3b7155bbb88c0a2f7a16716fe6882e7a2b9a72bd19f83394488", func := "fresco/frescolaw08.SolveWithin", spec := "solveWithin", unfollowed := true, recurses := true, apart := false }
def SolveWithinSaid : Prop := solveWithinRow.holds Try.pinned (OpenSpec.ofChange solveWithinSpec)

/-- ITS FALSE NEIGHBOUR: 'it returns false'. Refute it at one input. -/
def solveWithinWrong : ChangeSpec := { name := "solveWithin", fn := fun _ => fun
  | [d1, d2, d3, d4] => { results := [.lit (.bool false)], args := [d1, d2, d3, d4] }
  | _ => none }
def SolveWithinWrongFalsely : Prop := solveWithinRow.holds Try.pinned (OpenSpec.ofChange solveWithinWrong)

/-- 'frescolaw08.SolveKnown': WHATEVER THE INPUT: true; the input reads as it did. -/
def solveKnownSpec : ChangeSpec := { name := "solveKnown", fn := fun _ => fun
  | [] => { results := [.lit (.bool true)], args := [] }
  | _ => none }
def solveKnownRow : OpenClaim := { program := "ytgfkllnaeekjeaa", sum := "2aeff405fda5e3b7155bbb88c0a2f7a16716fe6882e7a2b9a72bd19f83394488", func := "fresco/frescolaw08.SolveKnown", spec := "solveKnown", unfollowed := true, recurses := true, apart := false }
def SolveKnownSaid : Prop := solveKnownRow.holds Try.pinned (OpenSpec.ofChange solveKnownSpec)

/-- ITS FALSE NEIGHBOUR: 'it returns false'. Refute it at one input. -/
def solveKnownWrong : ChangeSpec := { name := "solveKnown", fn := fun _ => fun
  | [] => { results := [.lit (.bool false)], args := [] }
  | _ => none }
def SolveKnownWrongFalsely : Prop := solveKnownRow.holds Try.pinned (OpenSpec.ofChange solveKnownWrong)

/- THE SECOND FORM. 'bulk': how many values and letters a reading holds, each counted each time it is reached (what is shared counts as often as it is met; a slice's spare places count too). A statement '..UptoSaid' is the law's where the arguments, and the package variables that the reading takes, are together of bulk at most 1048576: NARROWER than '..Said'. Prove '..Said' where nothing that the law and all that it calls make is longer than what came in: it says more and counts as full. Else prove '..UptoSaid'. A law counts once. -/
mutual
def uptoBulk {H : Type} : DataW H → Nat
  | .lit (.string bytes) => bytes.length + 1
  | .lit _ => 1
  | .nil => 1
  | .ptr d => uptoBulk d + 1
  | .slice elems spare => uptoBulkAll elems + uptoBulkAll spare + 1
  | .agg parts => uptoBulkAll parts + 1
  | .iface _ d => uptoBulk d + 1
  | .map entries => uptoBulkEntries entries + 1
  | .held _ => 1
def uptoBulkAll {H : Type} : List (DataW H) → Nat
  | [] => 0
  | d :: r => uptoBulk d + uptoBulkAll r
def uptoBulkEntries {H : Type} : List (Lit × DataW H) → Nat
  | [] => 0
  | x :: r => uptoBulkEntry x + uptoBulkEntries r
def uptoBulkEntry {H : Type} : Lit × DataW H → Nat
  | (.string bytes, d) => bytes.length + uptoBulk d + 1
  | (_, d) => uptoBulk d + 1
 end
def uptoSmall : (H : Type) → List (DataW H) → Bool := fun _ ds => decide (uptoBulkAll ds ≤ 1048576)
def OpenSpec.upto (s : _root_.Go.ChangeSpec) : _root_.Go.OpenSpec := { _root_.Go.OpenSpec.ofChange s with cond := some uptoSmall }

/-- 'frescolaw08.SolveRight', WHERE WHAT IT READS IS OF BULK AT MOST 1048576: true; the input reads as it did. -/
def solveRightUptoRow : OpenClaim := { program := "ytgfkllnaeekjeaa", sum := "2aeff405fda5e3b7155bbb88c0a2f7a16716fe6882e7a2b9a72bd19f83394488", func := "fresco/frescolaw08.SolveRight", spec := "solveRight", apart := false, narrowed := true }
def SolveRightUptoSaid : Prop := solveRightUptoRow.holds Try.pinned (OpenSpec.upto solveRightSpec)

/-- 'frescolaw08.SolveSizes', WHERE WHAT IT READS IS OF BULK AT MOST 1048576: true; the input reads as it did. -/
def solveSizesUptoRow : OpenClaim := { program := "ytgfkllnaeekjeaa", sum := "2aeff405fda5e3b7155bbb88c0a2f7a16716fe6882e7a2b9a72bd19f83394488", func := "fresco/frescolaw08.SolveSizes", spec := "solveSizes", unfollowed := true, recurses := true, apart := false, narrowed := true }
def SolveSizesUptoSaid : Prop := solveSizesUptoRow.holds Try.pinned (OpenSpec.upto solveSizesSpec)

/-- 'frescolaw08.SolvePlaces', WHERE WHAT IT READS IS OF BULK AT MOST 1048576: true; the input reads as it did. -/
def solvePlacesUptoRow : OpenClaim := { program := "ytgfkllnaeekjeaa", sum := "2aeff405fda5e3b7155bbb88c0a2f7a16716fe6882e7a2b9a72bd19f83394488", func := "fresco/frescolaw08.SolvePlaces", spec := "solvePlaces", unfollowed := true, recurses := true, apart := false, narrowed := true }
def SolvePlacesUptoSaid : Prop := solvePlacesUptoRow.holds Try.pinned (OpenSpec.upto solvePlacesSpec)

/-- 'frescolaw08.SolveSums', WHERE WHAT IT READS IS OF BULK AT MOST 1048576: true; the input reads as it did. -/
def solveSumsUptoRow : OpenClaim := { program := "ytgfkllnaeekjeaa", sum := "2aeff405fda5e3b7155bbb88c0a2f7a16716fe6882e7a2b9a72bd19f83394488", func := "fresco/frescolaw08.SolveSums", spec := "solveSums", unfollowed := true, recurses := true, apart := false, narrowed := true }
def SolveSumsUptoSaid : Prop := solveSumsUptoRow.holds Try.pinned (OpenSpec.upto solveSumsSpec)

/-- 'frescolaw08.SolveTiles', WHERE WHAT IT READS IS OF BULK AT MOST 1048576: true; the input reads as it did. -/
def solveTilesUptoRow : OpenClaim := { program := "ytgfkllnaeekjeaa", sum := "2aeff405fda5e3b7155bbb88c0a2f7a16716fe6882e7a2b9a72bd19f83394488", func := "fresco/frescolaw08.SolveTiles", spec := "solveTiles", unfollowed := true, recurses := true, apart := false, narrowed := true }
def SolveTilesUptoSaid : Prop := solveTilesUptoRow.holds Try.pinned (OpenSpec.upto solveTilesSpec)

/-- 'frescolaw08.SolveOrder', WHERE WHAT IT READS IS OF BULK AT MOST 1048576: true; the input reads as it did. -/
def solveOrderUptoRow : OpenClaim := { program := "ytgfkllnaeekjeaa", sum := "2aeff405fda5e3b7155bbb88c0a2f7a16716fe6882e7a2b9a72bd19f83394488", func := "fresco/frescolaw08.SolveOrder", spec := "solveOrder", unfollowed := true, recurses := true, apart := false, narrowed := true }
def SolveOrderUptoSaid : Prop := solveOrderUptoRow.holds Try.pinned (OpenSpec.upto solveOrderSpec)

/-- 'frescolaw08.SolveMore', WHERE WHAT IT READS IS OF BULK AT MOST 1048576: true; the input reads as it did. -/
def solveMoreUptoRow : OpenClaim := { program := "ytgfkllnaeekjeaa", sum := "2aeff405fda5e3b7155bbb88c0a2f7a16716fe6882e7a2b9a72bd19f83394488", func := "fresco/frescolaw08.SolveMore", spec := "solveMore", unfollowed := true, recurses := true, apart := false, narrowed := true }
def SolveMoreUptoSaid : Prop := solveMoreUptoRow.holds Try.pinned (OpenSpec.upto solveMoreSpec)

/-- 'frescolaw08.SolveWithin', WHERE WHAT IT READS IS OF BULK AT MOST 1048576: true; the input reads as it did. -/
def solveWithinUptoRow : OpenClaim := { program := "ytgfkllnaeekjeaa", sum := "2aeff405fda5e3b7155bbb88c0a2f7a16716fe6882e7a2b9a72bd19f83394488", func := "fresco/frescolaw08.SolveWithin", spec := "solveWithin", unfollowed := true, recurses := true, apart := false, narrowed := true }
def SolveWithinUptoSaid : Prop := solveWithinUptoRow.holds Try.pinned (OpenSpec.upto solveWithinSpec)

/-- 'frescolaw08.SolveKnown', WHERE WHAT IT READS IS OF BULK AT MOST 1048576: true; the input reads as it did. -/
def solveKnownUptoRow : OpenClaim := { program := "ytgfkllnaeekjeaa", sum := "2aeff405fda5e3b7155bbb88c0a2f7a16716fe6882e7a2b9a72bd19f83394488", func := "fresco/frescolaw08.SolveKnown", spec := "solveKnown", unfollowed := true, recurses := true, apart := false, narrowed := true }
def SolveKnownUptoSaid : Prop := solveKnownUptoRow.holds Try.pinned (OpenSpec.upto solveKnownSpec)

end Rows
end Go.Proofs.Ytgfkllnaeekjeaa

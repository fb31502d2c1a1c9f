/-
  No cell of these rows narrows 'for every input' (looked for: loops, veiled, ifaces, maps, wideKeys, modest, calm, conditions, laid).
  DERIVED. THE GIVEN ROWS OF THIS SEAT. 8 by the template 'for every input the law returns true; each argument reads behind the call as it read before'; 0 by the template 'total and deterministic' (their statements: YtcgcpmcjaeenlaaTotals.lean).
  GIVEN WITH THE SEED: the statements are not yours to turn. If you find one false, say at which input.
  Laid BY PROGRAM, IN A SANDBOX (cutbox-rows.mjs): the forced cells as the released guide's own fill.sh prints them over the translation 641a85f9f148f54c… (all of the seat's roots in one cut). By AI agents, Wed Nov 11 2026. No macro, syntax, notation, axiom, sorry.
-/
import Derived.Test.YtcgcpmcjaeenlaaChecked
import GoSem.Claim
import GoSem.ClaimJoined
import GoSem.ClaimMapViews
import Derived.JoinedTies
import Derived.KernelRfl
namespace Go.Proofs.Ytcgcpmcjaeenlaa
/- THE CELL 'sum', in the pinned program and in every row, IS THE sha256 OF THE DUMP (.gsa) THAT YtcgcpmcjaeenlaaProg.lean LOADS. Nothing in Lean hashes anything: it is a label: what it is worth is what the hold of that sum in a sandbox is worth. -/
noncomputable def Try.pinned : Pinned := { name := "ytcgcpmcjaeenlaa", sum := "641a85f9f148f54ca79a38f1c665053bb4d9fbe5aa4cfc377dd83fe4e61d99ce", checked := Try.checked }
namespace Rows
def none {H : Type} : Left H := { results := [], args := [] }

/-- 'frescolaw09.GridFlow': WHATEVER THE INPUT: true; the input reads as it did. -/
def gridFlowSpec : ChangeSpec := { name := "gridFlow", fn := fun _ => fun
  | [d1, d2] => { results := [.lit (.bool true)], args := [d1, d2] }
  | _ => none }
def gridFlowRow : OpenClaim := { program := "ytcgcpmcjaeenlaa", sum := "641a85f9f148f54ca79a38f1c665053bb4d9fbe5aa4cfc377dd83fe4e61d99ce", func := "fresco/frescolaw09.GridFlow", spec := "gridFlow", unfollowed := true, recurses := true, apart := false }
def GridFlowSaid : Prop := gridFlowRow.holds Try.pinned (OpenSpec.ofChange gridFlowSpec)

/-- ITS FALSE NEIGHBOUR: 'it returns false'. Refute it at one input. -/
def gridFlowWrong : ChangeSpec := { name := "gridFlow", fn := fun _ => fun
  | [d1, d2] => { results := [.lit (.bool false)], args := [d1, d2] }
  | _ => none }
def GridFlowWrongFalsely : Prop := gridFlowRow.holds Try.pinned (OpenSpec.ofChange gridFlowWrong)

/-- 'frescolaw09.GridTracks': WHATEVER THE INPUT: true; the input reads as it did. -/
def gridTracksSpec : ChangeSpec := { name := "gridTracks", fn := fun _ => fun
  | [d1, d2, d3, d4] => { results := [.lit (.bool true)], args := [d1, d2, d3, d4] }
  | _ => none }
def gridTracksRow : OpenClaim := { program := "ytcgcpmcjaeenlaa", sum := "641a85f9f148f54ca79a38f1c665053bb4d9fbe5aa4cfc377dd83fe4e61d99ce", func := "fresco/frescolaw09.GridTracks", spec := "gridTracks", unfollowed := true, recurses := true, apart := false }
def GridTracksSaid : Prop := gridTracksRow.holds Try.pinned (OpenSpec.ofChange gridTracksSpec)

/-- ITS FALSE NEIGHBOUR: 'it returns false'. Refute it at one input. -/
def gridTracksWrong : ChangeSpec := { name := "gridTracks", fn := fun _ => fun
  | [d1, d2, d3, d4] => { results := [.lit (.bool false)], args := [d1, d2, d3, d4] }
  | _ => none }
def GridTracksWrongFalsely : Prop := gridTracksRow.holds Try.pinned (OpenSpec.ofChange gridTracksWrong)

/-- 'frescolaw09.GridRects': WHATEVER THE INPUT: true; the input reads as it did. -/
def gridRectsSpec : ChangeSpec := { name := "gridRects", fn := fun _ => fun
  | [d1, d2, d3, d4] => { results := [.lit (.bool true)], args := [d1, d2, d3, d4] }
  | _ => none }
def gridRectsRow : OpenClaim := { program := "ytcgcpmcjaeenlaa", sum := "641a85f9f148f54ca79a38f1c665053bb4d9fbe5aa4cfc377dd83fe4e61d99ce", func := "fresco/frescolaw09.GridRects", spec := "gridRects", unfollowed := true, recurses := true, apart := false }
def GridRectsSaid : Prop := gridRectsRow.holds Try.pinned (OpenSpec.ofChange gridRectsSpec)

/-- ITS FALSE NEIGHBOUR: 'it returns false'. Refute it at one input. -/
def gridRectsWrong : ChangeSpec := { name := "gridRects", fn := fun _ => fun
  | [d1, d2, d3, d4] => { results := [.lit (.bool false)], args := [d1, d2, d3, d4] }
  | _ => none }
def GridRectsWrongFalsely : Prop := gridRectsRow.holds Try.pinned (OpenSpec.ofChange gridRectsWrong)

/-- 'frescolaw09.GridFree': WHATEVER THE INPUT: true; the input reads as it did. -/
def gridFreeSpec : ChangeSpec := { name := "gridFree", fn := fun _ => fun
  | [d1, d2] => { results := [.lit (.bool true)], args := [d1, d2] }
  | _ => none }
def gridFreeRow : OpenClaim := { program := "ytcgcpmcjaeenlaa", sum := "641a85f9f148f54ca79a38f1c665053bb4d9fbe5aa4cfc377dd83fe4e61d99ce", func := "fresco/frescolaw09.GridFree", spec := "gridFree", unfollowed := true, recurses := true, apart := false }
def GridFreeSaid : Prop := gridFreeRow.holds Try.pinned (OpenSpec.ofChange gridFreeSpec)

/-- ITS FALSE NEIGHBOUR: 'it returns false'. Refute it at one input. -/
def gridFreeWrong : ChangeSpec := { name := "gridFree", fn := fun _ => fun
  | [d1, d2] => { results := [.lit (.bool false)], args := [d1, d2] }
  | _ => none }
def GridFreeWrongFalsely : Prop := gridFreeRow.holds Try.pinned (OpenSpec.ofChange gridFreeWrong)

/-- 'frescolaw09.GridAgain': WHATEVER THE INPUT: true; the input reads as it did. -/
def gridAgainSpec : ChangeSpec := { name := "gridAgain", fn := fun _ => fun
  | [d1, d2] => { results := [.lit (.bool true)], args := [d1, d2] }
  | _ => none }
def gridAgainRow : OpenClaim := { program := "ytcgcpmcjaeenlaa", sum := "641a85f9f148f54ca79a38f1c665053bb4d9fbe5aa4cfc377dd83fe4e61d99ce", func := "fresco/frescolaw09.GridAgain", spec := "gridAgain", unfollowed := true, recurses := true, apart := false }
def GridAgainSaid : Prop := gridAgainRow.holds Try.pinned (OpenSpec.ofChange gridAgainSpec)

/-- ITS FALSE NEIGHBOUR: 'it returns false'. Refute it at one input. -/
def gridAgainWrong : ChangeSpec := { name := "gridAgain", fn := fun _ => fun
  | [d1, d2] => { results := [.lit (.bool false)], args := [d1, d2] }
  | _ => none }
def GridAgainWrongFalsely : Prop := gridAgainRow.holds Try.pinned (OpenSpec.ofChange gridAgainWrong)

/-- 'frescolaw09.GridHolds': WHATEVER THE INPUT: true; the input reads as it did. -/
def gridHoldsSpec : ChangeSpec := { name := "gridHolds", fn := fun _ => fun
  | [d1, d2, d3, d4] => { results := [.lit (.bool true)], args := [d1, d2, d3, d4] }
  | _ => none }
def gridHoldsRow : OpenClaim := { program := "ytcgcpmcjaeenlaa", sum := "641a85f9f148f54ca79a38f1c665053bb4d9fbe5aa4cfc377dd83fe4e61d99ce", func := "fresco/frescolaw09.GridHolds", spec := "gridHolds", unfollowed := true, recurses := true, apart := false }
def GridHoldsSaid : Prop := gridHoldsRow.holds Try.pinned (OpenSpec.ofChange gridHoldsSpec)

/-- ITS FALSE NEIGHBOUR: 'it returns false'. Refute it at one input. -/
def gridHoldsWrong : ChangeSpec := { name := "gridHolds", fn := fun _ => fun
  | [d1, d2, d3, d4] => { results := [.lit (.bool false)], args := [d1, d2, d3, d4] }
  | _ => none }
def GridHoldsWrongFalsely : Prop := gridHoldsRow.holds Try.pinned (OpenSpec.ofChange gridHoldsWrong)

/-- 'frescolaw09.GridApart': WHATEVER THE INPUT: true; the input reads as it did. -/
def gridApartSpec : ChangeSpec := { name := "gridApart", fn := fun _ => fun
  | [d1, d2, d3, d4] => { results := [.lit (.bool true)], args := [d1, d2, d3, d4] }
  | _ => none }
def gridApartRow : OpenClaim := { program := "ytcgcpmcjaeenlaa", sum := "641a85f9f148f54ca79a38f1c665053bb4d9fbe5aa4cfc377dd83fe4e61d99ce", func := "fresco/frescolaw09.GridApart", spec := "gridApart", unfollowed := true, recurses := true, apart := false }
def GridApartSaid : Prop := gridApartRow.holds Try.pinned (OpenSpec.ofChange gridApartSpec)

/-- ITS FALSE NEIGHBOUR: 'it returns false'. Refute it at one input. -/
def gridApartWrong : ChangeSpec := { name := "gridApart", fn := fun _ => fun
  | [d1, d2, d3, d4] => { results := [.lit (.bool false)], args := [d1, d2, d3, d4] }
  | _ => none }
def GridApartWrongFalsely : Prop := gridApartRow.holds Try.pinned (OpenSpec.ofChange gridApartWrong)

/-- 'frescolaw09.GridKnown': WHATEVER THE INPUT: true; the input reads as it did. -/
def gridKnownSpec : ChangeSpec := { name := "gridKnown", fn := fun _ => fun
  | [] => { results := [.lit (.bool true)], args := [] }
  | _ => none }
def gridKnownRow : OpenClaim := { program := "ytcgcpmcjaeenlaa", sum := "641a85f9f148f54ca79a38f1c665053bb4d9fbe5aa4cfc377dd83fe4e61d99ce", func := "fresco/frescolaw09.GridKnown", spec := "gridKnown", unfollowed := true, recurses := true, apart := false }
def GridKnownSaid : Prop := gridKnownRow.holds Try.pinned (OpenSpec.ofChange gridKnownSpec)

/-- ITS FALSE NEIGHBOUR: 'it returns false'. Refute it at one input. -/
def gridKnownWrong : ChangeSpec := { name := "gridKnown", fn := fun _ => fun
  | [] => { results := [.lit (.bool false)], args := [] }
  | _ => none }
def GridKnownWrongFalsely : Prop := gridKnownRow.holds Try.pinned (OpenSpec.ofChange gridKnownWrong)

/- THE SECOND FORM. 'bulk': how many values and letters a reading holds, each counted each time it is reached (what is shared counts as often as it is met; a slice's spare places count too). A statement '..UptoSaid' is the law's where the arguments, and the package variables that the reading takes, are together of bulk at most 1048576: NARROWER than '..Said'. Prove '..Said' where nothing that the law and all that it calls make is longer than what came in: it says more and counts as full. Else prove '..UptoSaid'. A law counts once. -/
mutual
def uptoBulk {H : Type} : DataW H → Nat
  | .lit (.string bytes) => bytes.length + 1
  | .lit _ => 1
  | .nil => 1
  | .ptr d => uptoBulk d + 1
  | .slice elems spare => uptoBulkAll elems + uptoBulkAll spare + 1
  | .agg parts => uptoBulkAll parts + 1
  | .iface _ d => uptoBulk d + 1
  | .map entries => uptoBulkEntries entries + 1
  | .held _ => 1
def uptoBulkAll {H : Type} : List (DataW H) → Nat
  | [] => 0
  | d :: r => uptoBulk d + uptoBulkAll r
def uptoBulkEntries {H : Type} : List (Lit × DataW H) → Nat
  | [] => 0
  | x :: r => uptoBulkEntry x + uptoBulkEntries r
def uptoBulkEntry {H : Type} : Lit × DataW H → Nat
  | (.string bytes, d) => bytes.length + uptoBulk d + 1
  | (_, d) => uptoBulk d + 1
 end
def uptoSmall : (H : Type) → List (DataW H) → Bool := fun _ ds => decide (uptoBulkAll ds ≤ 1048576)
def OpenSpec.upto (s : _root_.Go.ChangeSpec) : _root_.Go.OpenSpec := { _root_.Go.OpenSpec.ofChange s with cond := some uptoSmall }

/-- 'frescolaw09.GridFlow', WHERE WHAT IT READS IS OF BULK AT MOST 1048576: true; the input reads as it did. -/
def gridFlowUptoRow : OpenClaim := { program := "ytcgcpmcjaeenlaa", sum := "641a85f9f148f54ca79a38f1c665053bb4d9fbe5aa4cfc377dd83fe4e61d99ce", func := "fresco/frescolaw09.GridFlow", spec := "gridFlow", unfollowed := true, recurses := true, apart := false, narrowed := true }
def GridFlowUptoSaid : Prop := gridFlowUptoRow.holds Try.pinned (OpenSpec.upto gridFlowSpec)

/-- 'frescolaw09.GridTracks', WHERE WHAT IT READS IS OF BULK AT MOST 1048576: true; the input reads as it did. -/
def gridTracksUptoRow : OpenClaim := { program := "ytcgcpmcjaeenlaa", sum := "641a85f9f148f54ca79a38f1c665053bb4d9fbe5aa4cfc377dd83fe4e61d99ce", func := "fresco/frescolaw09.GridTracks", spec := "gridTracks", unfollowed := true, recurses := true, apart := false, narrowed := true }
def GridTracksUptoSaid : Prop := gridTracksUptoRow.holds Try.pinned (OpenSpec.upto gridTracksSpec)

/-- 'frescolaw09.GridRects', WHERE WHAT IT READS IS OF BULK AT MOST 1048576: true; the input reads as it did. -/
def gridRectsUptoRow : OpenClaim := { program := "ytcgcpmcjaeenlaa", sum := "641a85f9f148f54ca79a38f1c665053bb4d9fbe5aa4cfc377dd83fe4e61d99ce", func := "fresco/frescolaw09.GridRects", spec := "gridRects", unfollowed := true, recurses := true, apart := false, narrowed := true }
def GridRectsUptoSaid : Prop := gridRectsUptoRow.holds Try.pinned (OpenSpec.upto gridRectsSpec)

/-- 'frescolaw09.GridFree', WHERE WHAT IT READS IS OF BULK AT MOST 1048576: true; the input reads as it did. -/
def gridFreeUptoRow : OpenClaim := { program := "ytcgcpmcjaeenlaa", sum := "641a85f9f148f54ca79a38f1c665053bb4d9fbe5aa4cfc377dd83fe4e61d99ce", func := "fresco/frescolaw09.GridFree", spec := "gridFree", unfollowed := true, recurses := true, apart := false, narrowed := true }
def GridFreeUptoSaid : Prop := gridFreeUptoRow.holds Try.pinned (OpenSpec.upto gridFreeSpec)

/-- 'frescolaw09.GridAgain', WHERE WHAT IT READS IS OF BULK AT MOST 1048576: true; the input reads as it did. -/
def gridAgainUptoRow : OpenClaim := { program := "ytcgcpmcjaeenlaa", sum := "641a85f9f148f54ca79a38f1c665053bb4d9fbe5aa4cfc377dd83fe4e61d99ce", func := "fresco/frescolaw09.GridAgain", spec := "gridAgain", unfollowed := true, recurses := true, apart := false, narrowed := true }
def GridAgainUptoSaid : Prop := gridAgainUptoRow.holds Try.pinned (OpenSpec.upto gridAgainSpec)

/-- 'frescolaw09.GridHolds', WHERE WHAT IT READS IS OF BULK AT MOST 1048576: true; the input reads as it did. -/
def gridHoldsUptoRow : OpenClaim := { program := "ytcgcpmcjaeenlaa", sum := "641a85f9f148f54ca79a38f1c665053bb4d9fbe5aa4cfc377dd83fe4e61d99ce", func := "fresco/frescolaw09.GridHolds", spec := "gridHolds", unfollowed := true, recurses := true, apart := false, narrowed := true }
def GridHoldsUptoSaid : Prop := gridHoldsUptoRow.holds Try.pinned (OpenSpec.upto gridHoldsSpec)

/-- 'frescolaw09.GridApart', WHERE WHAT IT READS IS OF BULK AT MOST 1048576: true; the input reads as it did. -/
def gridApartUptoRow : OpenClaim := { program := "ytcgcpmcjaeenlaa", sum := "641a85f9f148f54ca79a38f1c665053bb4d9fbe5aa4cfc377dd83fe4e61d99ce", func := "fresco/frescolaw09.GridApart", spec := "gridApart", unfollowed := true, recurses := true, apart := false, narrowed := true }
def GridApartUptoSaid : Prop := gridApartUptoRow.holds Try.pinned (OpenSpec.upto gridApartSpec)

/-- 'frescolaw09.GridKnown', WHERE WHAT IT READS IS OF BULK AT MOST 1048576: true; the input reads as it did. -/
def gridKnownUptoRow : OpenClaim := { program := "ytcgcpmcjaeenlaa", sum := "641a85f9f148f54ca79a38f1c665053bb4d9fbe5aa4cfc377dd83fe4e61d99ce", func := "fresco/frescolaw09.GridKnown", spec := "gridKnown", unfollowed := true, recurses := true, apart := false, narrowed := true }
def GridKnownUptoSaid : Prop := gridKnownUptoRow.holds Try.pinned (OpenSpec.upto gridKnownSpec)

end Rows
end Go.Proofs.Ytcgcpmcjaeenlaa

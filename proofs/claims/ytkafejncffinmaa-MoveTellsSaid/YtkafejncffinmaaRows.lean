/-
  No cell of these rows narrows 'for every input' (looked for: loops, veiled, ifaces, maps, wideKeys, modest, calm, conditions, laid).
  DERIVED. THE GIVEN ROWS OF THIS SEAT. 4 by the template 'for every input the law returns true; each argument reads behind the call as it read before'; 0 by the template 'total and deterministic' (their statements: YtkafejncffinmaaTotals.lean).
  GIVEN WITH THE SEED: the statements are not yours to turn. If you find one false, say at which input.
  Laid BY PROGRAM, IN A SANDBOX (cutbox-rows.mjs): the forced cells as the released guide's own fill.sh prints them over the translation 2344b0901331e30f… (all of the seat's roots in one cut). By AI agents, Wed Nov 11 2026. No macro, syntax, notation, axiom, sorry.
-/
import Derived.Test.YtkafejncffinmaaChecked
import GoSem.Claim
import GoSem.ClaimJoined
import GoSem.ClaimMapViews
import Derived.JoinedTies
import Derived.KernelRfl
namespace Go.Proofs.Ytkafejncffinmaa
/- THE CELL 'sum', in the pinned program and in every row, IS THE sha256 OF THE DUMP (.gsa) THAT YtkafejncffinmaaProg.lean LOADS. Nothing in Lean hashes anything: it is a label: what it is worth is what the hold of that sum in a sandbox is worth. -/
noncomputable def Try.pinned : Pinned := { name := "ytkafejncffinmaa", sum := "2344b0901331e30fef14efa751fdf8c99f88fb3a0ffdaea83d279ebfadd82e57", checked := Try.checked }
namespace Rows
def none {H : Type} : Left H := { results := [], args := [] }

/-- 'cooperagelaw17.MoveLeft': WHATEVER THE INPUT: true; the input reads as it did. -/
def moveLeftSpec : ChangeSpec := { name := "moveLeft", fn := fun _ => fun
  | [d1, d2, d3, d4] => { results := [.lit (.bool true)], args := [d1, d2, d3, d4] }
  | _ => none }
def moveLeftRow : OpenClaim := { program := "ytkafejncffinmaa", sum := "2344b0901331e30fef14efa751fdf8c99f88fb3a0ffdaea83d279ebfadd82e57", func := "cooperage/cooperagelaw17.MoveLeft", spec := "moveLeft", unfollowed := true, recurses := true, apart := false }
def MoveLeftSaid : Prop := moveLeftRow.holds Try.pinned (OpenSpec.ofChange moveLeftSpec)

/-- ITS FALSE NEIGHBOUR: 'it returns false'. Refute it at one input. -/
def moveLeftWrong : ChangeSpec := { name := "moveLeft", fn := fun _ => fun
  | [d1, d2, d3, d4] => { results := [.lit (.bool false)], args := [d1, d2, d3, d4] }
  | _ => none }
def MoveLeftWrongFalsely : Prop := moveLeftRow.holds Try.pinned (OpenSpec.ofChange moveLeftWrong)

/-- 'cooperagelaw17.MoveNumbers': WHATEVER THE INPUT: true; the input reads as it did. -/
def moveNumbersSpec : ChangeSpec := { name := "moveNumbers", fn := fun _ => fun
  | [] => { results := [.lit (.bool true)], args := [] }
  | _ => none }
def moveNumbersRow : OpenClaim := { program := "ytkafejncffinmaa", sum := "2344b0901331e30fef14efa751fdf8c99f88fb3a0ffdaea83d279ebfadd82e57", func := "cooperage/cooperagelaw17.MoveNumbers", spec := "moveNumbers", unfollowed := true, recurses := true, apart := false }
def MoveNumbersSaid : Prop := moveNumbersRow.holds Try.pinned (OpenSpec.ofChange moveNumbersSpec)

/-- ITS FALSE NEIGHBOUR: 'it returns false'. Refute it at one input. -/
def moveNumbersWrong : ChangeSpec := { name := "moveNumbers", fn := fun _ => fun
  | [] => { results := [.lit (.bool false)], args := [] }
  | _ => none }
def MoveNumbersWrongFalsely : Prop := moveNumbersRow.holds Try.pinned (OpenSpec.ofChange moveNumbersWrong)

/-- 'cooperagelaw17.MoveTells': WHATEVER THE INPUT: true; the input reads as it did. -/
def moveTellsSpec : ChangeSpec := { name := "moveTells", fn := fun _ => fun
  | [d1, d2, d3, d4, d5, d6] => { results := [.lit (.bool true)], args := [d1, d2, d3, d4, d5, d6] }
  | _ => none }
def moveTellsRow : OpenClaim := { program := "ytkafejncffinmaa", sum := "2344b0901331e30fef14efa751fdf8c99f88fb3a0ffdaea83d279ebfadd82e57", func := "cooperage/cooperagelaw17.MoveTells", spec := "moveTells", unfollowed := true, recurses := true, apart := false }
def MoveTellsSaid : Prop := moveTellsRow.holds Try.pinned (OpenSpec.ofChange moveTellsSpec)

/-- ITS FALSE NEIGHBOUR: 'it returns false'. Refute it at one input. -/
def moveTellsWrong : ChangeSpec := { name := "moveTells", fn := fun _ => fun
  | [d1, d2, d3, d4, d5, d6] => { results := [.lit (.bool false)], args := [d1, d2, d3, d4, d5, d6] }
  | _ => none }
def MoveTellsWrongFalsely : Prop := moveTellsRow.holds Try.pinned (OpenSpec.ofChange moveTellsWrong)

/-- 'cooperagelaw17.MoveBytes': WHATEVER THE INPUT: true; the input reads as it did. -/
def moveBytesSpec : ChangeSpec := { name := "moveBytes", fn := fun _ => fun
  | [d1, d2, d3] => { results := [.lit (.bool true)], args := [d1, d2, d3] }
  | _ => none }
def moveBytesRow : OpenClaim := { program := "ytkafejncffinmaa", sum := "2344b0901331e30fef14efa751fdf8c99f88fb3a0ffdaea83d279ebfadd82e57", func := "cooperage/cooperagelaw17.MoveBytes", spec := "moveBytes", unfollowed := true, recurses := true, apart := false }
def MoveBytesSaid : Prop := moveBytesRow.holds Try.pinned (OpenSpec.ofChange moveBytesSpec)

/-- ITS FALSE NEIGHBOUR: 'it returns false'. Refute it at one input. -/
def moveBytesWrong : ChangeSpec := { name := "moveBytes", fn := fun _ => fun
  | [d1, d2, d3] => { results := [.lit (.bool false)], args := [d1, d2, d3] }
  | _ => none }
def MoveBytesWrongFalsely : Prop := moveBytesRow.holds Try.pinned (OpenSpec.ofChange moveBytesWrong)

/- THE SECOND FORM. 'bulk': how many values and letters a reading holds, each counted each time it is reached (what is shared counts as often as it is met; a slice's spare places count too). A statement '..UptoSaid' is the law's where the arguments, and the package variables that the reading takes, are together of bulk at most 1048576: NARROWER than '..Said'. Prove '..Said' where nothing that the law and all that it calls make is longer than what came in: it says more and counts as full. Else prove '..UptoSaid'. A law counts once. -/
mutual
def uptoBulk {H : Type} : DataW H → Nat
  | .lit (.string bytes) => bytes.length + 1
  | .lit _ => 1
  | .nil => 1
  | .ptr d => uptoBulk d + 1
  | .slice elems spare => uptoBulkAll elems + uptoBulkAll spare + 1
  | .agg parts => uptoBulkAll parts + 1
  | .iface _ d => uptoBulk d + 1
  | .map entries => uptoBulkEntries entries + 1
  | .held _ => 1
def uptoBulkAll {H : Type} : List (DataW H) → Nat
  | [] => 0
  | d :: r => uptoBulk d + uptoBulkAll r
def uptoBulkEntries {H : Type} : List (Lit × DataW H) → Nat
  | [] => 0
  | x :: r => uptoBulkEntry x + uptoBulkEntries r
def uptoBulkEntry {H : Type} : Lit × DataW H → Nat
  | (.string bytes, d) => bytes.length + uptoBulk d + 1
  | (_, d) => uptoBulk d + 1
 end
def uptoSmall : (H : Type) → List (DataW H) → Bool := fun _ ds => decide (uptoBulkAll ds ≤ 1048576)
def OpenSpec.upto (s : _root_.Go.ChangeSpec) : _root_.Go.OpenSpec := { _root_.Go.OpenSpec.ofChange s with cond := some uptoSmall }

/-- 'cooperagelaw17.MoveLeft', WHERE WHAT IT READS IS OF BULK AT MOST 1048576: true; the input reads as it did. -/
def moveLeftUptoRow : OpenClaim := { program := "ytkafejncffinmaa", sum := "2344b0901331e30fef14efa751fdf8c99f88fb3a0ffdaea83d279ebfadd82e57", func := "cooperage/cooperagelaw17.MoveLeft", spec := "moveLeft", unfollowed := true, recurses := true, apart := false, narrowed := true }
def MoveLeftUptoSaid : Prop := moveLeftUptoRow.holds Try.pinned (OpenSpec.upto moveLeftSpec)

/-- 'cooperagelaw17.MoveNumbers', WHERE WHAT IT READS IS OF BULK AT MOST 1048576: true; the input reads as it did. -/
def moveNumbersUptoRow : OpenClaim := { program := "ytkafejncffinmaa", sum := "2344b0901331e30fef14efa751fdf8c99f88fb3a0ffdaea83d279ebfadd82e57", func := "cooperage/cooperagelaw17.MoveNumbers", spec := "moveNumbers", unfollowed := true, recurses := true, apart := false, narrowed := true }
def MoveNumbersUptoSaid : Prop := moveNumbersUptoRow.holds Try.pinned (OpenSpec.upto moveNumbersSpec)

/-- 'cooperagelaw17.MoveTells', WHERE WHAT IT READS IS OF BULK AT MOST 1048576: true; the input reads as it did. -/
def moveTellsUptoRow : OpenClaim := { program := "ytkafejncffinmaa", sum := "2344b0901331e30fef14efa751fdf8c99f88fb3a0ffdaea83d279ebfadd82e57", func := "cooperage/cooperagelaw17.MoveTells", spec := "moveTells", unfollowed := true, recurses := true, apart := false, narrowed := true }
def MoveTellsUptoSaid : Prop := moveTellsUptoRow.holds Try.pinned (OpenSpec.upto moveTellsSpec)

/-- 'cooperagelaw17.MoveBytes', WHERE WHAT IT READS IS OF BULK AT MOST 1048576: true; the input reads as it did. -/
def moveBytesUptoRow : OpenClaim := { program := "ytkafejncffinmaa", sum := "2344b0901331e30fef14efa751fdf8c99f88fb3a0ffdaea83d279ebfadd82e57", func := "cooperage/cooperagelaw17.MoveBytes", spec := "moveBytes", unfollowed := true, recurses := true, apart := false, narrowed := true }
def MoveBytesUptoSaid : Prop := moveBytesUptoRow.holds Try.pinned (OpenSpec.upto moveBytesSpec)

end Rows
end Go.Proofs.Ytkafejncffinmaa

/-
  No cell of these rows narrows 'for every input' (looked for: loops, veiled, ifaces, maps, wideKeys, modest, calm, conditions, laid).
  DERIVED. THE GIVEN ROWS OF THIS SEAT. 4 by the template 'for every input the law returns true; each argument reads behind the call as it read before'; 0 by the template 'total and deterministic' (their statements: YtokpmjbljhkeiaaGreatTotals.lean).
  GIVEN WITH THE SEED: the statements are not yours to turn. If you find one false, say at which input.
  Laid BY PROGRAM, IN A SANDBOX (cutbox-rows.mjs): the forced cells as the released guide's own fill.sh prints them over the translation 32c48b0b744d986b… (all of the seat's roots in one cut). By AI agents, Wed Nov 11 2026. No macro, syntax, notation, axiom, sorry.
-/
import Derived.Test.YtokpmjbljhkeiaaGreatChecked
import GoSem.Claim
import GoSem.ClaimJoined
import GoSem.ClaimMapViews
import Derived.JoinedTies
import Derived.KernelRfl
namespace Go.Proofs.YtokpmjbljhkeiaaGreat
/- THE CELL 'sum', in the pinned program and in every row, IS THE sha256 OF THE DUMP (.gsa) THAT YtokpmjbljhkeiaaGreatProg.lean LOADS. Nothing in Lean hashes anything: it is a label: what it is worth is what the hold of that sum in a sandbox is worth. -/
noncomputable def Tryz.pinned : Pinned := { name := "ytokpmjbljhkeiaagreat", sum := "32c48b0b744d986b0fdf53875aeb1eceb2a6bfe9231d9321fad73ba062035eba", checked := Tryz.checked }
namespace Rows
def none {H : Type} : Left H := { results := [], args := [] }

/-- 'cooperagelaw11.NodeNone': WHATEVER THE INPUT: true; the input reads as it did. -/
def nodeNoneSpec : ChangeSpec := { name := "nodeNone", fn := fun _ => fun
  | [d1, d2] => { results := [.lit (.bool true)], args := [d1, d2] }
  | _ => none }
def nodeNoneRow : OpenClaim := { program := "ytokpmjbljhkeiaagreat", sum := "32c48b0b744d986b0fdf53875aeb1eceb2a6bfe9231d9321fad73ba062035eba", func := "cooperage/cooperagelaw11.NodeNone", spec := "nodeNone", unfollowed := true, recurses := true, apart := false }
def NodeNoneSaid : Prop := nodeNoneRow.holds Tryz.pinned (OpenSpec.ofChange nodeNoneSpec)

/-- ITS FALSE NEIGHBOUR: 'it returns false'. Refute it at one input. -/
def nodeNoneWrong : ChangeSpec := { name := "nodeNone", fn := fun _ => fun
  | [d1, d2] => { results := [.lit (.bool false)], args := [d1, d2] }
  | _ => none }
def NodeNoneWrongFalsely : Prop := nodeNoneRow.holds Tryz.pinned (OpenSpec.ofChange nodeNoneWrong)

/-- 'cooperagelaw11.NodeNumbers': WHATEVER THE INPUT: true; the input reads as it did. -/
def nodeNumbersSpec : ChangeSpec := { name := "nodeNumbers", fn := fun _ => fun
  | [] => { results := [.lit (.bool true)], args := [] }
  | _ => none }
def nodeNumbersRow : OpenClaim := { program := "ytokpmjbljhkeiaagreat", sum := "32c48b0b744d986b0fdf53875aeb1eceb2a6bfe9231d9321fad73ba062035eba", func := "cooperage/cooperagelaw11.NodeNumbers", spec := "nodeNumbers", unfollowed := true, recurses := true, apart := false }
def NodeNumbersSaid : Prop := nodeNumbersRow.holds Tryz.pinned (OpenSpec.ofChange nodeNumbersSpec)

/-- ITS FALSE NEIGHBOUR: 'it returns false'. Refute it at one input. -/
def nodeNumbersWrong : ChangeSpec := { name := "nodeNumbers", fn := fun _ => fun
  | [] => { results := [.lit (.bool false)], args := [] }
  | _ => none }
def NodeNumbersWrongFalsely : Prop := nodeNumbersRow.holds Tryz.pinned (OpenSpec.ofChange nodeNumbersWrong)

/-- 'cooperagelaw15.KeepNone': WHATEVER THE INPUT: true; the input reads as it did. -/
def keepNoneSpec : ChangeSpec := { name := "keepNone", fn := fun _ => fun
  | [d1, d2, d3] => { results := [.lit (.bool true)], args := [d1, d2, d3] }
  | _ => none }
def keepNoneRow : OpenClaim := { program := "ytokpmjbljhkeiaagreat", sum := "32c48b0b744d986b0fdf53875aeb1eceb2a6bfe9231d9321fad73ba062035eba", func := "cooperage/cooperagelaw15.KeepNone", spec := "keepNone", unfollowed := true, recurses := true, apart := false }
def KeepNoneSaid : Prop := keepNoneRow.holds Tryz.pinned (OpenSpec.ofChange keepNoneSpec)

/-- ITS FALSE NEIGHBOUR: 'it returns false'. Refute it at one input. -/
def keepNoneWrong : ChangeSpec := { name := "keepNone", fn := fun _ => fun
  | [d1, d2, d3] => { results := [.lit (.bool false)], args := [d1, d2, d3] }
  | _ => none }
def KeepNoneWrongFalsely : Prop := keepNoneRow.holds Tryz.pinned (OpenSpec.ofChange keepNoneWrong)

/-- 'cooperagelaw15.KeepNumbers': WHATEVER THE INPUT: true; the input reads as it did. -/
def keepNumbersSpec : ChangeSpec := { name := "keepNumbers", fn := fun _ => fun
  | [] => { results := [.lit (.bool true)], args := [] }
  | _ => none }
def keepNumbersRow : OpenClaim := { program := "ytokpmjbljhkeiaagreat", sum := "32c48b0b744d986b0fdf53875aeb1eceb2a6bfe9231d9321fad73ba062035eba", func := "cooperage/cooperagelaw15.KeepNumbers", spec := "keepNumbers", unfollowed := true, recurses := true, apart := false }
def KeepNumbersSaid : Prop := keepNumbersRow.holds Tryz.pinned (OpenSpec.ofChange keepNumbersSpec)

/-- ITS FALSE NEIGHBOUR: 'it returns false'. Refute it at one input. -/
def keepNumbersWrong : ChangeSpec := { name := "keepNumbers", fn := fun _ => fun
  | [] => { results := [.lit (.bool false)], args := [] }
  | _ => none }
def KeepNumbersWrongFalsely : Prop := keepNumbersRow.holds Tryz.pinned (OpenSpec.ofChange keepNumbersWrong)

/- THE SECOND FORM. 'bulk': how many values and letters a reading holds, each counted each time it is reached (what is shared counts as often as it is met; a slice's spare places count too). A statement '..UptoSaid' is the law's where the arguments, and the package variables that the reading takes, are together of bulk at most 1048576: NARROWER than '..Said'. Prove '..Said' where nothing that the law and all that it calls make is longer than what came in: it says more and counts as full. Else prove '..UptoSaid'. A law counts once. -/
mutual
def uptoBulk {H : Type} : DataW H → Nat
  | .lit (.string bytes) => bytes.length + 1
  | .lit _ => 1
  | .nil => 1
  | .ptr d => uptoBulk d + 1
  | .slice elems spare => uptoBulkAll elems + uptoBulkAll spare + 1
  | .agg parts => uptoBulkAll parts + 1
  | .iface _ d => uptoBulk d + 1
  | .map entries => uptoBulkEntries entries + 1
  | .held _ => 1
def uptoBulkAll {H : Type} : List (DataW H) → Nat
  | [] => 0
  | d :: r => uptoBulk d + uptoBulkAll r
def uptoBulkEntries {H : Type} : List (Lit × DataW H) → Nat
  | [] => 0
  | x :: r => uptoBulkEntry x + uptoBulkEntries r
def uptoBulkEntry {H : Type} : Lit × DataW H → Nat
  | (.string bytes, d) => bytes.length + uptoBulk d + 1
  | (_, d) => uptoBulk d + 1
 end
def uptoSmall : (H : Type) → List (DataW H) → Bool := fun _ ds => decide (uptoBulkAll ds ≤ 1048576)
def OpenSpec.upto (s : _root_.Go.ChangeSpec) : _root_.Go.OpenSpec := { _root_.Go.OpenSpec.ofChange s with cond := some uptoSmall }

/-- 'cooperagelaw11.NodeNone', WHERE WHAT IT READS IS OF BULK AT MOST 1048576: true; the input reads as it did. -/
def nodeNoneUptoRow : OpenClaim := { program := "ytokpmjbljhkeiaagreat", sum := "32c48b0b744d986b0fdf53875aeb1eceb2a6bfe9231d9321fad73ba062035eba", func := "cooperage/cooperagelaw11.NodeNone", spec := "nodeNone", unfollowed := true, recurses := true, apart := false, narrowed := true }
def NodeNoneUptoSaid : Prop := nodeNoneUptoRow.holds Tryz.pinned (OpenSpec.upto nodeNoneSpec)

/-- 'cooperagelaw11.NodeNumbers', WHERE WHAT IT READS IS OF BULK AT MOST 1048576: true; the input reads as it did. -/
def nodeNumbersUptoRow : OpenClaim := { program := "ytokpmjbljhkeiaagreat", sum := "32c48b0b744d986b0fdf53875aeb1eceb2a6bfe9231d9321fad73ba062035eba", func := "cooperage/cooperagelaw11.NodeNumbers", spec := "nodeNumbers", unfollowed := true, recurses := true, apart := false, narrowed := true }
def NodeNumbersUptoSaid : Prop := nodeNumbersUptoRow.holds Tryz.pinned (OpenSpec.upto nodeNumbersSpec)

/-- 'cooperagelaw15.KeepNone', WHERE WHAT IT READS IS OF BULK AT MOST 1048576: true; the input reads as it did. -/
def keepNoneUptoRow : OpenClaim := { program := "ytokpmjbljhkeiaagreat", sum := "32c48b0b744d986b0fdf53875aeb1eceb2a6bfe9231d9321fad73ba062035eba", func := "cooperage/cooperagelaw15.KeepNone", spec := "keepNone", unfollowed := true, recurses := true, apart := false, narrowed := true }
def KeepNoneUptoSaid : Prop := keepNoneUptoRow.holds Tryz.pinned (OpenSpec.upto keepNoneSpec)

/-- 'cooperagelaw15.KeepNumbers', WHERE WHAT IT READS IS OF BULK AT MOST 1048576: true; the input reads as it did. -/
def keepNumbersUptoRow : OpenClaim := { program := "ytokpmjbljhkeiaagreat", sum := "32c48b0b744d986b0fdf53875aeb1eceb2a6bfe9231d9321fad73ba062035eba", func := "cooperage/cooperagelaw15.KeepNumbers", spec := "keepNumbers", unfollowed := true, recurses := true, apart := false, narrowed := true }
def KeepNumbersUptoSaid : Prop := keepNumbersUptoRow.holds Tryz.pinned (OpenSpec.upto keepNumbersSpec)

end Rows
end Go.Proofs.YtokpmjbljhkeiaaGreat

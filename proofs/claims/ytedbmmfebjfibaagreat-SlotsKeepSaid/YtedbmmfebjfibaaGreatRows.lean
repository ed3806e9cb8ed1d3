/-
  No cell of these rows narrows 'for every input' (looked for: loops, veiled, ifaces, maps, wideKeys, modest, calm, conditions, laid).
  DERIVED. THE GIVEN ROWS OF THIS SEAT. 5 by the template 'for every input the law returns true; each argument reads behind the call as it read before'; 0 by the template 'total and deterministic' (their statements: YtedbmmfebjfibaaGreatTotals.lean).
  GIVEN WITH THE SEED: the statements are not yours to turn. If you find one false, say at which input.
  Laid BY PROGRAM, IN A SANDBOX (cutbox-rows.mjs): the forced cells as the released guide's own fill.sh prints them over the translation 6fe8aabc206759bf… (all of the seat's roots in one cut). By AI agents, Wed Nov 11 2026. No macro, syntax, notation, axiom, sorry.
-/
import Derived.Test.YtedbmmfebjfibaaGreatChecked
import GoSem.Claim
import GoSem.ClaimJoined
import GoSem.ClaimMapViews
import Derived.JoinedTies
import Derived.KernelRfl
namespace Go.Proofs.YtedbmmfebjfibaaGreat
/- THE CELL 'sum', in the pinned program and in every row, IS THE sha256 OF THE DUMP (.gsa) THAT YtedbmmfebjfibaaGreatProg.lean LOADS. Nothing in Lean hashes anything: it is a label: what it is worth is what the hold of that sum in a sandbox is worth. -/
noncomputable def Tryz.pinned : Pinned := { name := "ytedbmmfebjfibaagreat", sum := "6fe8aabc206759bf13f685a015a6da113794aa745d3aef4897ac88f7a2983298", checked := Tryz.checked }
namespace Rows
def none {H : Type} : Left H := { results := [], args := [] }

/-- 'cooperagelaw06.SlotsSound': WHATEVER THE INPUT: true; the input reads as it did. -/
def slotsSoundSpec : ChangeSpec := { name := "slotsSound", fn := fun _ => fun
  | [d1, d2, d3, d4] => { results := [.lit (.bool true)], args := [d1, d2, d3, d4] }
  | _ => none }
def slotsSoundRow : OpenClaim := { program := "ytedbmmfebjfibaagreat", sum := "6fe8aabc206759bf13f685a015a6da113794aa745d3aef4897ac88f7a2983298", func := "cooperage/cooperagelaw06.SlotsSound", spec := "slotsSound", unfollowed := true, recurses := true, apart := false }
def SlotsSoundSaid : Prop := slotsSoundRow.holds Tryz.pinned (OpenSpec.ofChange slotsSoundSpec)

/-- ITS FALSE NEIGHBOUR: 'it returns false'. Refute it at one input. -/
def slotsSoundWrong : ChangeSpec := { name := "slotsSound", fn := fun _ => fun
  | [d1, d2, d3, d4] => { results := [.lit (.bool false)], args := [d1, d2, d3, d4] }
  | _ => none }
def SlotsSoundWrongFalsely : Prop := slotsSoundRow.holds Tryz.pinned (OpenSpec.ofChange slotsSoundWrong)

/-- 'cooperagelaw06.SlotsApart': WHATEVER THE INPUT: true; the input reads as it did. -/
def slotsApartSpec : ChangeSpec := { name := "slotsApart", fn := fun _ => fun
  | [d1, d2, d3] => { results := [.lit (.bool true)], args := [d1, d2, d3] }
  | _ => none }
def slotsApartRow : OpenClaim := { program := "ytedbmmfebjfibaagreat", sum := "6fe8aabc206759bf13f685a015a6da113794aa745d3aef4897ac88f7a2983298", func := "cooperage/cooperagelaw06.SlotsApart", spec := "slotsApart", unfollowed := true, recurses := true, apart := false }
def SlotsApartSaid : Prop := slotsApartRow.holds Tryz.pinned (OpenSpec.ofChange slotsApartSpec)

/-- ITS FALSE NEIGHBOUR: 'it returns false'. Refute it at one input. -/
def slotsApartWrong : ChangeSpec := { name := "slotsApart", fn := fun _ => fun
  | [d1, d2, d3] => { results := [.lit (.bool false)], args := [d1, d2, d3] }
  | _ => none }
def SlotsApartWrongFalsely : Prop := slotsApartRow.holds Tryz.pinned (OpenSpec.ofChange slotsApartWrong)

/-- 'cooperagelaw06.SlotsOnce': WHATEVER THE INPUT: true; the input reads as it did. -/
def slotsOnceSpec : ChangeSpec := { name := "slotsOnce", fn := fun _ => fun
  | [d] => { results := [.lit (.bool true)], args := [d] }
  | _ => none }
def slotsOnceRow : OpenClaim := { program := "ytedbmmfebjfibaagreat", sum := "6fe8aabc206759bf13f685a015a6da113794aa745d3aef4897ac88f7a2983298", func := "cooperage/cooperagelaw06.SlotsOnce", spec := "slotsOnce", unfollowed := true, recurses := true, apart := false }
def SlotsOnceSaid : Prop := slotsOnceRow.holds Tryz.pinned (OpenSpec.ofChange slotsOnceSpec)

/-- ITS FALSE NEIGHBOUR: 'it returns false'. Refute it at one input. -/
def slotsOnceWrong : ChangeSpec := { name := "slotsOnce", fn := fun _ => fun
  | [d] => { results := [.lit (.bool false)], args := [d] }
  | _ => none }
def SlotsOnceWrongFalsely : Prop := slotsOnceRow.holds Tryz.pinned (OpenSpec.ofChange slotsOnceWrong)

/-- 'cooperagelaw06.SlotsReuse': WHATEVER THE INPUT: true; the input reads as it did. -/
def slotsReuseSpec : ChangeSpec := { name := "slotsReuse", fn := fun _ => fun
  | [d1, d2, d3, d4, d5] => { results := [.lit (.bool true)], args := [d1, d2, d3, d4, d5] }
  | _ => none }
def slotsReuseRow : OpenClaim := { program := "ytedbmmfebjfibaagreat", sum := "6fe8aabc206759bf13f685a015a6da113794aa745d3aef4897ac88f7a2983298", func := "cooperage/cooperagelaw06.SlotsReuse", spec := "slotsReuse", unfollowed := true, recurses := true, apart := false }
def SlotsReuseSaid : Prop := slotsReuseRow.holds Tryz.pinned (OpenSpec.ofChange slotsReuseSpec)

/-- ITS FALSE NEIGHBOUR: 'it returns false'. Refute it at one input. -/
def slotsReuseWrong : ChangeSpec := { name := "slotsReuse", fn := fun _ => fun
  | [d1, d2, d3, d4, d5] => { results := [.lit (.bool false)], args := [d1, d2, d3, d4, d5] }
  | _ => none }
def SlotsReuseWrongFalsely : Prop := slotsReuseRow.holds Tryz.pinned (OpenSpec.ofChange slotsReuseWrong)

/-- 'cooperagelaw06.SlotsKeep': WHATEVER THE INPUT: true; the input reads as it did. -/
def slotsKeepSpec : ChangeSpec := { name := "slotsKeep", fn := fun _ => fun
  | [d1, d2, d3, d4, d5] => { results := [.lit (.bool true)], args := [d1, d2, d3, d4, d5] }
  | _ => none }
def slotsKeepRow : OpenClaim := { program := "ytedbmmfebjfibaagreat", sum := "6fe8aabc206759bf13f685a015a6da113794aa745d3aef4897ac88f7a2983298", func := "cooperage/cooperagelaw06.SlotsKeep", spec := "slotsKeep", unfollowed := true, recurses := true, apart := false }
def SlotsKeepSaid : Prop := slotsKeepRow.holds Tryz.pinned (OpenSpec.ofChange slotsKeepSpec)

/-- ITS FALSE NEIGHBOUR: 'it returns false'. Refute it at one input. -/
def slotsKeepWrong : ChangeSpec := { name := "slotsKeep", fn := fun _ => fun
  | [d1, d2, d3, d4, d5] => { results := [.lit (.bool false)], args := [d1, d2, d3, d4, d5] }
  | _ => none }
def SlotsKeepWrongFalsely : Prop := slotsKeepRow.holds Tryz.pinned (OpenSpec.ofChange slotsKeepWrong)

/- THE SECOND FORM. 'bulk': how many values and letters a reading holds, each counted each time it is reached (what is shared counts as often as it is met; a slice's spare places count too). A statement '..UptoSaid' is the law's where the arguments, and the package variables that the reading takes, are together of bulk at most 1048576: NARROWER than '..Said'. Prove '..Said' where nothing that the law and all that it calls make is longer than what came in: it says more and counts as full. Else prove '..UptoSaid'. A law counts once. -/
mutual
def uptoBulk {H : Type} : DataW H → Nat
  | .lit (.string bytes) => bytes.length + 1
  | .lit _ => 1
  | .nil => 1
  | .ptr d => uptoBulk d + 1
  | .slice elems spare => uptoBulkAll elems + uptoBulkAll spare + 1
  | .agg parts => uptoBulkAll parts + 1
  | .iface _ d => uptoBulk d + 1
  | .map entries => uptoBulkEntries entries + 1
  | .held _ => 1
def uptoBulkAll {H : Type} : List (DataW H) → Nat
  | [] => 0
  | d :: r => uptoBulk d + uptoBulkAll r
def uptoBulkEntries {H : Type} : List (Lit × DataW H) → Nat
  | [] => 0
  | x :: r => uptoBulkEntry x + uptoBulkEntries r
def uptoBulkEntry {H : Type} : Lit × DataW H → Nat
  | (.string bytes, d) => bytes.length + uptoBulk d + 1
  | (_, d) => uptoBulk d + 1
 end
def uptoSmall : (H : Type) → List (DataW H) → Bool := fun _ ds => decide (uptoBulkAll ds ≤ 1048576)
def OpenSpec.upto (s : _root_.Go.ChangeSpec) : _root_.Go.OpenSpec := { _root_.Go.OpenSpec.ofChange s with cond := some uptoSmall }

/-- 'cooperagelaw06.SlotsSound', WHERE WHAT IT READS IS OF BULK AT MOST 1048576: true; the input reads as it did. -/
def slotsSoundUptoRow : OpenClaim := { program := "ytedbmmfebjfibaagreat", sum := "6fe8aabc206759bf13f685a015a6da113794aa745d3aef4897ac88f7a2983298", func := "cooperage/cooperagelaw06.SlotsSound", spec := "slotsSound", unfollowed := true, recurses := true, apart := false, narrowed := true }
def SlotsSoundUptoSaid : Prop := slotsSoundUptoRow.holds Tryz.pinned (OpenSpec.upto slotsSoundSpec)

/-- 'cooperagelaw06.SlotsApart', WHERE WHAT IT READS IS OF BULK AT MOST 1048576: true; the input reads as it did. -/
def slotsApartUptoRow : OpenClaim := { program := "ytedbmmfebjfibaagreat", sum := "6fe8aabc206759bf13f685a015a6da113794aa745d3aef4897ac88f7a2983298", func := "cooperage/cooperagelaw06.SlotsApart", spec := "slotsApart", unfollowed := true, recurses := true, apart := false, narrowed := true }
def SlotsApartUptoSaid : Prop := slotsApartUptoRow.holds Tryz.pinned (OpenSpec.upto slotsApartSpec)

/-- 'cooperagelaw06.SlotsOnce', WHERE WHAT IT READS IS OF BULK AT MOST 1048576: true; the input reads as it did. -/
def slotsOnceUptoRow : OpenClaim := { program := "ytedbmmfebjfibaagreat", sum := "6fe8aabc206759bf13f685a015a6da113794aa745d3aef4897ac88f7a2983298", func := "cooperage/cooperagelaw06.SlotsOnce", spec := "slotsOnce", unfollowed := true, recurses := true, apart := false, narrowed := true }
def SlotsOnceUptoSaid : Prop := slotsOnceUptoRow.holds Tryz.pinned (OpenSpec.upto slotsOnceSpec)

/-- 'cooperagelaw06.SlotsReuse', WHERE WHAT IT READS IS OF BULK AT MOST 1048576: true; the input reads as it did. -/
def slotsReuseUptoRow : OpenClaim := { program := "ytedbmmfebjfibaagreat", sum := "6fe8aabc206759bf13f685a015a6da113794aa745d3aef4897ac88f7a2983298", func := "cooperage/cooperagelaw06.SlotsReuse", spec := "slotsReuse", unfollowed := true, recurses := true, apart := false, narrowed := true }
def SlotsReuseUptoSaid : Prop := slotsReuseUptoRow.holds Tryz.pinned (OpenSpec.upto slotsReuseSpec)

/-- 'cooperagelaw06.SlotsKeep', WHERE WHAT IT READS IS OF BULK AT MOST 1048576: true; the input reads as it did. -/
def slotsKeepUptoRow : OpenClaim := { program := "ytedbmmfebjfibaagreat", sum := "6fe8aabc206759bf13f685a015a6da113794aa745d3aef4897ac88f7a2983298", func := "cooperage/cooperagelaw06.SlotsKeep", spec := "slotsKeep", unfollowed := true, recurses := true, apart := false, narrowed := true }
def SlotsKeepUptoSaid : Prop := slotsKeepUptoRow.holds Tryz.pinned (OpenSpec.upto slotsKeepSpec)

end Rows
end Go.Proofs.YtedbmmfebjfibaaGreat

/-
  No cell of these rows narrows 'for every input' (looked for: loops, veiled, ifaces, maps, wideKeys, modest, calm, conditions, laid).
  DERIVED. THE GIVEN ROWS OF THIS SEAT. 5 by the template 'for every input the law returns true; each argument reads behind the call as it read before'; 0 by the template 'total and deterministic' (their statements: YtbjadbhkogcfeaaGreatTotals.lean).
  GIVEN WITH THE SEED: the statements are not yours to turn. If you find one false, say at which input.
  Laid BY PROGRAM, IN A SANDBOX (cutbox-rows.mjs): the forced cells as the released guide's own fill.sh prints them over the translation 5fba0a517ae6981e… (all of the seat's roots in one cut). By AI agents, Wed Nov 11 2026. No macro, syntax, notation, axiom, sorry.
-/
import Derived.Test.YtbjadbhkogcfeaaGreatChecked
import GoSem.Claim
import GoSem.ClaimJoined
import GoSem.ClaimMapViews
import Derived.JoinedTies
import Derived.KernelRfl
namespace Go.Proofs.YtbjadbhkogcfeaaGreat
/- THE CELL 'sum', in the pinned program and in every row, IS THE sha256 OF THE DUMP (.gsa) THAT YtbjadbhkogcfeaaGreatProg.lean LOADS. Nothing in Lean hashes anything: it is a label: what it is worth is what the hold of that sum in a sandbox is worth. -/
noncomputable def Tryz.pinned : Pinned := { name := "ytbjadbhkogcfeaagreat", sum := "5fba0a517ae6981eb6b93a44dbf1291e45574bbc69fdcaff53849a258f763719", checked := Tryz.checked }
namespace Rows
def none {H : Type} : Left H := { results := [], args := [] }

/-- 'cooperagelaw11.NodeLives': WHATEVER THE INPUT: true; the input reads as it did. -/
def nodeLivesSpec : ChangeSpec := { name := "nodeLives", fn := fun _ => fun
  | [d1, d2] => { results := [.lit (.bool true)], args := [d1, d2] }
  | _ => none }
def nodeLivesRow : OpenClaim := { program := "ytbjadbhkogcfeaagreat", sum := "5fba0a517ae6981eb6b93a44dbf1291e45574bbc69fdcaff53849a258f763719", func := "cooperage/cooperagelaw11.NodeLives", spec := "nodeLives", unfollowed := true, recurses := true, apart := false }
def NodeLivesSaid : Prop := nodeLivesRow.holds Tryz.pinned (OpenSpec.ofChange nodeLivesSpec)

/-- ITS FALSE NEIGHBOUR: 'it returns false'. Refute it at one input. -/
def nodeLivesWrong : ChangeSpec := { name := "nodeLives", fn := fun _ => fun
  | [d1, d2] => { results := [.lit (.bool false)], args := [d1, d2] }
  | _ => none }
def NodeLivesWrongFalsely : Prop := nodeLivesRow.holds Tryz.pinned (OpenSpec.ofChange nodeLivesWrong)

/-- 'cooperagelaw11.NodeReads': WHATEVER THE INPUT: true; the input reads as it did. -/
def nodeReadsSpec : ChangeSpec := { name := "nodeReads", fn := fun _ => fun
  | [d] => { results := [.lit (.bool true)], args := [d] }
  | _ => none }
def nodeReadsRow : OpenClaim := { program := "ytbjadbhkogcfeaagreat", sum := "5fba0a517ae6981eb6b93a44dbf1291e45574bbc69fdcaff53849a258f763719", func := "cooperage/cooperagelaw11.NodeReads", spec := "nodeReads", unfollowed := true, recurses := true, apart := false }
def NodeReadsSaid : Prop := nodeReadsRow.holds Tryz.pinned (OpenSpec.ofChange nodeReadsSpec)

/-- ITS FALSE NEIGHBOUR: 'it returns false'. Refute it at one input. -/
def nodeReadsWrong : ChangeSpec := { name := "nodeReads", fn := fun _ => fun
  | [d] => { results := [.lit (.bool false)], args := [d] }
  | _ => none }
def NodeReadsWrongFalsely : Prop := nodeReadsRow.holds Tryz.pinned (OpenSpec.ofChange nodeReadsWrong)

/-- 'cooperagelaw11.NodeLate': WHATEVER THE INPUT: true; the input reads as it did. -/
def nodeLateSpec : ChangeSpec := { name := "nodeLate", fn := fun _ => fun
  | [d1, d2, d3, d4] => { results := [.lit (.bool true)], args := [d1, d2, d3, d4] }
  | _ => none }
def nodeLateRow : OpenClaim := { program := "ytbjadbhkogcfeaagreat", sum := "5fba0a517ae6981eb6b93a44dbf1291e45574bbc69fdcaff53849a258f763719", func := "cooperage/cooperagelaw11.NodeLate", spec := "nodeLate", unfollowed := true, recurses := true, apart := false }
def NodeLateSaid : Prop := nodeLateRow.holds Tryz.pinned (OpenSpec.ofChange nodeLateSpec)

/-- ITS FALSE NEIGHBOUR: 'it returns false'. Refute it at one input. -/
def nodeLateWrong : ChangeSpec := { name := "nodeLate", fn := fun _ => fun
  | [d1, d2, d3, d4] => { results := [.lit (.bool false)], args := [d1, d2, d3, d4] }
  | _ => none }
def NodeLateWrongFalsely : Prop := nodeLateRow.holds Tryz.pinned (OpenSpec.ofChange nodeLateWrong)

/-- 'cooperagelaw11.NodeAny': WHATEVER THE INPUT: true; the input reads as it did. -/
def nodeAnySpec : ChangeSpec := { name := "nodeAny", fn := fun _ => fun
  | [d1, d2] => { results := [.lit (.bool true)], args := [d1, d2] }
  | _ => none }
def nodeAnyRow : OpenClaim := { program := "ytbjadbhkogcfeaagreat", sum := "5fba0a517ae6981eb6b93a44dbf1291e45574bbc69fdcaff53849a258f763719", func := "cooperage/cooperagelaw11.NodeAny", spec := "nodeAny", unfollowed := true, recurses := true, apart := false }
def NodeAnySaid : Prop := nodeAnyRow.holds Tryz.pinned (OpenSpec.ofChange nodeAnySpec)

/-- ITS FALSE NEIGHBOUR: 'it returns false'. Refute it at one input. -/
def nodeAnyWrong : ChangeSpec := { name := "nodeAny", fn := fun _ => fun
  | [d1, d2] => { results := [.lit (.bool false)], args := [d1, d2] }
  | _ => none }
def NodeAnyWrongFalsely : Prop := nodeAnyRow.holds Tryz.pinned (OpenSpec.ofChange nodeAnyWrong)

/-- 'cooperagelaw11.NodeTwice': WHATEVER THE INPUT: true; the input reads as it did. -/
def nodeTwiceSpec : ChangeSpec := { name := "nodeTwice", fn := fun _ => fun
  | [d] => { results := [.lit (.bool true)], args := [d] }
  | _ => none }
def nodeTwiceRow : OpenClaim := { program := "ytbjadbhkogcfeaagreat", sum := "5fba0a517ae6981eb6b93a44dbf1291e45574bbc69fdcaff53849a258f763719", func := "cooperage/cooperagelaw11.NodeTwice", spec := "nodeTwice", unfollowed := true, recurses := true, apart := false }
def NodeTwiceSaid : Prop := nodeTwiceRow.holds Tryz.pinned (OpenSpec.ofChange nodeTwiceSpec)

/-- ITS FALSE NEIGHBOUR: 'it returns false'. Refute it at one input. -/
def nodeTwiceWrong : ChangeSpec := { name := "nodeTwice", fn := fun _ => fun
  | [d] => { results := [.lit (.bool false)], args := [d] }
  | _ => none }
def NodeTwiceWrongFalsely : Prop := nodeTwiceRow.holds Tryz.pinned (OpenSpec.ofChange nodeTwiceWrong)

/- THE SECOND FORM. 'bulk': how many values and letters a reading holds, each counted each time it is reached (what is shared counts as often as it is met; a slice's spare places count too). A statement '..UptoSaid' is the law's where the arguments, and the package variables that the reading takes, are together of bulk at most 1048576: NARROWER than '..Said'. Prove '..Said' where nothing that the law and all that it calls make is longer than what came in: it says more and counts as full. Else prove '..UptoSaid'. A law counts once. -/
mutual
def uptoBulk {H : Type} : DataW H → Nat
  | .lit (.string bytes) => bytes.length + 1
  | .lit _ => 1
  | .nil => 1
  | .ptr d => uptoBulk d + 1
  | .slice elems spare => uptoBulkAll elems + uptoBulkAll spare + 1
  | .agg parts => uptoBulkAll parts + 1
  | .iface _ d => uptoBulk d + 1
  | .map entries => uptoBulkEntries entries + 1
  | .held _ => 1
def uptoBulkAll {H : Type} : List (DataW H) → Nat
  | [] => 0
  | d :: r => uptoBulk d + uptoBulkAll r
def uptoBulkEntries {H : Type} : List (Lit × DataW H) → Nat
  | [] => 0
  | x :: r => uptoBulkEntry x + uptoBulkEntries r
def uptoBulkEntry {H : Type} : Lit × DataW H → Nat
  | (.string bytes, d) => bytes.length + uptoBulk d + 1
  | (_, d) => uptoBulk d + 1
 end
def uptoSmall : (H : Type) → List (DataW H) → Bool := fun _ ds => decide (uptoBulkAll ds ≤ 1048576)
def OpenSpec.upto (s : _root_.Go.ChangeSpec) : _root_.Go.OpenSpec := { _root_.Go.OpenSpec.ofChange s with cond := some uptoSmall }

/-- 'cooperagelaw11.NodeLives', WHERE WHAT IT READS IS OF BULK AT MOST 1048576: true; the input reads as it did. -/
def nodeLivesUptoRow : OpenClaim := { program := "ytbjadbhkogcfeaagreat", sum := "5fba0a517ae6981eb6b93a44dbf1291e45574bbc69fdcaff53849a258f763719", func := "cooperage/cooperagelaw11.NodeLives", spec := "nodeLives", unfollowed := true, recurses := true, apart := false, narrowed := true }
def NodeLivesUptoSaid : Prop := nodeLivesUptoRow.holds Tryz.pinned (OpenSpec.upto nodeLivesSpec)

/-- 'cooperagelaw11.NodeReads', WHERE WHAT IT READS IS OF BULK AT MOST 1048576: true; the input reads as it did. -/
def nodeReadsUptoRow : OpenClaim := { program := "ytbjadbhkogcfeaagreat", sum := "5fba0a517ae6981eb6b93a44dbf1291e45574bbc69fdcaff53849a258f763719", func := "cooperage/cooperagelaw11.NodeReads", spec := "nodeReads", unfollowed := true, recurses := true, apart := false, narrowed := true }
def NodeReadsUptoSaid : Prop := nodeReadsUptoRow.holds Tryz.pinned (OpenSpec.upto nodeReadsSpec)

/-- 'cooperagelaw11.NodeLate', WHERE WHAT IT READS IS OF BULK AT MOST 1048576: true; the input reads as it did. -/
def nodeLateUptoRow : OpenClaim := { program := "ytbjadbhkogcfeaagreat", sum := "5fba0a517ae6981eb6b93a44dbf1291e45574bbc69fdcaff53849a258f763719", func := "cooperage/cooperagelaw11.NodeLate", spec := "nodeLate", unfollowed := true, recurses := true, apart := false, narrowed := true }
def NodeLateUptoSaid : Prop := nodeLateUptoRow.holds Tryz.pinned (OpenSpec.upto nodeLateSpec)

/-- 'cooperagelaw11.NodeAny', WHERE WHAT IT READS IS OF BULK AT MOST 1048576: true; the input reads as it did. -/
def nodeAnyUptoRow : OpenClaim := { program := "ytbjadbhkogcfeaagreat", sum := "5fba0a517ae6981eb6b93a44dbf1291e45574bbc69fdcaff53849a258f763719", func := "cooperage/cooperagelaw11.NodeAny", spec := "nodeAny", unfollowed := true, recurses := true, apart := false, narrowed := true }
def NodeAnyUptoSaid : Prop := nodeAnyUptoRow.holds Tryz.pinned (OpenSpec.upto nodeAnySpec)

/-- 'cooperagelaw11.NodeTwice', WHERE WHAT IT READS IS OF BULK AT MOST 1048576: true; the input reads as it did. -/
def nodeTwiceUptoRow : OpenClaim := { program := "ytbjadbhkogcfeaagreat", sum := "5fba0a517ae6981eb6b93a44dbf1291e45574bbc69fdcaff53849a258f763719", func := "cooperage/cooperagelaw11.NodeTwice", spec := "nodeTwice", unfollowed := true, recurses := true, apart := false, narrowed := true }
def NodeTwiceUptoSaid : Prop := nodeTwiceUptoRow.holds Tryz.pinned (OpenSpec.upto nodeTwiceSpec)

end Rows
end Go.Proofs.YtbjadbhkogcfeaaGreat

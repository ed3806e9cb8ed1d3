/-
  Pieces of the run of 'MoveNumbers': what each touches, changes and gives; reckoned by the kernel. Printed by program (cutrun.py).
-/
import Derived.Test.YtkafejncffinmaaMoveNumbersP0
import Derived.Test.YtkafejncffinmaaMemo
import Derived.Test.YtkafejncffinmaaLits
import Derived.Test.YtkafejncffinmaaBodies
namespace Go.Proofs.Ytkafejncffinmaa.moveNumbers
open Go
set_option maxRecDepth 100000
/-- cooperage/move.rising: 230022 operations -/
noncomputable def p4 : Piece := ⟨30, [(.slice (some ⟨105, 0, none⟩) 10001 10001)], 40165, [(105, k0)], [], (.bool true), 40165, [], 40165, 40165⟩
set_option maxHeartbeats 0 in
theorem p4_ok : PieceOk Try.prog ty 30 p4 := ⟨rfl, _, 16, calls_ok 64, by kernel_rfl⟩
end Go.Proofs.Ytkafejncffinmaa.moveNumbers

/-
  Pieces of the run of 'MoveNumbers': what each touches, changes and gives; reckoned by the kernel. Printed by program (cutrun.py).
-/
import Derived.Test.YtkafejncffinmaaMemo
import Derived.Test.YtkafejncffinmaaLits
import Derived.Test.YtkafejncffinmaaBodies
namespace Go.Proofs.Ytkafejncffinmaa.moveNumbers
open Go
set_option maxRecDepth 100000
noncomputable def k0 : Blk := seqB 0 10001 0
/-- cooperage/move.rising: 229999 operations -/
noncomputable def p0 : Piece := ⟨30, [(.slice (some ⟨105, 0, none⟩) 10000 10001)], 126, [(105, k0)], [], (.bool true), 126, [], 126, 126⟩
set_option maxHeartbeats 0 in
theorem p0_ok : PieceOk Try.prog ty 30 p0 := ⟨rfl, _, 16, calls_ok 64, by kernel_rfl⟩
/-- cooperage/move.rising: 230022 operations -/
noncomputable def p2 : Piece := ⟨30, [(.slice (some ⟨105, 0, none⟩) 10001 10001)], 20147, [(105, k0)], [], (.bool true), 20147, [], 20147, 20147⟩
set_option maxHeartbeats 0 in
theorem p2_ok : PieceOk Try.prog ty 30 p2 := ⟨rfl, _, 16, calls_ok 64, by kernel_rfl⟩
end Go.Proofs.Ytkafejncffinmaa.moveNumbers

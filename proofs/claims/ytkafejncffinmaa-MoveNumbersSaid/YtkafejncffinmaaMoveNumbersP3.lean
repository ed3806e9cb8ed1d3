/-
  Pieces of the run of 'MoveNumbers': what each touches, changes and gives; reckoned by the kernel. Printed by program (cutrun.py).
-/
import Derived.Test.YtkafejncffinmaaMoveNumbersP2
import Derived.Test.YtkafejncffinmaaMemo
import Derived.Test.YtkafejncffinmaaLits
import Derived.Test.YtkafejncffinmaaBodies
namespace Go.Proofs.Ytkafejncffinmaa.moveNumbers
open Go
set_option maxRecDepth 100000
/-- cooperage/move.Begin: 100324 operations -/
noncomputable def p5 : Piece := ⟨8, [(.slice (some ⟨107, 0, none⟩) 1 1), (i 9), (i 5), (.slice (some ⟨105, 0, none⟩) 10001 10001)], 40150, [(105, k0), (106, k1), (107, k2)], [], (.tuple ⟨[(.slice (some ⟨40164, 0, none⟩) 1 1), (.agg ⟨[(i 9), (i 5), (.slice none 0 0)]⟩), (i 0)]⟩), 40167, [], 40150, 40167⟩
set_option maxHeartbeats 0 in
theorem p5_ok : PieceOk Try.prog ty 8 p5 := ⟨rfl, _, 16, calls_m1 64, by kernel_rfl⟩
end Go.Proofs.Ytkafejncffinmaa.moveNumbers

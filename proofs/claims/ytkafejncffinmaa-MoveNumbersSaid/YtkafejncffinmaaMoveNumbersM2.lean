/-
  A table of pieces of the run of 'MoveNumbers'. Printed by program (cutrun.py).
-/
import Derived.Test.YtkafejncffinmaaMoveNumbersP2
import Derived.Test.YtkafejncffinmaaMoveNumbersP3
namespace Go.Proofs.Ytkafejncffinmaa.moveNumbers
open Go
set_option maxRecDepth 100000
noncomputable def m2 : MT := (.nd [] (.nd [] (.nd [] (.nd [] .mt .mt) .mt) (.nd [] .mt .mt)) (.nd [] (.nd [] (.nd [p1, p3, p5] .mt .mt) .mt) (.nd [] .mt .mt)))
theorem m2_ok : MT.All (PieceOk Try.prog ty) m2 id := ⟨memNil, ⟨memNil, ⟨memNil, ⟨memNil, trivial, trivial⟩, trivial⟩, ⟨memNil, trivial, trivial⟩⟩, ⟨memNil, ⟨memNil, ⟨(memCons p1_ok (memCons p3_ok (memCons p5_ok memNil))), trivial, trivial⟩, trivial⟩, ⟨memNil, trivial, trivial⟩⟩⟩
theorem calls_m2 (n : Nat) : CallOk Try.prog ty (callM bodies m2 n) := callM_all tabOk (by kernel_rfl) bodies_ok m2_ok n
end Go.Proofs.Ytkafejncffinmaa.moveNumbers

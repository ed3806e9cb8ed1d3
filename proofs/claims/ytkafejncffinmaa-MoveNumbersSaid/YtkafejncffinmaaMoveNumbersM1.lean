/-
  A table of pieces of the run of 'MoveNumbers'. Printed by program (cutrun.py).
-/
import Derived.Test.YtkafejncffinmaaMoveNumbersP0
import Derived.Test.YtkafejncffinmaaMoveNumbersP1
namespace Go.Proofs.Ytkafejncffinmaa.moveNumbers
open Go
set_option maxRecDepth 100000
noncomputable def m1 : MT := (.nd [] (.nd [] (.nd [] (.nd [] (.nd [] .mt .mt) (.nd [] .mt .mt)) (.nd [] (.nd [] .mt .mt) (.nd [] .mt .mt))) (.nd [] (.nd [] (.nd [] .mt .mt) (.nd [] .mt .mt)) (.nd [] (.nd [] .mt .mt) (.nd [] .mt .mt)))) (.nd [] (.nd [] (.nd [] (.nd [] .mt .mt) (.nd [] .mt .mt)) (.nd [] (.nd [] .mt .mt) (.nd [] .mt .mt))) (.nd [] (.nd [] (.nd [] .mt .mt) (.nd [] .mt .mt)) (.nd [] (.nd [] .mt .mt) (.nd [p0, p2, p4] .mt .mt)))))
theorem m1_ok : MT.All (PieceOk Try.prog ty) m1 id := ⟨memNil, ⟨memNil, ⟨memNil, ⟨memNil, ⟨memNil, trivial, trivial⟩, ⟨memNil, trivial, trivial⟩⟩, ⟨memNil, ⟨memNil, trivial, trivial⟩, ⟨memNil, trivial, trivial⟩⟩⟩, ⟨memNil, ⟨memNil, ⟨memNil, trivial, trivial⟩, ⟨memNil, trivial, trivial⟩⟩, ⟨memNil, ⟨memNil, trivial, trivial⟩, ⟨memNil, trivial, trivial⟩⟩⟩⟩, ⟨memNil, ⟨memNil, ⟨memNil, ⟨memNil, trivial, trivial⟩, ⟨memNil, trivial, trivial⟩⟩, ⟨memNil, ⟨memNil, trivial, trivial⟩, ⟨memNil, trivial, trivial⟩⟩⟩, ⟨memNil, ⟨memNil, ⟨memNil, trivial, trivial⟩, ⟨memNil, trivial, trivial⟩⟩, ⟨memNil, ⟨memNil, trivial, trivial⟩, ⟨(memCons p0_ok (memCons p2_ok (memCons p4_ok memNil))), trivial, trivial⟩⟩⟩⟩⟩
theorem calls_m1 (n : Nat) : CallOk Try.prog ty (callM bodies m1 n) := callM_all tabOk (by kernel_rfl) bodies_ok m1_ok n
end Go.Proofs.Ytkafejncffinmaa.moveNumbers

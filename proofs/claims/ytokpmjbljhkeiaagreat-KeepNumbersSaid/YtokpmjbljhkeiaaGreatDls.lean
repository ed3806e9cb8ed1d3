/-
  maps.DeleteFunc of this seat as one step of the machine. Printed by program (dls.py).
-/
import Derived.Test.YtokpmjbljhkeiaaGreatDel
import Derived.Test.YtokpmjbljhkeiaaGreatTab
import Derived.Test.YtokpmjbljhkeiaaGreatTabOk
namespace Go.Proofs.YtokpmjbljhkeiaaGreat
open Go
noncomputable def bodyD : C := opsC ty [] (dent :: dop2 3 159) (fun σ => codeC ty [] (.region 3 (dop3 160 3 159 4).toArray false) σ none) [] (dop2 3 159) []
noncomputable def bD : Body := bDel ⟨false, [.i .i64]⟩ bodyD
theorem name_neD {a b : String} (h : (a == b) = false) : a ≠ b := by simpa using h
theorem delIs : DelIs Tryz.prog ty 77 69 160 3 159 4 ⟨false, [.i .i64]⟩ bodyD where
  fn := ⟨Tryz.f77, Tryz.func77, name_neD (by kernel_rfl), by kernel_rfl, by kernel_rfl, by kernel_rfl⟩
  map := ⟨_, Tryz.underlying69⟩
  body := rfl
  del := by kernel_rfl
theorem del_is (hT : TabOk Tryz.prog ty) : FnDoes Tryz.prog ty 77 bD := del_does hT (by kernel_rfl) delIs
end Go.Proofs.YtokpmjbljhkeiaaGreat

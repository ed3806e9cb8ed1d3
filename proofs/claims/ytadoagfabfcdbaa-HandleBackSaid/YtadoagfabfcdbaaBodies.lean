/-
  THE CANONICAL MACHINE's FUNCTIONS of this seat. Printed by program (compc.py).
-/
import Derived.Test.YtadoagfabfcdbaaTabOk
import Derived.Test.YtadoagfabfcdbaaCode0
namespace Go.Proofs.Ytadoagfabfcdbaa
open Go
theorem name_ne {a b : String} (h : (a == b) = false) : a ≠ b := by simpa using h
theorem o2 : FnOk Try.prog ty 2 b2 ∨ b2 = bNone := .inl ⟨Try.f2, al2, Try.func2, name_ne (by kernel_rfl), b2_is⟩
theorem o3 : FnOk Try.prog ty 3 b3 ∨ b3 = bNone := .inl ⟨Try.f3, al3, Try.func3, name_ne (by kernel_rfl), b3_is⟩
theorem o4 : FnOk Try.prog ty 4 b4 ∨ b4 = bNone := .inl ⟨Try.f4, al4, Try.func4, name_ne (by kernel_rfl), b4_is⟩
theorem o5 : FnOk Try.prog ty 5 b5 ∨ b5 = bNone := .inl ⟨Try.f5, al5, Try.func5, name_ne (by kernel_rfl), b5_is⟩
theorem o6 : FnOk Try.prog ty 6 b6 ∨ b6 = bNone := .inl ⟨Try.f6, al6, Try.func6, name_ne (by kernel_rfl), b6_is⟩
theorem o7 : FnOk Try.prog ty 7 b7 ∨ b7 = bNone := .inl ⟨Try.f7, al7, Try.func7, name_ne (by kernel_rfl), b7_is⟩
theorem o8 : FnOk Try.prog ty 8 b8 ∨ b8 = bNone := .inl ⟨Try.f8, al8, Try.func8, name_ne (by kernel_rfl), b8_is⟩
theorem o9 : FnOk Try.prog ty 9 b9 ∨ b9 = bNone := .inl ⟨Try.f9, al9, Try.func9, name_ne (by kernel_rfl), b9_is⟩
theorem o10 : FnOk Try.prog ty 10 b10 ∨ b10 = bNone := .inl ⟨Try.f10, al10, Try.func10, name_ne (by kernel_rfl), b10_is⟩
theorem o11 : FnOk Try.prog ty 11 b11 ∨ b11 = bNone := .inl ⟨Try.f11, al11, Try.func11, name_ne (by kernel_rfl), b11_is⟩
theorem o12 : FnOk Try.prog ty 12 b12 ∨ b12 = bNone := .inl ⟨Try.f12, al12, Try.func12, name_ne (by kernel_rfl), b12_is⟩
theorem o13 : FnOk Try.prog ty 13 b13 ∨ b13 = bNone := .inl ⟨Try.f13, al13, Try.func13, name_ne (by kernel_rfl), b13_is⟩
theorem oNone (i : Nat) : FnOk Try.prog ty i bNone ∨ bNone = bNone := .inr rfl
set_option maxRecDepth 100000 in
noncomputable def bodies : FT := (.nd bNone (.nd bNone (.nd b3 (.nd b7 (.nd bNone .mt .mt) (.nd bNone .mt .mt)) (.nd b11 (.nd bNone .mt .mt) (.nd bNone .mt .mt))) (.nd b5 (.nd b9 (.nd bNone .mt .mt) (.nd bNone .mt .mt)) (.nd b13 (.nd bNone .mt .mt) (.nd bNone .mt .mt)))) (.nd b2 (.nd b4 (.nd b8 (.nd bNone .mt .mt) (.nd bNone .mt .mt)) (.nd b12 (.nd bNone .mt .mt) (.nd bNone .mt .mt))) (.nd b6 (.nd b10 (.nd bNone .mt .mt) (.nd bNone .mt .mt)) (.nd bNone (.nd bNone .mt .mt) .mt))))
set_option maxRecDepth 100000 in
theorem bodies_ok : FT.All (fun g b => FnOk Try.prog ty g b ∨ b = bNone) bodies id := ⟨oNone _, ⟨oNone _, ⟨o3, ⟨o7, ⟨oNone _, trivial, trivial⟩, ⟨oNone _, trivial, trivial⟩⟩, ⟨o11, ⟨oNone _, trivial, trivial⟩, ⟨oNone _, trivial, trivial⟩⟩⟩, ⟨o5, ⟨o9, ⟨oNone _, trivial, trivial⟩, ⟨oNone _, trivial, trivial⟩⟩, ⟨o13, ⟨oNone _, trivial, trivial⟩, ⟨oNone _, trivial, trivial⟩⟩⟩⟩, ⟨o2, ⟨o4, ⟨o8, ⟨oNone _, trivial, trivial⟩, ⟨oNone _, trivial, trivial⟩⟩, ⟨o12, ⟨oNone _, trivial, trivial⟩, ⟨oNone _, trivial, trivial⟩⟩⟩, ⟨o6, ⟨o10, ⟨oNone _, trivial, trivial⟩, ⟨oNone _, trivial, trivial⟩⟩, ⟨oNone _, ⟨oNone _, trivial, trivial⟩, trivial⟩⟩⟩⟩
theorem tabOk : TabOk Try.prog ty := tab_ok (by kernel_rfl) (by kernel_rfl)
theorem calls_ok (n : Nat) : CallOk Try.prog ty (call bodies n) := call_all tabOk (by kernel_rfl) bodies_ok n
end Go.Proofs.Ytadoagfabfcdbaa

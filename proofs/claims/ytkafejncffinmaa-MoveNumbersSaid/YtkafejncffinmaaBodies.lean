/-
  THE CANONICAL MACHINE's FUNCTIONS of this seat. Printed by program (compc.py).
-/
import Derived.Test.YtkafejncffinmaaTabOk
import Derived.Test.YtkafejncffinmaaCode0
namespace Go.Proofs.Ytkafejncffinmaa
open Go
theorem name_ne {a b : String} (h : (a == b) = false) : a ≠ b := by simpa using h
theorem o2 : FnOk Try.prog ty 2 b2 ∨ b2 = bNone := .inl ⟨Try.f2, al2, Try.func2, name_ne (by kernel_rfl), b2_is⟩
theorem o3 : FnOk Try.prog ty 3 b3 ∨ b3 = bNone := .inl ⟨Try.f3, al3, Try.func3, name_ne (by kernel_rfl), b3_is⟩
theorem o4 : FnOk Try.prog ty 4 b4 ∨ b4 = bNone := .inl ⟨Try.f4, al4, Try.func4, name_ne (by kernel_rfl), b4_is⟩
theorem o5 : FnOk Try.prog ty 5 b5 ∨ b5 = bNone := .inl ⟨Try.f5, al5, Try.func5, name_ne (by kernel_rfl), b5_is⟩
theorem o6 : FnOk Try.prog ty 6 b6 ∨ b6 = bNone := .inl ⟨Try.f6, al6, Try.func6, name_ne (by kernel_rfl), b6_is⟩
theorem o7 : FnOk Try.prog ty 7 b7 ∨ b7 = bNone := .inl ⟨Try.f7, al7, Try.func7, name_ne (by kernel_rfl), b7_is⟩
theorem o8 : FnOk Try.prog ty 8 b8 ∨ b8 = bNone := .inl ⟨Try.f8, al8, Try.func8, name_ne (by kernel_rfl), b8_is⟩
theorem o9 : FnOk Try.prog ty 9 b9 ∨ b9 = bNone := .inl ⟨Try.f9, al9, Try.func9, name_ne (by kernel_rfl), b9_is⟩
theorem o10 : FnOk Try.prog ty 10 b10 ∨ b10 = bNone := .inl ⟨Try.f10, al10, Try.func10, name_ne (by kernel_rfl), b10_is⟩
theorem o11 : FnOk Try.prog ty 11 b11 ∨ b11 = bNone := .inl ⟨Try.f11, al11, Try.func11, name_ne (by kernel_rfl), b11_is⟩
theorem o12 : FnOk Try.prog ty 12 b12 ∨ b12 = bNone := .inl ⟨Try.f12, al12, Try.func12, name_ne (by kernel_rfl), b12_is⟩
theorem o13 : FnOk Try.prog ty 13 b13 ∨ b13 = bNone := .inl ⟨Try.f13, al13, Try.func13, name_ne (by kernel_rfl), b13_is⟩
theorem o14 : FnOk Try.prog ty 14 b14 ∨ b14 = bNone := .inl ⟨Try.f14, al14, Try.func14, name_ne (by kernel_rfl), b14_is⟩
theorem o15 : FnOk Try.prog ty 15 b15 ∨ b15 = bNone := .inl ⟨Try.f15, al15, Try.func15, name_ne (by kernel_rfl), b15_is⟩
theorem o16 : FnOk Try.prog ty 16 b16 ∨ b16 = bNone := .inl ⟨Try.f16, al16, Try.func16, name_ne (by kernel_rfl), b16_is⟩
theorem o17 : FnOk Try.prog ty 17 b17 ∨ b17 = bNone := .inl ⟨Try.f17, al17, Try.func17, name_ne (by kernel_rfl), b17_is⟩
theorem o18 : FnOk Try.prog ty 18 b18 ∨ b18 = bNone := .inl ⟨Try.f18, al18, Try.func18, name_ne (by kernel_rfl), b18_is⟩
theorem o19 : FnOk Try.prog ty 19 b19 ∨ b19 = bNone := .inl ⟨Try.f19, al19, Try.func19, name_ne (by kernel_rfl), b19_is⟩
theorem o20 : FnOk Try.prog ty 20 b20 ∨ b20 = bNone := .inl ⟨Try.f20, al20, Try.func20, name_ne (by kernel_rfl), b20_is⟩
theorem o21 : FnOk Try.prog ty 21 b21 ∨ b21 = bNone := .inl ⟨Try.f21, al21, Try.func21, name_ne (by kernel_rfl), b21_is⟩
theorem o22 : FnOk Try.prog ty 22 b22 ∨ b22 = bNone := .inl ⟨Try.f22, al22, Try.func22, name_ne (by kernel_rfl), b22_is⟩
theorem o23 : FnOk Try.prog ty 23 b23 ∨ b23 = bNone := .inl ⟨Try.f23, al23, Try.func23, name_ne (by kernel_rfl), b23_is⟩
theorem o24 : FnOk Try.prog ty 24 b24 ∨ b24 = bNone := .inl ⟨Try.f24, al24, Try.func24, name_ne (by kernel_rfl), b24_is⟩
theorem o25 : FnOk Try.prog ty 25 b25 ∨ b25 = bNone := .inl ⟨Try.f25, al25, Try.func25, name_ne (by kernel_rfl), b25_is⟩
theorem o26 : FnOk Try.prog ty 26 b26 ∨ b26 = bNone := .inl ⟨Try.f26, al26, Try.func26, name_ne (by kernel_rfl), b26_is⟩
theorem o27 : FnOk Try.prog ty 27 b27 ∨ b27 = bNone := .inl ⟨Try.f27, al27, Try.func27, name_ne (by kernel_rfl), b27_is⟩
theorem o28 : FnOk Try.prog ty 28 b28 ∨ b28 = bNone := .inl ⟨Try.f28, al28, Try.func28, name_ne (by kernel_rfl), b28_is⟩
theorem o29 : FnOk Try.prog ty 29 b29 ∨ b29 = bNone := .inl ⟨Try.f29, al29, Try.func29, name_ne (by kernel_rfl), b29_is⟩
theorem o30 : FnOk Try.prog ty 30 b30 ∨ b30 = bNone := .inl ⟨Try.f30, al30, Try.func30, name_ne (by kernel_rfl), b30_is⟩
theorem o31 : FnOk Try.prog ty 31 b31 ∨ b31 = bNone := .inl ⟨Try.f31, al31, Try.func31, name_ne (by kernel_rfl), b31_is⟩
theorem o32 : FnOk Try.prog ty 32 b32 ∨ b32 = bNone := .inl ⟨Try.f32, al32, Try.func32, name_ne (by kernel_rfl), b32_is⟩
theorem o33 : FnOk Try.prog ty 33 b33 ∨ b33 = bNone := .inl ⟨Try.f33, al33, Try.func33, name_ne (by kernel_rfl), b33_is⟩
theorem o34 : FnOk Try.prog ty 34 b34 ∨ b34 = bNone := .inl ⟨Try.f34, al34, Try.func34, name_ne (by kernel_rfl), b34_is⟩
theorem o35 : FnOk Try.prog ty 35 b35 ∨ b35 = bNone := .inl ⟨Try.f35, al35, Try.func35, name_ne (by kernel_rfl), b35_is⟩
theorem o36 : FnOk Try.prog ty 36 b36 ∨ b36 = bNone := .inl ⟨Try.f36, al36, Try.func36, name_ne (by kernel_rfl), b36_is⟩
theorem o37 : FnOk Try.prog ty 37 b37 ∨ b37 = bNone := .inl ⟨Try.f37, al37, Try.func37, name_ne (by kernel_rfl), b37_is⟩
theorem o38 : FnOk Try.prog ty 38 b38 ∨ b38 = bNone := .inl ⟨Try.f38, al38, Try.func38, name_ne (by kernel_rfl), b38_is⟩
theorem o39 : FnOk Try.prog ty 39 b39 ∨ b39 = bNone := .inl ⟨Try.f39, al39, Try.func39, name_ne (by kernel_rfl), b39_is⟩
theorem o40 : FnOk Try.prog ty 40 b40 ∨ b40 = bNone := .inl ⟨Try.f40, al40, Try.func40, name_ne (by kernel_rfl), b40_is⟩
theorem o41 : FnOk Try.prog ty 41 b41 ∨ b41 = bNone := .inl ⟨Try.f41, al41, Try.func41, name_ne (by kernel_rfl), b41_is⟩
theorem o42 : FnOk Try.prog ty 42 b42 ∨ b42 = bNone := .inl ⟨Try.f42, al42, Try.func42, name_ne (by kernel_rfl), b42_is⟩
theorem o43 : FnOk Try.prog ty 43 b43 ∨ b43 = bNone := .inl ⟨Try.f43, al43, Try.func43, name_ne (by kernel_rfl), b43_is⟩
theorem o44 : FnOk Try.prog ty 44 b44 ∨ b44 = bNone := .inl ⟨Try.f44, al44, Try.func44, name_ne (by kernel_rfl), b44_is⟩
theorem o45 : FnOk Try.prog ty 45 b45 ∨ b45 = bNone := .inl ⟨Try.f45, al45, Try.func45, name_ne (by kernel_rfl), b45_is⟩
theorem o46 : FnOk Try.prog ty 46 b46 ∨ b46 = bNone := .inl ⟨Try.f46, al46, Try.func46, name_ne (by kernel_rfl), b46_is⟩
theorem o47 : FnOk Try.prog ty 47 b47 ∨ b47 = bNone := .inl ⟨Try.f47, al47, Try.func47, name_ne (by kernel_rfl), b47_is⟩
theorem o48 : FnOk Try.prog ty 48 b48 ∨ b48 = bNone := .inl ⟨Try.f48, al48, Try.func48, name_ne (by kernel_rfl), b48_is⟩
theorem o49 : FnOk Try.prog ty 49 b49 ∨ b49 = bNone := .inl ⟨Try.f49, al49, Try.func49, name_ne (by kernel_rfl), b49_is⟩
theorem o50 : FnOk Try.prog ty 50 b50 ∨ b50 = bNone := .inl ⟨Try.f50, al50, Try.func50, name_ne (by kernel_rfl), b50_is⟩
theorem o51 : FnOk Try.prog ty 51 b51 ∨ b51 = bNone := .inl ⟨Try.f51, al51, Try.func51, name_ne (by kernel_rfl), b51_is⟩
theorem o52 : FnOk Try.prog ty 52 b52 ∨ b52 = bNone := .inl ⟨Try.f52, al52, Try.func52, name_ne (by kernel_rfl), b52_is⟩
theorem o53 : FnOk Try.prog ty 53 b53 ∨ b53 = bNone := .inl ⟨Try.f53, al53, Try.func53, name_ne (by kernel_rfl), b53_is⟩
theorem o54 : FnOk Try.prog ty 54 b54 ∨ b54 = bNone := .inl ⟨Try.f54, al54, Try.func54, name_ne (by kernel_rfl), b54_is⟩
theorem o55 : FnOk Try.prog ty 55 b55 ∨ b55 = bNone := .inl ⟨Try.f55, al55, Try.func55, name_ne (by kernel_rfl), b55_is⟩
theorem oNone (i : Nat) : FnOk Try.prog ty i bNone ∨ bNone = bNone := .inr rfl
set_option maxRecDepth 100000 in
noncomputable def bodies : FT := (.nd bNone (.nd bNone (.nd b3 (.nd b7 (.nd b15 (.nd b31 (.nd bNone .mt .mt) .mt) (.nd b47 .mt .mt)) (.nd b23 (.nd b39 (.nd bNone .mt .mt) .mt) (.nd b55 .mt .mt))) (.nd b11 (.nd b19 (.nd b35 (.nd bNone .mt .mt) .mt) (.nd b51 .mt .mt)) (.nd b27 (.nd b43 .mt .mt) (.nd bNone .mt .mt)))) (.nd b5 (.nd b9 (.nd b17 (.nd b33 (.nd bNone .mt .mt) .mt) (.nd b49 .mt .mt)) (.nd b25 (.nd b41 .mt .mt) (.nd bNone .mt .mt))) (.nd b13 (.nd b21 (.nd b37 (.nd bNone .mt .mt) .mt) (.nd b53 .mt .mt)) (.nd b29 (.nd b45 .mt .mt) (.nd bNone .mt .mt))))) (.nd b2 (.nd b4 (.nd b8 (.nd b16 (.nd b32 (.nd bNone .mt .mt) .mt) (.nd b48 .mt .mt)) (.nd b24 (.nd b40 .mt .mt) (.nd bNone .mt .mt))) (.nd b12 (.nd b20 (.nd b36 (.nd bNone .mt .mt) .mt) (.nd b52 .mt .mt)) (.nd b28 (.nd b44 .mt .mt) (.nd bNone .mt .mt)))) (.nd b6 (.nd b10 (.nd b18 (.nd b34 (.nd bNone .mt .mt) .mt) (.nd b50 .mt .mt)) (.nd b26 (.nd b42 .mt .mt) (.nd bNone .mt .mt))) (.nd b14 (.nd b22 (.nd b38 (.nd bNone .mt .mt) .mt) (.nd b54 .mt .mt)) (.nd b30 (.nd b46 .mt .mt) (.nd bNone .mt .mt))))))
set_option maxRecDepth 100000 in
theorem bodies_ok : FT.All (fun g b => FnOk Try.prog ty g b ∨ b = bNone) bodies id := ⟨oNone _, ⟨oNone _, ⟨o3, ⟨o7, ⟨o15, ⟨o31, ⟨oNone _, trivial, trivial⟩, trivial⟩, ⟨o47, trivial, trivial⟩⟩, ⟨o23, ⟨o39, ⟨oNone _, trivial, trivial⟩, trivial⟩, ⟨o55, trivial, trivial⟩⟩⟩, ⟨o11, ⟨o19, ⟨o35, ⟨oNone _, trivial, trivial⟩, trivial⟩, ⟨o51, trivial, trivial⟩⟩, ⟨o27, ⟨o43, trivial, trivial⟩, ⟨oNone _, trivial, trivial⟩⟩⟩⟩, ⟨o5, ⟨o9, ⟨o17, ⟨o33, ⟨oNone _, trivial, trivial⟩, trivial⟩, ⟨o49, trivial, trivial⟩⟩, ⟨o25, ⟨o41, trivial, trivial⟩, ⟨oNone _, trivial, trivial⟩⟩⟩, ⟨o13, ⟨o21, ⟨o37, ⟨oNone _, trivial, trivial⟩, trivial⟩, ⟨o53, trivial, trivial⟩⟩, ⟨o29, ⟨o45, trivial, trivial⟩, ⟨oNone _, trivial, trivial⟩⟩⟩⟩⟩, ⟨o2, ⟨o4, ⟨o8, ⟨o16, ⟨o32, ⟨oNone _, trivial, trivial⟩, trivial⟩, ⟨o48, trivial, trivial⟩⟩, ⟨o24, ⟨o40, trivial, trivial⟩, ⟨oNone _, trivial, trivial⟩⟩⟩, ⟨o12, ⟨o20, ⟨o36, ⟨oNone _, trivial, trivial⟩, trivial⟩, ⟨o52, trivial, trivial⟩⟩, ⟨o28, ⟨o44, trivial, trivial⟩, ⟨oNone _, trivial, trivial⟩⟩⟩⟩, ⟨o6, ⟨o10, ⟨o18, ⟨o34, ⟨oNone _, trivial, trivial⟩, trivial⟩, ⟨o50, trivial, trivial⟩⟩, ⟨o26, ⟨o42, trivial, trivial⟩, ⟨oNone _, trivial, trivial⟩⟩⟩, ⟨o14, ⟨o22, ⟨o38, ⟨oNone _, trivial, trivial⟩, trivial⟩, ⟨o54, trivial, trivial⟩⟩, ⟨o30, ⟨o46, trivial, trivial⟩, ⟨oNone _, trivial, trivial⟩⟩⟩⟩⟩⟩
theorem tabOk : TabOk Try.prog ty := tab_ok (by kernel_rfl) (by kernel_rfl)
theorem calls_ok (n : Nat) : CallOk Try.prog ty (call bodies n) := call_all tabOk (by kernel_rfl) bodies_ok n
end Go.Proofs.Ytkafejncffinmaa

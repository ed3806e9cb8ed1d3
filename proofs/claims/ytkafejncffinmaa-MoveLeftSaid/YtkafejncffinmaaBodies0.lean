/-
  THE CANONICAL MACHINE's FUNCTIONS of this seat. Printed by program (compc.py).
-/
import Derived.Test.YtkafejncffinmaaTabOk
import Derived.Test.YtkafejncffinmaaCode0
namespace Go.Proofs.Ytkafejncffinmaa
open Go
theorem name_ne {a b : String} (h : (a == b) = false) : a ≠ b := by simpa using h
theorem o2 : FnOr Try.prog ty 2 b2 := Or.inl ⟨Try.f2, al2, Try.func2, name_ne (by kernel_rfl), b2_is⟩
theorem o3 : FnOr Try.prog ty 3 b3 := Or.inl ⟨Try.f3, al3, Try.func3, name_ne (by kernel_rfl), b3_is⟩
theorem o4 : FnOr Try.prog ty 4 b4 := Or.inl ⟨Try.f4, al4, Try.func4, name_ne (by kernel_rfl), b4_is⟩
theorem o5 : FnOr Try.prog ty 5 b5 := Or.inl ⟨Try.f5, al5, Try.func5, name_ne (by kernel_rfl), b5_is⟩
theorem o6 : FnOr Try.prog ty 6 b6 := Or.inl ⟨Try.f6, al6, Try.func6, name_ne (by kernel_rfl), b6_is⟩
theorem o7 : FnOr Try.prog ty 7 b7 := Or.inl ⟨Try.f7, al7, Try.func7, name_ne (by kernel_rfl), b7_is⟩
theorem o8 : FnOr Try.prog ty 8 b8 := Or.inl ⟨Try.f8, al8, Try.func8, name_ne (by kernel_rfl), b8_is⟩
theorem o9 : FnOr Try.prog ty 9 b9 := Or.inl ⟨Try.f9, al9, Try.func9, name_ne (by kernel_rfl), b9_is⟩
theorem o10 : FnOr Try.prog ty 10 b10 := Or.inl ⟨Try.f10, al10, Try.func10, name_ne (by kernel_rfl), b10_is⟩
theorem o11 : FnOr Try.prog ty 11 b11 := Or.inl ⟨Try.f11, al11, Try.func11, name_ne (by kernel_rfl), b11_is⟩
theorem o12 : FnOr Try.prog ty 12 b12 := Or.inl ⟨Try.f12, al12, Try.func12, name_ne (by kernel_rfl), b12_is⟩
theorem o13 : FnOr Try.prog ty 13 b13 := Or.inl ⟨Try.f13, al13, Try.func13, name_ne (by kernel_rfl), b13_is⟩
theorem o14 : FnOr Try.prog ty 14 b14 := Or.inl ⟨Try.f14, al14, Try.func14, name_ne (by kernel_rfl), b14_is⟩
theorem o15 : FnOr Try.prog ty 15 b15 := Or.inl ⟨Try.f15, al15, Try.func15, name_ne (by kernel_rfl), b15_is⟩
theorem o16 : FnOr Try.prog ty 16 b16 := Or.inl ⟨Try.f16, al16, Try.func16, name_ne (by kernel_rfl), b16_is⟩
theorem o17 : FnOr Try.prog ty 17 b17 := Or.inl ⟨Try.f17, al17, Try.func17, name_ne (by kernel_rfl), b17_is⟩
theorem o18 : FnOr Try.prog ty 18 b18 := Or.inl ⟨Try.f18, al18, Try.func18, name_ne (by kernel_rfl), b18_is⟩
theorem o19 : FnOr Try.prog ty 19 b19 := Or.inl ⟨Try.f19, al19, Try.func19, name_ne (by kernel_rfl), b19_is⟩
theorem o20 : FnOr Try.prog ty 20 b20 := Or.inl ⟨Try.f20, al20, Try.func20, name_ne (by kernel_rfl), b20_is⟩
theorem o21 : FnOr Try.prog ty 21 b21 := Or.inl ⟨Try.f21, al21, Try.func21, name_ne (by kernel_rfl), b21_is⟩
theorem o22 : FnOr Try.prog ty 22 b22 := Or.inl ⟨Try.f22, al22, Try.func22, name_ne (by kernel_rfl), b22_is⟩
theorem o23 : FnOr Try.prog ty 23 b23 := Or.inl ⟨Try.f23, al23, Try.func23, name_ne (by kernel_rfl), b23_is⟩
theorem o24 : FnOr Try.prog ty 24 b24 := Or.inl ⟨Try.f24, al24, Try.func24, name_ne (by kernel_rfl), b24_is⟩
theorem o25 : FnOr Try.prog ty 25 b25 := Or.inl ⟨Try.f25, al25, Try.func25, name_ne (by kernel_rfl), b25_is⟩
theorem o26 : FnOr Try.prog ty 26 b26 := Or.inl ⟨Try.f26, al26, Try.func26, name_ne (by kernel_rfl), b26_is⟩
theorem o27 : FnOr Try.prog ty 27 b27 := Or.inl ⟨Try.f27, al27, Try.func27, name_ne (by kernel_rfl), b27_is⟩
theorem o28 : FnOr Try.prog ty 28 b28 := Or.inl ⟨Try.f28, al28, Try.func28, name_ne (by kernel_rfl), b28_is⟩
theorem o29 : FnOr Try.prog ty 29 b29 := Or.inl ⟨Try.f29, al29, Try.func29, name_ne (by kernel_rfl), b29_is⟩
theorem o30 : FnOr Try.prog ty 30 b30 := Or.inl ⟨Try.f30, al30, Try.func30, name_ne (by kernel_rfl), b30_is⟩
theorem o31 : FnOr Try.prog ty 31 b31 := Or.inl ⟨Try.f31, al31, Try.func31, name_ne (by kernel_rfl), b31_is⟩
theorem o32 : FnOr Try.prog ty 32 b32 := Or.inl ⟨Try.f32, al32, Try.func32, name_ne (by kernel_rfl), b32_is⟩
theorem o33 : FnOr Try.prog ty 33 b33 := Or.inl ⟨Try.f33, al33, Try.func33, name_ne (by kernel_rfl), b33_is⟩
theorem o34 : FnOr Try.prog ty 34 b34 := Or.inl ⟨Try.f34, al34, Try.func34, name_ne (by kernel_rfl), b34_is⟩
theorem o35 : FnOr Try.prog ty 35 b35 := Or.inl ⟨Try.f35, al35, Try.func35, name_ne (by kernel_rfl), b35_is⟩
theorem o36 : FnOr Try.prog ty 36 b36 := Or.inl ⟨Try.f36, al36, Try.func36, name_ne (by kernel_rfl), b36_is⟩
theorem o37 : FnOr Try.prog ty 37 b37 := Or.inl ⟨Try.f37, al37, Try.func37, name_ne (by kernel_rfl), b37_is⟩
theorem o38 : FnOr Try.prog ty 38 b38 := Or.inl ⟨Try.f38, al38, Try.func38, name_ne (by kernel_rfl), b38_is⟩
theorem o39 : FnOr Try.prog ty 39 b39 := Or.inl ⟨Try.f39, al39, Try.func39, name_ne (by kernel_rfl), b39_is⟩
theorem o40 : FnOr Try.prog ty 40 b40 := Or.inl ⟨Try.f40, al40, Try.func40, name_ne (by kernel_rfl), b40_is⟩
theorem o41 : FnOr Try.prog ty 41 b41 := Or.inl ⟨Try.f41, al41, Try.func41, name_ne (by kernel_rfl), b41_is⟩
theorem o42 : FnOr Try.prog ty 42 b42 := Or.inl ⟨Try.f42, al42, Try.func42, name_ne (by kernel_rfl), b42_is⟩
theorem o43 : FnOr Try.prog ty 43 b43 := Or.inl ⟨Try.f43, al43, Try.func43, name_ne (by kernel_rfl), b43_is⟩
theorem o44 : FnOr Try.prog ty 44 b44 := Or.inl ⟨Try.f44, al44, Try.func44, name_ne (by kernel_rfl), b44_is⟩
theorem o45 : FnOr Try.prog ty 45 b45 := Or.inl ⟨Try.f45, al45, Try.func45, name_ne (by kernel_rfl), b45_is⟩
theorem o46 : FnOr Try.prog ty 46 b46 := Or.inl ⟨Try.f46, al46, Try.func46, name_ne (by kernel_rfl), b46_is⟩
theorem o47 : FnOr Try.prog ty 47 b47 := Or.inl ⟨Try.f47, al47, Try.func47, name_ne (by kernel_rfl), b47_is⟩
theorem o48 : FnOr Try.prog ty 48 b48 := Or.inl ⟨Try.f48, al48, Try.func48, name_ne (by kernel_rfl), b48_is⟩
theorem o49 : FnOr Try.prog ty 49 b49 := Or.inl ⟨Try.f49, al49, Try.func49, name_ne (by kernel_rfl), b49_is⟩
theorem o50 : FnOr Try.prog ty 50 b50 := Or.inl ⟨Try.f50, al50, Try.func50, name_ne (by kernel_rfl), b50_is⟩
theorem o51 : FnOr Try.prog ty 51 b51 := Or.inl ⟨Try.f51, al51, Try.func51, name_ne (by kernel_rfl), b51_is⟩
theorem o52 : FnOr Try.prog ty 52 b52 := Or.inl ⟨Try.f52, al52, Try.func52, name_ne (by kernel_rfl), b52_is⟩
theorem o53 : FnOr Try.prog ty 53 b53 := Or.inl ⟨Try.f53, al53, Try.func53, name_ne (by kernel_rfl), b53_is⟩
theorem o54 : FnOr Try.prog ty 54 b54 := Or.inl ⟨Try.f54, al54, Try.func54, name_ne (by kernel_rfl), b54_is⟩
theorem o55 : FnOr Try.prog ty 55 b55 := Or.inl ⟨Try.f55, al55, Try.func55, name_ne (by kernel_rfl), b55_is⟩
theorem oNone (i : Nat) : FnOr Try.prog ty i bNone := Or.inr (.inl rfl)
set_option maxRecDepth 100000 in
noncomputable def bodies0 : FT := (.nd bNone (.nd bNone (.nd b3 (.nd b7 (.nd b15 (.nd b31 (.nd bNone .mt .mt) .mt) (.nd b47 .mt .mt)) (.nd b23 (.nd b39 (.nd bNone .mt .mt) .mt) (.nd b55 .mt .mt))) (.nd b11 (.nd b19 (.nd b35 (.nd bNone .mt .mt) .mt) (.nd b51 .mt .mt)) (.nd b27 (.nd b43 .mt .mt) (.nd bNone .mt .mt)))) (.nd b5 (.nd b9 (.nd b17 (.nd b33 (.nd bNone .mt .mt) .mt) (.nd b49 .mt .mt)) (.nd b25 (.nd b41 .mt .mt) (.nd bNone .mt .mt))) (.nd b13 (.nd b21 (.nd b37 (.nd bNone .mt .mt) .mt) (.nd b53 .mt .mt)) (.nd b29 (.nd b45 .mt .mt) (.nd bNone .mt .mt))))) (.nd b2 (.nd b4 (.nd b8 (.nd b16 (.nd b32 (.nd bNone .mt .mt) .mt) (.nd b48 .mt .mt)) (.nd b24 (.nd b40 .mt .mt) (.nd bNone .mt .mt))) (.nd b12 (.nd b20 (.nd b36 (.nd bNone .mt .mt) .mt) (.nd b52 .mt .mt)) (.nd b28 (.nd b44 .mt .mt) (.nd bNone .mt .mt)))) (.nd b6 (.nd b10 (.nd b18 (.nd b34 (.nd bNone .mt .mt) .mt) (.nd b50 .mt .mt)) (.nd b26 (.nd b42 .mt .mt) (.nd bNone .mt .mt))) (.nd b14 (.nd b22 (.nd b38 (.nd bNone .mt .mt) .mt) (.nd b54 .mt .mt)) (.nd b30 (.nd b46 .mt .mt) (.nd bNone .mt .mt))))))
set_option maxRecDepth 100000 in
theorem bodies0_ok : FT.All (FnOr Try.prog ty) bodies0 id := ⟨oNone _, ⟨oNone _, ⟨o3, ⟨o7, ⟨o15, ⟨o31, ⟨oNone _, trivial, trivial⟩, trivial⟩, ⟨o47, trivial, trivial⟩⟩, ⟨o23, ⟨o39, ⟨oNone _, trivial, trivial⟩, trivial⟩, ⟨o55, trivial, trivial⟩⟩⟩, ⟨o11, ⟨o19, ⟨o35, ⟨oNone _, trivial, trivial⟩, trivial⟩, ⟨o51, trivial, trivial⟩⟩, ⟨o27, ⟨o43, trivial, trivial⟩, ⟨oNone _, trivial, trivial⟩⟩⟩⟩, ⟨o5, ⟨o9, ⟨o17, ⟨o33, ⟨oNone _, trivial, trivial⟩, trivial⟩, ⟨o49, trivial, trivial⟩⟩, ⟨o25, ⟨o41, trivial, trivial⟩, ⟨oNone _, trivial, trivial⟩⟩⟩, ⟨o13, ⟨o21, ⟨o37, ⟨oNone _, trivial, trivial⟩, trivial⟩, ⟨o53, trivial, trivial⟩⟩, ⟨o29, ⟨o45, trivial, trivial⟩, ⟨oNone _, trivial, trivial⟩⟩⟩⟩⟩, ⟨o2, ⟨o4, ⟨o8, ⟨o16, ⟨o32, ⟨oNone _, trivial, trivial⟩, trivial⟩, ⟨o48, trivial, trivial⟩⟩, ⟨o24, ⟨o40, trivial, trivial⟩, ⟨oNone _, trivial, trivial⟩⟩⟩, ⟨o12, ⟨o20, ⟨o36, ⟨oNone _, trivial, trivial⟩, trivial⟩, ⟨o52, trivial, trivial⟩⟩, ⟨o28, ⟨o44, trivial, trivial⟩, ⟨oNone _, trivial, trivial⟩⟩⟩⟩, ⟨o6, ⟨o10, ⟨o18, ⟨o34, ⟨oNone _, trivial, trivial⟩, trivial⟩, ⟨o50, trivial, trivial⟩⟩, ⟨o26, ⟨o42, trivial, trivial⟩, ⟨oNone _, trivial, trivial⟩⟩⟩, ⟨o14, ⟨o22, ⟨o38, ⟨oNone _, trivial, trivial⟩, trivial⟩, ⟨o54, trivial, trivial⟩⟩, ⟨o30, ⟨o46, trivial, trivial⟩, ⟨oNone _, trivial, trivial⟩⟩⟩⟩⟩⟩
theorem tabOk : TabOk Try.prog ty := tab_ok (by kernel_rfl) (by kernel_rfl)
theorem calls0_ok (n : Nat) : CallOk Try.prog ty (call bodies0 n) := call_all tabOk (by kernel_rfl) bodies0_ok n
end Go.Proofs.Ytkafejncffinmaa

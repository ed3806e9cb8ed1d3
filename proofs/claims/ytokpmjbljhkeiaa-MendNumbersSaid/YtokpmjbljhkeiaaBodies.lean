/-
  THE CANONICAL MACHINE's FUNCTIONS of this seat. Printed by program (compc.py).
-/
import Derived.Test.YtokpmjbljhkeiaaTabOk
import Derived.Test.YtokpmjbljhkeiaaCode0
namespace Go.Proofs.Ytokpmjbljhkeiaa
open Go
theorem name_ne {a b : String} (h : (a == b) = false) : a ≠ b := by simpa using h
theorem o2 : FnOk Try.prog ty 2 b2 ∨ b2 = bNone := .inl ⟨Try.f2, al2, Try.func2, name_ne (by kernel_rfl), b2_is⟩
theorem o3 : FnOk Try.prog ty 3 b3 ∨ b3 = bNone := .inl ⟨Try.f3, al3, Try.func3, name_ne (by kernel_rfl), b3_is⟩
theorem o4 : FnOk Try.prog ty 4 b4 ∨ b4 = bNone := .inl ⟨Try.f4, al4, Try.func4, name_ne (by kernel_rfl), b4_is⟩
theorem o5 : FnOk Try.prog ty 5 b5 ∨ b5 = bNone := .inl ⟨Try.f5, al5, Try.func5, name_ne (by kernel_rfl), b5_is⟩
theorem o6 : FnOk Try.prog ty 6 b6 ∨ b6 = bNone := .inl ⟨Try.f6, al6, Try.func6, name_ne (by kernel_rfl), b6_is⟩
theorem o7 : FnOk Try.prog ty 7 b7 ∨ b7 = bNone := .inl ⟨Try.f7, al7, Try.func7, name_ne (by kernel_rfl), b7_is⟩
theorem o8 : FnOk Try.prog ty 8 b8 ∨ b8 = bNone := .inl ⟨Try.f8, al8, Try.func8, name_ne (by kernel_rfl), b8_is⟩
theorem o9 : FnOk Try.prog ty 9 b9 ∨ b9 = bNone := .inl ⟨Try.f9, al9, Try.func9, name_ne (by kernel_rfl), b9_is⟩
theorem o10 : FnOk Try.prog ty 10 b10 ∨ b10 = bNone := .inl ⟨Try.f10, al10, Try.func10, name_ne (by kernel_rfl), b10_is⟩
theorem o11 : FnOk Try.prog ty 11 b11 ∨ b11 = bNone := .inl ⟨Try.f11, al11, Try.func11, name_ne (by kernel_rfl), b11_is⟩
theorem o12 : FnOk Try.prog ty 12 b12 ∨ b12 = bNone := .inl ⟨Try.f12, al12, Try.func12, name_ne (by kernel_rfl), b12_is⟩
theorem o13 : FnOk Try.prog ty 13 b13 ∨ b13 = bNone := .inl ⟨Try.f13, al13, Try.func13, name_ne (by kernel_rfl), b13_is⟩
theorem o14 : FnOk Try.prog ty 14 b14 ∨ b14 = bNone := .inl ⟨Try.f14, al14, Try.func14, name_ne (by kernel_rfl), b14_is⟩
theorem o15 : FnOk Try.prog ty 15 b15 ∨ b15 = bNone := .inl ⟨Try.f15, al15, Try.func15, name_ne (by kernel_rfl), b15_is⟩
theorem o16 : FnOk Try.prog ty 16 b16 ∨ b16 = bNone := .inl ⟨Try.f16, al16, Try.func16, name_ne (by kernel_rfl), b16_is⟩
theorem o17 : FnOk Try.prog ty 17 b17 ∨ b17 = bNone := .inl ⟨Try.f17, al17, Try.func17, name_ne (by kernel_rfl), b17_is⟩
theorem o18 : FnOk Try.prog ty 18 b18 ∨ b18 = bNone := .inl ⟨Try.f18, al18, Try.func18, name_ne (by kernel_rfl), b18_is⟩
theorem o19 : FnOk Try.prog ty 19 b19 ∨ b19 = bNone := .inl ⟨Try.f19, al19, Try.func19, name_ne (by kernel_rfl), b19_is⟩
theorem o20 : FnOk Try.prog ty 20 b20 ∨ b20 = bNone := .inl ⟨Try.f20, al20, Try.func20, name_ne (by kernel_rfl), b20_is⟩
theorem o21 : FnOk Try.prog ty 21 b21 ∨ b21 = bNone := .inl ⟨Try.f21, al21, Try.func21, name_ne (by kernel_rfl), b21_is⟩
theorem o22 : FnOk Try.prog ty 22 b22 ∨ b22 = bNone := .inl ⟨Try.f22, al22, Try.func22, name_ne (by kernel_rfl), b22_is⟩
theorem o23 : FnOk Try.prog ty 23 b23 ∨ b23 = bNone := .inl ⟨Try.f23, al23, Try.func23, name_ne (by kernel_rfl), b23_is⟩
theorem o24 : FnOk Try.prog ty 24 b24 ∨ b24 = bNone := .inl ⟨Try.f24, al24, Try.func24, name_ne (by kernel_rfl), b24_is⟩
theorem o25 : FnOk Try.prog ty 25 b25 ∨ b25 = bNone := .inl ⟨Try.f25, al25, Try.func25, name_ne (by kernel_rfl), b25_is⟩
theorem o26 : FnOk Try.prog ty 26 b26 ∨ b26 = bNone := .inl ⟨Try.f26, al26, Try.func26, name_ne (by kernel_rfl), b26_is⟩
theorem o27 : FnOk Try.prog ty 27 b27 ∨ b27 = bNone := .inl ⟨Try.f27, al27, Try.func27, name_ne (by kernel_rfl), b27_is⟩
theorem o28 : FnOk Try.prog ty 28 b28 ∨ b28 = bNone := .inl ⟨Try.f28, al28, Try.func28, name_ne (by kernel_rfl), b28_is⟩
theorem o29 : FnOk Try.prog ty 29 b29 ∨ b29 = bNone := .inl ⟨Try.f29, al29, Try.func29, name_ne (by kernel_rfl), b29_is⟩
theorem o30 : FnOk Try.prog ty 30 b30 ∨ b30 = bNone := .inl ⟨Try.f30, al30, Try.func30, name_ne (by kernel_rfl), b30_is⟩
theorem o31 : FnOk Try.prog ty 31 b31 ∨ b31 = bNone := .inl ⟨Try.f31, al31, Try.func31, name_ne (by kernel_rfl), b31_is⟩
theorem o32 : FnOk Try.prog ty 32 b32 ∨ b32 = bNone := .inl ⟨Try.f32, al32, Try.func32, name_ne (by kernel_rfl), b32_is⟩
theorem o33 : FnOk Try.prog ty 33 b33 ∨ b33 = bNone := .inl ⟨Try.f33, al33, Try.func33, name_ne (by kernel_rfl), b33_is⟩
theorem o34 : FnOk Try.prog ty 34 b34 ∨ b34 = bNone := .inl ⟨Try.f34, al34, Try.func34, name_ne (by kernel_rfl), b34_is⟩
theorem o35 : FnOk Try.prog ty 35 b35 ∨ b35 = bNone := .inl ⟨Try.f35, al35, Try.func35, name_ne (by kernel_rfl), b35_is⟩
theorem o36 : FnOk Try.prog ty 36 b36 ∨ b36 = bNone := .inl ⟨Try.f36, al36, Try.func36, name_ne (by kernel_rfl), b36_is⟩
theorem o37 : FnOk Try.prog ty 37 b37 ∨ b37 = bNone := .inl ⟨Try.f37, al37, Try.func37, name_ne (by kernel_rfl), b37_is⟩
theorem o38 : FnOk Try.prog ty 38 b38 ∨ b38 = bNone := .inl ⟨Try.f38, al38, Try.func38, name_ne (by kernel_rfl), b38_is⟩
theorem o39 : FnOk Try.prog ty 39 b39 ∨ b39 = bNone := .inl ⟨Try.f39, al39, Try.func39, name_ne (by kernel_rfl), b39_is⟩
theorem o40 : FnOk Try.prog ty 40 b40 ∨ b40 = bNone := .inl ⟨Try.f40, al40, Try.func40, name_ne (by kernel_rfl), b40_is⟩
theorem o41 : FnOk Try.prog ty 41 b41 ∨ b41 = bNone := .inl ⟨Try.f41, al41, Try.func41, name_ne (by kernel_rfl), b41_is⟩
theorem o42 : FnOk Try.prog ty 42 b42 ∨ b42 = bNone := .inl ⟨Try.f42, al42, Try.func42, name_ne (by kernel_rfl), b42_is⟩
theorem o43 : FnOk Try.prog ty 43 b43 ∨ b43 = bNone := .inl ⟨Try.f43, al43, Try.func43, name_ne (by kernel_rfl), b43_is⟩
theorem o44 : FnOk Try.prog ty 44 b44 ∨ b44 = bNone := .inl ⟨Try.f44, al44, Try.func44, name_ne (by kernel_rfl), b44_is⟩
theorem o45 : FnOk Try.prog ty 45 b45 ∨ b45 = bNone := .inl ⟨Try.f45, al45, Try.func45, name_ne (by kernel_rfl), b45_is⟩
theorem o46 : FnOk Try.prog ty 46 b46 ∨ b46 = bNone := .inl ⟨Try.f46, al46, Try.func46, name_ne (by kernel_rfl), b46_is⟩
theorem o47 : FnOk Try.prog ty 47 b47 ∨ b47 = bNone := .inl ⟨Try.f47, al47, Try.func47, name_ne (by kernel_rfl), b47_is⟩
theorem o48 : FnOk Try.prog ty 48 b48 ∨ b48 = bNone := .inl ⟨Try.f48, al48, Try.func48, name_ne (by kernel_rfl), b48_is⟩
theorem o49 : FnOk Try.prog ty 49 b49 ∨ b49 = bNone := .inl ⟨Try.f49, al49, Try.func49, name_ne (by kernel_rfl), b49_is⟩
theorem o50 : FnOk Try.prog ty 50 b50 ∨ b50 = bNone := .inl ⟨Try.f50, al50, Try.func50, name_ne (by kernel_rfl), b50_is⟩
theorem o51 : FnOk Try.prog ty 51 b51 ∨ b51 = bNone := .inl ⟨Try.f51, al51, Try.func51, name_ne (by kernel_rfl), b51_is⟩
theorem o52 : FnOk Try.prog ty 52 b52 ∨ b52 = bNone := .inl ⟨Try.f52, al52, Try.func52, name_ne (by kernel_rfl), b52_is⟩
theorem o53 : FnOk Try.prog ty 53 b53 ∨ b53 = bNone := .inl ⟨Try.f53, al53, Try.func53, name_ne (by kernel_rfl), b53_is⟩
theorem o54 : FnOk Try.prog ty 54 b54 ∨ b54 = bNone := .inl ⟨Try.f54, al54, Try.func54, name_ne (by kernel_rfl), b54_is⟩
theorem o55 : FnOk Try.prog ty 55 b55 ∨ b55 = bNone := .inl ⟨Try.f55, al55, Try.func55, name_ne (by kernel_rfl), b55_is⟩
theorem o56 : FnOk Try.prog ty 56 b56 ∨ b56 = bNone := .inl ⟨Try.f56, al56, Try.func56, name_ne (by kernel_rfl), b56_is⟩
theorem o57 : FnOk Try.prog ty 57 b57 ∨ b57 = bNone := .inl ⟨Try.f57, al57, Try.func57, name_ne (by kernel_rfl), b57_is⟩
theorem o58 : FnOk Try.prog ty 58 b58 ∨ b58 = bNone := .inl ⟨Try.f58, al58, Try.func58, name_ne (by kernel_rfl), b58_is⟩
theorem o59 : FnOk Try.prog ty 59 b59 ∨ b59 = bNone := .inl ⟨Try.f59, al59, Try.func59, name_ne (by kernel_rfl), b59_is⟩
theorem o60 : FnOk Try.prog ty 60 b60 ∨ b60 = bNone := .inl ⟨Try.f60, al60, Try.func60, name_ne (by kernel_rfl), b60_is⟩
theorem o61 : FnOk Try.prog ty 61 b61 ∨ b61 = bNone := .inl ⟨Try.f61, al61, Try.func61, name_ne (by kernel_rfl), b61_is⟩
theorem o62 : FnOk Try.prog ty 62 b62 ∨ b62 = bNone := .inl ⟨Try.f62, al62, Try.func62, name_ne (by kernel_rfl), b62_is⟩
theorem o63 : FnOk Try.prog ty 63 b63 ∨ b63 = bNone := .inl ⟨Try.f63, al63, Try.func63, name_ne (by kernel_rfl), b63_is⟩
theorem o64 : FnOk Try.prog ty 64 b64 ∨ b64 = bNone := .inl ⟨Try.f64, al64, Try.func64, name_ne (by kernel_rfl), b64_is⟩
theorem o65 : FnOk Try.prog ty 65 b65 ∨ b65 = bNone := .inl ⟨Try.f65, al65, Try.func65, name_ne (by kernel_rfl), b65_is⟩
theorem o66 : FnOk Try.prog ty 66 b66 ∨ b66 = bNone := .inl ⟨Try.f66, al66, Try.func66, name_ne (by kernel_rfl), b66_is⟩
theorem o67 : FnOk Try.prog ty 67 b67 ∨ b67 = bNone := .inl ⟨Try.f67, al67, Try.func67, name_ne (by kernel_rfl), b67_is⟩
theorem o68 : FnOk Try.prog ty 68 b68 ∨ b68 = bNone := .inl ⟨Try.f68, al68, Try.func68, name_ne (by kernel_rfl), b68_is⟩
theorem o69 : FnOk Try.prog ty 69 b69 ∨ b69 = bNone := .inl ⟨Try.f69, al69, Try.func69, name_ne (by kernel_rfl), b69_is⟩
theorem o70 : FnOk Try.prog ty 70 b70 ∨ b70 = bNone := .inl ⟨Try.f70, al70, Try.func70, name_ne (by kernel_rfl), b70_is⟩
theorem o71 : FnOk Try.prog ty 71 b71 ∨ b71 = bNone := .inl ⟨Try.f71, al71, Try.func71, name_ne (by kernel_rfl), b71_is⟩
theorem o72 : FnOk Try.prog ty 72 b72 ∨ b72 = bNone := .inl ⟨Try.f72, al72, Try.func72, name_ne (by kernel_rfl), b72_is⟩
theorem o73 : FnOk Try.prog ty 73 b73 ∨ b73 = bNone := .inl ⟨Try.f73, al73, Try.func73, name_ne (by kernel_rfl), b73_is⟩
theorem o74 : FnOk Try.prog ty 74 b74 ∨ b74 = bNone := .inl ⟨Try.f74, al74, Try.func74, name_ne (by kernel_rfl), b74_is⟩
theorem o75 : FnOk Try.prog ty 75 b75 ∨ b75 = bNone := .inl ⟨Try.f75, al75, Try.func75, name_ne (by kernel_rfl), b75_is⟩
theorem o76 : FnOk Try.prog ty 76 b76 ∨ b76 = bNone := .inl ⟨Try.f76, al76, Try.func76, name_ne (by kernel_rfl), b76_is⟩
theorem o77 : FnOk Try.prog ty 77 b77 ∨ b77 = bNone := .inl ⟨Try.f77, al77, Try.func77, name_ne (by kernel_rfl), b77_is⟩
theorem o78 : FnOk Try.prog ty 78 b78 ∨ b78 = bNone := .inl ⟨Try.f78, al78, Try.func78, name_ne (by kernel_rfl), b78_is⟩
theorem o79 : FnOk Try.prog ty 79 b79 ∨ b79 = bNone := .inl ⟨Try.f79, al79, Try.func79, name_ne (by kernel_rfl), b79_is⟩
theorem o80 : FnOk Try.prog ty 80 b80 ∨ b80 = bNone := .inl ⟨Try.f80, al80, Try.func80, name_ne (by kernel_rfl), b80_is⟩
theorem o81 : FnOk Try.prog ty 81 b81 ∨ b81 = bNone := .inl ⟨Try.f81, al81, Try.func81, name_ne (by kernel_rfl), b81_is⟩
theorem o82 : FnOk Try.prog ty 82 b82 ∨ b82 = bNone := .inl ⟨Try.f82, al82, Try.func82, name_ne (by kernel_rfl), b82_is⟩
theorem o83 : FnOk Try.prog ty 83 b83 ∨ b83 = bNone := .inl ⟨Try.f83, al83, Try.func83, name_ne (by kernel_rfl), b83_is⟩
theorem o84 : FnOk Try.prog ty 84 b84 ∨ b84 = bNone := .inl ⟨Try.f84, al84, Try.func84, name_ne (by kernel_rfl), b84_is⟩
theorem o85 : FnOk Try.prog ty 85 b85 ∨ b85 = bNone := .inl ⟨Try.f85, al85, Try.func85, name_ne (by kernel_rfl), b85_is⟩
theorem o86 : FnOk Try.prog ty 86 b86 ∨ b86 = bNone := .inl ⟨Try.f86, al86, Try.func86, name_ne (by kernel_rfl), b86_is⟩
theorem o87 : FnOk Try.prog ty 87 b87 ∨ b87 = bNone := .inl ⟨Try.f87, al87, Try.func87, name_ne (by kernel_rfl), b87_is⟩
theorem o88 : FnOk Try.prog ty 88 b88 ∨ b88 = bNone := .inl ⟨Try.f88, al88, Try.func88, name_ne (by kernel_rfl), b88_is⟩
theorem o89 : FnOk Try.prog ty 89 b89 ∨ b89 = bNone := .inl ⟨Try.f89, al89, Try.func89, name_ne (by kernel_rfl), b89_is⟩
theorem o90 : FnOk Try.prog ty 90 b90 ∨ b90 = bNone := .inl ⟨Try.f90, al90, Try.func90, name_ne (by kernel_rfl), b90_is⟩
theorem o91 : FnOk Try.prog ty 91 b91 ∨ b91 = bNone := .inl ⟨Try.f91, al91, Try.func91, name_ne (by kernel_rfl), b91_is⟩
theorem o92 : FnOk Try.prog ty 92 b92 ∨ b92 = bNone := .inl ⟨Try.f92, al92, Try.func92, name_ne (by kernel_rfl), b92_is⟩
theorem o93 : FnOk Try.prog ty 93 b93 ∨ b93 = bNone := .inl ⟨Try.f93, al93, Try.func93, name_ne (by kernel_rfl), b93_is⟩
theorem o94 : FnOk Try.prog ty 94 b94 ∨ b94 = bNone := .inl ⟨Try.f94, al94, Try.func94, name_ne (by kernel_rfl), b94_is⟩
theorem o95 : FnOk Try.prog ty 95 b95 ∨ b95 = bNone := .inl ⟨Try.f95, al95, Try.func95, name_ne (by kernel_rfl), b95_is⟩
theorem o96 : FnOk Try.prog ty 96 b96 ∨ b96 = bNone := .inl ⟨Try.f96, al96, Try.func96, name_ne (by kernel_rfl), b96_is⟩
theorem oNone (i : Nat) : FnOk Try.prog ty i bNone ∨ bNone = bNone := .inr rfl
set_option maxRecDepth 100000 in
noncomputable def bodies : FT := (.nd bNone (.nd bNone (.nd b3 (.nd b7 (.nd b15 (.nd b31 (.nd b63 .mt .mt) (.nd b95 .mt .mt)) (.nd b47 (.nd b79 .mt .mt) (.nd bNone .mt .mt))) (.nd b23 (.nd b39 (.nd b71 .mt .mt) (.nd bNone .mt .mt)) (.nd b55 (.nd b87 .mt .mt) .mt))) (.nd b11 (.nd b19 (.nd b35 (.nd b67 .mt .mt) (.nd bNone .mt .mt)) (.nd b51 (.nd b83 .mt .mt) .mt)) (.nd b27 (.nd b43 (.nd b75 .mt .mt) (.nd bNone .mt .mt)) (.nd b59 (.nd b91 .mt .mt) .mt)))) (.nd b5 (.nd b9 (.nd b17 (.nd b33 (.nd b65 .mt .mt) (.nd bNone .mt .mt)) (.nd b49 (.nd b81 .mt .mt) .mt)) (.nd b25 (.nd b41 (.nd b73 .mt .mt) (.nd bNone .mt .mt)) (.nd b57 (.nd b89 .mt .mt) .mt))) (.nd b13 (.nd b21 (.nd b37 (.nd b69 .mt .mt) (.nd bNone .mt .mt)) (.nd b53 (.nd b85 .mt .mt) .mt)) (.nd b29 (.nd b45 (.nd b77 .mt .mt) (.nd bNone .mt .mt)) (.nd b61 (.nd b93 .mt .mt) .mt))))) (.nd b2 (.nd b4 (.nd b8 (.nd b16 (.nd b32 (.nd b64 .mt .mt) (.nd b96 .mt .mt)) (.nd b48 (.nd b80 .mt .mt) (.nd bNone .mt .mt))) (.nd b24 (.nd b40 (.nd b72 .mt .mt) (.nd bNone .mt .mt)) (.nd b56 (.nd b88 .mt .mt) .mt))) (.nd b12 (.nd b20 (.nd b36 (.nd b68 .mt .mt) (.nd bNone .mt .mt)) (.nd b52 (.nd b84 .mt .mt) .mt)) (.nd b28 (.nd b44 (.nd b76 .mt .mt) (.nd bNone .mt .mt)) (.nd b60 (.nd b92 .mt .mt) .mt)))) (.nd b6 (.nd b10 (.nd b18 (.nd b34 (.nd b66 .mt .mt) (.nd bNone .mt .mt)) (.nd b50 (.nd b82 .mt .mt) .mt)) (.nd b26 (.nd b42 (.nd b74 .mt .mt) (.nd bNone .mt .mt)) (.nd b58 (.nd b90 .mt .mt) .mt))) (.nd b14 (.nd b22 (.nd b38 (.nd b70 .mt .mt) (.nd bNone .mt .mt)) (.nd b54 (.nd b86 .mt .mt) .mt)) (.nd b30 (.nd b46 (.nd b78 .mt .mt) (.nd bNone .mt .mt)) (.nd b62 (.nd b94 .mt .mt) .mt))))))
set_option maxRecDepth 100000 in
theorem bodies_ok : FT.All (fun g b => FnOk Try.prog ty g b ∨ b = bNone) bodies id := ⟨oNone _, ⟨oNone _, ⟨o3, ⟨o7, ⟨o15, ⟨o31, ⟨o63, trivial, trivial⟩, ⟨o95, trivial, trivial⟩⟩, ⟨o47, ⟨o79, trivial, trivial⟩, ⟨oNone _, trivial, trivial⟩⟩⟩, ⟨o23, ⟨o39, ⟨o71, trivial, trivial⟩, ⟨oNone _, trivial, trivial⟩⟩, ⟨o55, ⟨o87, trivial, trivial⟩, trivial⟩⟩⟩, ⟨o11, ⟨o19, ⟨o35, ⟨o67, trivial, trivial⟩, ⟨oNone _, trivial, trivial⟩⟩, ⟨o51, ⟨o83, trivial, trivial⟩, trivial⟩⟩, ⟨o27, ⟨o43, ⟨o75, trivial, trivial⟩, ⟨oNone _, trivial, trivial⟩⟩, ⟨o59, ⟨o91, trivial, trivial⟩, trivial⟩⟩⟩⟩, ⟨o5, ⟨o9, ⟨o17, ⟨o33, ⟨o65, trivial, trivial⟩, ⟨oNone _, trivial, trivial⟩⟩, ⟨o49, ⟨o81, trivial, trivial⟩, trivial⟩⟩, ⟨o25, ⟨o41, ⟨o73, trivial, trivial⟩, ⟨oNone _, trivial, trivial⟩⟩, ⟨o57, ⟨o89, trivial, trivial⟩, trivial⟩⟩⟩, ⟨o13, ⟨o21, ⟨o37, ⟨o69, trivial, trivial⟩, ⟨oNone _, trivial, trivial⟩⟩, ⟨o53, ⟨o85, trivial, trivial⟩, trivial⟩⟩, ⟨o29, ⟨o45, ⟨o77, trivial, trivial⟩, ⟨oNone _, trivial, trivial⟩⟩, ⟨o61, ⟨o93, trivial, trivial⟩, trivial⟩⟩⟩⟩⟩, ⟨o2, ⟨o4, ⟨o8, ⟨o16, ⟨o32, ⟨o64, trivial, trivial⟩, ⟨o96, trivial, trivial⟩⟩, ⟨o48, ⟨o80, trivial, trivial⟩, ⟨oNone _, trivial, trivial⟩⟩⟩, ⟨o24, ⟨o40, ⟨o72, trivial, trivial⟩, ⟨oNone _, trivial, trivial⟩⟩, ⟨o56, ⟨o88, trivial, trivial⟩, trivial⟩⟩⟩, ⟨o12, ⟨o20, ⟨o36, ⟨o68, trivial, trivial⟩, ⟨oNone _, trivial, trivial⟩⟩, ⟨o52, ⟨o84, trivial, trivial⟩, trivial⟩⟩, ⟨o28, ⟨o44, ⟨o76, trivial, trivial⟩, ⟨oNone _, trivial, trivial⟩⟩, ⟨o60, ⟨o92, trivial, trivial⟩, trivial⟩⟩⟩⟩, ⟨o6, ⟨o10, ⟨o18, ⟨o34, ⟨o66, trivial, trivial⟩, ⟨oNone _, trivial, trivial⟩⟩, ⟨o50, ⟨o82, trivial, trivial⟩, trivial⟩⟩, ⟨o26, ⟨o42, ⟨o74, trivial, trivial⟩, ⟨oNone _, trivial, trivial⟩⟩, ⟨o58, ⟨o90, trivial, trivial⟩, trivial⟩⟩⟩, ⟨o14, ⟨o22, ⟨o38, ⟨o70, trivial, trivial⟩, ⟨oNone _, trivial, trivial⟩⟩, ⟨o54, ⟨o86, trivial, trivial⟩, trivial⟩⟩, ⟨o30, ⟨o46, ⟨o78, trivial, trivial⟩, ⟨oNone _, trivial, trivial⟩⟩, ⟨o62, ⟨o94, trivial, trivial⟩, trivial⟩⟩⟩⟩⟩⟩
theorem tabOk : TabOk Try.prog ty := tab_ok (by kernel_rfl) (by kernel_rfl)
theorem calls_ok (n : Nat) : CallOk Try.prog ty (call bodies n) := call_all tabOk (by kernel_rfl) bodies_ok n
end Go.Proofs.Ytokpmjbljhkeiaa

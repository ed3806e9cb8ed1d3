/-
  THE TABLES OF THE CANONICAL MACHINE for this seat: what each type is, and the functions, each in a tree. Printed by program (tables.py).
-/
import Derived.Test.YtkafejncffinmaaComp
import Derived.Test.YtkafejncffinmaaProg
namespace Go.Proofs.Ytkafejncffinmaa
open Go
-- left out: 8,13,14,18,19,80,81,83,84,93,94
noncomputable def ty0 : TI := ⟨.other, 1, 0, [], []⟩
noncomputable def ty1 : TI := ⟨.func, 1, 8, [.nilFunc], []⟩
noncomputable def ty2 : TI := ⟨.int .i64, 1, 8, [.int .i64 0], []⟩
noncomputable def ty3 : TI := ⟨.int .i64, 1, 8, [.int .i64 0], []⟩
noncomputable def ty4 : TI := ⟨.bool, 1, 1, [.bool false], []⟩
noncomputable def ty5 : TI := ⟨.int .u8, 1, 1, [.int .u8 0], []⟩
noncomputable def ty6 : TI := ⟨.int .u8, 1, 1, [.int .u8 0], []⟩
noncomputable def ty7 : TI := ⟨.struct [(0, 1, 2), (1, 1, 3), (2, 1, 4), (3, 1, 6)], 4, 24, [.int .i64 0, .int .i64 0, .bool false, .int .u8 0], []⟩
noncomputable def ty8 : TI := ⟨.struct [(0, 1, 2), (1, 1, 3), (2, 1, 4), (3, 1, 6)], 4, 24, [.int .i64 0, .int .i64 0, .bool false, .int .u8 0], [("Error", 56), ("RuntimeError", 57)]⟩
noncomputable def ty9 : TI := ⟨.string, 1, 16, [.string .empty], []⟩
noncomputable def ty10 : TI := ⟨.string, 1, 16, [.string .empty], [("Error", 58), ("RuntimeError", 59)]⟩
noncomputable def ty11 : TI := ⟨.string, 1, 16, [.string .empty], [("Error", 60), ("RuntimeError", 61)]⟩
noncomputable def ty12 : TI := ⟨.int .u64, 1, 8, [.int .u64 0], []⟩
noncomputable def ty13 : TI := ⟨.struct [(0, 1, 9), (1, 1, 12)], 2, 24, [.string .empty, .int .u64 0], []⟩
noncomputable def ty14 : TI := ⟨.struct [(0, 1, 9), (1, 1, 12)], 2, 24, [.string .empty, .int .u64 0], [("Error", 62), ("RuntimeError", 63)]⟩
noncomputable def ty15 : TI := ⟨.ptr 81, 1, 8, [.pointer none], [("Error", 64), ("RuntimeError", 65)]⟩
noncomputable def ty16 : TI := ⟨.ptr 84, 1, 8, [.pointer none], [("Error", 66), ("RuntimeError", 67)]⟩
noncomputable def ty17 : TI := ⟨.ptr 94, 1, 8, [.pointer none], [("Align", 68)]⟩
noncomputable def ty18 : TI := ⟨.struct [(0, 1, 17)], 1, 8, [.pointer none], []⟩
noncomputable def ty19 : TI := ⟨.struct [(0, 1, 17)], 1, 8, [.pointer none], [("Error", 69), ("RuntimeError", 70)]⟩
noncomputable def ty20 : TI := ⟨.iface, 1, 16, [.nilIface], []⟩
noncomputable def ty21 : TI := ⟨.int .i32, 1, 4, [.int .i32 0], []⟩
noncomputable def ty22 : TI := ⟨.arr 3 5, 3, 3, [.int .u8 0, .int .u8 0, .int .u8 0], []⟩
noncomputable def ty23 : TI := ⟨.slice 4, 1, 24, [.slice none 0 0], []⟩
noncomputable def ty24 : TI := ⟨.slice 5, 1, 24, [.slice none 0 0], []⟩
noncomputable def ty25 : TI := ⟨.slice 37, 1, 24, [.slice none 0 0], []⟩
noncomputable def ty26 : TI := ⟨.int .i64, 1, 8, [.int .i64 0], []⟩
noncomputable def ty27 : TI := ⟨.other, 1, 0, [], []⟩
noncomputable def ty28 : TI := ⟨.func, 1, 8, [.nilFunc], []⟩
noncomputable def ty29 : TI := ⟨.slice 3, 1, 24, [.slice none 0 0], []⟩
noncomputable def ty30 : TI := ⟨.struct [(0, 1, 3), (1, 1, 3), (2, 1, 29)], 3, 40, [.int .i64 0, .int .i64 0, .slice none 0 0], []⟩
noncomputable def ty31 : TI := ⟨.struct [(0, 1, 3), (1, 1, 3), (2, 1, 29)], 3, 40, [.int .i64 0, .int .i64 0, .slice none 0 0], []⟩
noncomputable def ty32 : TI := ⟨.other, 1, 0, [], []⟩
noncomputable def ty33 : TI := ⟨.func, 1, 8, [.nilFunc], []⟩
noncomputable def ty34 : TI := ⟨.func, 1, 8, [.nilFunc], []⟩
noncomputable def ty35 : TI := ⟨.map 3 3, 1, 8, [.map none], []⟩
noncomputable def ty36 : TI := ⟨.struct [(0, 1, 3), (1, 1, 29)], 2, 32, [.int .i64 0, .slice none 0 0], []⟩
noncomputable def ty37 : TI := ⟨.struct [(0, 1, 3), (1, 1, 29)], 2, 32, [.int .i64 0, .slice none 0 0], []⟩
noncomputable def ty38 : TI := ⟨.other, 1, 0, [], []⟩
noncomputable def ty39 : TI := ⟨.func, 1, 8, [.nilFunc], []⟩
noncomputable def ty40 : TI := ⟨.func, 1, 8, [.nilFunc], []⟩
noncomputable def ty41 : TI := ⟨.other, 1, 0, [], []⟩
noncomputable def ty42 : TI := ⟨.func, 1, 8, [.nilFunc], []⟩
noncomputable def ty43 : TI := ⟨.func, 1, 8, [.nilFunc], []⟩
noncomputable def ty44 : TI := ⟨.func, 1, 8, [.nilFunc], []⟩
noncomputable def ty45 : TI := ⟨.slice 31, 1, 24, [.slice none 0 0], []⟩
noncomputable def ty46 : TI := ⟨.other, 1, 0, [], []⟩
noncomputable def ty47 : TI := ⟨.func, 1, 8, [.nilFunc], []⟩
noncomputable def ty48 : TI := ⟨.func, 1, 8, [.nilFunc], []⟩
noncomputable def ty49 : TI := ⟨.func, 1, 8, [.nilFunc], []⟩
noncomputable def ty50 : TI := ⟨.func, 1, 8, [.nilFunc], []⟩
noncomputable def ty51 : TI := ⟨.func, 1, 8, [.nilFunc], []⟩
noncomputable def ty52 : TI := ⟨.func, 1, 8, [.nilFunc], []⟩
noncomputable def ty53 : TI := ⟨.func, 1, 8, [.nilFunc], []⟩
noncomputable def ty54 : TI := ⟨.func, 1, 8, [.nilFunc], []⟩
noncomputable def ty55 : TI := ⟨.func, 1, 8, [.nilFunc], []⟩
noncomputable def ty56 : TI := ⟨.int .u16, 1, 2, [.int .u16 0], []⟩
noncomputable def ty57 : TI := ⟨.func, 1, 8, [.nilFunc], []⟩
noncomputable def ty58 : TI := ⟨.func, 1, 8, [.nilFunc], []⟩
noncomputable def ty59 : TI := ⟨.other, 1, 0, [], []⟩
noncomputable def ty60 : TI := ⟨.func, 1, 8, [.nilFunc], []⟩
noncomputable def ty61 : TI := ⟨.func, 1, 8, [.nilFunc], []⟩
noncomputable def ty62 : TI := ⟨.func, 1, 8, [.nilFunc], []⟩
noncomputable def ty63 : TI := ⟨.func, 1, 8, [.nilFunc], []⟩
noncomputable def ty64 : TI := ⟨.func, 1, 8, [.nilFunc], []⟩
noncomputable def ty65 : TI := ⟨.func, 1, 8, [.nilFunc], []⟩
noncomputable def ty66 : TI := ⟨.func, 1, 8, [.nilFunc], []⟩
noncomputable def ty67 : TI := ⟨.int .u64, 1, 8, [.int .u64 0], []⟩
noncomputable def ty68 : TI := ⟨.other, 1, 0, [], []⟩
noncomputable def ty69 : TI := ⟨.func, 1, 8, [.nilFunc], []⟩
noncomputable def ty70 : TI := ⟨.func, 1, 8, [.nilFunc], []⟩
noncomputable def ty71 : TI := ⟨.func, 1, 8, [.nilFunc], []⟩
noncomputable def ty72 : TI := ⟨.func, 1, 8, [.nilFunc], []⟩
noncomputable def ty73 : TI := ⟨.func, 1, 8, [.nilFunc], []⟩
noncomputable def ty74 : TI := ⟨.func, 1, 8, [.nilFunc], []⟩
noncomputable def ty75 : TI := ⟨.func, 1, 8, [.nilFunc], []⟩
noncomputable def ty76 : TI := ⟨.func, 1, 8, [.nilFunc], []⟩
noncomputable def ty77 : TI := ⟨.func, 1, 8, [.nilFunc], []⟩
noncomputable def ty78 : TI := ⟨.func, 1, 8, [.nilFunc], []⟩
noncomputable def ty79 : TI := ⟨.func, 1, 8, [.nilFunc], []⟩
noncomputable def ty80 : TI := ⟨.struct [(0, 1, 17), (1, 1, 17), (2, 1, 17), (3, 1, 9)], 4, 40, [.pointer none, .pointer none, .pointer none, .string .empty], []⟩
noncomputable def ty81 : TI := ⟨.struct [(0, 1, 17), (1, 1, 17), (2, 1, 17), (3, 1, 9)], 4, 40, [.pointer none, .pointer none, .pointer none, .string .empty], []⟩
noncomputable def ty82 : TI := ⟨.arr 0 16, 0, 0, [], []⟩
noncomputable def ty83 : TI := ⟨.struct [(0, 0, 82)], 0, 0, [], []⟩
noncomputable def ty84 : TI := ⟨.struct [(0, 0, 82)], 0, 0, [], []⟩
noncomputable def ty85 : TI := ⟨.func, 1, 8, [.nilFunc], []⟩
noncomputable def ty86 : TI := ⟨.int .u32, 1, 4, [.int .u32 0], []⟩
noncomputable def ty87 : TI := ⟨.int .u8, 1, 1, [.int .u8 0], []⟩
noncomputable def ty88 : TI := ⟨.int .u8, 1, 1, [.int .u8 0], [("String", 71)]⟩
noncomputable def ty89 : TI := ⟨.func, 1, 8, [.nilFunc], []⟩
noncomputable def ty90 : TI := ⟨.ptr 5, 1, 8, [.pointer none], []⟩
noncomputable def ty91 : TI := ⟨.int .i32, 1, 4, [.int .i32 0], []⟩
noncomputable def ty92 : TI := ⟨.int .i32, 1, 4, [.int .i32 0], []⟩
noncomputable def ty93 : TI := ⟨.struct [(0, 1, 12), (1, 1, 12), (2, 1, 86), (3, 1, 87), (4, 1, 5), (5, 1, 5), (6, 1, 88), (7, 1, 89), (8, 1, 90), (9, 1, 91), (10, 1, 92)], 11, 48, [.int .u64 0, .int .u64 0, .int .u32 0, .int .u8 0, .int .u8 0, .int .u8 0, .int .u8 0, .nilFunc, .pointer none, .int .i32 0, .int .i32 0], []⟩
noncomputable def ty94 : TI := ⟨.struct [(0, 1, 12), (1, 1, 12), (2, 1, 86), (3, 1, 87), (4, 1, 5), (5, 1, 5), (6, 1, 88), (7, 1, 89), (8, 1, 90), (9, 1, 91), (10, 1, 92)], 11, 48, [.int .u64 0, .int .u64 0, .int .u32 0, .int .u8 0, .int .u8 0, .int .u8 0, .int .u8 0, .nilFunc, .pointer none, .int .i32 0, .int .i32 0], []⟩
noncomputable def ty95 : TI := ⟨.other, 1, 8, [.pointer none], []⟩
set_option maxRecDepth 100000 in
noncomputable def ty : TTy := (.nd (some ty0) (.nd (some ty1) (.nd (some ty3) (.nd (some ty7) (.nd (some ty15) (.nd (some ty31) (.nd (some ty63) .mt .mt) (.nd (some ty95) .mt .mt)) (.nd (some ty47) (.nd (some ty79) .mt .mt) .mt)) (.nd (some ty23) (.nd (some ty39) (.nd (some ty71) .mt .mt) .mt) (.nd (some ty55) (.nd (some ty87) .mt .mt) .mt))) (.nd (some ty11) (.nd none (.nd (some ty35) (.nd (some ty67) .mt .mt) .mt) (.nd (some ty51) (.nd none .mt .mt) .mt)) (.nd (some ty27) (.nd (some ty43) (.nd (some ty75) .mt .mt) .mt) (.nd (some ty59) (.nd (some ty91) .mt .mt) .mt)))) (.nd (some ty5) (.nd (some ty9) (.nd (some ty17) (.nd (some ty33) (.nd (some ty65) .mt .mt) .mt) (.nd (some ty49) (.nd none .mt .mt) .mt)) (.nd (some ty25) (.nd (some ty41) (.nd (some ty73) .mt .mt) .mt) (.nd (some ty57) (.nd (some ty89) .mt .mt) .mt))) (.nd none (.nd (some ty21) (.nd (some ty37) (.nd (some ty69) .mt .mt) .mt) (.nd (some ty53) (.nd (some ty85) .mt .mt) .mt)) (.nd (some ty29) (.nd (some ty45) (.nd (some ty77) .mt .mt) .mt) (.nd (some ty61) (.nd none .mt .mt) .mt))))) (.nd (some ty2) (.nd (some ty4) (.nd none (.nd (some ty16) (.nd (some ty32) (.nd (some ty64) .mt .mt) .mt) (.nd (some ty48) (.nd none .mt .mt) .mt)) (.nd (some ty24) (.nd (some ty40) (.nd (some ty72) .mt .mt) .mt) (.nd (some ty56) (.nd (some ty88) .mt .mt) .mt))) (.nd (some ty12) (.nd (some ty20) (.nd (some ty36) (.nd (some ty68) .mt .mt) .mt) (.nd (some ty52) (.nd none .mt .mt) .mt)) (.nd (some ty28) (.nd (some ty44) (.nd (some ty76) .mt .mt) .mt) (.nd (some ty60) (.nd (some ty92) .mt .mt) .mt)))) (.nd (some ty6) (.nd (some ty10) (.nd none (.nd (some ty34) (.nd (some ty66) .mt .mt) .mt) (.nd (some ty50) (.nd (some ty82) .mt .mt) .mt)) (.nd (some ty26) (.nd (some ty42) (.nd (some ty74) .mt .mt) .mt) (.nd (some ty58) (.nd (some ty90) .mt .mt) .mt))) (.nd none (.nd (some ty22) (.nd (some ty38) (.nd (some ty70) .mt .mt) .mt) (.nd (some ty54) (.nd (some ty86) .mt .mt) .mt)) (.nd (some ty30) (.nd (some ty46) (.nd (some ty78) .mt .mt) .mt) (.nd (some ty62) (.nd none .mt .mt) .mt))))))
end Go.Proofs.Ytkafejncffinmaa

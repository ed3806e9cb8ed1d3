/-
  THE TABLES OF THE CANONICAL MACHINE for this seat: what each type is, and the functions, each in a tree. Printed by program (tables.py).
-/
import Derived.Test.YtadoagfabfcdbaaComp
import Derived.Test.YtadoagfabfcdbaaProg
namespace Go.Proofs.Ytadoagfabfcdbaa
open Go
noncomputable def ty0 : TI := ⟨.other, 1, 0, []⟩
noncomputable def ty1 : TI := ⟨.func, 1, 8, [.nilFunc]⟩
noncomputable def ty2 : TI := ⟨.int .i64, 1, 8, [.int .i64 0]⟩
noncomputable def ty3 : TI := ⟨.int .i64, 1, 8, [.int .i64 0]⟩
noncomputable def ty4 : TI := ⟨.bool, 1, 1, [.bool false]⟩
noncomputable def ty5 : TI := ⟨.int .u8, 1, 1, [.int .u8 0]⟩
noncomputable def ty6 : TI := ⟨.int .u8, 1, 1, [.int .u8 0]⟩
noncomputable def ty7 : TI := ⟨.struct [(0, 1, 2), (1, 1, 3), (2, 1, 4), (3, 1, 6)], 4, 24, [.int .i64 0, .int .i64 0, .bool false, .int .u8 0]⟩
noncomputable def ty8 : TI := ⟨.struct [(0, 1, 2), (1, 1, 3), (2, 1, 4), (3, 1, 6)], 4, 24, [.int .i64 0, .int .i64 0, .bool false, .int .u8 0]⟩
noncomputable def ty9 : TI := ⟨.string, 1, 16, [.string .empty]⟩
noncomputable def ty10 : TI := ⟨.string, 1, 16, [.string .empty]⟩
noncomputable def ty11 : TI := ⟨.string, 1, 16, [.string .empty]⟩
noncomputable def ty12 : TI := ⟨.int .u64, 1, 8, [.int .u64 0]⟩
noncomputable def ty13 : TI := ⟨.struct [(0, 1, 9), (1, 1, 12)], 2, 24, [.string .empty, .int .u64 0]⟩
noncomputable def ty14 : TI := ⟨.struct [(0, 1, 9), (1, 1, 12)], 2, 24, [.string .empty, .int .u64 0]⟩
noncomputable def ty15 : TI := ⟨.ptr 41, 1, 8, [.pointer none]⟩
noncomputable def ty16 : TI := ⟨.ptr 44, 1, 8, [.pointer none]⟩
noncomputable def ty17 : TI := ⟨.ptr 54, 1, 8, [.pointer none]⟩
noncomputable def ty18 : TI := ⟨.struct [(0, 1, 17)], 1, 8, [.pointer none]⟩
noncomputable def ty19 : TI := ⟨.struct [(0, 1, 17)], 1, 8, [.pointer none]⟩
noncomputable def ty20 : TI := ⟨.iface, 1, 16, [.nilIface]⟩
noncomputable def ty21 : TI := ⟨.int .i32, 1, 4, [.int .i32 0]⟩
noncomputable def ty22 : TI := ⟨.struct [(0, 1, 3), (1, 1, 3)], 2, 16, [.int .i64 0, .int .i64 0]⟩
noncomputable def ty23 : TI := ⟨.struct [(0, 1, 3), (1, 1, 3)], 2, 16, [.int .i64 0, .int .i64 0]⟩
noncomputable def ty24 : TI := ⟨.slice 5, 1, 24, [.slice none 0 0]⟩
noncomputable def ty25 : TI := ⟨.func, 1, 8, [.nilFunc]⟩
noncomputable def ty26 : TI := ⟨.int .i64, 1, 8, [.int .i64 0]⟩
noncomputable def ty27 : TI := ⟨.other, 1, 0, []⟩
noncomputable def ty28 : TI := ⟨.func, 1, 8, [.nilFunc]⟩
noncomputable def ty29 : TI := ⟨.other, 1, 0, []⟩
noncomputable def ty30 : TI := ⟨.func, 1, 8, [.nilFunc]⟩
noncomputable def ty31 : TI := ⟨.func, 1, 8, [.nilFunc]⟩
noncomputable def ty32 : TI := ⟨.func, 1, 8, [.nilFunc]⟩
noncomputable def ty33 : TI := ⟨.func, 1, 8, [.nilFunc]⟩
noncomputable def ty34 : TI := ⟨.func, 1, 8, [.nilFunc]⟩
noncomputable def ty35 : TI := ⟨.arr 12 5, 12, 12, repL [.int .u8 0] 12⟩
noncomputable def ty36 : TI := ⟨.func, 1, 8, [.nilFunc]⟩
noncomputable def ty37 : TI := ⟨.int .u64, 1, 8, [.int .u64 0]⟩
noncomputable def ty38 : TI := ⟨.int .u64, 1, 8, [.int .u64 0]⟩
noncomputable def ty39 : TI := ⟨.func, 1, 8, [.nilFunc]⟩
noncomputable def ty40 : TI := ⟨.struct [(0, 1, 17), (1, 1, 17), (2, 1, 17), (3, 1, 9)], 4, 40, [.pointer none, .pointer none, .pointer none, .string .empty]⟩
noncomputable def ty41 : TI := ⟨.struct [(0, 1, 17), (1, 1, 17), (2, 1, 17), (3, 1, 9)], 4, 40, [.pointer none, .pointer none, .pointer none, .string .empty]⟩
noncomputable def ty42 : TI := ⟨.arr 0 16, 0, 0, []⟩
noncomputable def ty43 : TI := ⟨.struct [(0, 0, 42)], 0, 0, []⟩
noncomputable def ty44 : TI := ⟨.struct [(0, 0, 42)], 0, 0, []⟩
noncomputable def ty45 : TI := ⟨.func, 1, 8, [.nilFunc]⟩
noncomputable def ty46 : TI := ⟨.int .u32, 1, 4, [.int .u32 0]⟩
noncomputable def ty47 : TI := ⟨.int .u8, 1, 1, [.int .u8 0]⟩
noncomputable def ty48 : TI := ⟨.int .u8, 1, 1, [.int .u8 0]⟩
noncomputable def ty49 : TI := ⟨.func, 1, 8, [.nilFunc]⟩
noncomputable def ty50 : TI := ⟨.ptr 5, 1, 8, [.pointer none]⟩
noncomputable def ty51 : TI := ⟨.int .i32, 1, 4, [.int .i32 0]⟩
noncomputable def ty52 : TI := ⟨.int .i32, 1, 4, [.int .i32 0]⟩
noncomputable def ty53 : TI := ⟨.struct [(0, 1, 12), (1, 1, 12), (2, 1, 46), (3, 1, 47), (4, 1, 5), (5, 1, 5), (6, 1, 48), (7, 1, 49), (8, 1, 50), (9, 1, 51), (10, 1, 52)], 11, 48, [.int .u64 0, .int .u64 0, .int .u32 0, .int .u8 0, .int .u8 0, .int .u8 0, .int .u8 0, .nilFunc, .pointer none, .int .i32 0, .int .i32 0]⟩
noncomputable def ty54 : TI := ⟨.struct [(0, 1, 12), (1, 1, 12), (2, 1, 46), (3, 1, 47), (4, 1, 5), (5, 1, 5), (6, 1, 48), (7, 1, 49), (8, 1, 50), (9, 1, 51), (10, 1, 52)], 11, 48, [.int .u64 0, .int .u64 0, .int .u32 0, .int .u8 0, .int .u8 0, .int .u8 0, .int .u8 0, .nilFunc, .pointer none, .int .i32 0, .int .i32 0]⟩
noncomputable def ty55 : TI := ⟨.other, 1, 8, [.pointer none]⟩
set_option maxRecDepth 100000 in
noncomputable def ty : TTy := (.nd (some ty0) (.nd (some ty1) (.nd (some ty3) (.nd (some ty7) (.nd (some ty15) (.nd (some ty31) .mt .mt) (.nd (some ty47) .mt .mt)) (.nd (some ty23) (.nd (some ty39) .mt .mt) (.nd (some ty55) .mt .mt))) (.nd (some ty11) (.nd none (.nd (some ty35) .mt .mt) (.nd (some ty51) .mt .mt)) (.nd (some ty27) (.nd none .mt .mt) .mt))) (.nd (some ty5) (.nd (some ty9) (.nd (some ty17) (.nd (some ty33) .mt .mt) (.nd (some ty49) .mt .mt)) (.nd (some ty25) (.nd none .mt .mt) .mt)) (.nd none (.nd (some ty21) (.nd (some ty37) .mt .mt) (.nd none .mt .mt)) (.nd (some ty29) (.nd (some ty45) .mt .mt) .mt)))) (.nd (some ty2) (.nd (some ty4) (.nd none (.nd (some ty16) (.nd (some ty32) .mt .mt) (.nd (some ty48) .mt .mt)) (.nd (some ty24) (.nd none .mt .mt) .mt)) (.nd (some ty12) (.nd (some ty20) (.nd (some ty36) .mt .mt) (.nd (some ty52) .mt .mt)) (.nd (some ty28) (.nd none .mt .mt) .mt))) (.nd (some ty6) (.nd (some ty10) (.nd none (.nd (some ty34) .mt .mt) (.nd (some ty50) .mt .mt)) (.nd (some ty26) (.nd (some ty42) .mt .mt) .mt)) (.nd none (.nd (some ty22) (.nd (some ty38) .mt .mt) (.nd none .mt .mt)) (.nd (some ty30) (.nd (some ty46) .mt .mt) .mt)))))
end Go.Proofs.Ytadoagfabfcdbaa

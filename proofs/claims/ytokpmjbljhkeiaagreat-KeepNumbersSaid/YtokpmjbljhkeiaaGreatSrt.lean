import Derived.Test.YtokpmjbljhkeiaaGreatSorted
import Derived.Test.YtokpmjbljhkeiaaGreatProg
import Derived.Test.YtokpmjbljhkeiaaGreatTab
set_option maxRecDepth 100000
namespace Go.Proofs.YtokpmjbljhkeiaaGreat
open Go Go.Proofs Go.RowKit Go.Maps Go.Sort Go.Shelf
def layKeys0_ren : Ren := ⟨fun | 7 => 86 | 10 => 148 | n => n, fun | 23 => 68 | 26 => 3 | 3 => 150 | 28 => 173 | 0 => 0 | 27 => 172 | 33 => 201 | 4 => 4 | n => n, fun n => n⟩
theorem layKeys0 : SlLaysZI.n7 Tryz.prog layKeys0_ren where
  mixed := by kernel_rfl
  f7 := ⟨Tryz.f86.name, by decide, Tryz.func86.trans (congrArg some (by kernel_rfl))⟩
  f10 := ⟨Tryz.f148.name, by decide, Tryz.func148.trans (congrArg some (by kernel_rfl))⟩
  t0 := Tryz.underlying0
  a0 := Tryz.isAgg0
  z0 := Tryz.sizeOf0
  v0 := Tryz.zeroValue0
  t4 := Tryz.underlying4
  a4 := Tryz.isAgg4
  z4 := Tryz.sizeOf4
  v4 := Tryz.zeroValue4
  t23 := Tryz.underlying68
  a23 := Tryz.isAgg68
  z23 := Tryz.sizeOf68
  v23 := Tryz.zeroValue68
  t26 := Tryz.underlying3
  a26 := Tryz.isAgg3
  z26 := Tryz.sizeOf3
  v26 := Tryz.zeroValue3
  t27 := Tryz.underlying172
  a27 := Tryz.isAgg172
  z27 := Tryz.sizeOf172
  v27 := Tryz.zeroValue172
  t28 := Tryz.underlying173
  a28 := Tryz.isAgg173
  z28 := Tryz.sizeOf173
  v28 := Tryz.zeroValue173
  t33 := Tryz.underlying201
  a33 := Tryz.isAgg201
  z33 := Tryz.sizeOf201
  v33 := Tryz.zeroValue201
def layKeys1_ren : Ren := ⟨fun | 7 => 130 | 10 => 195 | n => n, fun | 23 => 116 | 26 => 3 | 3 => 122 | 28 => 173 | 0 => 0 | 27 => 172 | 33 => 201 | 4 => 4 | n => n, fun n => n⟩
theorem layKeys1 : SlLaysZI.n7 Tryz.prog layKeys1_ren where
  mixed := by kernel_rfl
  f7 := ⟨Tryz.f130.name, by decide, Tryz.func130.trans (congrArg some (by kernel_rfl))⟩
  f10 := ⟨Tryz.f195.name, by decide, Tryz.func195.trans (congrArg some (by kernel_rfl))⟩
  t0 := Tryz.underlying0
  a0 := Tryz.isAgg0
  z0 := Tryz.sizeOf0
  v0 := Tryz.zeroValue0
  t4 := Tryz.underlying4
  a4 := Tryz.isAgg4
  z4 := Tryz.sizeOf4
  v4 := Tryz.zeroValue4
  t23 := Tryz.underlying116
  a23 := Tryz.isAgg116
  z23 := Tryz.sizeOf116
  v23 := Tryz.zeroValue116
  t26 := Tryz.underlying3
  a26 := Tryz.isAgg3
  z26 := Tryz.sizeOf3
  v26 := Tryz.zeroValue3
  t27 := Tryz.underlying172
  a27 := Tryz.isAgg172
  z27 := Tryz.sizeOf172
  v27 := Tryz.zeroValue172
  t28 := Tryz.underlying173
  a28 := Tryz.isAgg173
  z28 := Tryz.sizeOf173
  v28 := Tryz.zeroValue173
  t33 := Tryz.underlying201
  a33 := Tryz.isAgg201
  z33 := Tryz.sizeOf201
  v33 := Tryz.zeroValue201
def laySorted_ren : Ren := ⟨fun | 6 => 85 | 8 => 146 | 9 => 147 | 11 => 213 | 13 => 186 | 12 => 214 | 23 => 233 | 24 => 234 | 14 => 250 | 15 => 251 | 16 => 252 | 17 => 253 | 18 => 254 | 19 => 255 | 20 => 256 | 21 => 257 | 22 => 258 | 25 => 272 | 26 => 261 | 27 => 262 | 28 => 273 | 29 => 274 | 30 => 235 | 31 => 277 | n => n, fun | 26 => 3 | 28 => 173 | 24 => 79 | 0 => 0 | 3 => 3 | 37 => 196 | 48 => 47 | 50 => 259 | 4 => 4 | 40 => 311 | 39 => 310 | 45 => 315 | 5 => 5 | 9 => 9 | 51 => 333 | 55 => 337 | 57 => 345 | 58 => 346 | 33 => 201 | n => n, fun n => n⟩
theorem laySorted : SlLaysZI.n6 Tryz.prog laySorted_ren where
  mixed := by kernel_rfl
  f6 := ⟨Tryz.f85.name, by decide, Tryz.func85.trans (congrArg some (by kernel_rfl))⟩
  f8 := ⟨Tryz.f146.name, by decide, Tryz.func146.trans (congrArg some (by kernel_rfl))⟩
  f11 := ⟨Tryz.f213.name, by decide, Tryz.func213.trans (congrArg some (by kernel_rfl))⟩
  t0 := Tryz.underlying0
  a0 := Tryz.isAgg0
  z0 := Tryz.sizeOf0
  v0 := Tryz.zeroValue0
  t24 := Tryz.underlying79
  a24 := Tryz.isAgg79
  z24 := Tryz.sizeOf79
  v24 := Tryz.zeroValue79
  t26 := Tryz.underlying3
  a26 := Tryz.isAgg3
  z26 := Tryz.sizeOf3
  v26 := Tryz.zeroValue3
  t28 := Tryz.underlying173
  a28 := Tryz.isAgg173
  z28 := Tryz.sizeOf173
  v28 := Tryz.zeroValue173
  i26 := by kernel_rfl
def laySort_ren : Ren := ⟨fun | 5 => 147 | 8 => 186 | 7 => 214 | 19 => 233 | 20 => 234 | 10 => 250 | 11 => 251 | 12 => 252 | 13 => 253 | 14 => 254 | 15 => 255 | 16 => 256 | 17 => 257 | 18 => 258 | 30 => 272 | 31 => 261 | 32 => 262 | 33 => 273 | 34 => 274 | 35 => 235 | 40 => 277 | n => n, fun | 23 => 79 | 25 => 3 | 3 => 3 | 32 => 196 | 22 => 79 | 0 => 0 | 44 => 47 | 46 => 259 | 4 => 4 | 36 => 311 | 35 => 310 | 41 => 315 | 5 => 5 | 9 => 9 | 53 => 333 | 57 => 337 | 63 => 345 | 64 => 346 | n => n, fun n => n⟩
theorem laySort : SlLaysM.n5 Tryz.prog laySort_ren where
  mixed := by kernel_rfl
  f5 := ⟨Tryz.f147.name, by decide, Tryz.func147.trans (congrArg some (by kernel_rfl))⟩
  f7 := ⟨Tryz.f214.name, by decide, Tryz.func214.trans (congrArg some (by kernel_rfl))⟩
  f8 := Tryz.func186.trans (congrArg some (by kernel_rfl))
  f10 := ⟨Tryz.f250.name, by decide, Tryz.func250.trans (congrArg some (by kernel_rfl))⟩
  f11 := ⟨Tryz.f251.name, by decide, Tryz.func251.trans (congrArg some (by kernel_rfl))⟩
  f12 := ⟨Tryz.f252.name, by decide, Tryz.func252.trans (congrArg some (by kernel_rfl))⟩
  f13 := ⟨Tryz.f253.name, by decide, Tryz.func253.trans (congrArg some (by kernel_rfl))⟩
  f14 := ⟨Tryz.f254.name, by decide, Tryz.func254.trans (congrArg some (by kernel_rfl))⟩
  f15 := ⟨Tryz.f255.name, by decide, Tryz.func255.trans (congrArg some (by kernel_rfl))⟩
  f16 := ⟨Tryz.f256.name, by decide, Tryz.func256.trans (congrArg some (by kernel_rfl))⟩
  f17 := ⟨Tryz.f257.name, by decide, Tryz.func257.trans (congrArg some (by kernel_rfl))⟩
  f18 := ⟨Tryz.f258.name, by decide, Tryz.func258.trans (congrArg some (by kernel_rfl))⟩
  f19 := Tryz.func233.trans (congrArg some (by kernel_rfl))
  f20 := Tryz.func234.trans (congrArg some (by kernel_rfl))
  f30 := ⟨Tryz.f272.name, by decide, Tryz.func272.trans (congrArg some (by kernel_rfl))⟩
  f31 := Tryz.func261.trans (congrArg some (by kernel_rfl))
  f32 := Tryz.func262.trans (congrArg some (by kernel_rfl))
  f33 := ⟨Tryz.f273.name, by decide, Tryz.func273.trans (congrArg some (by kernel_rfl))⟩
  f34 := ⟨Tryz.f274.name, by decide, Tryz.func274.trans (congrArg some (by kernel_rfl))⟩
  f35 := ⟨Tryz.f235.name, by decide, Tryz.func235.trans (congrArg some (by kernel_rfl))⟩
  f40 := ⟨Tryz.f277.name, by decide, Tryz.func277.trans (congrArg some (by kernel_rfl))⟩
  t0 := Tryz.underlying0
  a0 := Tryz.isAgg0
  z0 := Tryz.sizeOf0
  v0 := Tryz.zeroValue0
  t3 := Tryz.underlying3
  a3 := Tryz.isAgg3
  z3 := Tryz.sizeOf3
  v3 := Tryz.zeroValue3
  t4 := Tryz.underlying4
  a4 := Tryz.isAgg4
  z4 := Tryz.sizeOf4
  v4 := Tryz.zeroValue4
  t5 := Tryz.underlying5
  a5 := Tryz.isAgg5
  z5 := Tryz.sizeOf5
  v5 := Tryz.zeroValue5
  t9 := Tryz.underlying9
  a9 := Tryz.isAgg9
  z9 := Tryz.sizeOf9
  v9 := Tryz.zeroValue9
  t22 := Tryz.underlying79
  a22 := Tryz.isAgg79
  z22 := Tryz.sizeOf79
  v22 := Tryz.zeroValue79
  t23 := Tryz.underlying79
  a23 := Tryz.isAgg79
  z23 := Tryz.sizeOf79
  v23 := Tryz.zeroValue79
  t25 := Tryz.underlying3
  a25 := Tryz.isAgg3
  z25 := Tryz.sizeOf3
  v25 := Tryz.zeroValue3
  t32 := Tryz.underlying196
  a32 := Tryz.isAgg196
  z32 := Tryz.sizeOf196
  v32 := Tryz.zeroValue196
  t35 := Tryz.underlying310
  a35 := Tryz.isAgg310
  z35 := Tryz.sizeOf310
  v35 := Tryz.zeroValue310
  t36 := Tryz.underlying311
  a36 := Tryz.isAgg311
  z36 := Tryz.sizeOf311
  v36 := Tryz.zeroValue311
  t41 := Tryz.underlying315
  a41 := Tryz.isAgg315
  z41 := Tryz.sizeOf315
  v41 := Tryz.zeroValue315
  t44 := Tryz.underlying47
  a44 := Tryz.isAgg47
  z44 := Tryz.sizeOf47
  v44 := Tryz.zeroValue47
  t46 := Tryz.underlying259
  a46 := Tryz.isAgg259
  z46 := Tryz.sizeOf259
  v46 := Tryz.zeroValue259
  t53 := Tryz.underlying333
  a53 := Tryz.isAgg333
  z53 := Tryz.sizeOf333
  v53 := Tryz.zeroValue333
  t57 := Tryz.underlying337
  a57 := Tryz.isAgg337
  z57 := Tryz.sizeOf337
  v57 := Tryz.zeroValue337
  t63 := Tryz.underlying345
  a63 := Tryz.isAgg345
  z63 := Tryz.sizeOf345
  v63 := Tryz.zeroValue345
  t64 := Tryz.underlying346
  a64 := Tryz.isAgg346
  z64 := Tryz.sizeOf346
  v64 := Tryz.zeroValue346
theorem sortsA (m : Nat) : AnyZI.SortsIn Tryz.prog laySorted_ren Fence.wide m :=
  ⟨fun blk off cap ss W hH hblk hsz => callsIn_wide.2 (AnyM.slices_Sort_int laySort blk off cap ss W hH hblk hsz),
   fun p cap W => callsIn_wide.2 (AnyM.slices_Sort_int_none laySort p cap W)⟩
theorem says0 : SortedSays Tryz.prog 85 148 3 := sortedSays (ρ := laySorted_ren) (ρ' := layKeys0_ren) laySorted { layKeys0 with } sortsA (enters_of Tryz.func147 (by kernel_rfl) rfl) (enters_of Tryz.func148 (by kernel_rfl) rfl)
theorem says1 : SortedSays Tryz.prog 85 195 3 := sortedSays (ρ := laySorted_ren) (ρ' := layKeys1_ren) laySorted { layKeys1 with } sortsA (enters_of Tryz.func147 (by kernel_rfl) rfl) (enters_of Tryz.func195 (by kernel_rfl) rfl)
theorem name_neS {a b : String} (h : (a == b) = false) : a ≠ b := by simpa using h
noncomputable def bS : Body := bSorted [148, 195] 3
theorem sorted_is : FnDoes Tryz.prog ty 85 bS := sorted_does (ti := ty3) ⟨Tryz.f85, Tryz.func85, name_neS (by kernel_rfl), rfl⟩ (fun K hK => by
  have hK := memN_iff.1 hK
  simp only [List.mem_cons, List.not_mem_nil, or_false] at hK
  rcases hK with rfl | rfl
  · exact says0
  · exact says1) (by kernel_rfl) rfl
end Go.Proofs.YtokpmjbljhkeiaaGreat

/-
  Pieces of the run of 'NodeNumbers': what each touches, changes and gives; reckoned by the kernel. Printed by program (cutrun.py).
  A table of pieces of the run of 'NodeNumbers'. Printed by program (cutrun.py).
-/
import Derived.Test.YtokpmjbljhkeiaaGreatNodeNumbersM1
import Derived.Test.YtokpmjbljhkeiaaGreatMemo
import Derived.Test.YtokpmjbljhkeiaaGreatLits
import Derived.Test.YtokpmjbljhkeiaaGreatBodies
namespace Go.Proofs.YtokpmjbljhkeiaaGreat.nodeNumbers
open Go
set_option maxRecDepth 100000
noncomputable def k328 : Blk := patchB k308 [(64, uL [121])] 7680 0
noncomputable def k329 : Blk := patchB k328 [(0, repL [(u 0)] 10), (60, uL [0, 0, 0, 0])] 7680 0
noncomputable def k330 : Blk := .map [] 111
noncomputable def k331 : Blk := cellsB ([(.pointer (some ⟨261, 0, none⟩)), (.pointer (some ⟨258, 0, none⟩)), (i 10), (.slice (some ⟨20279, 0, none⟩) 54 54), (.slice (some ⟨22162, 0, none⟩) 6 6), (i 1), (.bool false)]) 7 0
noncomputable def k332 : Blk := cellsB (uL [120] ++ (repL [(u 0)] 63)) 64 6
noncomputable def k333 : Blk := cellsB (uL [120] ++ (repL [(u 0)] 63)) 64 6
noncomputable def k334 : Blk := cellsB (uL [120] ++ (repL [(u 0)] 63)) 64 6
noncomputable def k335 : Blk := cellsB (uL [120] ++ (repL [(u 0)] 63)) 64 6
noncomputable def k336 : Blk := cellsB (uL [120] ++ (repL [(u 0)] 63)) 64 6
noncomputable def k337 : Blk := cellsB (uL [120] ++ (repL [(u 0)] 63)) 64 6
noncomputable def k338 : Blk := cellsB (uL [120] ++ (repL [(u 0)] 63)) 64 6
noncomputable def k339 : Blk := cellsB (uL [120] ++ (repL [(u 0)] 63)) 64 6
noncomputable def k340 : Blk := cellsB (uL [120] ++ (repL [(u 0)] 63)) 64 6
noncomputable def k341 : Blk := cellsB (uL [120] ++ (repL [(u 0)] 63)) 64 6
noncomputable def k342 : Blk := cellsB (uL [120] ++ (repL [(u 0)] 63)) 64 6
noncomputable def k343 : Blk := cellsB (uL [120] ++ (repL [(u 0)] 63)) 64 6
noncomputable def k344 : Blk := cellsB (uL [120] ++ (repL [(u 0)] 63)) 64 6
noncomputable def k345 : Blk := cellsB (uL [120] ++ (repL [(u 0)] 63)) 64 6
noncomputable def k346 : Blk := cellsB (uL [120] ++ (repL [(u 0)] 63)) 64 6
noncomputable def k347 : Blk := cellsB (uL [120] ++ (repL [(u 0)] 63)) 64 6
noncomputable def k348 : Blk := cellsB (uL [120] ++ (repL [(u 0)] 63)) 64 6
noncomputable def k349 : Blk := cellsB (uL [120] ++ (repL [(u 0)] 63)) 64 6
noncomputable def k350 : Blk := cellsB (uL [120] ++ (repL [(u 0)] 63)) 64 6
noncomputable def k351 : Blk := cellsB (uL [120] ++ (repL [(u 0)] 63)) 64 6
noncomputable def k352 : Blk := cellsB (uL [120] ++ (repL [(u 0)] 63)) 64 6
noncomputable def k353 : Blk := cellsB (uL [120] ++ (repL [(u 0)] 63)) 64 6
noncomputable def k354 : Blk := cellsB (uL [120] ++ (repL [(u 0)] 63)) 64 6
noncomputable def k355 : Blk := cellsB (uL [120] ++ (repL [(u 0)] 63)) 64 6
noncomputable def k356 : Blk := cellsB (uL [120] ++ (repL [(u 0)] 63)) 64 6
noncomputable def k357 : Blk := cellsB (uL [120] ++ (repL [(u 0)] 63)) 64 6
noncomputable def k358 : Blk := cellsB (uL [120] ++ (repL [(u 0)] 63)) 64 6
noncomputable def k359 : Blk := cellsB (uL [120] ++ (repL [(u 0)] 63)) 64 6
noncomputable def k360 : Blk := cellsB (uL [120] ++ (repL [(u 0)] 63)) 64 6
noncomputable def k361 : Blk := cellsB (uL [120] ++ (repL [(u 0)] 63)) 64 6
noncomputable def k362 : Blk := cellsB (uL [120] ++ (repL [(u 0)] 63)) 64 6
noncomputable def k363 : Blk := cellsB (uL [120] ++ (repL [(u 0)] 63)) 64 6
noncomputable def k364 : Blk := cellsB (uL [120] ++ (repL [(u 0)] 63)) 64 6
noncomputable def k365 : Blk := cellsB (uL [120] ++ (repL [(u 0)] 63)) 64 6
noncomputable def k366 : Blk := cellsB (uL [120] ++ (repL [(u 0)] 63)) 64 6
noncomputable def k367 : Blk := cellsB (uL [120] ++ (repL [(u 0)] 63)) 64 6
noncomputable def k368 : Blk := cellsB (uL [120] ++ (repL [(u 0)] 63)) 64 6
noncomputable def k369 : Blk := cellsB (uL [120] ++ (repL [(u 0)] 63)) 64 6
noncomputable def k370 : Blk := cellsB (uL [120] ++ (repL [(u 0)] 63)) 64 6
noncomputable def k371 : Blk := cellsB (uL [120] ++ (repL [(u 0)] 63)) 64 6
noncomputable def k372 : Blk := cellsB (uL [120] ++ (repL [(u 0)] 63)) 64 6
noncomputable def k373 : Blk := cellsB (uL [120] ++ (repL [(u 0)] 63)) 64 6
noncomputable def k374 : Blk := cellsB (uL [120] ++ (repL [(u 0)] 63)) 64 6
noncomputable def k375 : Blk := cellsB (uL [120] ++ (repL [(u 0)] 63)) 64 6
noncomputable def k376 : Blk := cellsB (uL [120] ++ (repL [(u 0)] 63)) 64 6
noncomputable def k377 : Blk := cellsB (uL [120] ++ (repL [(u 0)] 63)) 64 6
noncomputable def k378 : Blk := cellsB (uL [120] ++ (repL [(u 0)] 63)) 64 6
noncomputable def k379 : Blk := cellsB (uL [120] ++ (repL [(u 0)] 63)) 64 6
noncomputable def k380 : Blk := cellsB (uL [120] ++ (repL [(u 0)] 63)) 64 6
noncomputable def k381 : Blk := cellsB (uL [120] ++ (repL [(u 0)] 63)) 64 6
noncomputable def k382 : Blk := cellsB (uL [120] ++ (repL [(u 0)] 63)) 64 6
noncomputable def k383 : Blk := cellsB (uL [120] ++ (repL [(u 0)] 63)) 64 6
noncomputable def k384 : Blk := cellsB (uL [120] ++ (repL [(u 0)] 63)) 64 6
noncomputable def k385 : Blk := cellsB (uL [120] ++ (repL [(u 0)] 63)) 64 6
/-- cooperage/slots.Open: 161306 operations -/
noncomputable def p47 : Piece := ⟨62, [(.pointer (some ⟨261, 0, none⟩)), (.pointer (some ⟨258, 0, none⟩)), (i 10)], 14600, [(258, k0)], [(259, k328), (260, k309), (261, k3)], (.tuple ⟨[(.pointer (some ⟨14600, 0, none⟩)), (i 0)]⟩), 22172, [(259, k329), (260, k330), (261, k3), (14600, k331), (14628, k332), (14645, k333), (14662, k334), (14679, k335), (14696, k336), (14713, k337), (14730, k338), (14747, k339), (14764, k340), (14781, k341), (14798, k342), (14815, k343), (14832, k344), (14849, k345), (14866, k346), (14883, k347), (14900, k348), (14917, k349), (14934, k350), (14951, k351), (14968, k352), (14985, k353), (15002, k354), (15019, k355), (15036, k356), (15053, k357), (15070, k358), (15087, k359), (15104, k360), (15121, k361), (15138, k362), (15155, k363), (15172, k364), (15189, k365), (15206, k366), (15223, k367), (15240, k368), (15257, k369), (15274, k370), (15291, k371), (15308, k372), (15325, k373), (15342, k374), (15359, k375), (15376, k376), (15393, k377), (15410, k378), (15427, k379), (15444, k380), (15461, k381), (15478, k382), (15495, k383), (15512, k384), (15529, k385), (20279, k327)], 259, 22172⟩
set_option maxHeartbeats 0 in
theorem p47_ok : PieceOk Tryz.prog ty 62 p47 := ⟨rfl, _, 15, calls_m1 64, by kernel_rfl⟩
end Go.Proofs.YtokpmjbljhkeiaaGreat.nodeNumbers
namespace Go.Proofs.YtokpmjbljhkeiaaGreat.nodeNumbers
open Go
set_option maxRecDepth 100000
noncomputable def m2 : MT := (.nd [] (.nd [] (.nd [] (.nd [p44] (.nd [] (.nd [] .mt .mt) (.nd [] .mt .mt)) (.nd [] (.nd [] .mt .mt) (.nd [] .mt .mt))) (.nd [] (.nd [] (.nd [] .mt .mt) (.nd [] .mt .mt)) (.nd [] (.nd [] .mt .mt) (.nd [] .mt .mt)))) (.nd [] (.nd [] (.nd [p0] (.nd [] .mt .mt) (.nd [] .mt .mt)) (.nd [] (.nd [] .mt .mt) (.nd [] .mt .mt))) (.nd [] (.nd [] (.nd [] .mt .mt) (.nd [] .mt .mt)) (.nd [] (.nd [] .mt .mt) (.nd [] .mt .mt))))) (.nd [] (.nd [] (.nd [] (.nd [] (.nd [] .mt .mt) (.nd [] .mt .mt)) (.nd [] (.nd [] .mt .mt) (.nd [] .mt .mt))) (.nd [] (.nd [] (.nd [] .mt .mt) (.nd [] .mt .mt)) (.nd [] (.nd [] .mt .mt) (.nd [] .mt .mt)))) (.nd [] (.nd [] (.nd [p1, p2, p3, p4, p5, p6, p7, p8, p9, p10, p11, p12, p13, p14, p15, p16, p17, p18, p19, p20, p21, p22, p23, p24, p25, p26, p27, p28, p29, p30, p31, p32, p33, p34, p35, p36, p37, p38, p39, p40, p41, p42, p43] (.nd [] .mt .mt) (.nd [] .mt .mt)) (.nd [] (.nd [] .mt .mt) (.nd [] .mt .mt))) (.nd [p48] (.nd [] (.nd [] .mt .mt) (.nd [] .mt .mt)) (.nd [] (.nd [] .mt .mt) (.nd [p47] .mt .mt))))))
theorem m2_ok : MT.All (PieceOk Tryz.prog ty) m2 id := ⟨memNil, ⟨memNil, ⟨memNil, ⟨(memCons p44_ok memNil), ⟨memNil, ⟨memNil, trivial, trivial⟩, ⟨memNil, trivial, trivial⟩⟩, ⟨memNil, ⟨memNil, trivial, trivial⟩, ⟨memNil, trivial, trivial⟩⟩⟩, ⟨memNil, ⟨memNil, ⟨memNil, trivial, trivial⟩, ⟨memNil, trivial, trivial⟩⟩, ⟨memNil, ⟨memNil, trivial, trivial⟩, ⟨memNil, trivial, trivial⟩⟩⟩⟩, ⟨memNil, ⟨memNil, ⟨(memCons p0_ok memNil), ⟨memNil, trivial, trivial⟩, ⟨memNil, trivial, trivial⟩⟩, ⟨memNil, ⟨memNil, trivial, trivial⟩, ⟨memNil, trivial, trivial⟩⟩⟩, ⟨memNil, ⟨memNil, ⟨memNil, trivial, trivial⟩, ⟨memNil, trivial, trivial⟩⟩, ⟨memNil, ⟨memNil, trivial, trivial⟩, ⟨memNil, trivial, trivial⟩⟩⟩⟩⟩, ⟨memNil, ⟨memNil, ⟨memNil, ⟨memNil, ⟨memNil, trivial, trivial⟩, ⟨memNil, trivial, trivial⟩⟩, ⟨memNil, ⟨memNil, trivial, trivial⟩, ⟨memNil, trivial, trivial⟩⟩⟩, ⟨memNil, ⟨memNil, ⟨memNil, trivial, trivial⟩, ⟨memNil, trivial, trivial⟩⟩, ⟨memNil, ⟨memNil, trivial, trivial⟩, ⟨memNil, trivial, trivial⟩⟩⟩⟩, ⟨memNil, ⟨memNil, ⟨(memCons p1_ok (memCons p2_ok (memCons p3_ok (memCons p4_ok (memCons p5_ok (memCons p6_ok (memCons p7_ok (memCons p8_ok (memCons p9_ok (memCons p10_ok (memCons p11_ok (memCons p12_ok (memCons p13_ok (memCons p14_ok (memCons p15_ok (memCons p16_ok (memCons p17_ok (memCons p18_ok (memCons p19_ok (memCons p20_ok (memCons p21_ok (memCons p22_ok (memCons p23_ok (memCons p24_ok (memCons p25_ok (memCons p26_ok (memCons p27_ok (memCons p28_ok (memCons p29_ok (memCons p30_ok (memCons p31_ok (memCons p32_ok (memCons p33_ok (memCons p34_ok (memCons p35_ok (memCons p36_ok (memCons p37_ok (memCons p38_ok (memCons p39_ok (memCons p40_ok (memCons p41_ok (memCons p42_ok (memCons p43_ok memNil))))))))))))))))))))))))))))))))))))))))))), ⟨memNil, trivial, trivial⟩, ⟨memNil, trivial, trivial⟩⟩, ⟨memNil, ⟨memNil, trivial, trivial⟩, ⟨memNil, trivial, trivial⟩⟩⟩, ⟨(memCons p48_ok memNil), ⟨memNil, ⟨memNil, trivial, trivial⟩, ⟨memNil, trivial, trivial⟩⟩, ⟨memNil, ⟨memNil, trivial, trivial⟩, ⟨(memCons p47_ok memNil), trivial, trivial⟩⟩⟩⟩⟩⟩
theorem calls_m2 (n : Nat) : CallOk Tryz.prog ty (callM bodies m2 n) := callM_all tabOk (by kernel_rfl) bodies_ok m2_ok n
end Go.Proofs.YtokpmjbljhkeiaaGreat.nodeNumbers

/-
  Part ZJ of what Lawwn stands on: printed by program, names and spaces cut.
-/
import Derived.Test.YtglkncnkbofgfaaGreatZI
namespace Go.Proofs.YtglkncnkbofgfaaGreat.awake
noncomputable section
open Go
set_option maxRecDepth 100000
def k17:Blk:=Hi k2 [] 3840 0
def k18:Blk:=.map [] 0
def k19:Blk:=Az ([(.slice (some ⟨1298,0,none⟩) 60 60),(.map (some 1299)),(.int .i64 (.negSucc 0)),(.bool false)]) 4 0
def k20:Blk:=Az ([(.pointer (some ⟨1300,0,none⟩)),(.pointer (some ⟨267,0,none⟩)),(i 16),(.slice none 0 0),(.slice (some ⟨1632,0,none⟩) 30 30),(i 0),(.bool false)]) 7 0
def k21:Blk:=Az ([(.pointer (some ⟨1300,0,none⟩)),(.pointer (some ⟨267,0,none⟩)),(.pointer (some ⟨1301,0,none⟩)),(i 0)]) 4 0
def p4:Piece:=⟨108,[(.pointer (some ⟨1300,0,none⟩)),(.pointer (some ⟨267,0,none⟩)),(i 16)],1301,[(267,k1),(1298,k17),(1299,k18),(1300,k19)],[],(.tuple ⟨[(.pointer (some ⟨1634,0,none⟩)),(i 0)]⟩),1635,[(1301,k20),(1634,k21)],1301,1635⟩
set_option maxHeartbeats 0 in
theorem j0:Bl Tryz.prog ty 108 p4:=⟨rfl,_,12,Cj 64,by kernel_rfl⟩
def k22:Blk:=Az ([(.pointer (some ⟨257,0,none⟩)),(i 1),(.slice (some ⟨263,0,none⟩) 3 3)]) 3 0
def k23:Blk:=Az ([(i 1),(i 3),(i 2),(i 16),(i 2),(i 20),(i 4),(i 1),(i 1),(i 60),(i 200),(.pointer (some ⟨267,0,none⟩)),(.pointer (some ⟨264,0,none⟩)),(.pointer (some ⟨274,0,none⟩)),(.slice (some ⟨1636,0,none⟩) 4 4),(.slice (some ⟨1638,0,none⟩) 4 4),(.pointer (some ⟨1641,0,none⟩)),(.pointer none),(i 0),(.slice none 0 0)]++(Ao [(i 0)] 32++([(.map (some 268)),(.map (some 269)),(.map (some 270)),(.map (some 271)),(i 0),(i 0),(i 0),(i 0),(i 0)]))) 61 0
def k24:Blk:=Az (Ao [(u 0)] 12800) 12800 0
def k25:Blk:=.map [] 0
def k26:Blk:=Az ([(.slice (some ⟨1639,0,none⟩) 200 200),(.map (some 1640)),(.int .i64 (.negSucc 0)),(.bool false)]) 4 0
def k27:Blk:=Az ([(i 1),(i 3),(i 2),(i 16),(i 2),(i 20),(i 4),(i 1),(i 1),(i 60),(i 200),(.pointer (some ⟨267,0,none⟩)),(.pointer (some ⟨264,0,none⟩)),(.pointer (some ⟨274,0,none⟩)),(.slice (some ⟨1636,0,none⟩) 4 4),(.slice (some ⟨1638,0,none⟩) 4 4),(.pointer (some ⟨1641,0,none⟩)),(.pointer (some ⟨1663,0,none⟩)),(i 0),(.slice none 0 0)]++(Ao [(i 0)] 32++([(.map (some 268)),(.map (some 269)),(.map (some 270)),(.map (some 271)),(i 0),(i 0),(i 0),(i 0),(i 0)]))) 61 0
def k28:Blk:=Hi k24 [(0,uL [1]),(8,uL [1]),(64,uL [2]),(72,uL [1]),(80,uL [1]),(88,uL [6]),(128,uL [3,1,1])] 12800 0
def k29:Blk:=.map [] 3
def k30:Blk:=Az ([(.pointer (some ⟨1641,0,none⟩)),(i 100),(i 0),(i 3),(i 1),(.slice none 0 0),(.slice (some ⟨1774,0,none⟩) 1 1),(.bool false)]) 8 0
def k31:Blk:=.map [] 0
def k32:Blk:=Az ([(i 290),(i 260),(i 2),(i 16),(i 2),(i 20),(i 4),(i 3),(i 1),(i 16),(i 1),(.pointer (some ⟨267,0,none⟩)),(.pointer (some ⟨1652,0,none⟩)),(.pointer (some ⟨1785,0,none⟩)),(i 1),(.slice (some ⟨1707,0,none⟩) 1 1),(i 0),(i 4),(.slice none 0 0),(.slice (some ⟨1709,0,none⟩) 1 1),(.slice none 0 0),(.slice none 0 0),(i 0),(i 0),(.pointer none),(.slice none 0 0),(.slice none 0 0),(i 0),(.int .i64 (.negSucc 0)),(.bool true),(.slice none 0 0),(.slice none 0 0),(.bool true),(.map (some 1662)),(.bool false)]) 35 0
def k33:Blk:=Az ([(i 1),(i 1),(.bool true),(.bool true),(i 0),(.slice none 0 0),(i 1),(.slice none 0 0)]) 8 140
def k34:Blk:=Az ([(i 1),(.slice (some ⟨1711,0,none⟩) 3 3)]) 2 268
def k35:Blk:=Az (iL [0,1,2]) 3 4
def k36:Blk:=Az ([(.slice (some ⟨1772,0,none⟩) 6 6)]) 1 23
def k37:Blk:=.map [] 0
def k38:Blk:=Az ([(.pointer (some ⟨264,0,none⟩)),(.pointer (some ⟨267,0,none⟩)),(.slice (some ⟨1780,0,none⟩) 1 1),(i 290),(i 1),(i 2),(i 2),(i 0),(i 0),(i 0),(.map (some 1783)),(.map (some 1784)),(.bool false)]) 13 0
def p5:Piece:=⟨197,[(.pointer (some ⟨272,0,none⟩))],1642,[(264,k22)],[(272,k23),(1639,k24),(1640,k25),(1641,k26)],(i 0),1786,[(272,k27),(1639,k28),(1640,k29),(1641,k26),(1652,k30),(1662,k31),(1663,k32),(1707,k33),(1709,k34),(1711,k35),(1774,k36),(1783,k37),(1785,k38)],272,1786⟩
set_option maxHeartbeats 0 in
theorem j5:Bl Tryz.prog ty 197 p5:=⟨rfl,_,12,Cj 64,by kernel_rfl⟩
def k39:Blk:=Az ([]) 0 0
def k40:Blk:=Az ([(i 0),(i 1),(u 2),(i 1),(i 1),(sb [102]),(i 0),(i 0),(sb []),(i 0),(i 0),(.slice (some ⟨1880,0,none⟩) 0 0)]) 12 73
def k41:Blk:=Az ([(i 1),(i 3),(i 2),(i 16),(i 2),(i 20),(i 4),(i 1),(i 1),(i 60),(i 200),(.pointer (some ⟨267,0,none⟩)),(.pointer (some ⟨264,0,none⟩)),(.pointer (some ⟨274,0,none⟩)),(.slice (some ⟨1636,0,none⟩) 4 4),(.slice (some ⟨1638,0,none⟩) 4 4),(.pointer (some ⟨1641,0,none⟩)),(.pointer (some ⟨1663,0,none⟩)),(i 2),(.slice (some ⟨1855,0,none⟩) 1 1),(i 1)]++(Ao [(i 0)] 15++(iL [1]++(Ao [(i 0)] 15++([(.map (some 268)),(.map (some 269)),(.map (some 270)),(.map (some 271)),(i 1),(i 1),(i 0),(i 0),(i 0)]))))) 61 0
def k42:Blk:=.map [⟨(i 290),(i 0),0⟩] 1
def k43:Blk:=Az ([(i 300),(i 200),(.slice none 0 0),(.map (some 273))]) 4 0
def k44:Blk:=Az ([(i 290),(i 260),(i 2),(i 16),(i 2),(i 20),(i 4),(i 3),(i 1),(i 16),(i 1),(.pointer (some ⟨267,0,none⟩)),(.pointer (some ⟨1652,0,none⟩)),(.pointer (some ⟨1785,0,none⟩)),(i 1),(.slice (some ⟨1707,0,none⟩) 1 1),(i 0),(i 4),(.slice none 0 0),(.slice (some ⟨1709,0,none⟩) 1 1),(.slice none 0 0),(.slice (some ⟨1891,0,none⟩) 1 1),(i 0),(i 0),(.pointer none),(.slice none 0 0),(.slice none 0 0),(i 0),(.int .i64 (.negSucc 0)),(.bool true),(.slice none 0 0),(.slice none 0 0),(.bool true),(.map (some 1662)),(.bool false)]) 35 0
def k45:Blk:=Az ([(i 1),(i 3),(i 2),(i 16),(i 2),(i 20),(i 4),(i 1),(i 1),(i 60),(i 200),(.pointer (some ⟨267,0,none⟩)),(.pointer (some ⟨264,0,none⟩)),(.pointer (some ⟨274,0,none⟩)),(.slice (some ⟨1636,0,none⟩) 4 4),(.slice (some ⟨1638,0,none⟩) 4 4),(.pointer (some ⟨1641,0,none⟩)),(.pointer (some ⟨1663,0,none⟩)),(i 3),(.slice (some ⟨1855,0,none⟩) 1 1),(i 1)]++(Ao [(i 0)] 15++(iL [1]++(Ao [(i 0)] 15++([(.map (some 268)),(.map (some 269)),(.map (some 270)),(.map (some 271)),(i 2),(i 1),(i 0),(i 0),(i 0)]))))) 61 0
def k46:Blk:=.map [⟨(i 290),(i 0),0⟩,⟨(i 260),(i 1),1⟩] 2
def k47:Blk:=Az ([(i 300),(i 200),(.slice (some ⟨2600,0,none⟩) 1 1),(.map (some 273))]) 4 0
def k48:Blk:=Hi k28 [(192,uL [2]),(200,uL [1]),(208,uL [2]),(216,uL [25]),(256,uL [3,2]),(263,uL [18,3,0,1,2,1,1]),(274,uL [1,102,0,0,133,161,15,247])] 12800 0
def k49:Blk:=.map [] 5
def k50:Blk:=Az ([(.pointer (some ⟨1641,0,none⟩)),(i 100),(i 0),(i 5),(i 1),(.slice none 0 0),(.slice (some ⟨2548,0,none⟩) 2 2),(.bool false)]) 8 0
def k51:Blk:=Az ([(i 290),(i 260),(i 2),(i 16),(i 2),(i 20),(i 4),(i 3),(i 1),(i 16),(i 1),(.pointer (some ⟨267,0,none⟩)),(.pointer (some ⟨1652,0,none⟩)),(.pointer (some ⟨1785,0,none⟩)),(i 1),(.slice (some ⟨2414,0,none⟩) 2 2),(i 0),(i 4),(.slice (some ⟨2454,0,none⟩) 1 1),(.slice (some ⟨2434,0,none⟩) 1 1),(.slice none 0 0),(.slice (some ⟨1891,0,none⟩) 0 0),(i 0),(i 0),(.pointer none),(.slice none 0 0),(.slice none 0 0),(i 0),(.int .i64 (.negSucc 0)),(.bool true),(.slice none 0 0),(.slice none 0 0),(.bool true),(.map (some 1662)),(.bool false)]) 35 0
def k52:Blk:=Az ([(i 1),(i 1),(.bool true),(.bool true),(i 0),(.slice none 0 0),(i 1),(.slice (some ⟨2416,0,none⟩) 1 1),(i 2),(i 1),(.bool true),(.bool false),(i 0),(.slice none 0 0),(i 1),(.slice none 0 0)]) 16 140
def k53:Blk:=Az ([(sb [102]),(i 2)]) 2 181
def k54:Blk:=Az ([(i 1),(.slice (some ⟨2436,0,none⟩) 3 3)]) 2 268
def k55:Blk:=Az (iL [0,1,2]) 3 4
def k56:Blk:=Az ([(i 0),(i 0),(.slice (some ⟨2458,0,none⟩) 1 1)]) 3 417
def k57:Blk:=Az ([(i 0),(i 1),(i 0),(i 2),(i 1),(.bool false),(i 0),(.slice none 0 0),(.slice none 0 0),(.bool false),(i 0)]) 11 112
def k58:Blk:=Az (uL [4,0,1,0,2,1,0,0,0,0,0,0,223,138,72,190]) 16 6
def k59:Blk:=Az ([(i 290),(i 260),(.slice (some ⟨2598,0,none⟩) 16 16)]) 3 203
def p7:Piece:=⟨29,[(.pointer (some ⟨272,0,none⟩))],1912,[(267,k1),(1662,k31),(1707,k33),(1709,k34),(1711,k35),(1783,k37),(1785,k38),(1880,k39),(1891,k40)],[(272,k41),(273,k42),(274,k43),(1639,k28),(1640,k29),(1641,k26),(1652,k30),(1663,k44),(1774,k36)],(i 0),2628,[(272,k45),(273,k46),(274,k47),(1639,k48),(1640,k49),(1641,k26),(1652,k50),(1663,k51),(1774,.dead),(2414,k52),(2416,k53),(2434,k54),(2436,k55),(2454,k56),(2458,k57),(2598,k58),(2600,k59)],272,2628⟩
set_option maxHeartbeats 0 in
theorem ZL:Bl Tryz.prog ty 29 p7:=⟨rfl,_,12,Cj 64,by kernel_rfl⟩
end
noncomputable section
open Go
set_option maxRecDepth 100000
def m1:MT:=(.nd [] (.nd [] (.nd [] (.nd [] (.nd [] (.nd [] (.nd [] (.nd [] .mt .mt) (.nd [] .mt .mt)) (.nd [] (.nd [] .mt .mt) .mt)) (.nd [] (.nd [] (.nd [] .mt .mt) .mt) (.nd [] (.nd [] .mt .mt) .mt))) (.nd [] (.nd [] (.nd [] (.nd [] .mt .mt) .mt) (.nd [] (.nd [] .mt .mt) .mt)) (.nd [] (.nd [] (.nd [] .mt .mt) .mt) (.nd [] (.nd [] .mt .mt) .mt)))) (.nd [] (.nd [] (.nd [] (.nd [] (.nd [] .mt .mt) (.nd [] .mt .mt)) (.nd [] (.nd [] .mt .mt) .mt)) (.nd [] (.nd [] (.nd [] .mt .mt) .mt) (.nd [] (.nd [] .mt .mt) .mt))) (.nd [] (.nd [] (.nd [] (.nd [] .mt .mt) .mt) (.nd [p0] (.nd [] .mt .mt) .mt)) (.nd [] (.nd [] (.nd [] .mt .mt) .mt) (.nd [] (.nd [] .mt .mt) .mt))))) (.nd [] (.nd [] (.nd [] (.nd [] (.nd [] (.nd [] .mt .mt) (.nd [] .mt .mt)) (.nd [] (.nd [] .mt .mt) .mt)) (.nd [] (.nd [] (.nd [] .mt .mt) .mt) (.nd [] (.nd [] .mt .mt) .mt))) (.nd [] (.nd [] (.nd [] (.nd [] .mt .mt) .mt) (.nd [] (.nd [] .mt .mt) .mt)) (.nd [] (.nd [] (.nd [] .mt .mt) .mt) (.nd [] (.nd [] .mt .mt) .mt)))) (.nd [] (.nd [] (.nd [] (.nd [] (.nd [] .mt .mt) (.nd [p5] .mt .mt)) (.nd [] (.nd [] .mt .mt) .mt)) (.nd [] (.nd [] (.nd [] .mt .mt) .mt) (.nd [] (.nd [] .mt .mt) .mt))) (.nd [p7] (.nd [] (.nd [] (.nd [] .mt .mt) .mt) (.nd [] (.nd [] .mt .mt) .mt)) (.nd [] (.nd [] (.nd [] .mt .mt) .mt) (.nd [] (.nd [] .mt .mt) .mt)))))) (.nd [] (.nd [] (.nd [] (.nd [] (.nd [] (.nd [] (.nd [] .mt .mt) (.nd [] .mt .mt)) (.nd [] (.nd [] .mt .mt) .mt)) (.nd [] (.nd [] (.nd [] .mt .mt) .mt) (.nd [] (.nd [] .mt .mt) .mt))) (.nd [] (.nd [] (.nd [] (.nd [] .mt .mt) .mt) (.nd [] (.nd [] .mt .mt) .mt)) (.nd [] (.nd [] (.nd [] .mt .mt) .mt) (.nd [] (.nd [] .mt .mt) .mt)))) (.nd [] (.nd [] (.nd [] (.nd [] (.nd [] .mt .mt) (.nd [] .mt .mt)) (.nd [] (.nd [] .mt .mt) .mt)) (.nd [] (.nd [] (.nd [] .mt .mt) .mt) (.nd [] (.nd [] .mt .mt) .mt))) (.nd [] (.nd [] (.nd [] (.nd [] .mt .mt) .mt) (.nd [p1,p2,p3,p4] (.nd [] .mt .mt) .mt)) (.nd [] (.nd [] (.nd [] .mt .mt) .mt) (.nd [] (.nd [] .mt .mt) .mt))))) (.nd [] (.nd [] (.nd [] (.nd [] (.nd [] (.nd [] .mt .mt) (.nd [] .mt .mt)) (.nd [] (.nd [] .mt .mt) .mt)) (.nd [] (.nd [] (.nd [] .mt .mt) .mt) (.nd [] (.nd [] .mt .mt) .mt))) (.nd [] (.nd [] (.nd [] (.nd [] .mt .mt) .mt) (.nd [] (.nd [] .mt .mt) .mt)) (.nd [] (.nd [] (.nd [] .mt .mt) .mt) (.nd [] (.nd [] .mt .mt) .mt)))) (.nd [] (.nd [] (.nd [] (.nd [] (.nd [] .mt .mt) .mt) (.nd [] (.nd [] .mt .mt) .mt)) (.nd [] (.nd [] (.nd [] .mt .mt) .mt) (.nd [] (.nd [] .mt .mt) .mt))) (.nd [] (.nd [] (.nd [] (.nd [] .mt .mt) .mt) (.nd [] (.nd [] .mt .mt) .mt)) (.nd [] (.nd [] (.nd [] .mt .mt) .mt) (.nd [] (.nd [] .mt .mt) .mt)))))))
theorem jq:MT.All (Bl Tryz.prog ty) m1 id:=⟨AF,⟨AF,⟨AF,⟨AF,⟨AF,⟨AF,⟨AF,⟨AF,trivial,trivial⟩,⟨AF,trivial,trivial⟩⟩,⟨AF,⟨AF,trivial,trivial⟩,trivial⟩⟩,⟨AF,⟨AF,⟨AF,trivial,trivial⟩,trivial⟩,⟨AF,⟨AF,trivial,trivial⟩,trivial⟩⟩⟩,⟨AF,⟨AF,⟨AF,⟨AF,trivial,trivial⟩,trivial⟩,⟨AF,⟨AF,trivial,trivial⟩,trivial⟩⟩,⟨AF,⟨AF,⟨AF,trivial,trivial⟩,trivial⟩,⟨AF,⟨AF,trivial,trivial⟩,trivial⟩⟩⟩⟩,⟨AF,⟨AF,⟨AF,⟨AF,⟨AF,trivial,trivial⟩,⟨AF,trivial,trivial⟩⟩,⟨AF,⟨AF,trivial,trivial⟩,trivial⟩⟩,⟨AF,⟨AF,⟨AF,trivial,trivial⟩,trivial⟩,⟨AF,⟨AF,trivial,trivial⟩,trivial⟩⟩⟩,⟨AF,⟨AF,⟨AF,⟨AF,trivial,trivial⟩,trivial⟩,⟨(Cd jw AF),⟨AF,trivial,trivial⟩,trivial⟩⟩,⟨AF,⟨AF,⟨AF,trivial,trivial⟩,trivial⟩,⟨AF,⟨AF,trivial,trivial⟩,trivial⟩⟩⟩⟩⟩,⟨AF,⟨AF,⟨AF,⟨AF,⟨AF,⟨AF,trivial,trivial⟩,⟨AF,trivial,trivial⟩⟩,⟨AF,⟨AF,trivial,trivial⟩,trivial⟩⟩,⟨AF,⟨AF,⟨AF,trivial,trivial⟩,trivial⟩,⟨AF,⟨AF,trivial,trivial⟩,trivial⟩⟩⟩,⟨AF,⟨AF,⟨AF,⟨AF,trivial,trivial⟩,trivial⟩,⟨AF,⟨AF,trivial,trivial⟩,trivial⟩⟩,⟨AF,⟨AF,⟨AF,trivial,trivial⟩,trivial⟩,⟨AF,⟨AF,trivial,trivial⟩,trivial⟩⟩⟩⟩,⟨AF,⟨AF,⟨AF,⟨AF,⟨AF,trivial,trivial⟩,⟨(Cd j5 AF),trivial,trivial⟩⟩,⟨AF,⟨AF,trivial,trivial⟩,trivial⟩⟩,⟨AF,⟨AF,⟨AF,trivial,trivial⟩,trivial⟩,⟨AF,⟨AF,trivial,trivial⟩,trivial⟩⟩⟩,⟨(Cd ZL AF),⟨AF,⟨AF,⟨AF,trivial,trivial⟩,trivial⟩,⟨AF,⟨AF,trivial,trivial⟩,trivial⟩⟩,⟨AF,⟨AF,⟨AF,trivial,trivial⟩,trivial⟩,⟨AF,⟨AF,trivial,trivial⟩,trivial⟩⟩⟩⟩⟩⟩,⟨AF,⟨AF,⟨AF,⟨AF,⟨AF,⟨AF,⟨AF,trivial,trivial⟩,⟨AF,trivial,trivial⟩⟩,⟨AF,⟨AF,trivial,trivial⟩,trivial⟩⟩,⟨AF,⟨AF,⟨AF,trivial,trivial⟩,trivial⟩,⟨AF,⟨AF,trivial,trivial⟩,trivial⟩⟩⟩,⟨AF,⟨AF,⟨AF,⟨AF,trivial,trivial⟩,trivial⟩,⟨AF,⟨AF,trivial,trivial⟩,trivial⟩⟩,⟨AF,⟨AF,⟨AF,trivial,trivial⟩,trivial⟩,⟨AF,⟨AF,trivial,trivial⟩,trivial⟩⟩⟩⟩,⟨AF,⟨AF,⟨AF,⟨AF,⟨AF,trivial,trivial⟩,⟨AF,trivial,trivial⟩⟩,⟨AF,⟨AF,trivial,trivial⟩,trivial⟩⟩,⟨AF,⟨AF,⟨AF,trivial,trivial⟩,trivial⟩,⟨AF,⟨AF,trivial,trivial⟩,trivial⟩⟩⟩,⟨AF,⟨AF,⟨AF,⟨AF,trivial,trivial⟩,trivial⟩,⟨(Cd jx (Cd jy (Cd jz (Cd j0 AF)))),⟨AF,trivial,trivial⟩,trivial⟩⟩,⟨AF,⟨AF,⟨AF,trivial,trivial⟩,trivial⟩,⟨AF,⟨AF,trivial,trivial⟩,trivial⟩⟩⟩⟩⟩,⟨AF,⟨AF,⟨AF,⟨AF,⟨AF,⟨AF,trivial,trivial⟩,⟨AF,trivial,trivial⟩⟩,⟨AF,⟨AF,trivial,trivial⟩,trivial⟩⟩,⟨AF,⟨AF,⟨AF,trivial,trivial⟩,trivial⟩,⟨AF,⟨AF,trivial,trivial⟩,trivial⟩⟩⟩,⟨AF,⟨AF,⟨AF,⟨AF,trivial,trivial⟩,trivial⟩,⟨AF,⟨AF,trivial,trivial⟩,trivial⟩⟩,⟨AF,⟨AF,⟨AF,trivial,trivial⟩,trivial⟩,⟨AF,⟨AF,trivial,trivial⟩,trivial⟩⟩⟩⟩,⟨AF,⟨AF,⟨AF,⟨AF,⟨AF,trivial,trivial⟩,trivial⟩,⟨AF,⟨AF,trivial,trivial⟩,trivial⟩⟩,⟨AF,⟨AF,⟨AF,trivial,trivial⟩,trivial⟩,⟨AF,⟨AF,trivial,trivial⟩,trivial⟩⟩⟩,⟨AF,⟨AF,⟨AF,⟨AF,trivial,trivial⟩,trivial⟩,⟨AF,⟨AF,trivial,trivial⟩,trivial⟩⟩,⟨AF,⟨AF,⟨AF,trivial,trivial⟩,trivial⟩,⟨AF,⟨AF,trivial,trivial⟩,trivial⟩⟩⟩⟩⟩⟩⟩
theorem OY(n:Nat):BI Tryz.prog ty (IH Gt m1 n):=EU LC (by kernel_rfl) Fk jq n
end
end Go.Proofs.YtglkncnkbofgfaaGreat.awake

/-
  Part ZD of what Lawgn stands on: printed by program, names and spaces cut.
-/
import Derived.Test.YtglkncnkbofgfaaGreatZC
import Derived.Test.YtglkncnkbofgfaaGreatProg
namespace Go.Proofs.YtglkncnkbofgfaaGreat
noncomputable section
open Go
def ty0:TI:=⟨.other,1,0,[],[]⟩
def ty1:TI:=⟨.func,1,8,[.nilFunc],[]⟩
def ty2:TI:=⟨.int .i64,1,8,[.int .i64 0],[]⟩
def ty3:TI:=⟨.int .i64,1,8,[.int .i64 0],[]⟩
def ty4:TI:=⟨.bool,1,1,[.bool false],[]⟩
def ty5:TI:=⟨.int .u8,1,1,[.int .u8 0],[]⟩
def ty6:TI:=⟨.int .u8,1,1,[.int .u8 0],[]⟩
def ty7:TI:=⟨.struct [(0,1,2),(1,1,3),(2,1,4),(3,1,6)],4,24,[.int .i64 0,.int .i64 0,.bool false,.int .u8 0],[]⟩
def ty9:TI:=⟨.string,1,16,[.string .empty],[]⟩
def AIn:TI:=⟨.string,1,16,[.string .empty],[("Error",666),("RuntimeError",667)]⟩
def AIo:TI:=⟨.string,1,16,[.string .empty],[("Error",668),("RuntimeError",669)]⟩
def AIp:TI:=⟨.int .u64,1,8,[.int .u64 0],[]⟩
def AIq:TI:=⟨.ptr 742,1,8,[.pointer none],[("Error",672),("RuntimeError",673)]⟩
def AIr:TI:=⟨.ptr 745,1,8,[.pointer none],[("Error",674),("RuntimeError",675)]⟩
def AIs:TI:=⟨.ptr 753,1,8,[.pointer none],[("Align",676)]⟩
def AIt:TI:=⟨.iface,1,16,[.nilIface],[]⟩
def AIu:TI:=⟨.int .i32,1,4,[.int .i32 0],[]⟩
def DA:TI:=⟨.slice 5,1,24,[.slice none 0 0],[]⟩
def AIv:TI:=⟨.func,1,8,[.nilFunc],[]⟩
def jS:TI:=⟨.ptr 48,1,8,[.pointer none],[("Busy",14),("Move",11),("Over",15),("Send",10),("State",12),("Step",6),("Stripes",13),("Take",9),("Tend",8),("Tick",7),("cooperage/gate.all",124),("cooperage/gate.answer",113),("cooperage/gate.begin",43),("cooperage/gate.change",54),("cooperage/gate.dead",225),("cooperage/gate.dropped",217),("cooperage/gate.ends",118),("cooperage/gate.fails",116),("cooperage/gate.goes",44),("cooperage/gate.joined",368),("cooperage/gate.made",219),("cooperage/gate.mended",122),("cooperage/gate.read",66),("cooperage/gate.read0",114),("cooperage/gate.readOn",115),("cooperage/gate.readOne",216),("cooperage/gate.right",42),("cooperage/gate.shards",221),("cooperage/gate.swept",45),("cooperage/gate.tells",117),("cooperage/gate.tended",46),("cooperage/gate.version",126),("cooperage/gate.writeOn",119),("cooperage/gate.yields",222)]⟩
def AIw:TI:=⟨.struct [(0,1,3),(1,1,3),(2,1,3),(3,1,3),(4,1,3),(5,1,3),(6,1,3),(7,1,3),(8,1,3)],9,72,Ao [.int .i64 0] 9,[]⟩
def Ta:TI:=⟨.struct [(0,1,3),(1,1,3),(2,1,3),(3,1,3),(4,1,3),(5,1,3),(6,1,3),(7,1,3),(8,1,3)],9,72,Ao [.int .i64 0] 9,[]⟩
def RL:TI:=⟨.ptr 62,1,8,[.pointer none],[]⟩
def j6:TI:=⟨.ptr 284,1,8,[.pointer none],[("Append",142),("Base",164),("Checkpoint",144),("Over",145),("Records",169),("Room",260),("cooperage/journal.may",258),("cooperage/journal.right",264),("cooperage/journal.write",162)]⟩
def Vu:TI:=⟨.ptr 223,1,8,[.pointer none],[("Data",486),("Fenced",60),("Free",121),("Give",369),("Jobs",134),("Look",120),("Mend",125),("Move",55),("Publish",218),("Read",367),("Send",52),("Take",48),("Tick",47),("Write",220),("cooperage/keep.hinders",379),("cooperage/keep.more",232),("cooperage/keep.node",135),("cooperage/keep.none",127),("cooperage/keep.turned",370),("cooperage/keep.under",136)]⟩
def kP:TI:=⟨.slice 139,1,24,[.slice none 0 0],[]⟩
def AIx:TI:=⟨.struct [(0,1,30),(1,1,3)],2,32,[.slice none 0 0,.int .i64 0],[]⟩
def ku:TI:=⟨.struct [(0,1,30),(1,1,3)],2,32,[.slice none 0 0,.int .i64 0],[]⟩
def lH:TI:=⟨.slice 416,1,24,[.slice none 0 0],[]⟩
def AIy:TI:=⟨.struct [(0,1,3),(1,1,33)],2,32,[.int .i64 0,.slice none 0 0],[]⟩
def Vv:TI:=⟨.struct [(0,1,3),(1,1,33)],2,32,[.int .i64 0,.slice none 0 0],[]⟩
def lh:TI:=⟨.slice 267,1,24,[.slice none 0 0],[]⟩
def lx:TI:=⟨.slice 141,1,24,[.slice none 0 0],[]⟩
def AIz:TI:=⟨.struct [(0,1,3),(1,2,32),(3,2,35),(5,1,36),(6,1,37)],7,120,[.int .i64 0,.slice none 0 0,.int .i64 0,.int .i64 0,.slice none 0 0,.slice none 0 0,.slice none 0 0],[]⟩
def RO:TI:=⟨.struct [(0,1,3),(1,2,32),(3,2,35),(5,1,36),(6,1,37)],7,120,[.int .i64 0,.slice none 0 0,.int .i64 0,.int .i64 0,.slice none 0 0,.slice none 0 0,.slice none 0 0],[]⟩
def AI0:TI:=⟨.slice 72,1,24,[.slice none 0 0],[]⟩
def RP:TI:=⟨.ptr 124,1,8,[.pointer none],[("cooperage/gate.old",372)]⟩
def AI1:TI:=⟨.slice 202,1,24,[.slice none 0 0],[]⟩
def mw:TI:=⟨.slice 3,1,24,[.slice none 0 0],[]⟩
def AI2:TI:=⟨.struct [(0,1,3),(1,1,4),(2,1,43),(3,1,43)],4,64,[.int .i64 0,.bool false,.slice none 0 0,.slice none 0 0],[]⟩
def nK:TI:=⟨.struct [(0,1,3),(1,1,4),(2,1,43),(3,1,43)],4,64,[.int .i64 0,.bool false,.slice none 0 0,.slice none 0 0],[]⟩
def AI3:TI:=⟨.map 3 3,1,8,[.map none],[]⟩
def AI4:TI:=⟨.struct [(0,9,26),(9,1,3),(10,1,3),(11,1,27),(12,1,28),(13,1,29),(14,7,39),(21,1,40),(22,1,3),(23,1,3),(24,1,41),(25,1,42),(26,1,43),(27,1,3),(28,4,45),(32,1,4),(33,1,46),(34,1,4)],35,424,[.int .i64 0,.int .i64 0,.int .i64 0,.int .i64 0,.int .i64 0,.int .i64 0,.int .i64 0,.int .i64 0,.int .i64 0,.int .i64 0,.int .i64 0,.pointer none,.pointer none,.pointer none,.int .i64 0,.slice none 0 0,.int .i64 0,.int .i64 0,.slice none 0 0,.slice none 0 0,.slice none 0 0,.slice none 0 0,.int .i64 0,.int .i64 0,.pointer none,.slice none 0 0,.slice none 0 0,.int .i64 0,.int .i64 0,.bool false,.slice none 0 0,.slice none 0 0,.bool false,.map none,.bool false],[]⟩
def Tb:TI:=⟨.struct [(0,9,26),(9,1,3),(10,1,3),(11,1,27),(12,1,28),(13,1,29),(14,7,39),(21,1,40),(22,1,3),(23,1,3),(24,1,41),(25,1,42),(26,1,43),(27,1,3),(28,4,45),(32,1,4),(33,1,46),(34,1,4)],35,424,[.int .i64 0,.int .i64 0,.int .i64 0,.int .i64 0,.int .i64 0,.int .i64 0,.int .i64 0,.int .i64 0,.int .i64 0,.int .i64 0,.int .i64 0,.pointer none,.pointer none,.pointer none,.int .i64 0,.slice none 0 0,.int .i64 0,.int .i64 0,.slice none 0 0,.slice none 0 0,.slice none 0 0,.slice none 0 0,.int .i64 0,.int .i64 0,.pointer none,.slice none 0 0,.slice none 0 0,.int .i64 0,.int .i64 0,.bool false,.slice none 0 0,.slice none 0 0,.bool false,.map none,.bool false],[]⟩
def Vw:TI:=⟨.arr 2 24,2,16,[.pointer none,.pointer none],[]⟩
def AI5:TI:=⟨.func,1,8,[.nilFunc],[]⟩
def AI6:TI:=⟨.int .i64,1,8,[.int .i64 0],[]⟩
def AI7:TI:=⟨.func,1,8,[.nilFunc],[]⟩
def AI8:TI:=⟨.func,1,8,[.nilFunc],[]⟩
def AI9:TI:=⟨.func,1,8,[.nilFunc],[]⟩
def AJA:TI:=⟨.func,1,8,[.nilFunc],[]⟩
def AJB:TI:=⟨.func,1,8,[.nilFunc],[]⟩
def PY:TI:=⟨.ptr 149,1,8,[.pointer none],[("Arm",88),("Cached",325),("Crash",196),("Down",174),("Flush",280),("Read",421),("Size",90),("Spoil",94),("Write",279),("cooperage/disk.none",195),("cooperage/disk.operation",423),("cooperage/disk.there",422)]⟩
def AJC:TI:=⟨.other,1,0,[],[]⟩
def AJD:TI:=⟨.func,1,8,[.nilFunc],[]⟩
def AJE:TI:=⟨.int .u32,1,4,[.int .u32 0],[]⟩
def AJF:TI:=⟨.arr 256 60,256,1024,Ao [.int .u32 0] 256,[]⟩
def AJG:TI:=⟨.arr 256 60,256,1024,Ao [.int .u32 0] 256,[]⟩
def AJH:TI:=⟨.func,1,8,[.nilFunc],[]⟩
def AJI:TI:=⟨.other,1,0,[],[]⟩
def AJJ:TI:=⟨.func,1,8,[.nilFunc],[]⟩
def AJK:TI:=⟨.func,1,8,[.nilFunc],[]⟩
def AJL:TI:=⟨.slice 4,1,24,[.slice none 0 0],[]⟩
def AJM:TI:=⟨.int .u8,1,1,[.int .u8 0],[]⟩
def AJN:TI:=⟨.struct [(0,1,3),(1,1,3)],2,16,[.int .i64 0,.int .i64 0],[]⟩
def Ez:TI:=⟨.struct [(0,1,3),(1,1,3)],2,16,[.int .i64 0,.int .i64 0],[]⟩
def AJO:TI:=⟨.struct [(0,1,3),(1,1,3),(2,1,68),(3,2,70),(5,1,9),(6,2,70),(8,1,9),(9,1,3),(10,1,3),(11,1,22)],12,128,[.int .i64 0,.int .i64 0,.int .u8 0,.int .i64 0,.int .i64 0,.string .empty,.int .i64 0,.int .i64 0,.string .empty,.int .i64 0,.int .i64 0,.slice none 0 0],[]⟩
def NU:TI:=⟨.struct [(0,1,3),(1,1,3),(2,1,68),(3,2,70),(5,1,9),(6,2,70),(8,1,9),(9,1,3),(10,1,3),(11,1,22)],12,128,[.int .i64 0,.int .i64 0,.int .u8 0,.int .i64 0,.int .i64 0,.string .empty,.int .i64 0,.int .i64 0,.string .empty,.int .i64 0,.int .i64 0,.slice none 0 0],[]⟩
def AJP:TI:=⟨.struct [(0,1,3),(1,1,3),(2,1,3),(3,1,3),(4,1,5),(5,1,67),(6,12,72)],18,192,[.int .i64 0,.int .i64 0,.int .i64 0,.int .i64 0,.int .u8 0,.slice none 0 0,.int .i64 0,.int .i64 0,.int .u8 0,.int .i64 0,.int .i64 0,.string .empty,.int .i64 0,.int .i64 0,.string .empty,.int .i64 0,.int .i64 0,.slice none 0 0],[]⟩
def AJQ:TI:=⟨.struct [(0,1,3),(1,1,3),(2,1,3),(3,1,3),(4,1,5),(5,1,67),(6,12,72)],18,192,[.int .i64 0,.int .i64 0,.int .i64 0,.int .i64 0,.int .u8 0,.slice none 0 0,.int .i64 0,.int .i64 0,.int .u8 0,.int .i64 0,.int .i64 0,.string .empty,.int .i64 0,.int .i64 0,.string .empty,.int .i64 0,.int .i64 0,.slice none 0 0],[]⟩
def AJR:TI:=⟨.ptr 88,1,8,[.pointer none],[("Again",23),("Arm",30),("Ask",22),("Calm",20),("Come",26),("Crash",31),("Double",27),("Flying",25),("Judge",21),("Lose",28),("Over",38),("Past",35),("Rates",36),("Replace",33),("Spoil",32),("State",37),("Tick",19),("Turn",29),("Waits",24),("Whole",34),("cooperage/world.again",73),("cooperage/world.begins",69),("cooperage/world.comes",77),("cooperage/world.crash",89),("cooperage/world.disk",87),("cooperage/world.flies",84),("cooperage/world.holds",92),("cooperage/world.looks",78),("cooperage/world.none",68),("cooperage/world.open",197),("cooperage/world.over",74),("cooperage/world.parts",179),("cooperage/world.placed",93),("cooperage/world.quiet",71),("cooperage/world.rests",91),("cooperage/world.rises",72),("cooperage/world.send",83),("cooperage/world.there",101),("cooperage/world.tick",70),("cooperage/world.told",178),("cooperage/world.turn",75),("cooperage/world.whole",98)]⟩
def AJS:TI:=⟨.struct [(0,1,3),(1,1,3),(2,1,3),(3,1,3),(4,1,3),(5,1,3),(6,1,3),(7,1,3),(8,1,3),(9,1,3),(10,1,3)],11,88,Ao [.int .i64 0] 11,[]⟩
def AJT:TI:=⟨.struct [(0,1,3),(1,1,3),(2,1,3),(3,1,3),(4,1,3),(5,1,3),(6,1,3),(7,1,3),(8,1,3),(9,1,3),(10,1,3)],11,88,Ao [.int .i64 0] 11,[]⟩
def Tc:TI:=⟨.ptr 279,1,8,[.pointer none],[("All",160),("Decode",603),("Encode",374),("Need",62),("Rebuild",691),("cooperage/code.made",159),("cooperage/code.row",492),("cooperage/code.rows",491),("cooperage/code.told",633)]⟩
def AJU:TI:=⟨.ptr 299,1,8,[.pointer none],[("Copy",85),("Drop",86),("Flying",76),("Look",303),("Send",191),("Take",176),("cooperage/net.full",323),("cooperage/net.lay",193),("cooperage/net.made",175),("cooperage/net.there",192)]⟩
def AJV:TI:=⟨.slice 57,1,24,[.slice none 0 0],[]⟩
def AJW:TI:=⟨.slice 197,1,24,[.slice none 0 0],[]⟩
def AJX:TI:=⟨.slice 167,1,24,[.slice none 0 0],[]⟩
def AJY:TI:=⟨.arr 16 3,16,128,Ao [.int .i64 0] 16,[]⟩
def AJZ:TI:=⟨.map 3 4,1,8,[.map none],[]⟩
def AJa:TI:=⟨.map 171 4,1,8,[.map none],[]⟩
def AJb:TI:=⟨.map 141 3,1,8,[.map none],[]⟩
def AJc:TI:=⟨.struct [(0,11,77),(11,1,27),(12,1,78),(13,1,79),(14,1,80),(15,1,81),(16,1,57),(17,1,24),(18,1,3),(19,1,82),(20,16,83),(36,16,83),(52,1,46),(53,1,84),(54,1,85),(55,1,86),(56,1,3),(57,1,3),(58,1,3),(59,1,3),(60,1,3)],61,536,[.int .i64 0,.int .i64 0,.int .i64 0,.int .i64 0,.int .i64 0,.int .i64 0,.int .i64 0,.int .i64 0,.int .i64 0,.int .i64 0,.int .i64 0,.pointer none,.pointer none,.pointer none,.slice none 0 0,.slice none 0 0,.pointer none,.pointer none,.int .i64 0,.slice none 0 0,.int .i64 0,.int .i64 0,.int .i64 0,.int .i64 0,.int .i64 0,.int .i64 0,.int .i64 0,.int .i64 0,.int .i64 0,.int .i64 0,.int .i64 0,.int .i64 0,.int .i64 0,.int .i64 0,.int .i64 0,.int .i64 0,.int .i64 0,.int .i64 0,.int .i64 0,.int .i64 0,.int .i64 0,.int .i64 0,.int .i64 0,.int .i64 0,.int .i64 0,.int .i64 0,.int .i64 0,.int .i64 0,.int .i64 0,.int .i64 0,.int .i64 0,.int .i64 0,.map none,.map none,.map none,.map none,.int .i64 0,.int .i64 0,.int .i64 0,.int .i64 0,.int .i64 0],[]⟩
def AJd:TI:=⟨.struct [(0,11,77),(11,1,27),(12,1,78),(13,1,79),(14,1,80),(15,1,81),(16,1,57),(17,1,24),(18,1,3),(19,1,82),(20,16,83),(36,16,83),(52,1,46),(53,1,84),(54,1,85),(55,1,86),(56,1,3),(57,1,3),(58,1,3),(59,1,3),(60,1,3)],61,536,[.int .i64 0,.int .i64 0,.int .i64 0,.int .i64 0,.int .i64 0,.int .i64 0,.int .i64 0,.int .i64 0,.int .i64 0,.int .i64 0,.int .i64 0,.pointer none,.pointer none,.pointer none,.slice none 0 0,.slice none 0 0,.pointer none,.pointer none,.int .i64 0,.slice none 0 0,.int .i64 0,.int .i64 0,.int .i64 0,.int .i64 0,.int .i64 0,.int .i64 0,.int .i64 0,.int .i64 0,.int .i64 0,.int .i64 0,.int .i64 0,.int .i64 0,.int .i64 0,.int .i64 0,.int .i64 0,.int .i64 0,.int .i64 0,.int .i64 0,.int .i64 0,.int .i64 0,.int .i64 0,.int .i64 0,.int .i64 0,.int .i64 0,.int .i64 0,.int .i64 0,.int .i64 0,.int .i64 0,.int .i64 0,.int .i64 0,.int .i64 0,.int .i64 0,.map none,.map none,.map none,.map none,.int .i64 0,.int .i64 0,.int .i64 0,.int .i64 0,.int .i64 0],[]⟩
def AJe:TI:=⟨.arr 2 75,2,16,[.pointer none,.pointer none],[]⟩
def AJf:TI:=⟨.other,1,0,[],[]⟩
def AJg:TI:=⟨.func,1,8,[.nilFunc],[]⟩
def AJh:TI:=⟨.other,1,0,[],[]⟩
def AJi:TI:=⟨.func,1,8,[.nilFunc],[]⟩
def AJj:TI:=⟨.func,1,8,[.nilFunc],[]⟩
def AJk:TI:=⟨.func,1,8,[.nilFunc],[]⟩
def AJl:TI:=⟨.func,1,8,[.nilFunc],[]⟩
def AJm:TI:=⟨.func,1,8,[.nilFunc],[]⟩
def RS:TI:=⟨.func,1,8,[.nilFunc],[]⟩
def AJn:TI:=⟨.func,1,8,[.nilFunc],[]⟩
def gD:TI:=⟨.func,1,8,[.nilFunc],[]⟩
def gE:TI:=⟨.func,1,8,[.nilFunc],[]⟩
def UA:TI:=⟨.int .u64,1,8,[.int .u64 0],[]⟩
def gF:TI:=⟨.arr 4 102,4,32,[.int .u64 0,.int .u64 0,.int .u64 0,.int .u64 0],[]⟩
def gG:TI:=⟨.func,1,8,[.nilFunc],[]⟩
def gH:TI:=⟨.func,1,8,[.nilFunc],[]⟩
def gI:TI:=⟨.ptr 192,1,8,[.pointer none],[("Ask",41),("Begin",109),("Round",111),("cooperage/cooperagelaw27.carry",110),("cooperage/cooperagelaw27.comes",207),("cooperage/cooperagelaw27.fate",206)]⟩
def gJ:TI:=⟨.other,1,0,[],[]⟩
def gK:TI:=⟨.func,1,8,[.nilFunc],[]⟩
def UB:TI:=⟨.slice 180,1,24,[.slice none 0 0],[]⟩
def gL:TI:=⟨.struct [(0,1,3),(1,1,3),(2,1,51),(3,2,70),(5,1,4),(6,1,3),(7,1,22),(8,1,109),(9,1,4),(10,1,3)],11,120,[.int .i64 0,.int .i64 0,.int .i64 0,.int .i64 0,.int .i64 0,.bool false,.int .i64 0,.slice none 0 0,.slice none 0 0,.bool false,.int .i64 0],[]⟩
def BW:TI:=⟨.struct [(0,1,3),(1,1,3),(2,1,51),(3,2,70),(5,1,4),(6,1,3),(7,1,22),(8,1,109),(9,1,4),(10,1,3)],11,120,[.int .i64 0,.int .i64 0,.int .i64 0,.int .i64 0,.int .i64 0,.bool false,.int .i64 0,.slice none 0 0,.slice none 0 0,.bool false,.int .i64 0],[]⟩
def gM:TI:=⟨.other,1,0,[],[]⟩
def gN:TI:=⟨.func,1,8,[.nilFunc],[]⟩
def gO:TI:=⟨.other,1,0,[],[]⟩
def gP:TI:=⟨.func,1,8,[.nilFunc],[]⟩
def gQ:TI:=⟨.func,1,8,[.nilFunc],[]⟩
def gR:TI:=⟨.func,1,8,[.nilFunc],[]⟩
def gS:TI:=⟨.slice 363,1,24,[.slice none 0 0],[]⟩
def gT:TI:=⟨.struct [(0,1,3),(1,11,111),(12,1,118),(13,1,118)],14,176,[.int .i64 0,.int .i64 0,.int .i64 0,.int .i64 0,.int .i64 0,.int .i64 0,.bool false,.int .i64 0,.slice none 0 0,.slice none 0 0,.bool false,.int .i64 0,.slice none 0 0,.slice none 0 0],[]⟩
def Iz:TI:=⟨.struct [(0,1,3),(1,11,111),(12,1,118),(13,1,118)],14,176,[.int .i64 0,.int .i64 0,.int .i64 0,.int .i64 0,.int .i64 0,.int .i64 0,.bool false,.int .i64 0,.slice none 0 0,.slice none 0 0,.bool false,.int .i64 0,.slice none 0 0,.slice none 0 0],[]⟩
def gU:TI:=⟨.map 3 22,1,8,[.map none],[]⟩
def UC:TI:=⟨.slice 22,1,24,[.slice none 0 0],[]⟩
def gV:TI:=⟨.struct [(0,12,72),(12,14,120),(26,1,3),(27,1,46),(28,1,121),(29,1,46),(30,1,43),(31,1,122)],32,384,[.int .i64 0,.int .i64 0,.int .u8 0,.int .i64 0,.int .i64 0,.string .empty,.int .i64 0,.int .i64 0,.string .empty,.int .i64 0,.int .i64 0,.slice none 0 0,.int .i64 0,.int .i64 0,.int .i64 0,.int .i64 0,.int .i64 0,.int .i64 0,.bool false,.int .i64 0,.slice none 0 0,.slice none 0 0,.bool false,.int .i64 0,.slice none 0 0,.slice none 0 0,.int .i64 0,.map none,.map none,.map none,.slice none 0 0,.slice none 0 0],[]⟩
def UD:TI:=⟨.struct [(0,12,72),(12,14,120),(26,1,3),(27,1,46),(28,1,121),(29,1,46),(30,1,43),(31,1,122)],32,384,[.int .i64 0,.int .i64 0,.int .u8 0,.int .i64 0,.int .i64 0,.string .empty,.int .i64 0,.int .i64 0,.string .empty,.int .i64 0,.int .i64 0,.slice none 0 0,.int .i64 0,.int .i64 0,.int .i64 0,.int .i64 0,.int .i64 0,.int .i64 0,.bool false,.int .i64 0,.slice none 0 0,.slice none 0 0,.bool false,.int .i64 0,.slice none 0 0,.slice none 0 0,.int .i64 0,.map none,.map none,.map none,.slice none 0 0,.slice none 0 0],[]⟩
def gW:TI:=⟨.struct [(0,1,3),(1,1,3),(2,1,43)],3,40,[.int .i64 0,.int .i64 0,.slice none 0 0],[]⟩
def gX:TI:=⟨.struct [(0,1,3),(1,1,3),(2,1,43)],3,40,[.int .i64 0,.int .i64 0,.slice none 0 0],[]⟩
def gY:TI:=⟨.other,1,0,[],[]⟩
def gZ:TI:=⟨.func,1,8,[.nilFunc],[]⟩
def ga:TI:=⟨.other,1,0,[],[]⟩
def gb:TI:=⟨.func,1,8,[.nilFunc],[]⟩
def gc:TI:=⟨.struct [(0,1,3),(1,1,3),(2,12,72),(14,1,43),(15,1,51),(16,1,3),(17,1,3)],18,192,[.int .i64 0,.int .i64 0,.int .i64 0,.int .i64 0,.int .u8 0,.int .i64 0,.int .i64 0,.string .empty,.int .i64 0,.int .i64 0,.string .empty,.int .i64 0,.int .i64 0,.slice none 0 0,.slice none 0 0,.int .i64 0,.int .i64 0,.int .i64 0],[]⟩
def MA:TI:=⟨.struct [(0,1,3),(1,1,3),(2,12,72),(14,1,43),(15,1,51),(16,1,3),(17,1,3)],18,192,[.int .i64 0,.int .i64 0,.int .i64 0,.int .i64 0,.int .u8 0,.int .i64 0,.int .i64 0,.string .empty,.int .i64 0,.int .i64 0,.string .empty,.int .i64 0,.int .i64 0,.slice none 0 0,.slice none 0 0,.int .i64 0,.int .i64 0,.int .i64 0],[]⟩
def gd:TI:=⟨.func,1,8,[.nilFunc],[]⟩
def ge:TI:=⟨.other,1,0,[],[]⟩
def gf:TI:=⟨.func,1,8,[.nilFunc],[]⟩
def gh:TI:=⟨.other,1,0,[],[]⟩
def gi:TI:=⟨.func,1,8,[.nilFunc],[]⟩
def gj:TI:=⟨.struct [(0,1,3),(1,1,3),(2,1,4),(3,1,4),(4,1,3),(5,1,37),(6,1,3),(7,1,109)],8,88,[.int .i64 0,.int .i64 0,.bool false,.bool false,.int .i64 0,.slice none 0 0,.int .i64 0,.slice none 0 0],[]⟩
def FQ:TI:=⟨.struct [(0,1,3),(1,1,3),(2,1,4),(3,1,4),(4,1,3),(5,1,37),(6,1,3),(7,1,109)],8,88,[.int .i64 0,.int .i64 0,.bool false,.bool false,.int .i64 0,.slice none 0 0,.int .i64 0,.slice none 0 0],[]⟩
def gk:TI:=⟨.struct [(0,1,3),(1,1,3)],2,16,[.int .i64 0,.int .i64 0],[]⟩
def Ex:TI:=⟨.struct [(0,1,3),(1,1,3)],2,16,[.int .i64 0,.int .i64 0],[]⟩
def gm:TI:=⟨.func,1,8,[.nilFunc],[]⟩
def gn:TI:=⟨.func,1,8,[.nilFunc],[]⟩
def gp:TI:=⟨.func,1,8,[.nilFunc],[]⟩
def gq:TI:=⟨.func,1,8,[.nilFunc],[]⟩
def gt:TI:=⟨.slice 326,1,24,[.slice none 0 0],[]⟩
def UE:TI:=⟨.map 3 326,1,8,[.map none],[]⟩
def gu:TI:=⟨.struct [(0,1,146),(1,1,147),(2,1,3),(3,1,4)],4,48,[.slice none 0 0,.map none,.int .i64 0,.bool false],[]⟩
def UF:TI:=⟨.struct [(0,1,146),(1,1,147),(2,1,3),(3,1,4)],4,48,[.slice none 0 0,.map none,.int .i64 0,.bool false],[]⟩
def gv:TI:=⟨.func,1,8,[.nilFunc],[]⟩
def gx:TI:=⟨.func,1,8,[.nilFunc],[]⟩
def gy:TI:=⟨.other,1,0,[],[]⟩
def gz:TI:=⟨.func,1,8,[.nilFunc],[]⟩
def hI:TI:=⟨.func,1,8,[.nilFunc],[]⟩
def hJ:TI:=⟨.other,1,0,[],[]⟩
def hM:TI:=⟨.func,1,8,[.nilFunc],[]⟩
def hO:TI:=⟨.other,1,0,[],[]⟩
def hP:TI:=⟨.func,1,8,[.nilFunc],[]⟩
def hR:TI:=⟨.struct [(0,1,3),(1,1,3),(2,1,3),(3,1,3)],4,32,[.int .i64 0,.int .i64 0,.int .i64 0,.int .i64 0],[]⟩
def UG:TI:=⟨.struct [(0,1,3),(1,1,3),(2,1,3),(3,1,3)],4,32,[.int .i64 0,.int .i64 0,.int .i64 0,.int .i64 0],[]⟩
def hU:TI:=⟨.func,1,8,[.nilFunc],[]⟩
def h8:TI:=⟨.func,1,8,[.nilFunc],[]⟩
def h9:TI:=⟨.other,1,0,[],[]⟩
def iA:TI:=⟨.func,1,8,[.nilFunc],[]⟩
def iB:TI:=⟨.func,1,8,[.nilFunc],[]⟩
def iC:TI:=⟨.struct [(0,12,72),(12,11,111),(23,1,3),(24,1,3)],25,264,[.int .i64 0,.int .i64 0,.int .u8 0,.int .i64 0,.int .i64 0,.string .empty,.int .i64 0,.int .i64 0,.string .empty,.int .i64 0,.int .i64 0,.slice none 0 0,.int .i64 0,.int .i64 0,.int .i64 0,.int .i64 0,.int .i64 0,.bool false,.int .i64 0,.slice none 0 0,.slice none 0 0,.bool false,.int .i64 0,.int .i64 0,.int .i64 0],[]⟩
def iD:TI:=⟨.struct [(0,12,72),(12,11,111),(23,1,3),(24,1,3)],25,264,[.int .i64 0,.int .i64 0,.int .u8 0,.int .i64 0,.int .i64 0,.string .empty,.int .i64 0,.int .i64 0,.string .empty,.int .i64 0,.int .i64 0,.slice none 0 0,.int .i64 0,.int .i64 0,.int .i64 0,.int .i64 0,.int .i64 0,.bool false,.int .i64 0,.slice none 0 0,.slice none 0 0,.bool false,.int .i64 0,.int .i64 0,.int .i64 0],[]⟩
def iE:TI:=⟨.func,1,8,[.nilFunc],[]⟩
def iF:TI:=⟨.func,1,8,[.nilFunc],[]⟩
def iG:TI:=⟨.struct [(0,1,3),(1,1,3)],2,16,[.int .i64 0,.int .i64 0],[]⟩
def iH:TI:=⟨.struct [(0,1,3),(1,1,3)],2,16,[.int .i64 0,.int .i64 0],[]⟩
def iI:TI:=⟨.func,1,8,[.nilFunc],[]⟩
def iJ:TI:=⟨.func,1,8,[.nilFunc],[]⟩
def iK:TI:=⟨.func,1,8,[.nilFunc],[]⟩
def iM:TI:=⟨.func,1,8,[.nilFunc],[]⟩
def iN:TI:=⟨.func,1,8,[.nilFunc],[]⟩
def iO:TI:=⟨.ptr 167,1,8,[.pointer none],[]⟩
def iP:TI:=⟨.func,1,8,[.nilFunc],[]⟩
def iQ:TI:=⟨.struct [(0,1,9),(1,1,3)],2,24,[.string .empty,.int .i64 0],[]⟩
def Jq:TI:=⟨.struct [(0,1,9),(1,1,3)],2,24,[.string .empty,.int .i64 0],[]⟩
def iR:TI:=⟨.other,1,0,[],[]⟩
def iS:TI:=⟨.func,1,8,[.nilFunc],[]⟩
def iT:TI:=⟨.flt,1,8,[.float .f64 0],[]⟩
def iU:TI:=⟨.func,1,8,[.nilFunc],[]⟩
def iV:TI:=⟨.other,1,0,[],[]⟩
def iW:TI:=⟨.func,1,8,[.nilFunc],[]⟩
def iX:TI:=⟨.func,1,8,[.nilFunc],[]⟩
def iY:TI:=⟨.other,1,0,[],[]⟩
def iZ:TI:=⟨.func,1,8,[.nilFunc],[]⟩
def ia:TI:=⟨.map 203 111,1,8,[.map none],[]⟩
def ic:TI:=⟨.struct [(0,256,62),(256,1,78),(257,9,26),(266,1,3),(267,1,81),(268,1,80),(269,1,24),(270,1,57),(271,1,190),(272,1,22),(273,1,3),(274,1,42)],275,1240,[.int .u32 0,.int .u32 0,.int .u32 0,.int .u32 0,.int .u32 0,.int .u32 0,.int .u32 0,.int .u32 0,.int .u32 0,.int .u32 0,.int .u32 0,.int .u32 0,.int .u32 0,.int .u32 0,.int .u32 0,.int .u32 0,.int .u32 0,.int .u32 0,.int .u32 0,.int .u32 0,.int .u32 0,.int .u32 0,.int .u32 0,.int .u32 0,.int .u32 0,.int .u32 0,.int .u32 0,.int .u32 0,.int .u32 0,.int .u32 0,.int .u32 0,.int .u32 0,.int .u32 0,.int .u32 0,.int .u32 0,.int .u32 0,.int .u32 0,.int .u32 0,.int .u32 0,.int .u32 0,.int .u32 0,.int .u32 0,.int .u32 0,.int .u32 0,.int .u32 0,.int .u32 0,.int .u32 0,.int .u32 0,.int .u32 0,.int .u32 0,.int .u32 0,.int .u32 0,.int .u32 0,.int .u32 0,.int .u32 0,.int .u32 0,.int .u32 0,.int .u32 0,.int .u32 0,.int .u32 0,.int .u32 0,.int .u32 0,.int .u32 0,.int .u32 0,.int .u32 0,.int .u32 0,.int .u32 0,.int .u32 0,.int .u32 0,.int .u32 0,.int .u32 0,.int .u32 0,.int .u32 0,.int .u32 0,.int .u32 0,.int .u32 0,.int .u32 0,.int .u32 0,.int .u32 0,.int .u32 0,.int .u32 0,.int .u32 0,.int .u32 0,.int .u32 0,.int .u32 0,.int .u32 0,.int .u32 0,.int .u32 0,.int .u32 0,.int .u32 0,.int .u32 0,.int .u32 0,.int .u32 0,.int .u32 0,.int .u32 0,.int .u32 0,.int .u32 0,.int .u32 0,.int .u32 0,.int .u32 0,.int .u32 0,.int .u32 0,.int .u32 0,.int .u32 0,.int .u32 0,.int .u32 0,.int .u32 0,.int .u32 0,.int .u32 0,.int .u32 0,.int .u32 0,.int .u32 0,.int .u32 0,.int .u32 0,.int .u32 0,.int .u32 0,.int .u32 0,.int .u32 0,.int .u32 0,.int .u32 0,.int .u32 0,.int .u32 0,.int .u32 0,.int .u32 0,.int .u32 0,.int .u32 0,.int .u32 0,.int .u32 0,.int .u32 0,.int .u32 0,.int .u32 0,.int .u32 0,.int .u32 0,.int .u32 0,.int .u32 0,.int .u32 0,.int .u32 0,.int .u32 0,.int .u32 0,.int .u32 0,.int .u32 0,.int .u32 0,.int .u32 0,.int .u32 0,.int .u32 0,.int .u32 0,.int .u32 0,.int .u32 0,.int .u32 0,.int .u32 0,.int .u32 0,.int .u32 0,.int .u32 0,.int .u32 0,.int .u32 0,.int .u32 0,.int .u32 0,.int .u32 0,.int .u32 0,.int .u32 0,.int .u32 0,.int .u32 0,.int .u32 0,.int .u32 0,.int .u32 0,.int .u32 0,.int .u32 0,.int .u32 0,.int .u32 0,.int .u32 0,.int .u32 0,.int .u32 0,.int .u32 0,.int .u32 0,.int .u32 0,.int .u32 0,.int .u32 0,.int .u32 0,.int .u32 0,.int .u32 0,.int .u32 0,.int .u32 0,.int .u32 0,.int .u32 0,.int .u32 0,.int .u32 0,.int .u32 0,.int .u32 0,.int .u32 0,.int .u32 0,.int .u32 0,.int .u32 0,.int .u32 0,.int .u32 0,.int .u32 0,.int .u32 0,.int .u32 0,.int .u32 0,.int .u32 0,.int .u32 0,.int .u32 0,.int .u32 0,.int .u32 0,.int .u32 0,.int .u32 0,.int .u32 0,.int .u32 0,.int .u32 0,.int .u32 0,.int .u32 0,.int .u32 0,.int .u32 0,.int .u32 0,.int .u32 0,.int .u32 0,.int .u32 0,.int .u32 0,.int .u32 0,.int .u32 0,.int .u32 0,.int .u32 0,.int .u32 0,.int .u32 0,.int .u32 0,.int .u32 0,.int .u32 0,.int .u32 0,.int .u32 0,.int .u32 0,.int .u32 0,.int .u32 0,.int .u32 0,.int .u32 0,.int .u32 0,.int .u32 0,.int .u32 0,.int .u32 0,.int .u32 0,.int .u32 0,.int .u32 0,.int .u32 0,.int .u32 0,.int .u32 0,.int .u32 0,.int .u32 0,.int .u32 0,.int .u32 0,.int .u32 0,.int .u32 0,.int .u32 0,.int .u32 0,.int .u32 0,.int .u32 0,.int .u32 0,.int .u32 0,.int .u32 0,.pointer none,.int .i64 0,.int .i64 0,.int .i64 0,.int .i64 0,.int .i64 0,.int .i64 0,.int .i64 0,.int .i64 0,.int .i64 0,.int .i64 0,.slice none 0 0,.slice none 0 0,.pointer none,.pointer none,.map none,.slice none 0 0,.int .i64 0,.slice none 0 0],[]⟩
def UH:TI:=⟨.struct [(0,256,62),(256,1,78),(257,9,26),(266,1,3),(267,1,81),(268,1,80),(269,1,24),(270,1,57),(271,1,190),(272,1,22),(273,1,3),(274,1,42)],275,1240,[.int .u32 0,.int .u32 0,.int .u32 0,.int .u32 0,.int .u32 0,.int .u32 0,.int .u32 0,.int .u32 0,.int .u32 0,.int .u32 0,.int .u32 0,.int .u32 0,.int .u32 0,.int .u32 0,.int .u32 0,.int .u32 0,.int .u32 0,.int .u32 0,.int .u32 0,.int .u32 0,.int .u32 0,.int .u32 0,.int .u32 0,.int .u32 0,.int .u32 0,.int .u32 0,.int .u32 0,.int .u32 0,.int .u32 0,.int .u32 0,.int .u32 0,.int .u32 0,.int .u32 0,.int .u32 0,.int .u32 0,.int .u32 0,.int .u32 0,.int .u32 0,.int .u32 0,.int .u32 0,.int .u32 0,.int .u32 0,.int .u32 0,.int .u32 0,.int .u32 0,.int .u32 0,.int .u32 0,.int .u32 0,.int .u32 0,.int .u32 0,.int .u32 0,.int .u32 0,.int .u32 0,.int .u32 0,.int .u32 0,.int .u32 0,.int .u32 0,.int .u32 0,.int .u32 0,.int .u32 0,.int .u32 0,.int .u32 0,.int .u32 0,.int .u32 0,.int .u32 0,.int .u32 0,.int .u32 0,.int .u32 0,.int .u32 0,.int .u32 0,.int .u32 0,.int .u32 0,.int .u32 0,.int .u32 0,.int .u32 0,.int .u32 0,.int .u32 0,.int .u32 0,.int .u32 0,.int .u32 0,.int .u32 0,.int .u32 0,.int .u32 0,.int .u32 0,.int .u32 0,.int .u32 0,.int .u32 0,.int .u32 0,.int .u32 0,.int .u32 0,.int .u32 0,.int .u32 0,.int .u32 0,.int .u32 0,.int .u32 0,.int .u32 0,.int .u32 0,.int .u32 0,.int .u32 0,.int .u32 0,.int .u32 0,.int .u32 0,.int .u32 0,.int .u32 0,.int .u32 0,.int .u32 0,.int .u32 0,.int .u32 0,.int .u32 0,.int .u32 0,.int .u32 0,.int .u32 0,.int .u32 0,.int .u32 0,.int .u32 0,.int .u32 0,.int .u32 0,.int .u32 0,.int .u32 0,.int .u32 0,.int .u32 0,.int .u32 0,.int .u32 0,.int .u32 0,.int .u32 0,.int .u32 0,.int .u32 0,.int .u32 0,.int .u32 0,.int .u32 0,.int .u32 0,.int .u32 0,.int .u32 0,.int .u32 0,.int .u32 0,.int .u32 0,.int .u32 0,.int .u32 0,.int .u32 0,.int .u32 0,.int .u32 0,.int .u32 0,.int .u32 0,.int .u32 0,.int .u32 0,.int .u32 0,.int .u32 0,.int .u32 0,.int .u32 0,.int .u32 0,.int .u32 0,.int .u32 0,.int .u32 0,.int .u32 0,.int .u32 0,.int .u32 0,.int .u32 0,.int .u32 0,.int .u32 0,.int .u32 0,.int .u32 0,.int .u32 0,.int .u32 0,.int .u32 0,.int .u32 0,.int .u32 0,.int .u32 0,.int .u32 0,.int .u32 0,.int .u32 0,.int .u32 0,.int .u32 0,.int .u32 0,.int .u32 0,.int .u32 0,.int .u32 0,.int .u32 0,.int .u32 0,.int .u32 0,.int .u32 0,.int .u32 0,.int .u32 0,.int .u32 0,.int .u32 0,.int .u32 0,.int .u32 0,.int .u32 0,.int .u32 0,.int .u32 0,.int .u32 0,.int .u32 0,.int .u32 0,.int .u32 0,.int .u32 0,.int .u32 0,.int .u32 0,.int .u32 0,.int .u32 0,.int .u32 0,.int .u32 0,.int .u32 0,.int .u32 0,.int .u32 0,.int .u32 0,.int .u32 0,.int .u32 0,.int .u32 0,.int .u32 0,.int .u32 0,.int .u32 0,.int .u32 0,.int .u32 0,.int .u32 0,.int .u32 0,.int .u32 0,.int .u32 0,.int .u32 0,.int .u32 0,.int .u32 0,.int .u32 0,.int .u32 0,.int .u32 0,.int .u32 0,.int .u32 0,.int .u32 0,.int .u32 0,.int .u32 0,.int .u32 0,.int .u32 0,.int .u32 0,.int .u32 0,.int .u32 0,.int .u32 0,.int .u32 0,.int .u32 0,.int .u32 0,.int .u32 0,.int .u32 0,.int .u32 0,.int .u32 0,.int .u32 0,.int .u32 0,.int .u32 0,.int .u32 0,.int .u32 0,.int .u32 0,.int .u32 0,.int .u32 0,.int .u32 0,.int .u32 0,.int .u32 0,.int .u32 0,.int .u32 0,.int .u32 0,.int .u32 0,.int .u32 0,.pointer none,.int .i64 0,.int .i64 0,.int .i64 0,.int .i64 0,.int .i64 0,.int .i64 0,.int .i64 0,.int .i64 0,.int .i64 0,.int .i64 0,.slice none 0 0,.slice none 0 0,.pointer none,.pointer none,.map none,.slice none 0 0,.int .i64 0,.slice none 0 0],[]⟩
def ie:TI:=⟨.other,1,0,[],[]⟩
def ig:TI:=⟨.func,1,8,[.nilFunc],[]⟩
def RJ:TI:=⟨.ptr 345,1,8,[.pointer none],[("Add",202),("Div",457),("Inv",331),("Lay",563),("Mul",605),("cooperage/field.is",328)]⟩
def ii:TI:=⟨.func,1,8,[.nilFunc],[]⟩
def RK:TI:=⟨.ptr 350,1,8,[.pointer none],[("All",198),("Do",306),("Handle",177),("Life",679),("Over",173),("cooperage/node.abort",444),("cooperage/node.commit",443),("cooperage/node.drop",447),("cooperage/node.infos",527),("cooperage/node.list",446),("cooperage/node.prepare",442),("cooperage/node.read",445),("cooperage/node.told",441),("cooperage/node.up",304)]⟩
def ij:TI:=⟨.other,1,0,[],[]⟩
def ik:TI:=⟨.func,1,8,[.nilFunc],[]⟩
def il:TI:=⟨.func,1,8,[.nilFunc],[]⟩
def im:TI:=⟨.struct [(0,1,3),(1,1,3),(2,1,22)],3,40,[.int .i64 0,.int .i64 0,.slice none 0 0],[]⟩
def HC:TI:=⟨.struct [(0,1,3),(1,1,3),(2,1,22)],3,40,[.int .i64 0,.int .i64 0,.slice none 0 0],[]⟩
def OQ:TI:=⟨.arr 2 3,2,16,[.int .i64 0,.int .i64 0],[]⟩
def io:TI:=⟨.other,1,0,[],[]⟩
def ip:TI:=⟨.func,1,8,[.nilFunc],[]⟩
def iq:TI:=⟨.func,1,8,[.nilFunc],[]⟩
def ir:TI:=⟨.func,1,8,[.nilFunc],[]⟩
def iu:TI:=⟨.other,1,0,[],[]⟩
def iv:TI:=⟨.func,1,8,[.nilFunc],[]⟩
def iw:TI:=⟨.func,1,8,[.nilFunc],[]⟩
def iy:TI:=⟨.struct [(0,1,3),(1,1,3),(2,1,3),(3,1,3),(4,1,43)],5,56,[.int .i64 0,.int .i64 0,.int .i64 0,.int .i64 0,.slice none 0 0],[]⟩
def MB:TI:=⟨.struct [(0,1,3),(1,1,3),(2,1,3),(3,1,3),(4,1,43)],5,56,[.int .i64 0,.int .i64 0,.int .i64 0,.int .i64 0,.slice none 0 0],[]⟩
def iz:TI:=⟨.other,1,0,[],[]⟩
def i5:TI:=⟨.func,1,8,[.nilFunc],[]⟩
def i6:TI:=⟨.other,1,0,[],[]⟩
def i7:TI:=⟨.func,1,8,[.nilFunc],[]⟩
def i9:TI:=⟨.other,1,0,[],[]⟩
def jA:TI:=⟨.func,1,8,[.nilFunc],[]⟩
def jB:TI:=⟨.func,1,8,[.nilFunc],[]⟩
def jC:TI:=⟨.map 3 236,1,8,[.map none],[]⟩
def jD:TI:=⟨.map 3 233,1,8,[.map none],[]⟩
def jE:TI:=⟨.struct [(0,1,78),(1,1,27),(2,1,36),(3,4,160),(7,1,2),(8,1,3),(9,1,3),(10,1,220),(11,1,221),(12,1,4)],13,120,[.pointer none,.pointer none,.slice none 0 0,.int .i64 0,.int .i64 0,.int .i64 0,.int .i64 0,.int .i64 0,.int .i64 0,.int .i64 0,.map none,.map none,.bool false],[]⟩
def UI:TI:=⟨.struct [(0,1,78),(1,1,27),(2,1,36),(3,4,160),(7,1,2),(8,1,3),(9,1,3),(10,1,220),(11,1,221),(12,1,4)],13,120,[.pointer none,.pointer none,.slice none 0 0,.int .i64 0,.int .i64 0,.int .i64 0,.int .i64 0,.int .i64 0,.int .i64 0,.int .i64 0,.map none,.map none,.bool false],[]⟩
def jF:TI:=⟨.int .u8,1,1,[.int .u8 0],[]⟩
def jG:TI:=⟨.slice 382,1,24,[.slice none 0 0],[]⟩
def jH:TI:=⟨.struct [(0,1,3),(1,1,3),(2,1,224),(3,1,51),(4,1,225),(5,1,22),(6,1,3)],7,88,[.int .i64 0,.int .i64 0,.int .u8 0,.int .i64 0,.slice none 0 0,.slice none 0 0,.int .i64 0],[]⟩
def DR:TI:=⟨.struct [(0,1,3),(1,1,3),(2,1,224),(3,1,51),(4,1,225),(5,1,22),(6,1,3)],7,88,[.int .i64 0,.int .i64 0,.int .u8 0,.int .i64 0,.slice none 0 0,.slice none 0 0,.int .i64 0],[]⟩
def jI:TI:=⟨.other,1,0,[],[]⟩
def jJ:TI:=⟨.func,1,8,[.nilFunc],[]⟩
def jK:TI:=⟨.struct [(0,1,3),(1,1,224),(2,1,3)],3,24,[.int .i64 0,.int .u8 0,.int .i64 0],[]⟩
def MC:TI:=⟨.struct [(0,1,3),(1,1,224),(2,1,3)],3,24,[.int .i64 0,.int .u8 0,.int .i64 0],[]⟩
def jL:TI:=⟨.struct [(0,1,3),(1,3,231),(4,1,3),(5,1,2)],6,48,[.int .i64 0,.int .i64 0,.int .u8 0,.int .i64 0,.int .i64 0,.int .i64 0],[]⟩
def OR:TI:=⟨.struct [(0,1,3),(1,3,231),(4,1,3),(5,1,2)],6,48,[.int .i64 0,.int .i64 0,.int .u8 0,.int .i64 0,.int .i64 0,.int .i64 0],[]⟩
def jM:TI:=⟨.other,1,0,[],[]⟩
def jN:TI:=⟨.iface,1,16,[.nilIface],[]⟩
def jO:TI:=⟨.iface,1,16,[.nilIface],[]⟩
def jP:TI:=⟨.func,1,8,[.nilFunc],[]⟩
def jQ:TI:=⟨.ptr 245,1,8,[.pointer none],[("cooperage/call.blob",131),("cooperage/call.flag",430),("cooperage/call.number",236),("cooperage/call.numbers",130)]⟩
def jR:TI:=⟨.other,1,0,[],[]⟩
def jT:TI:=⟨.func,1,8,[.nilFunc],[]⟩
def jU:TI:=⟨.func,1,8,[.nilFunc],[]⟩
def MD:TI:=⟨.ptr 3,1,8,[.pointer none],[]⟩
def jV:TI:=⟨.func,1,8,[.nilFunc],[]⟩
def jW:TI:=⟨.struct [(0,1,22),(1,1,3),(2,1,4)],3,40,[.slice none 0 0,.int .i64 0,.bool false],[]⟩
def UJ:TI:=⟨.struct [(0,1,22),(1,1,3),(2,1,4)],3,40,[.slice none 0 0,.int .i64 0,.bool false],[]⟩
def jX:TI:=⟨.func,1,8,[.nilFunc],[]⟩
def jY:TI:=⟨.func,1,8,[.nilFunc],[]⟩
def jZ:TI:=⟨.slice 231,1,24,[.slice none 0 0],[]⟩
def ja:TI:=⟨.func,1,8,[.nilFunc],[]⟩
def jb:TI:=⟨.func,1,8,[.nilFunc],[]⟩
def jc:TI:=⟨.func,1,8,[.nilFunc],[]⟩
def jd:TI:=⟨.func,1,8,[.nilFunc],[]⟩
def je:TI:=⟨.func,1,8,[.nilFunc],[]⟩
def jf:TI:=⟨.struct [(0,1,3),(1,1,3),(2,1,224),(3,1,3),(4,1,3),(5,1,3),(6,1,22)],7,72,[.int .i64 0,.int .i64 0,.int .u8 0,.int .i64 0,.int .i64 0,.int .i64 0,.slice none 0 0],[]⟩
def ME:TI:=⟨.struct [(0,1,3),(1,1,3),(2,1,224),(3,1,3),(4,1,3),(5,1,3),(6,1,22)],7,72,[.int .i64 0,.int .i64 0,.int .u8 0,.int .i64 0,.int .i64 0,.int .i64 0,.slice none 0 0],[]⟩
def jg:TI:=⟨.other,1,0,[],[]⟩
def jh:TI:=⟨.func,1,8,[.nilFunc],[]⟩
def ji:TI:=⟨.func,1,8,[.nilFunc],[]⟩
def jj:TI:=⟨.other,1,0,[],[]⟩
def jk:TI:=⟨.func,1,8,[.nilFunc],[]⟩
def jl:TI:=⟨.func,1,8,[.nilFunc],[]⟩
def jm:TI:=⟨.func,1,8,[.nilFunc],[]⟩
def jn:TI:=⟨.func,1,8,[.nilFunc],[]⟩
def jo:TI:=⟨.func,1,8,[.nilFunc],[]⟩
def jp:TI:=⟨.func,1,8,[.nilFunc],[]⟩
def jq:TI:=⟨.struct [(0,1,3),(1,1,43)],2,32,[.int .i64 0,.slice none 0 0],[]⟩
def Jr:TI:=⟨.struct [(0,1,3),(1,1,43)],2,32,[.int .i64 0,.slice none 0 0],[]⟩
def jr:TI:=⟨.other,1,0,[],[]⟩
def js:TI:=⟨.func,1,8,[.nilFunc],[]⟩
def jt:TI:=⟨.func,1,8,[.nilFunc],[]⟩
def ju:TI:=⟨.func,1,8,[.nilFunc],[]⟩
def jv:TI:=⟨.func,1,8,[.nilFunc],[]⟩
def jw:TI:=⟨.func,1,8,[.nilFunc],[]⟩
def jx:TI:=⟨.func,1,8,[.nilFunc],[]⟩
def jy:TI:=⟨.func,1,8,[.nilFunc],[]⟩
def jz:TI:=⟨.int .u64,1,8,[.int .u64 0],[]⟩
def j0:TI:=⟨.slice 22,1,24,[.slice none 0 0],[]⟩
def j5:TI:=⟨.struct [(0,1,195),(1,1,3),(2,1,277)],3,40,[.pointer none,.int .i64 0,.slice none 0 0],[]⟩
def UK:TI:=⟨.struct [(0,1,195),(1,1,3),(2,1,277)],3,40,[.pointer none,.int .i64 0,.slice none 0 0],[]⟩
def j7:TI:=⟨.ptr 282,1,8,[.pointer none],[("cooperage/journal.bytes",277),("cooperage/journal.halved",161),("cooperage/journal.sector",276)]⟩
def j8:TI:=⟨.struct [(0,1,57),(1,1,51)],2,16,[.pointer none,.int .i64 0],[]⟩
def UL:TI:=⟨.struct [(0,1,57),(1,1,51)],2,16,[.pointer none,.int .i64 0],[]⟩
def j9:TI:=⟨.struct [(0,1,57),(1,1,3),(2,1,3),(3,1,3),(4,1,3),(5,1,22),(6,1,122),(7,1,4)],8,96,[.pointer none,.int .i64 0,.int .i64 0,.int .i64 0,.int .i64 0,.slice none 0 0,.slice none 0 0,.bool false],[]⟩
def RM:TI:=⟨.struct [(0,1,57),(1,1,3),(2,1,3),(3,1,3),(4,1,3),(5,1,22),(6,1,122),(7,1,4)],8,96,[.pointer none,.int .i64 0,.int .i64 0,.int .i64 0,.int .i64 0,.slice none 0 0,.slice none 0 0,.bool false],[]⟩
def kA:TI:=⟨.func,1,8,[.nilFunc],[]⟩
def kB:TI:=⟨.func,1,8,[.nilFunc],[]⟩
def kC:TI:=⟨.func,1,8,[.nilFunc],[]⟩
def kD:TI:=⟨.func,1,8,[.nilFunc],[]⟩
def kE:TI:=⟨.other,1,0,[],[]⟩
def kF:TI:=⟨.func,1,8,[.nilFunc],[]⟩
def kG:TI:=⟨.func,1,8,[.nilFunc],[]⟩
def kH:TI:=⟨.func,1,8,[.nilFunc],[]⟩
def kI:TI:=⟨.func,1,8,[.nilFunc],[]⟩
def kJ:TI:=⟨.func,1,8,[.nilFunc],[]⟩
def kK:TI:=⟨.other,1,0,[],[]⟩
def kL:TI:=⟨.func,1,8,[.nilFunc],[]⟩
def kM:TI:=⟨.func,1,8,[.nilFunc],[]⟩
def kN:TI:=⟨.struct [(0,1,3),(1,1,3),(2,1,42),(3,1,46)],4,48,[.int .i64 0,.int .i64 0,.slice none 0 0,.map none],[]⟩
def kO:TI:=⟨.struct [(0,1,3),(1,1,3),(2,1,42),(3,1,46)],4,48,[.int .i64 0,.int .i64 0,.slice none 0 0,.map none],[]⟩
def kQ:TI:=⟨.other,1,0,[],[]⟩
def kR:TI:=⟨.func,1,8,[.nilFunc],[]⟩
def kS:TI:=⟨.func,1,8,[.nilFunc],[]⟩
def kT:TI:=⟨.func,1,8,[.nilFunc],[]⟩
def kU:TI:=⟨.func,1,8,[.nilFunc],[]⟩
def kW:TI:=⟨.func,1,8,[.nilFunc],[]⟩
def kX:TI:=⟨.struct [(0,2,32),(2,1,122)],3,56,[.slice none 0 0,.int .i64 0,.slice none 0 0],[]⟩
def MF:TI:=⟨.struct [(0,2,32),(2,1,122)],3,56,[.slice none 0 0,.int .i64 0,.slice none 0 0],[]⟩
def kY:TI:=⟨.func,1,8,[.nilFunc],[]⟩
def kZ:TI:=⟨.struct [(0,1,67),(1,3,307)],4,80,[.slice none 0 0,.slice none 0 0,.int .i64 0,.slice none 0 0],[]⟩
def kh:TI:=⟨.struct [(0,1,67),(1,3,307)],4,80,[.slice none 0 0,.slice none 0 0,.int .i64 0,.slice none 0 0],[("cooperage/linear.next",185),("cooperage/linear.whole",183)]⟩
def kj:TI:=⟨.slice 310,1,24,[.slice none 0 0],[]⟩
def kl:TI:=⟨.func,1,8,[.nilFunc],[]⟩
def km:TI:=⟨.func,1,8,[.nilFunc],[]⟩
def kn:TI:=⟨.other,1,0,[],[]⟩
def ko:TI:=⟨.func,1,8,[.nilFunc],[]⟩
def kp:TI:=⟨.func,1,8,[.nilFunc],[]⟩
def kq:TI:=⟨.func,1,8,[.nilFunc],[]⟩
def UM:TI:=⟨.arr 3 22,3,72,[.slice none 0 0,.slice none 0 0,.slice none 0 0],[]⟩
def kr:TI:=⟨.func,1,8,[.nilFunc],[]⟩
def kv:TI:=⟨.func,1,8,[.nilFunc],[]⟩
def kz:TI:=⟨.func,1,8,[.nilFunc],[]⟩
def lA:TI:=⟨.func,1,8,[.nilFunc],[]⟩
def lB:TI:=⟨.func,1,8,[.nilFunc],[]⟩
def lC:TI:=⟨.func,1,8,[.nilFunc],[]⟩
def lD:TI:=⟨.arr 64 5,64,64,Ao [.int .u8 0] 64,[]⟩
def RN:TI:=⟨.arr 64 5,64,64,Ao [.int .u8 0] 64,[]⟩
def lE:TI:=⟨.slice 331,1,24,[.slice none 0 0],[]⟩
def lF:TI:=⟨.func,1,8,[.nilFunc],[]⟩
def lG:TI:=⟨.int .u8,1,1,[.int .u8 0],[]⟩
def lI:TI:=⟨.struct [(0,1,3),(1,1,3),(2,1,3),(3,1,329),(4,1,22)],5,56,[.int .i64 0,.int .i64 0,.int .i64 0,.int .u8 0,.slice none 0 0],[]⟩
def GN:TI:=⟨.struct [(0,1,3),(1,1,3),(2,1,3),(3,1,329),(4,1,22)],5,56,[.int .i64 0,.int .i64 0,.int .i64 0,.int .u8 0,.slice none 0 0],[]⟩
def lJ:TI:=⟨.func,1,8,[.nilFunc],[]⟩
def lK:TI:=⟨.func,1,8,[.nilFunc],[]⟩
def lL:TI:=⟨.other,1,0,[],[]⟩
def lM:TI:=⟨.func,1,8,[.nilFunc],[]⟩
def MG:TI:=⟨.arr 3 3,3,24,[.int .i64 0,.int .i64 0,.int .i64 0],[]⟩
def UN:TI:=⟨.arr 4 336,12,96,Ao [.int .i64 0] 12,[]⟩
def lN:TI:=⟨.func,1,8,[.nilFunc],[]⟩
def lO:TI:=⟨.other,1,0,[],[]⟩
def lP:TI:=⟨.func,1,8,[.nilFunc],[]⟩
def lQ:TI:=⟨.func,1,8,[.nilFunc],[]⟩
def lR:TI:=⟨.arr 510 5,510,510,Ao [.int .u8 0] 510,[]⟩
def lS:TI:=⟨.arr 256 3,256,2048,Ao [.int .i64 0] 256,[]⟩
def lT:TI:=⟨.struct [(0,1,4),(1,510,342),(511,256,343)],767,2560,[.bool false,.int .u8 0,.int .u8 0,.int .u8 0,.int .u8 0,.int .u8 0,.int .u8 0,.int .u8 0,.int .u8 0,.int .u8 0,.int .u8 0,.int .u8 0,.int .u8 0,.int .u8 0,.int .u8 0,.int .u8 0,.int .u8 0,.int .u8 0,.int .u8 0,.int .u8 0,.int .u8 0,.int .u8 0,.int .u8 0,.int .u8 0,.int .u8 0,.int .u8 0,.int .u8 0,.int .u8 0,.int .u8 0,.int .u8 0,.int .u8 0,.int .u8 0,.int .u8 0,.int .u8 0,.int .u8 0,.int .u8 0,.int .u8 0,.int .u8 0,.int .u8 0,.int .u8 0,.int .u8 0,.int .u8 0,.int .u8 0,.int .u8 0,.int .u8 0,.int .u8 0,.int .u8 0,.int .u8 0,.int .u8 0,.int .u8 0,.int .u8 0,.int .u8 0,.int .u8 0,.int .u8 0,.int .u8 0,.int .u8 0,.int .u8 0,.int .u8 0,.int .u8 0,.int .u8 0,.int .u8 0,.int .u8 0,.int .u8 0,.int .u8 0,.int .u8 0,.int .u8 0,.int .u8 0,.int .u8 0,.int .u8 0,.int .u8 0,.int .u8 0,.int .u8 0,.int .u8 0,.int .u8 0,.int .u8 0,.int .u8 0,.int .u8 0,.int .u8 0,.int .u8 0,.int .u8 0,.int .u8 0,.int .u8 0,.int .u8 0,.int .u8 0,.int .u8 0,.int .u8 0,.int .u8 0,.int .u8 0,.int .u8 0,.int .u8 0,.int .u8 0,.int .u8 0,.int .u8 0,.int .u8 0,.int .u8 0,.int .u8 0,.int .u8 0,.int .u8 0,.int .u8 0,.int .u8 0,.int .u8 0,.int .u8 0,.int .u8 0,.int .u8 0,.int .u8 0,.int .u8 0,.int .u8 0,.int .u8 0,.int .u8 0,.int .u8 0,.int .u8 0,.int .u8 0,.int .u8 0,.int .u8 0,.int .u8 0,.int .u8 0,.int .u8 0,.int .u8 0,.int .u8 0,.int .u8 0,.int .u8 0,.int .u8 0,.int .u8 0,.int .u8 0,.int .u8 0,.int .u8 0,.int .u8 0,.int .u8 0,.int .u8 0,.int .u8 0,.int .u8 0,.int .u8 0,.int .u8 0,.int .u8 0,.int .u8 0,.int .u8 0,.int .u8 0,.int .u8 0,.int .u8 0,.int .u8 0,.int .u8 0,.int .u8 0,.int .u8 0,.int .u8 0,.int .u8 0,.int .u8 0,.int .u8 0,.int .u8 0,.int .u8 0,.int .u8 0,.int .u8 0,.int .u8 0,.int .u8 0,.int .u8 0,.int .u8 0,.int .u8 0,.int .u8 0,.int .u8 0,.int .u8 0,.int .u8 0,.int .u8 0,.int .u8 0,.int .u8 0,.int .u8 0,.int .u8 0,.int .u8 0,.int .u8 0,.int .u8 0,.int .u8 0,.int .u8 0,.int .u8 0,.int .u8 0,.int .u8 0,.int .u8 0,.int .u8 0,.int .u8 0,.int .u8 0,.int .u8 0,.int .u8 0,.int .u8 0,.int .u8 0,.int .u8 0,.int .u8 0,.int .u8 0,.int .u8 0,.int .u8 0,.int .u8 0,.int .u8 0,.int .u8 0,.int .u8 0,.int .u8 0,.int .u8 0,.int .u8 0,.int .u8 0,.int .u8 0,.int .u8 0,.int .u8 0,.int .u8 0,.int .u8 0,.int .u8 0,.int .u8 0,.int .u8 0,.int .u8 0,.int .u8 0,.int .u8 0,.int .u8 0,.int .u8 0,.int .u8 0,.int .u8 0,.int .u8 0,.int .u8 0,.int .u8 0,.int .u8 0,.int .u8 0,.int .u8 0,.int .u8 0,.int .u8 0,.int .u8 0,.int .u8 0,.int .u8 0,.int .u8 0,.int .u8 0,.int .u8 0,.int .u8 0,.int .u8 0,.int .u8 0,.int .u8 0,.int .u8 0,.int .u8 0,.int .u8 0,.int .u8 0,.int .u8 0,.int .u8 0,.int .u8 0,.int .u8 0,.int .u8 0,.int .u8 0,.int .u8 0,.int .u8 0,.int .u8 0,.int .u8 0,.int .u8 0,.int .u8 0,.int .u8 0,.int .u8 0,.int .u8 0,.int .u8 0,.int .u8 0,.int .u8 0,.int .u8 0,.int .u8 0,.int .u8 0,.int .u8 0,.int .u8 0,.int .u8 0,.int .u8 0,.int .u8 0,.int .u8 0,.int .u8 0,.int .u8 0,.int .u8 0,.int .u8 0,.int .u8 0,.int .u8 0,.int .u8 0,.int .u8 0,.int .u8 0,.int .u8 0,.int .u8 0,.int .u8 0,.int .u8 0,.int .u8 0,.int .u8 0,.int .u8 0,.int .u8 0,.int .u8 0,.int .u8 0,.int .u8 0,.int .u8 0,.int .u8 0,.int .u8 0,.int .u8 0,.int .u8 0,.int .u8 0,.int .u8 0,.int .u8 0,.int .u8 0,.int .u8 0,.int .u8 0,.int .u8 0,.int .u8 0,.int .u8 0,.int .u8 0,.int .u8 0,.int .u8 0,.int .u8 0,.int .u8 0,.int .u8 0,.int .u8 0,.int .u8 0,.int .u8 0,.int .u8 0,.int .u8 0,.int .u8 0,.int .u8 0,.int .u8 0,.int .u8 0,.int .u8 0,.int .u8 0,.int .u8 0,.int .u8 0,.int .u8 0,.int .u8 0,.int .u8 0,.int .u8 0,.int .u8 0,.int .u8 0,.int .u8 0,.int .u8 0,.int .u8 0,.int .u8 0,.int .u8 0,.int .u8 0,.int .u8 0,.int .u8 0,.int .u8 0,.int .u8 0,.int .u8 0,.int .u8 0,.int .u8 0,.int .u8 0,.int .u8 0,.int .u8 0,.int .u8 0,.int .u8 0,.int .u8 0,.int .u8 0,.int .u8 0,.int .u8 0,.int .u8 0,.int .u8 0,.int .u8 0,.int .u8 0,.int .u8 0,.int .u8 0,.int .u8 0,.int .u8 0,.int .u8 0,.int .u8 0,.int .u8 0,.int .u8 0,.int .u8 0,.int .u8 0,.int .u8 0,.int .u8 0,.int .u8 0,.int .u8 0,.int .u8 0,.int .u8 0,.int .u8 0,.int .u8 0,.int .u8 0,.int .u8 0,.int .u8 0,.int .u8 0,.int .u8 0,.int .u8 0,.int .u8 0,.int .u8 0,.int .u8 0,.int .u8 0,.int .u8 0,.int .u8 0,.int .u8 0,.int .u8 0,.int .u8 0,.int .u8 0,.int .u8 0,.int .u8 0,.int .u8 0,.int .u8 0,.int .u8 0,.int .u8 0,.int .u8 0,.int .u8 0,.int .u8 0,.int .u8 0,.int .u8 0,.int .u8 0,.int .u8 0,.int .u8 0,.int .u8 0,.int .u8 0,.int .u8 0,.int .u8 0,.int .u8 0,.int .u8 0,.int .u8 0,.int .u8 0,.int .u8 0,.int .u8 0,.int .u8 0,.int .u8 0,.int .u8 0,.int .u8 0,.int .u8 0,.int .u8 0,.int .u8 0,.int .u8 0,.int .u8 0,.int .u8 0,.int .u8 0,.int .u8 0,.int .u8 0,.int .u8 0,.int .u8 0,.int .u8 0,.int .u8 0,.int .u8 0,.int .u8 0,.int .u8 0,.int .u8 0,.int .u8 0,.int .u8 0,.int .u8 0,.int .u8 0,.int .u8 0,.int .u8 0,.int .u8 0,.int .u8 0,.int .u8 0,.int .u8 0,.int .u8 0,.int .u8 0,.int .u8 0,.int .u8 0,.int .u8 0,.int .u8 0,.int .u8 0,.int .u8 0,.int .u8 0,.int .u8 0,.int .u8 0,.int .u8 0,.int .u8 0,.int .u8 0,.int .u8 0,.int .u8 0,.int .u8 0,.int .u8 0,.int .u8 0,.int .u8 0,.int .u8 0,.int .u8 0,.int .u8 0,.int .u8 0,.int .u8 0,.int .u8 0,.int .u8 0,.int .u8 0,.int .u8 0,.int .u8 0,.int .u8 0,.int .u8 0,.int .u8 0,.int .u8 0,.int .u8 0,.int .u8 0,.int .u8 0,.int .u8 0,.int .u8 0,.int .u8 0,.int .u8 0,.int .u8 0,.int .u8 0,.int .u8 0,.int .u8 0,.int .u8 0,.int .u8 0,.int .u8 0,.int .u8 0,.int .u8 0,.int .u8 0,.int .u8 0,.int .u8 0,.int .u8 0,.int .u8 0,.int .u8 0,.int .u8 0,.int .u8 0,.int .u8 0,.int .u8 0,.int .u8 0,.int .u8 0,.int .u8 0,.int .u8 0,.int .u8 0,.int .u8 0,.int .u8 0,.int .u8 0,.int .u8 0,.int .u8 0,.int .u8 0,.int .u8 0,.int .u8 0,.int .u8 0,.int .u8 0,.int .u8 0,.int .u8 0,.int .u8 0,.int .u8 0,.int .i64 0,.int .i64 0,.int .i64 0,.int .i64 0,.int .i64 0,.int .i64 0,.int .i64 0,.int .i64 0,.int .i64 0,.int .i64 0,.int .i64 0,.int .i64 0,.int .i64 0,.int .i64 0,.int .i64 0,.int .i64 0,.int .i64 0,.int .i64 0,.int .i64 0,.int .i64 0,.int .i64 0,.int .i64 0,.int .i64 0,.int .i64 0,.int .i64 0,.int .i64 0,.int .i64 0,.int .i64 0,.int .i64 0,.int .i64 0,.int .i64 0,.int .i64 0,.int .i64 0,.int .i64 0,.int .i64 0,.int .i64 0,.int .i64 0,.int .i64 0,.int .i64 0,.int .i64 0,.int .i64 0,.int .i64 0,.int .i64 0,.int .i64 0,.int .i64 0,.int .i64 0,.int .i64 0,.int .i64 0,.int .i64 0,.int .i64 0,.int .i64 0,.int .i64 0,.int .i64 0,.int .i64 0,.int .i64 0,.int .i64 0,.int .i64 0,.int .i64 0,.int .i64 0,.int .i64 0,.int .i64 0,.int .i64 0,.int .i64 0,.int .i64 0,.int .i64 0,.int .i64 0,.int .i64 0,.int .i64 0,.int .i64 0,.int .i64 0,.int .i64 0,.int .i64 0,.int .i64 0,.int .i64 0,.int .i64 0,.int .i64 0,.int .i64 0,.int .i64 0,.int .i64 0,.int .i64 0,.int .i64 0,.int .i64 0,.int .i64 0,.int .i64 0,.int .i64 0,.int .i64 0,.int .i64 0,.int .i64 0,.int .i64 0,.int .i64 0,.int .i64 0,.int .i64 0,.int .i64 0,.int .i64 0,.int .i64 0,.int .i64 0,.int .i64 0,.int .i64 0,.int .i64 0,.int .i64 0,.int .i64 0,.int .i64 0,.int .i64 0,.int .i64 0,.int .i64 0,.int .i64 0,.int .i64 0,.int .i64 0,.int .i64 0,.int .i64 0,.int .i64 0,.int .i64 0,.int .i64 0,.int .i64 0,.int .i64 0,.int .i64 0,.int .i64 0,.int .i64 0,.int .i64 0,.int .i64 0,.int .i64 0,.int .i64 0,.int .i64 0,.int .i64 0,.int .i64 0,.int .i64 0,.int .i64 0,.int .i64 0,.int .i64 0,.int .i64 0,.int .i64 0,.int .i64 0,.int .i64 0,.int .i64 0,.int .i64 0,.int .i64 0,.int .i64 0,.int .i64 0,.int .i64 0,.int .i64 0,.int .i64 0,.int .i64 0,.int .i64 0,.int .i64 0,.int .i64 0,.int .i64 0,.int .i64 0,.int .i64 0,.int .i64 0,.int .i64 0,.int .i64 0,.int .i64 0,.int .i64 0,.int .i64 0,.int .i64 0,.int .i64 0,.int .i64 0,.int .i64 0,.int .i64 0,.int .i64 0,.int .i64 0,.int .i64 0,.int .i64 0,.int .i64 0,.int .i64 0,.int .i64 0,.int .i64 0,.int .i64 0,.int .i64 0,.int .i64 0,.int .i64 0,.int .i64 0,.int .i64 0,.int .i64 0,.int .i64 0,.int .i64 0,.int .i64 0,.int .i64 0,.int .i64 0,.int .i64 0,.int .i64 0,.int .i64 0,.int .i64 0,.int .i64 0,.int .i64 0,.int .i64 0,.int .i64 0,.int .i64 0,.int .i64 0,.int .i64 0,.int .i64 0,.int .i64 0,.int .i64 0,.int .i64 0,.int .i64 0,.int .i64 0,.int .i64 0,.int .i64 0,.int .i64 0,.int .i64 0,.int .i64 0,.int .i64 0,.int .i64 0,.int .i64 0,.int .i64 0,.int .i64 0,.int .i64 0,.int .i64 0,.int .i64 0,.int .i64 0,.int .i64 0,.int .i64 0,.int .i64 0,.int .i64 0,.int .i64 0,.int .i64 0,.int .i64 0,.int .i64 0,.int .i64 0,.int .i64 0,.int .i64 0,.int .i64 0,.int .i64 0,.int .i64 0,.int .i64 0,.int .i64 0,.int .i64 0,.int .i64 0,.int .i64 0,.int .i64 0,.int .i64 0,.int .i64 0,.int .i64 0,.int .i64 0,.int .i64 0,.int .i64 0,.int .i64 0,.int .i64 0,.int .i64 0,.int .i64 0,.int .i64 0,.int .i64 0,.int .i64 0,.int .i64 0,.int .i64 0,.int .i64 0,.int .i64 0,.int .i64 0,.int .i64 0,.int .i64 0,.int .i64 0,.int .i64 0,.int .i64 0,.int .i64 0,.int .i64 0,.int .i64 0],[]⟩
def UO:TI:=⟨.struct [(0,1,4),(1,510,342),(511,256,343)],767,2560,[.bool false,.int .u8 0,.int .u8 0,.int .u8 0,.int .u8 0,.int .u8 0,.int .u8 0,.int .u8 0,.int .u8 0,.int .u8 0,.int .u8 0,.int .u8 0,.int .u8 0,.int .u8 0,.int .u8 0,.int .u8 0,.int .u8 0,.int .u8 0,.int .u8 0,.int .u8 0,.int .u8 0,.int .u8 0,.int .u8 0,.int .u8 0,.int .u8 0,.int .u8 0,.int .u8 0,.int .u8 0,.int .u8 0,.int .u8 0,.int .u8 0,.int .u8 0,.int .u8 0,.int .u8 0,.int .u8 0,.int .u8 0,.int .u8 0,.int .u8 0,.int .u8 0,.int .u8 0,.int .u8 0,.int .u8 0,.int .u8 0,.int .u8 0,.int .u8 0,.int .u8 0,.int .u8 0,.int .u8 0,.int .u8 0,.int .u8 0,.int .u8 0,.int .u8 0,.int .u8 0,.int .u8 0,.int .u8 0,.int .u8 0,.int .u8 0,.int .u8 0,.int .u8 0,.int .u8 0,.int .u8 0,.int .u8 0,.int .u8 0,.int .u8 0,.int .u8 0,.int .u8 0,.int .u8 0,.int .u8 0,.int .u8 0,.int .u8 0,.int .u8 0,.int .u8 0,.int .u8 0,.int .u8 0,.int .u8 0,.int .u8 0,.int .u8 0,.int .u8 0,.int .u8 0,.int .u8 0,.int .u8 0,.int .u8 0,.int .u8 0,.int .u8 0,.int .u8 0,.int .u8 0,.int .u8 0,.int .u8 0,.int .u8 0,.int .u8 0,.int .u8 0,.int .u8 0,.int .u8 0,.int .u8 0,.int .u8 0,.int .u8 0,.int .u8 0,.int .u8 0,.int .u8 0,.int .u8 0,.int .u8 0,.int .u8 0,.int .u8 0,.int .u8 0,.int .u8 0,.int .u8 0,.int .u8 0,.int .u8 0,.int .u8 0,.int .u8 0,.int .u8 0,.int .u8 0,.int .u8 0,.int .u8 0,.int .u8 0,.int .u8 0,.int .u8 0,.int .u8 0,.int .u8 0,.int .u8 0,.int .u8 0,.int .u8 0,.int .u8 0,.int .u8 0,.int .u8 0,.int .u8 0,.int .u8 0,.int .u8 0,.int .u8 0,.int .u8 0,.int .u8 0,.int .u8 0,.int .u8 0,.int .u8 0,.int .u8 0,.int .u8 0,.int .u8 0,.int .u8 0,.int .u8 0,.int .u8 0,.int .u8 0,.int .u8 0,.int .u8 0,.int .u8 0,.int .u8 0,.int .u8 0,.int .u8 0,.int .u8 0,.int .u8 0,.int .u8 0,.int .u8 0,.int .u8 0,.int .u8 0,.int .u8 0,.int .u8 0,.int .u8 0,.int .u8 0,.int .u8 0,.int .u8 0,.int .u8 0,.int .u8 0,.int .u8 0,.int .u8 0,.int .u8 0,.int .u8 0,.int .u8 0,.int .u8 0,.int .u8 0,.int .u8 0,.int .u8 0,.int .u8 0,.int .u8 0,.int .u8 0,.int .u8 0,.int .u8 0,.int .u8 0,.int .u8 0,.int .u8 0,.int .u8 0,.int .u8 0,.int .u8 0,.int .u8 0,.int .u8 0,.int .u8 0,.int .u8 0,.int .u8 0,.int .u8 0,.int .u8 0,.int .u8 0,.int .u8 0,.int .u8 0,.int .u8 0,.int .u8 0,.int .u8 0,.int .u8 0,.int .u8 0,.int .u8 0,.int .u8 0,.int .u8 0,.int .u8 0,.int .u8 0,.int .u8 0,.int .u8 0,.int .u8 0,.int .u8 0,.int .u8 0,.int .u8 0,.int .u8 0,.int .u8 0,.int .u8 0,.int .u8 0,.int .u8 0,.int .u8 0,.int .u8 0,.int .u8 0,.int .u8 0,.int .u8 0,.int .u8 0,.int .u8 0,.int .u8 0,.int .u8 0,.int .u8 0,.int .u8 0,.int .u8 0,.int .u8 0,.int .u8 0,.int .u8 0,.int .u8 0,.int .u8 0,.int .u8 0,.int .u8 0,.int .u8 0,.int .u8 0,.int .u8 0,.int .u8 0,.int .u8 0,.int .u8 0,.int .u8 0,.int .u8 0,.int .u8 0,.int .u8 0,.int .u8 0,.int .u8 0,.int .u8 0,.int .u8 0,.int .u8 0,.int .u8 0,.int .u8 0,.int .u8 0,.int .u8 0,.int .u8 0,.int .u8 0,.int .u8 0,.int .u8 0,.int .u8 0,.int .u8 0,.int .u8 0,.int .u8 0,.int .u8 0,.int .u8 0,.int .u8 0,.int .u8 0,.int .u8 0,.int .u8 0,.int .u8 0,.int .u8 0,.int .u8 0,.int .u8 0,.int .u8 0,.int .u8 0,.int .u8 0,.int .u8 0,.int .u8 0,.int .u8 0,.int .u8 0,.int .u8 0,.int .u8 0,.int .u8 0,.int .u8 0,.int .u8 0,.int .u8 0,.int .u8 0,.int .u8 0,.int .u8 0,.int .u8 0,.int .u8 0,.int .u8 0,.int .u8 0,.int .u8 0,.int .u8 0,.int .u8 0,.int .u8 0,.int .u8 0,.int .u8 0,.int .u8 0,.int .u8 0,.int .u8 0,.int .u8 0,.int .u8 0,.int .u8 0,.int .u8 0,.int .u8 0,.int .u8 0,.int .u8 0,.int .u8 0,.int .u8 0,.int .u8 0,.int .u8 0,.int .u8 0,.int .u8 0,.int .u8 0,.int .u8 0,.int .u8 0,.int .u8 0,.int .u8 0,.int .u8 0,.int .u8 0,.int .u8 0,.int .u8 0,.int .u8 0,.int .u8 0,.int .u8 0,.int .u8 0,.int .u8 0,.int .u8 0,.int .u8 0,.int .u8 0,.int .u8 0,.int .u8 0,.int .u8 0,.int .u8 0,.int .u8 0,.int .u8 0,.int .u8 0,.int .u8 0,.int .u8 0,.int .u8 0,.int .u8 0,.int .u8 0,.int .u8 0,.int .u8 0,.int .u8 0,.int .u8 0,.int .u8 0,.int .u8 0,.int .u8 0,.int .u8 0,.int .u8 0,.int .u8 0,.int .u8 0,.int .u8 0,.int .u8 0,.int .u8 0,.int .u8 0,.int .u8 0,.int .u8 0,.int .u8 0,.int .u8 0,.int .u8 0,.int .u8 0,.int .u8 0,.int .u8 0,.int .u8 0,.int .u8 0,.int .u8 0,.int .u8 0,.int .u8 0,.int .u8 0,.int .u8 0,.int .u8 0,.int .u8 0,.int .u8 0,.int .u8 0,.int .u8 0,.int .u8 0,.int .u8 0,.int .u8 0,.int .u8 0,.int .u8 0,.int .u8 0,.int .u8 0,.int .u8 0,.int .u8 0,.int .u8 0,.int .u8 0,.int .u8 0,.int .u8 0,.int .u8 0,.int .u8 0,.int .u8 0,.int .u8 0,.int .u8 0,.int .u8 0,.int .u8 0,.int .u8 0,.int .u8 0,.int .u8 0,.int .u8 0,.int .u8 0,.int .u8 0,.int .u8 0,.int .u8 0,.int .u8 0,.int .u8 0,.int .u8 0,.int .u8 0,.int .u8 0,.int .u8 0,.int .u8 0,.int .u8 0,.int .u8 0,.int .u8 0,.int .u8 0,.int .u8 0,.int .u8 0,.int .u8 0,.int .u8 0,.int .u8 0,.int .u8 0,.int .u8 0,.int .u8 0,.int .u8 0,.int .u8 0,.int .u8 0,.int .u8 0,.int .u8 0,.int .u8 0,.int .u8 0,.int .u8 0,.int .u8 0,.int .u8 0,.int .u8 0,.int .u8 0,.int .u8 0,.int .u8 0,.int .u8 0,.int .u8 0,.int .u8 0,.int .u8 0,.int .u8 0,.int .u8 0,.int .u8 0,.int .u8 0,.int .u8 0,.int .u8 0,.int .u8 0,.int .u8 0,.int .u8 0,.int .u8 0,.int .u8 0,.int .u8 0,.int .u8 0,.int .u8 0,.int .u8 0,.int .u8 0,.int .u8 0,.int .u8 0,.int .u8 0,.int .u8 0,.int .u8 0,.int .u8 0,.int .u8 0,.int .u8 0,.int .u8 0,.int .u8 0,.int .u8 0,.int .u8 0,.int .u8 0,.int .u8 0,.int .u8 0,.int .u8 0,.int .u8 0,.int .u8 0,.int .u8 0,.int .u8 0,.int .u8 0,.int .u8 0,.int .u8 0,.int .u8 0,.int .u8 0,.int .u8 0,.int .u8 0,.int .u8 0,.int .u8 0,.int .u8 0,.int .u8 0,.int .u8 0,.int .u8 0,.int .u8 0,.int .u8 0,.int .u8 0,.int .u8 0,.int .u8 0,.int .u8 0,.int .u8 0,.int .u8 0,.int .u8 0,.int .u8 0,.int .u8 0,.int .u8 0,.int .u8 0,.int .u8 0,.int .u8 0,.int .u8 0,.int .u8 0,.int .u8 0,.int .u8 0,.int .u8 0,.int .u8 0,.int .u8 0,.int .u8 0,.int .i64 0,.int .i64 0,.int .i64 0,.int .i64 0,.int .i64 0,.int .i64 0,.int .i64 0,.int .i64 0,.int .i64 0,.int .i64 0,.int .i64 0,.int .i64 0,.int .i64 0,.int .i64 0,.int .i64 0,.int .i64 0,.int .i64 0,.int .i64 0,.int .i64 0,.int .i64 0,.int .i64 0,.int .i64 0,.int .i64 0,.int .i64 0,.int .i64 0,.int .i64 0,.int .i64 0,.int .i64 0,.int .i64 0,.int .i64 0,.int .i64 0,.int .i64 0,.int .i64 0,.int .i64 0,.int .i64 0,.int .i64 0,.int .i64 0,.int .i64 0,.int .i64 0,.int .i64 0,.int .i64 0,.int .i64 0,.int .i64 0,.int .i64 0,.int .i64 0,.int .i64 0,.int .i64 0,.int .i64 0,.int .i64 0,.int .i64 0,.int .i64 0,.int .i64 0,.int .i64 0,.int .i64 0,.int .i64 0,.int .i64 0,.int .i64 0,.int .i64 0,.int .i64 0,.int .i64 0,.int .i64 0,.int .i64 0,.int .i64 0,.int .i64 0,.int .i64 0,.int .i64 0,.int .i64 0,.int .i64 0,.int .i64 0,.int .i64 0,.int .i64 0,.int .i64 0,.int .i64 0,.int .i64 0,.int .i64 0,.int .i64 0,.int .i64 0,.int .i64 0,.int .i64 0,.int .i64 0,.int .i64 0,.int .i64 0,.int .i64 0,.int .i64 0,.int .i64 0,.int .i64 0,.int .i64 0,.int .i64 0,.int .i64 0,.int .i64 0,.int .i64 0,.int .i64 0,.int .i64 0,.int .i64 0,.int .i64 0,.int .i64 0,.int .i64 0,.int .i64 0,.int .i64 0,.int .i64 0,.int .i64 0,.int .i64 0,.int .i64 0,.int .i64 0,.int .i64 0,.int .i64 0,.int .i64 0,.int .i64 0,.int .i64 0,.int .i64 0,.int .i64 0,.int .i64 0,.int .i64 0,.int .i64 0,.int .i64 0,.int .i64 0,.int .i64 0,.int .i64 0,.int .i64 0,.int .i64 0,.int .i64 0,.int .i64 0,.int .i64 0,.int .i64 0,.int .i64 0,.int .i64 0,.int .i64 0,.int .i64 0,.int .i64 0,.int .i64 0,.int .i64 0,.int .i64 0,.int .i64 0,.int .i64 0,.int .i64 0,.int .i64 0,.int .i64 0,.int .i64 0,.int .i64 0,.int .i64 0,.int .i64 0,.int .i64 0,.int .i64 0,.int .i64 0,.int .i64 0,.int .i64 0,.int .i64 0,.int .i64 0,.int .i64 0,.int .i64 0,.int .i64 0,.int .i64 0,.int .i64 0,.int .i64 0,.int .i64 0,.int .i64 0,.int .i64 0,.int .i64 0,.int .i64 0,.int .i64 0,.int .i64 0,.int .i64 0,.int .i64 0,.int .i64 0,.int .i64 0,.int .i64 0,.int .i64 0,.int .i64 0,.int .i64 0,.int .i64 0,.int .i64 0,.int .i64 0,.int .i64 0,.int .i64 0,.int .i64 0,.int .i64 0,.int .i64 0,.int .i64 0,.int .i64 0,.int .i64 0,.int .i64 0,.int .i64 0,.int .i64 0,.int .i64 0,.int .i64 0,.int .i64 0,.int .i64 0,.int .i64 0,.int .i64 0,.int .i64 0,.int .i64 0,.int .i64 0,.int .i64 0,.int .i64 0,.int .i64 0,.int .i64 0,.int .i64 0,.int .i64 0,.int .i64 0,.int .i64 0,.int .i64 0,.int .i64 0,.int .i64 0,.int .i64 0,.int .i64 0,.int .i64 0,.int .i64 0,.int .i64 0,.int .i64 0,.int .i64 0,.int .i64 0,.int .i64 0,.int .i64 0,.int .i64 0,.int .i64 0,.int .i64 0,.int .i64 0,.int .i64 0,.int .i64 0,.int .i64 0,.int .i64 0,.int .i64 0,.int .i64 0,.int .i64 0,.int .i64 0,.int .i64 0,.int .i64 0,.int .i64 0,.int .i64 0,.int .i64 0,.int .i64 0,.int .i64 0,.int .i64 0,.int .i64 0,.int .i64 0,.int .i64 0,.int .i64 0,.int .i64 0,.int .i64 0,.int .i64 0,.int .i64 0,.int .i64 0,.int .i64 0,.int .i64 0,.int .i64 0,.int .i64 0,.int .i64 0,.int .i64 0,.int .i64 0,.int .i64 0,.int .i64 0,.int .i64 0,.int .i64 0,.int .i64 0,.int .i64 0,.int .i64 0],[]⟩
def HE:TI:=⟨.ptr 479,1,8,[.pointer none],[("Abort",526),("All",326),("Bad",680),("Commit",525),("Drop",533),("Get",529),("Over",302),("Prepare",524),("Room",523),("Sound",530),("cooperage/slots.all",470),("cooperage/slots.at",458),("cooperage/slots.find",579),("cooperage/slots.gone",585),("cooperage/slots.look",333),("cooperage/slots.now",621),("cooperage/slots.out",586),("cooperage/slots.read",462),("cooperage/slots.stale",581),("cooperage/slots.strike",340),("cooperage/slots.up",578),("cooperage/slots.write",583)]⟩
def lU:TI:=⟨.other,1,0,[],[]⟩
def lV:TI:=⟨.func,1,8,[.nilFunc],[]⟩
def lW:TI:=⟨.struct [(0,1,57),(1,1,27),(2,1,346),(3,1,3)],4,32,[.pointer none,.pointer none,.pointer none,.int .i64 0],[]⟩
def UP:TI:=⟨.struct [(0,1,57),(1,1,27),(2,1,346),(3,1,3)],4,32,[.pointer none,.pointer none,.pointer none,.int .i64 0],[]⟩
def lX:TI:=⟨.other,1,0,[],[]⟩
def lY:TI:=⟨.func,1,8,[.nilFunc],[]⟩
def lZ:TI:=⟨.func,1,8,[.nilFunc],[]⟩
def la:TI:=⟨.func,1,8,[.nilFunc],[]⟩
def lb:TI:=⟨.func,1,8,[.nilFunc],[]⟩
def lc:TI:=⟨.other,1,0,[],[]⟩
def ld:TI:=⟨.func,1,8,[.nilFunc],[]⟩
def lf:TI:=⟨.other,1,0,[],[]⟩
def lg:TI:=⟨.func,1,8,[.nilFunc],[]⟩
def ll:TI:=⟨.func,1,8,[.nilFunc],[]⟩
def lm:TI:=⟨.func,1,8,[.nilFunc],[]⟩
def ln:TI:=⟨.struct [(0,1,3),(1,2,141),(3,1,3)],4,32,[.int .i64 0,.int .i64 0,.int .i64 0,.int .i64 0],[]⟩
def Js:TI:=⟨.struct [(0,1,3),(1,2,141),(3,1,3)],4,32,[.int .i64 0,.int .i64 0,.int .i64 0,.int .i64 0],[]⟩
def lp:TI:=⟨.func,1,8,[.nilFunc],[]⟩
def lq:TI:=⟨.func,1,8,[.nilFunc],[]⟩
def lr:TI:=⟨.func,1,8,[.nilFunc],[]⟩
def lu:TI:=⟨.func,1,8,[.nilFunc],[]⟩
def lw:TI:=⟨.func,1,8,[.nilFunc],[]⟩
def UQ:TI:=⟨.slice 621,1,24,[.slice none 0 0],[]⟩
def ly:TI:=⟨.struct [(0,1,3),(1,1,3),(2,1,3),(3,1,3),(4,1,369),(5,1,43),(6,1,122)],7,104,[.int .i64 0,.int .i64 0,.int .i64 0,.int .i64 0,.slice none 0 0,.slice none 0 0,.slice none 0 0],[]⟩
def OS:TI:=⟨.struct [(0,1,3),(1,1,3),(2,1,3),(3,1,3),(4,1,369),(5,1,43),(6,1,122)],7,104,[.int .i64 0,.int .i64 0,.int .i64 0,.int .i64 0,.slice none 0 0,.slice none 0 0,.slice none 0 0],[]⟩
def lz:TI:=⟨.other,1,0,[],[]⟩
def l0:TI:=⟨.func,1,8,[.nilFunc],[]⟩
def l4:TI:=⟨.func,1,8,[.nilFunc],[]⟩
def l5:TI:=⟨.ptr 377,1,8,[.pointer none],[("cooperage/keep.bytes",681),("cooperage/keep.going",682),("cooperage/keep.look",683),("cooperage/keep.lose",684),("cooperage/keep.told",685),("cooperage/keep.wants",686)]⟩
def l6:TI:=⟨.struct [(0,7,371)],7,104,[.int .i64 0,.int .i64 0,.int .i64 0,.int .i64 0,.slice none 0 0,.slice none 0 0,.slice none 0 0],[]⟩
def UR:TI:=⟨.struct [(0,7,371)],7,104,[.int .i64 0,.int .i64 0,.int .i64 0,.int .i64 0,.slice none 0 0,.slice none 0 0,.slice none 0 0],[]⟩
def l7:TI:=⟨.func,1,8,[.nilFunc],[]⟩
def l8:TI:=⟨.other,1,0,[],[]⟩
def l9:TI:=⟨.func,1,8,[.nilFunc],[]⟩
def mA:TI:=⟨.struct [(0,1,3),(1,1,3),(2,1,3),(3,1,329)],4,32,[.int .i64 0,.int .i64 0,.int .i64 0,.int .u8 0],[]⟩
def Jt:TI:=⟨.struct [(0,1,3),(1,1,3),(2,1,3),(3,1,329)],4,32,[.int .i64 0,.int .i64 0,.int .i64 0,.int .u8 0],[]⟩
def mB:TI:=⟨.other,1,0,[],[]⟩
def mC:TI:=⟨.func,1,8,[.nilFunc],[]⟩
def mD:TI:=⟨.func,1,8,[.nilFunc],[]⟩
def mE:TI:=⟨.slice 242,1,24,[.slice none 0 0],[]⟩
def mF:TI:=⟨.other,1,0,[],[]⟩
def mG:TI:=⟨.func,1,8,[.nilFunc],[]⟩
def mH:TI:=⟨.struct [(0,1,4),(1,1,4),(2,1,4),(3,1,4),(4,1,3),(5,1,4)],6,24,[.bool false,.bool false,.bool false,.bool false,.int .i64 0,.bool false],[]⟩
def MH:TI:=⟨.struct [(0,1,4),(1,1,4),(2,1,4),(3,1,4),(4,1,3),(5,1,4)],6,24,[.bool false,.bool false,.bool false,.bool false,.int .i64 0,.bool false],[]⟩
def mI:TI:=⟨.other,1,0,[],[]⟩
def mJ:TI:=⟨.func,1,8,[.nilFunc],[]⟩
def mK:TI:=⟨.func,1,8,[.nilFunc],[]⟩
def mL:TI:=⟨.func,1,8,[.nilFunc],[]⟩
def mM:TI:=⟨.func,1,8,[.nilFunc],[]⟩
def mN:TI:=⟨.func,1,8,[.nilFunc],[]⟩
def mO:TI:=⟨.func,1,8,[.nilFunc],[]⟩
def mP:TI:=⟨.func,1,8,[.nilFunc],[]⟩
def mQ:TI:=⟨.func,1,8,[.nilFunc],[]⟩
def mR:TI:=⟨.func,1,8,[.nilFunc],[]⟩
def mS:TI:=⟨.func,1,8,[.nilFunc],[]⟩
def mT:TI:=⟨.func,1,8,[.nilFunc],[]⟩
def mU:TI:=⟨.func,1,8,[.nilFunc],[]⟩
def mV:TI:=⟨.func,1,8,[.nilFunc],[]⟩
def mW:TI:=⟨.func,1,8,[.nilFunc],[]⟩
def mX:TI:=⟨.func,1,8,[.nilFunc],[]⟩
def mY:TI:=⟨.ptr 409,1,8,[.pointer none],[("cooperage/save.blob",256),("cooperage/save.done",257),("cooperage/save.inode",261),("cooperage/save.parts",263),("cooperage/save.uints",255)]⟩
def mZ:TI:=⟨.struct [(0,1,27),(1,1,22),(2,1,4)],3,40,[.pointer none,.slice none 0 0,.bool false],[]⟩
def US:TI:=⟨.struct [(0,1,27),(1,1,22),(2,1,4)],3,40,[.pointer none,.slice none 0 0,.bool false],[]⟩
def ma:TI:=⟨.func,1,8,[.nilFunc],[]⟩
def mc:TI:=⟨.func,1,8,[.nilFunc],[]⟩
def md:TI:=⟨.func,1,8,[.nilFunc],[]⟩
def me:TI:=⟨.func,1,8,[.nilFunc],[]⟩
def UT:TI:=⟨.slice 111,1,24,[.slice none 0 0],[]⟩
def mf:TI:=⟨.struct [(0,1,3),(1,1,3),(2,1,414)],3,40,[.int .i64 0,.int .i64 0,.slice none 0 0],[]⟩
def MI:TI:=⟨.struct [(0,1,3),(1,1,3),(2,1,414)],3,40,[.int .i64 0,.int .i64 0,.slice none 0 0],[]⟩
def mg:TI:=⟨.func,1,8,[.nilFunc],[]⟩
def mh:TI:=⟨.func,1,8,[.nilFunc],[]⟩
def mi:TI:=⟨.func,1,8,[.nilFunc],[]⟩
def mj:TI:=⟨.func,1,8,[.nilFunc],[]⟩
def ml:TI:=⟨.func,1,8,[.nilFunc],[]⟩
def mm:TI:=⟨.ptr 416,1,8,[.pointer none],[]⟩
def mn:TI:=⟨.func,1,8,[.nilFunc],[]⟩
def mo:TI:=⟨.func,1,8,[.nilFunc],[]⟩
def mp:TI:=⟨.func,1,8,[.nilFunc],[]⟩
def mq:TI:=⟨.func,1,8,[.nilFunc],[]⟩
def mr:TI:=⟨.func,1,8,[.nilFunc],[]⟩
def mu:TI:=⟨.other,1,0,[],[]⟩
def mv:TI:=⟨.func,1,8,[.nilFunc],[]⟩
def my:TI:=⟨.func,1,8,[.nilFunc],[]⟩
def mz:TI:=⟨.func,1,8,[.nilFunc],[]⟩
def m0:TI:=⟨.other,1,0,[],[]⟩
def m3:TI:=⟨.func,1,8,[.nilFunc],[]⟩
def m4:TI:=⟨.ptr 436,1,8,[.pointer none],[("cooperage/save.blob",291),("cooperage/save.inodes",285),("cooperage/save.number",425),("cooperage/save.numbers",284),("cooperage/save.parts",293)]⟩
def m5:TI:=⟨.struct [(0,1,27),(1,1,22),(2,1,3),(3,1,4)],4,48,[.pointer none,.slice none 0 0,.int .i64 0,.bool false],[]⟩
def m6:TI:=⟨.struct [(0,1,27),(1,1,22),(2,1,3),(3,1,4)],4,48,[.pointer none,.slice none 0 0,.int .i64 0,.bool false],[]⟩
def m7:TI:=⟨.func,1,8,[.nilFunc],[]⟩
def m8:TI:=⟨.func,1,8,[.nilFunc],[]⟩
def m9:TI:=⟨.func,1,8,[.nilFunc],[]⟩
def nA:TI:=⟨.ptr 111,1,8,[.pointer none],[]⟩
def nB:TI:=⟨.func,1,8,[.nilFunc],[]⟩
def nC:TI:=⟨.func,1,8,[.nilFunc],[]⟩
def nD:TI:=⟨.func,1,8,[.nilFunc],[]⟩
def nE:TI:=⟨.func,1,8,[.nilFunc],[]⟩
def nF:TI:=⟨.func,1,8,[.nilFunc],[]⟩
def nG:TI:=⟨.func,1,8,[.nilFunc],[]⟩
def nH:TI:=⟨.func,1,8,[.nilFunc],[]⟩
def nI:TI:=⟨.func,1,8,[.nilFunc],[]⟩
def nJ:TI:=⟨.func,1,8,[.nilFunc],[]⟩
def nL:TI:=⟨.other,1,0,[],[]⟩
def nM:TI:=⟨.func,1,8,[.nilFunc],[]⟩
def nN:TI:=⟨.func,1,8,[.nilFunc],[]⟩
def nO:TI:=⟨.func,1,8,[.nilFunc],[]⟩
def nP:TI:=⟨.arr 16 177,16,128,Ao [.pointer none] 16,[]⟩
def nQ:TI:=⟨.func,1,8,[.nilFunc],[]⟩
def nR:TI:=⟨.func,1,8,[.nilFunc],[]⟩
def nS:TI:=⟨.func,1,8,[.nilFunc],[]⟩
def nT:TI:=⟨.func,1,8,[.nilFunc],[]⟩
def nU:TI:=⟨.func,1,8,[.nilFunc],[]⟩
def nV:TI:=⟨.func,1,8,[.nilFunc],[]⟩
def nW:TI:=⟨.func,1,8,[.nilFunc],[]⟩
def nX:TI:=⟨.func,1,8,[.nilFunc],[]⟩
def nY:TI:=⟨.func,1,8,[.nilFunc],[]⟩
def nZ:TI:=⟨.func,1,8,[.nilFunc],[]⟩
def na:TI:=⟨.func,1,8,[.nilFunc],[]⟩
def nb:TI:=⟨.func,1,8,[.nilFunc],[]⟩
def nc:TI:=⟨.func,1,8,[.nilFunc],[]⟩
def nf:TI:=⟨.func,1,8,[.nilFunc],[]⟩
def ng:TI:=⟨.slice 42,1,24,[.slice none 0 0],[]⟩
def nh:TI:=⟨.func,1,8,[.nilFunc],[]⟩
def nk:TI:=⟨.other,1,0,[],[]⟩
def nl:TI:=⟨.func,1,8,[.nilFunc],[]⟩
def nn:TI:=⟨.func,1,8,[.nilFunc],[]⟩
def np:TI:=⟨.func,1,8,[.nilFunc],[]⟩
def nq:TI:=⟨.other,1,0,[],[]⟩
def nr:TI:=⟨.func,1,8,[.nilFunc],[]⟩
def UU:TI:=⟨.slice 481,1,24,[.slice none 0 0],[]⟩
def nt:TI:=⟨.struct [(0,1,57),(1,1,27),(2,1,3),(3,1,477),(4,1,43),(5,1,3),(6,1,4)],7,88,[.pointer none,.pointer none,.int .i64 0,.slice none 0 0,.slice none 0 0,.int .i64 0,.bool false],[]⟩
def UV:TI:=⟨.struct [(0,1,57),(1,1,27),(2,1,3),(3,1,477),(4,1,43),(5,1,3),(6,1,4)],7,88,[.pointer none,.pointer none,.int .i64 0,.slice none 0 0,.slice none 0 0,.int .i64 0,.bool false],[]⟩
def nu:TI:=⟨.struct [(0,5,331),(5,1,3)],6,64,[.int .i64 0,.int .i64 0,.int .i64 0,.int .u8 0,.slice none 0 0,.int .i64 0],[]⟩
def Ey:TI:=⟨.struct [(0,5,331),(5,1,3)],6,64,[.int .i64 0,.int .i64 0,.int .i64 0,.int .u8 0,.slice none 0 0,.int .i64 0],[]⟩
def nv:TI:=⟨.other,1,0,[],[]⟩
def nw:TI:=⟨.func,1,8,[.nilFunc],[]⟩
def ny:TI:=⟨.func,1,8,[.nilFunc],[]⟩
def nz:TI:=⟨.func,1,8,[.nilFunc],[]⟩
def n3:TI:=⟨.func,1,8,[.nilFunc],[]⟩
def n8:TI:=⟨.func,1,8,[.nilFunc],[]⟩
def n9:TI:=⟨.func,1,8,[.nilFunc],[]⟩
def oB:TI:=⟨.func,1,8,[.nilFunc],[]⟩
def oC:TI:=⟨.ptr 492,1,8,[.pointer none],[("cooperage/model.file",473),("cooperage/model.get",349),("cooperage/model.list",348),("cooperage/model.lookup",341),("cooperage/model.made",353),("cooperage/model.make",342),("cooperage/model.read",343),("cooperage/model.remove",346),("cooperage/model.rename",347),("cooperage/model.size",345),("cooperage/model.sized",474),("cooperage/model.stat",350),("cooperage/model.write",344)]⟩
def oE:TI:=⟨.struct [(0,2,32),(2,1,122),(3,12,72),(15,11,111)],26,304,[.slice none 0 0,.int .i64 0,.slice none 0 0,.int .i64 0,.int .i64 0,.int .u8 0,.int .i64 0,.int .i64 0,.string .empty,.int .i64 0,.int .i64 0,.string .empty,.int .i64 0,.int .i64 0,.slice none 0 0,.int .i64 0,.int .i64 0,.int .i64 0,.int .i64 0,.int .i64 0,.bool false,.int .i64 0,.slice none 0 0,.slice none 0 0,.bool false,.int .i64 0],[]⟩
def UW:TI:=⟨.struct [(0,2,32),(2,1,122),(3,12,72),(15,11,111)],26,304,[.slice none 0 0,.int .i64 0,.slice none 0 0,.int .i64 0,.int .i64 0,.int .u8 0,.int .i64 0,.int .i64 0,.string .empty,.int .i64 0,.int .i64 0,.string .empty,.int .i64 0,.int .i64 0,.slice none 0 0,.int .i64 0,.int .i64 0,.int .i64 0,.int .i64 0,.int .i64 0,.bool false,.int .i64 0,.slice none 0 0,.slice none 0 0,.bool false,.int .i64 0],[]⟩
def oF:TI:=⟨.map 68 98,1,8,[.map none],[]⟩
def oG:TI:=⟨.func,1,8,[.nilFunc],[]⟩
def oH:TI:=⟨.func,1,8,[.nilFunc],[]⟩
def oI:TI:=⟨.func,1,8,[.nilFunc],[]⟩
def oJ:TI:=⟨.func,1,8,[.nilFunc],[]⟩
def oK:TI:=⟨.func,1,8,[.nilFunc],[]⟩
def oL:TI:=⟨.func,1,8,[.nilFunc],[]⟩
def oM:TI:=⟨.func,1,8,[.nilFunc],[]⟩
def oN:TI:=⟨.func,1,8,[.nilFunc],[]⟩
def oO:TI:=⟨.func,1,8,[.nilFunc],[]⟩
def oP:TI:=⟨.func,1,8,[.nilFunc],[]⟩
def oQ:TI:=⟨.func,1,8,[.nilFunc],[]⟩
def oR:TI:=⟨.func,1,8,[.nilFunc],[]⟩
def oT:TI:=⟨.func,1,8,[.nilFunc],[]⟩
def oU:TI:=⟨.func,1,8,[.nilFunc],[]⟩
def oV:TI:=⟨.other,1,0,[],[]⟩
def oW:TI:=⟨.func,1,8,[.nilFunc],[]⟩
def oX:TI:=⟨.func,1,8,[.nilFunc],[]⟩
def oY:TI:=⟨.struct [(0,1,3),(1,1,3),(2,1,3),(3,1,3),(4,1,43)],5,56,[.int .i64 0,.int .i64 0,.int .i64 0,.int .i64 0,.slice none 0 0],[]⟩
def RQ:TI:=⟨.struct [(0,1,3),(1,1,3),(2,1,3),(3,1,3),(4,1,43)],5,56,[.int .i64 0,.int .i64 0,.int .i64 0,.int .i64 0,.slice none 0 0],[]⟩
def oZ:TI:=⟨.other,1,0,[],[]⟩
def oa:TI:=⟨.func,1,8,[.nilFunc],[]⟩
def oc:TI:=⟨.ptr 517,1,8,[.pointer none],[("cooperage/keep.bytes",699),("cooperage/keep.going",700),("cooperage/keep.look",701),("cooperage/keep.lose",702),("cooperage/keep.told",703),("cooperage/keep.wants",704)]⟩
def od:TI:=⟨.struct [(0,5,512),(5,1,122)],6,80,[.int .i64 0,.int .i64 0,.int .i64 0,.int .i64 0,.slice none 0 0,.slice none 0 0],[]⟩
def UX:TI:=⟨.struct [(0,5,512),(5,1,122)],6,80,[.int .i64 0,.int .i64 0,.int .i64 0,.int .i64 0,.slice none 0 0,.slice none 0 0],[]⟩
def oe:TI:=⟨.func,1,8,[.nilFunc],[]⟩
def oh:TI:=⟨.func,1,8,[.nilFunc],[]⟩
def ol:TI:=⟨.func,1,8,[.nilFunc],[]⟩
def oo:TI:=⟨.func,1,8,[.nilFunc],[]⟩
def oq:TI:=⟨.other,1,0,[],[]⟩
def ot:TI:=⟨.func,1,8,[.nilFunc],[]⟩
def ou:TI:=⟨.func,1,8,[.nilFunc],[]⟩
def ov:TI:=⟨.func,1,8,[.nilFunc],[]⟩
def ow:TI:=⟨.func,1,8,[.nilFunc],[]⟩
def ox:TI:=⟨.func,1,8,[.nilFunc],[]⟩
def oy:TI:=⟨.func,1,8,[.nilFunc],[]⟩
def oz:TI:=⟨.map 68 528,1,8,[.map none],[]⟩
def o0:TI:=⟨.other,1,0,[],[]⟩
def o4:TI:=⟨.func,1,8,[.nilFunc],[]⟩
def pA:TI:=⟨.func,1,8,[.nilFunc],[]⟩
def pB:TI:=⟨.func,1,8,[.nilFunc],[]⟩
def pC:TI:=⟨.ptr 536,1,8,[.pointer none],[("cooperage/state.buried",406),("cooperage/state.taken",404),("cooperage/state.written",405)]⟩
def pD:TI:=⟨.struct [(0,7,39),(7,1,3),(8,1,37)],9,152,[.int .i64 0,.slice none 0 0,.int .i64 0,.int .i64 0,.slice none 0 0,.slice none 0 0,.slice none 0 0,.int .i64 0,.slice none 0 0],[]⟩
def UY:TI:=⟨.struct [(0,7,39),(7,1,3),(8,1,37)],9,152,[.int .i64 0,.slice none 0 0,.int .i64 0,.int .i64 0,.slice none 0 0,.slice none 0 0,.slice none 0 0,.int .i64 0,.slice none 0 0],[]⟩
def pE:TI:=⟨.func,1,8,[.nilFunc],[]⟩
def pF:TI:=⟨.func,1,8,[.nilFunc],[]⟩
def pG:TI:=⟨.func,1,8,[.nilFunc],[]⟩
def pH:TI:=⟨.func,1,8,[.nilFunc],[]⟩
def pJ:TI:=⟨.func,1,8,[.nilFunc],[]⟩
def pK:TI:=⟨.func,1,8,[.nilFunc],[]⟩
def pL:TI:=⟨.int .i64,1,8,[.int .i64 0],[]⟩
def pM:TI:=⟨.other,1,0,[],[]⟩
def pN:TI:=⟨.func,1,8,[.nilFunc],[]⟩
def pO:TI:=⟨.func,1,8,[.nilFunc],[]⟩
def pP:TI:=⟨.func,1,8,[.nilFunc],[]⟩
def pQ:TI:=⟨.func,1,8,[.nilFunc],[]⟩
def pR:TI:=⟨.func,1,8,[.nilFunc],[]⟩
def pS:TI:=⟨.func,1,8,[.nilFunc],[]⟩
def pT:TI:=⟨.func,1,8,[.nilFunc],[]⟩
def pU:TI:=⟨.func,1,8,[.nilFunc],[]⟩
def pV:TI:=⟨.ptr 139,1,8,[.pointer none],[]⟩
def pW:TI:=⟨.func,1,8,[.nilFunc],[]⟩
def pX:TI:=⟨.ptr 180,1,8,[.pointer none],[]⟩
def pY:TI:=⟨.func,1,8,[.nilFunc],[]⟩
def pZ:TI:=⟨.func,1,8,[.nilFunc],[]⟩
def pd:TI:=⟨.func,1,8,[.nilFunc],[]⟩
def pf:TI:=⟨.ptr 141,1,8,[.pointer none],[]⟩
def pg:TI:=⟨.func,1,8,[.nilFunc],[]⟩
def ph:TI:=⟨.func,1,8,[.nilFunc],[]⟩
def pi:TI:=⟨.func,1,8,[.nilFunc],[]⟩
def pj:TI:=⟨.func,1,8,[.nilFunc],[]⟩
def pk:TI:=⟨.func,1,8,[.nilFunc],[]⟩
def pm:TI:=⟨.func,1,8,[.nilFunc],[]⟩
def pn:TI:=⟨.func,1,8,[.nilFunc],[]⟩
def po:TI:=⟨.func,1,8,[.nilFunc],[]⟩
def pp:TI:=⟨.func,1,8,[.nilFunc],[]⟩
def pq:TI:=⟨.func,1,8,[.nilFunc],[]⟩
def pt:TI:=⟨.func,1,8,[.nilFunc],[]⟩
def pu:TI:=⟨.func,1,8,[.nilFunc],[]⟩
def pw:TI:=⟨.func,1,8,[.nilFunc],[]⟩
def px:TI:=⟨.func,1,8,[.nilFunc],[]⟩
def py:TI:=⟨.func,1,8,[.nilFunc],[]⟩
def pz:TI:=⟨.func,1,8,[.nilFunc],[]⟩
def qA:TI:=⟨.func,1,8,[.nilFunc],[]⟩
def qB:TI:=⟨.other,1,0,[],[]⟩
def qC:TI:=⟨.func,1,8,[.nilFunc],[]⟩
def qD:TI:=⟨.func,1,8,[.nilFunc],[]⟩
def qE:TI:=⟨.func,1,8,[.nilFunc],[]⟩
def qF:TI:=⟨.func,1,8,[.nilFunc],[]⟩
def qG:TI:=⟨.func,1,8,[.nilFunc],[]⟩
def qH:TI:=⟨.slice 98,1,24,[.slice none 0 0],[]⟩
def qI:TI:=⟨.func,1,8,[.nilFunc],[]⟩
def qJ:TI:=⟨.other,1,0,[],[]⟩
def qK:TI:=⟨.func,1,8,[.nilFunc],[]⟩
def qL:TI:=⟨.other,1,0,[],[]⟩
def qM:TI:=⟨.func,1,8,[.nilFunc],[]⟩
def qN:TI:=⟨.other,1,0,[],[]⟩
def qO:TI:=⟨.func,1,8,[.nilFunc],[]⟩
def qP:TI:=⟨.other,1,0,[],[]⟩
def qQ:TI:=⟨.func,1,8,[.nilFunc],[]⟩
def qR:TI:=⟨.func,1,8,[.nilFunc],[]⟩
def qS:TI:=⟨.other,1,0,[],[]⟩
def qT:TI:=⟨.func,1,8,[.nilFunc],[]⟩
def qU:TI:=⟨.other,1,0,[],[]⟩
def qV:TI:=⟨.func,1,8,[.nilFunc],[]⟩
def qW:TI:=⟨.func,1,8,[.nilFunc],[]⟩
def qX:TI:=⟨.func,1,8,[.nilFunc],[]⟩
def qY:TI:=⟨.func,1,8,[.nilFunc],[]⟩
def qZ:TI:=⟨.func,1,8,[.nilFunc],[]⟩
def qa:TI:=⟨.func,1,8,[.nilFunc],[]⟩
def qc:TI:=⟨.func,1,8,[.nilFunc],[]⟩
def qd:TI:=⟨.struct [(0,1,3),(1,1,3),(2,1,3),(3,1,3),(4,1,43),(5,1,43),(6,1,122)],7,104,[.int .i64 0,.int .i64 0,.int .i64 0,.int .i64 0,.slice none 0 0,.slice none 0 0,.slice none 0 0],[]⟩
def RR:TI:=⟨.struct [(0,1,3),(1,1,3),(2,1,3),(3,1,3),(4,1,43),(5,1,43),(6,1,122)],7,104,[.int .i64 0,.int .i64 0,.int .i64 0,.int .i64 0,.slice none 0 0,.slice none 0 0,.slice none 0 0],[]⟩
def qe:TI:=⟨.other,1,0,[],[]⟩
def qf:TI:=⟨.func,1,8,[.nilFunc],[]⟩
def qg:TI:=⟨.ptr 610,1,8,[.pointer none],[("cooperage/keep.bytes",711),("cooperage/keep.going",712),("cooperage/keep.look",713),("cooperage/keep.lose",714),("cooperage/keep.told",715),("cooperage/keep.wants",716)]⟩
def qh:TI:=⟨.struct [(0,7,605)],7,104,[.int .i64 0,.int .i64 0,.int .i64 0,.int .i64 0,.slice none 0 0,.slice none 0 0,.slice none 0 0],[]⟩
def UZ:TI:=⟨.struct [(0,7,605)],7,104,[.int .i64 0,.int .i64 0,.int .i64 0,.int .i64 0,.slice none 0 0,.slice none 0 0,.slice none 0 0],[]⟩
def qi:TI:=⟨.func,1,8,[.nilFunc],[]⟩
def qj:TI:=⟨.other,1,0,[],[]⟩
def qk:TI:=⟨.func,1,8,[.nilFunc],[]⟩
def ql:TI:=⟨.func,1,8,[.nilFunc],[]⟩
def qm:TI:=⟨.func,1,8,[.nilFunc],[]⟩
def qn:TI:=⟨.func,1,8,[.nilFunc],[]⟩
def qo:TI:=⟨.func,1,8,[.nilFunc],[]⟩
def qp:TI:=⟨.func,1,8,[.nilFunc],[]⟩
def qq:TI:=⟨.func,1,8,[.nilFunc],[]⟩
def qr:TI:=⟨.struct [(0,1,3),(1,1,4),(2,1,43)],3,40,[.int .i64 0,.bool false,.slice none 0 0],[]⟩
def MJ:TI:=⟨.struct [(0,1,3),(1,1,4),(2,1,43)],3,40,[.int .i64 0,.bool false,.slice none 0 0],[]⟩
def qs:TI:=⟨.func,1,8,[.nilFunc],[]⟩
def qt:TI:=⟨.func,1,8,[.nilFunc],[]⟩
def qu:TI:=⟨.func,1,8,[.nilFunc],[]⟩
def qv:TI:=⟨.func,1,8,[.nilFunc],[]⟩
def qx:TI:=⟨.func,1,8,[.nilFunc],[]⟩
def qy:TI:=⟨.func,1,8,[.nilFunc],[]⟩
def qz:TI:=⟨.func,1,8,[.nilFunc],[]⟩
def q8:TI:=⟨.func,1,8,[.nilFunc],[]⟩
def q9:TI:=⟨.func,1,8,[.nilFunc],[]⟩
def rA:TI:=⟨.func,1,8,[.nilFunc],[]⟩
def rB:TI:=⟨.func,1,8,[.nilFunc],[]⟩
def rC:TI:=⟨.int .u64,1,8,[.int .u64 0],[]⟩
def rD:TI:=⟨.func,1,8,[.nilFunc],[]⟩
def rE:TI:=⟨.func,1,8,[.nilFunc],[]⟩
def rF:TI:=⟨.func,1,8,[.nilFunc],[]⟩
def rG:TI:=⟨.func,1,8,[.nilFunc],[]⟩
def rH:TI:=⟨.other,1,0,[],[]⟩
def rI:TI:=⟨.func,1,8,[.nilFunc],[]⟩
def rJ:TI:=⟨.func,1,8,[.nilFunc],[]⟩
def rK:TI:=⟨.func,1,8,[.nilFunc],[]⟩
def rL:TI:=⟨.func,1,8,[.nilFunc],[]⟩
def rM:TI:=⟨.func,1,8,[.nilFunc],[]⟩
def rN:TI:=⟨.func,1,8,[.nilFunc],[]⟩
def rO:TI:=⟨.func,1,8,[.nilFunc],[]⟩
def rP:TI:=⟨.func,1,8,[.nilFunc],[]⟩
def rQ:TI:=⟨.func,1,8,[.nilFunc],[]⟩
def rR:TI:=⟨.func,1,8,[.nilFunc],[]⟩
def rS:TI:=⟨.other,1,0,[],[]⟩
def rT:TI:=⟨.func,1,8,[.nilFunc],[]⟩
def rU:TI:=⟨.func,1,8,[.nilFunc],[]⟩
def rV:TI:=⟨.func,1,8,[.nilFunc],[]⟩
def rW:TI:=⟨.arr 6 102,6,48,Ao [.int .u64 0] 6,[]⟩
def rX:TI:=⟨.func,1,8,[.nilFunc],[]⟩
def rY:TI:=⟨.func,1,8,[.nilFunc],[]⟩
def rZ:TI:=⟨.func,1,8,[.nilFunc],[]⟩
def ra:TI:=⟨.func,1,8,[.nilFunc],[]⟩
def rb:TI:=⟨.func,1,8,[.nilFunc],[]⟩
def rc:TI:=⟨.other,1,0,[],[]⟩
def re:TI:=⟨.func,1,8,[.nilFunc],[]⟩
def rf:TI:=⟨.func,1,8,[.nilFunc],[]⟩
def rh:TI:=⟨.func,1,8,[.nilFunc],[]⟩
def ri:TI:=⟨.func,1,8,[.nilFunc],[]⟩
def rj:TI:=⟨.ptr 32,1,8,[.pointer none],[]⟩
def rk:TI:=⟨.func,1,8,[.nilFunc],[]⟩
def rl:TI:=⟨.func,1,8,[.nilFunc],[]⟩
def rm:TI:=⟨.func,1,8,[.nilFunc],[]⟩
def rn:TI:=⟨.func,1,8,[.nilFunc],[]⟩
def ro:TI:=⟨.func,1,8,[.nilFunc],[]⟩
def rp:TI:=⟨.func,1,8,[.nilFunc],[]⟩
def rq:TI:=⟨.func,1,8,[.nilFunc],[]⟩
def rr:TI:=⟨.func,1,8,[.nilFunc],[]⟩
def rt:TI:=⟨.other,1,0,[],[]⟩
def ru:TI:=⟨.func,1,8,[.nilFunc],[]⟩
def rv:TI:=⟨.func,1,8,[.nilFunc],[]⟩
def rx:TI:=⟨.func,1,8,[.nilFunc],[]⟩
def ry:TI:=⟨.func,1,8,[.nilFunc],[]⟩
def rz:TI:=⟨.func,1,8,[.nilFunc],[]⟩
def r5:TI:=⟨.func,1,8,[.nilFunc],[]⟩
def r6:TI:=⟨.func,1,8,[.nilFunc],[]⟩
def r7:TI:=⟨.func,1,8,[.nilFunc],[]⟩
def r8:TI:=⟨.func,1,8,[.nilFunc],[]⟩
def r9:TI:=⟨.ptr 633,1,8,[.pointer none],[("Next",512)]⟩
def sA:TI:=⟨.other,1,0,[],[]⟩
def sB:TI:=⟨.func,1,8,[.nilFunc],[]⟩
def sC:TI:=⟨.func,1,8,[.nilFunc],[]⟩
def sD:TI:=⟨.func,1,8,[.nilFunc],[]⟩
def sE:TI:=⟨.func,1,8,[.nilFunc],[]⟩
def sF:TI:=⟨.func,1,8,[.nilFunc],[]⟩
def sG:TI:=⟨.func,1,8,[.nilFunc],[]⟩
def sH:TI:=⟨.func,1,8,[.nilFunc],[]⟩
def sI:TI:=⟨.func,1,8,[.nilFunc],[]⟩
def sJ:TI:=⟨.slice 70,1,24,[.slice none 0 0],[]⟩
def sK:TI:=⟨.func,1,8,[.nilFunc],[]⟩
def sL:TI:=⟨.func,1,8,[.nilFunc],[]⟩
def sM:TI:=⟨.func,1,8,[.nilFunc],[]⟩
def sN:TI:=⟨.func,1,8,[.nilFunc],[]⟩
def sO:TI:=⟨.func,1,8,[.nilFunc],[]⟩
def sP:TI:=⟨.func,1,8,[.nilFunc],[]⟩
def sQ:TI:=⟨.func,1,8,[.nilFunc],[]⟩
def sR:TI:=⟨.func,1,8,[.nilFunc],[]⟩
def sS:TI:=⟨.func,1,8,[.nilFunc],[]⟩
def sT:TI:=⟨.func,1,8,[.nilFunc],[]⟩
def sU:TI:=⟨.func,1,8,[.nilFunc],[]⟩
def sV:TI:=⟨.func,1,8,[.nilFunc],[]⟩
def sW:TI:=⟨.func,1,8,[.nilFunc],[]⟩
def sX:TI:=⟨.func,1,8,[.nilFunc],[]⟩
def sY:TI:=⟨.func,1,8,[.nilFunc],[]⟩
def sZ:TI:=⟨.func,1,8,[.nilFunc],[]⟩
def sd:TI:=⟨.arr 256 4,256,256,Ao [.bool false] 256,[]⟩
def se:TI:=⟨.arr 256 4,256,256,Ao [.bool false] 256,[]⟩
def sk:TI:=⟨.other,1,0,[],[]⟩
def sm:TI:=⟨.func,1,8,[.nilFunc],[]⟩
def so:TI:=⟨.slice 102,1,24,[.slice none 0 0],[]⟩
def sq:TI:=⟨.func,1,8,[.nilFunc],[]⟩
def su:TI:=⟨.func,1,8,[.nilFunc],[]⟩
def sv:TI:=⟨.func,1,8,[.nilFunc],[]⟩
def sw:TI:=⟨.func,1,8,[.nilFunc],[]⟩
def sx:TI:=⟨.func,1,8,[.nilFunc],[]⟩
def sy:TI:=⟨.func,1,8,[.nilFunc],[]⟩
def tA:TI:=⟨.func,1,8,[.nilFunc],[]⟩
def tB:TI:=⟨.func,1,8,[.nilFunc],[]⟩
def tC:TI:=⟨.func,1,8,[.nilFunc],[]⟩
def tD:TI:=⟨.func,1,8,[.nilFunc],[]⟩
def tE:TI:=⟨.func,1,8,[.nilFunc],[]⟩
def tF:TI:=⟨.func,1,8,[.nilFunc],[]⟩
def tG:TI:=⟨.func,1,8,[.nilFunc],[]⟩
def tH:TI:=⟨.func,1,8,[.nilFunc],[]⟩
def tI:TI:=⟨.func,1,8,[.nilFunc],[]⟩
def tJ:TI:=⟨.ptr 711,1,8,[.pointer none],[("strings.contains",619)]⟩
def tK:TI:=⟨.func,1,8,[.nilFunc],[]⟩
def tL:TI:=⟨.func,1,8,[.nilFunc],[]⟩
def tM:TI:=⟨.func,1,8,[.nilFunc],[]⟩
def tN:TI:=⟨.func,1,8,[.nilFunc],[]⟩
def tO:TI:=⟨.func,1,8,[.nilFunc],[]⟩
def tP:TI:=⟨.func,1,8,[.nilFunc],[]⟩
def tQ:TI:=⟨.func,1,8,[.nilFunc],[]⟩
def tR:TI:=⟨.func,1,8,[.nilFunc],[]⟩
def tS:TI:=⟨.func,1,8,[.nilFunc],[]⟩
def tT:TI:=⟨.func,1,8,[.nilFunc],[]⟩
def tU:TI:=⟨.arr 0 16,0,0,[],[]⟩
def tV:TI:=⟨.int .u8,1,1,[.int .u8 0],[]⟩
def tW:TI:=⟨.int .u8,1,1,[.int .u8 0],[("String",721)]⟩
def tX:TI:=⟨.func,1,8,[.nilFunc],[]⟩
def tY:TI:=⟨.ptr 5,1,8,[.pointer none],[]⟩
def tZ:TI:=⟨.int .i32,1,4,[.int .i32 0],[]⟩
def ta:TI:=⟨.int .i32,1,4,[.int .i32 0],[]⟩
def tb:TI:=⟨.func,1,8,[.nilFunc],[]⟩
def tc:TI:=⟨.func,1,8,[.nilFunc],[]⟩
def td:TI:=⟨.func,1,8,[.nilFunc],[]⟩
def te:TI:=⟨.func,1,8,[.nilFunc],[]⟩
def tf:TI:=⟨.func,1,8,[.nilFunc],[]⟩
def tg:TI:=⟨.func,1,8,[.nilFunc],[]⟩
def th:TI:=⟨.other,1,0,[],[]⟩
def tj:TI:=⟨.func,1,8,[.nilFunc],[]⟩
def tk:TI:=⟨.func,1,8,[.nilFunc],[]⟩
def tm:TI:=⟨.func,1,8,[.nilFunc],[]⟩
def Ua:TI:=⟨.arr 5 224,5,5,Ao [.int .u8 0] 5,[]⟩
def tq:TI:=⟨.ptr 621,1,8,[.pointer none],[]⟩
def ts:TI:=⟨.func,1,8,[.nilFunc],[]⟩
def tu:TI:=⟨.func,1,8,[.nilFunc],[]⟩
def tv:TI:=⟨.func,1,8,[.nilFunc],[]⟩
def tw:TI:=⟨.func,1,8,[.nilFunc],[]⟩
def tx:TI:=⟨.func,1,8,[.nilFunc],[]⟩
def tz:TI:=⟨.slice 775,1,24,[.slice none 0 0],[]⟩
def uA:TI:=⟨.func,1,8,[.nilFunc],[]⟩
def uB:TI:=⟨.func,1,8,[.nilFunc],[]⟩
def uC:TI:=⟨.struct [(0,1,3),(1,1,224)],2,16,[.int .i64 0,.int .u8 0],[]⟩
def MK:TI:=⟨.struct [(0,1,3),(1,1,224)],2,16,[.int .i64 0,.int .u8 0],[]⟩
def uD:TI:=⟨.func,1,8,[.nilFunc],[]⟩
def uE:TI:=⟨.func,1,8,[.nilFunc],[]⟩
def uF:TI:=⟨.func,1,8,[.nilFunc],[]⟩
def uG:TI:=⟨.func,1,8,[.nilFunc],[]⟩
def uH:TI:=⟨.func,1,8,[.nilFunc],[]⟩
def uI:TI:=⟨.other,1,8,[.pointer none],[]⟩
set_option maxRecDepth 100000 in
def ty:TTy:=(.nd (some ty0) (.nd (some ty1) (.nd (some ty3) (.nd (some ty7) (.nd (some AIq) (.nd (some AIx) (.nd (some AJH) (.nd (some gY) (.nd (some ME) (.nd (some oY) .mt .mt) (.nd (some tu) .mt .mt)) (.nd (some mB) (.nd (some rI) .mt .mt) .mt)) (.nd (some ic) (.nd (some kr) (.nd (some pz) .mt .mt) .mt) (.nd (some nH) (.nd (some sT) .mt .mt) .mt))) (.nd (some AJk) (.nd (some hR) (.nd (some kC) (.nd (some pL) .mt .mt) .mt) (.nd (some mf) (.nd (some rq) .mt .mt) .mt)) (.nd (some UI) (.nd (some lX) (.nd (some qf) .mt .mt) .mt) (.nd (some UV) (.nd (some tO) .mt .mt) .mt)))) (.nd (some AI4) (.nd (some AJU) (.nd (some gn) (.nd (some ju) (.nd (some ox) .mt .mt) .mt) (.nd (some mQ) (.nd (some rY) .mt .mt) .mt)) (.nd (some ir) (.nd (some lM) (.nd (some qP) .mt .mt) .mt) (.nd (some nY) (.nd (some sx) .mt .mt) .mt))) (.nd (some BW) (.nd (some iM) (.nd (some kT) (.nd (some pf) .mt .mt) .mt) (.nd (some mz) (.nd (some sD) .mt .mt) .mt)) (.nd (some jR) (.nd (some lu) (.nd (some qt) .mt .mt) .mt) (.nd (some oH) (.nd (some ta) .mt .mt) .mt))))) (.nd (some AIv) (.nd (some RO) (.nd (some AJO) (.nd (some gf) (.nd (some jn) (.nd (some oh) .mt .mt) (.nd (some MK) .mt .mt)) (.nd (some mI) (.nd (some rQ) .mt .mt) .mt)) (.nd (some ik) (.nd (some lE) (.nd (some qH) .mt .mt) .mt) (.nd (some nQ) (.nd (some se) .mt .mt) .mt))) (.nd (some gF) (.nd (some iD) (.nd (some kK) (.nd (some pT) .mt .mt) .mt) (.nd (some mn) (.nd (some r5) .mt .mt) .mt)) (.nd (some MC) (.nd (some lg) (.nd (some qm) .mt .mt) .mt) (.nd (some n8) (.nd (some tU) .mt .mt) .mt)))) (.nd (some AJA) (.nd (some AJc) (.nd (some gx) (.nd (some UK) (.nd (some pD) .mt .mt) .mt) (.nd (some mY) (.nd (some ri) .mt .mt) .mt)) (.nd (some i6) (.nd (some lS) (.nd (some qX) .mt .mt) .mt) (.nd (some nk) (.nd (some tG) .mt .mt) .mt))) (.nd (some gT) (.nd (some iT) (.nd (some kj) (.nd (some po) .mt .mt) .mt) (.nd (some m9) (.nd (some sL) .mt .mt) .mt)) (.nd (some jY) (.nd (some l5) (.nd (some rA) .mt .mt) .mt) (.nd (some oP) (.nd (some tg) .mt .mt) .mt)))))) (.nd (some AIo) (.nd none (.nd (some Vv) (.nd (some AJL) (.nd (some gc) (.nd (some jj) (.nd (some oc) .mt .mt) (.nd (some tz) .mt .mt)) (.nd (some mF) (.nd (some rM) .mt .mt) .mt)) (.nd (some RJ) (.nd (some lB) (.nd (some qD) .mt .mt) .mt) (.nd (some nM) (.nd (some sX) .mt .mt) .mt))) (.nd (some AJn) (.nd (some h9) (.nd (some kG) (.nd (some pP) .mt .mt) .mt) (.nd (some mi) (.nd (some rv) .mt .mt) .mt)) (.nd (some DR) (.nd (some lb) (.nd (some qi) .mt .mt) .mt) (.nd (some nw) (.nd (some tS) .mt .mt) .mt)))) (.nd (some AI6) (.nd (some AJY) (.nd (some UE) (.nd (some jy) (.nd (some o4) .mt .mt) .mt) (.nd (some mU) (.nd (some rc) .mt .mt) .mt)) (.nd (some iy) (.nd (some lO) (.nd (some qT) .mt .mt) .mt) (.nd (some nc) (.nd (some tC) .mt .mt) .mt))) (.nd (some gP) (.nd (some iQ) (.nd (some MF) (.nd (some pj) .mt .mt) .mt) (.nd (some m5) (.nd (some sH) .mt .mt) .mt)) (.nd (some jV) (.nd (some OS) (.nd (some qy) .mt .mt) .mt) (.nd (some oL) (.nd (some tc) .mt .mt) .mt))))) (.nd (some RL) (.nd (some mw) (.nd (some AJR) (.nd (some FQ) (.nd (some Jr) (.nd (some ot) .mt .mt) (.nd (some uG) .mt .mt)) (.nd (some mM) (.nd (some rU) .mt .mt) .mt)) (.nd (some OQ) (.nd (some GN) (.nd (some qL) .mt .mt) .mt) (.nd (some nU) (.nd (some sq) .mt .mt) .mt))) (.nd (some gJ) (.nd (some iH) (.nd (some kO) (.nd (some pX) .mt .mt) .mt) (.nd (some mr) (.nd (some r9) .mt .mt) .mt)) (.nd (some jN) (.nd (some Js) (.nd (some qq) .mt .mt) .mt) (.nd (some oE) (.nd (some tW) .mt .mt) .mt)))) (.nd (some AJD) (.nd (some AJg) (.nd (some hJ) (.nd (some j9) (.nd (some pG) .mt .mt) .mt) (.nd (some mc) (.nd (some rm) .mt .mt) .mt)) (.nd (some jB) (.nd (some lU) (.nd (some qc) .mt .mt) .mt) (.nd (some nq) (.nd (some tK) .mt .mt) .mt))) (.nd (some gV) (.nd (some iX) (.nd (some ko) (.nd (some pu) .mt .mt) .mt) (.nd (some nD) (.nd (some sP) .mt .mt) .mt)) (.nd (some jc) (.nd (some l8) (.nd (some rE) .mt .mt) .mt) (.nd (some oU) (.nd (some tm) .mt .mt) .mt))))))) (.nd (some ty5) (.nd (some ty9) (.nd (some AIs) (.nd (some lH) (.nd (some AJJ) (.nd (some ga) (.nd (some jh) (.nd (some oZ) .mt .mt) (.nd (some tw) .mt .mt)) (.nd (some mD) (.nd (some rK) .mt .mt) .mt)) (.nd (some ie) (.nd (some kz) (.nd (some qB) .mt .mt) .mt) (.nd (some nJ) (.nd (some sV) .mt .mt) .mt))) (.nd (some AJm) (.nd (some hU) (.nd (some kE) (.nd (some pN) .mt .mt) .mt) (.nd (some mg) (.nd (some rt) .mt .mt) .mt)) (.nd (some jG) (.nd (some lZ) (.nd (some qh) .mt .mt) .mt) (.nd (some Ey) (.nd (some tQ) .mt .mt) .mt)))) (.nd (some Vw) (.nd (some AJW) (.nd (some gq) (.nd (some jw) (.nd (some oz) .mt .mt) .mt) (.nd (some mS) (.nd (some ra) .mt .mt) .mt)) (.nd (some iv) (.nd (some UN) (.nd (some qR) .mt .mt) .mt) (.nd (some na) (.nd (some tA) .mt .mt) .mt))) (.nd (some gN) (.nd (some iO) (.nd (some kW) (.nd (some ph) .mt .mt) .mt) (.nd (some m3) (.nd (some sF) .mt .mt) .mt)) (.nd (some jU) (.nd (some UQ) (.nd (some qv) .mt .mt) .mt) (.nd (some oJ) (.nd none .mt .mt) .mt))))) (.nd (some AIw) (.nd (some RP) (.nd (some AJP) (.nd (some gi) (.nd (some jp) (.nd (some oo) .mt .mt) (.nd (some uE) .mt .mt)) (.nd (some mK) (.nd (some rS) .mt .mt) .mt)) (.nd (some im) (.nd (some lG) (.nd (some qJ) .mt .mt) .mt) (.nd (some nS) (.nd (some sm) .mt .mt) .mt))) (.nd (some gH) (.nd (some iF) (.nd (some kM) (.nd (some pV) .mt .mt) .mt) (.nd (some mp) (.nd (some r7) .mt .mt) .mt)) (.nd (some OR) (.nd (some lm) (.nd (some qo) .mt .mt) .mt) (.nd (some oB) (.nd none .mt .mt) .mt)))) (.nd (some PY) (.nd (some AJe) (.nd (some gz) (.nd (some j8) (.nd (some pE) .mt .mt) .mt) (.nd (some US) (.nd (some rk) .mt .mt) .mt)) (.nd (some i9) (.nd (some UO) (.nd (some qZ) .mt .mt) .mt) (.nd (some nn) (.nd (some tI) .mt .mt) .mt))) (.nd (some gU) (.nd (some iV) (.nd (some km) (.nd (some pq) .mt .mt) .mt) (.nd (some nB) (.nd (some sN) .mt .mt) .mt)) (.nd (some ja) (.nd (some UR) (.nd (some rC) .mt .mt) .mt) (.nd (some oR) (.nd (some tj) .mt .mt) .mt)))))) (.nd none (.nd (some AIu) (.nd (some lx) (.nd (some AJN) (.nd (some gd) (.nd (some jl) (.nd (some UX) .mt .mt) (.nd (some uB) .mt .mt)) (.nd (some mH) (.nd (some rO) .mt .mt) .mt)) (.nd (some RK) (.nd (some lD) (.nd (some qF) .mt .mt) .mt) (.nd (some nO) (.nd (some sZ) .mt .mt) .mt))) (.nd (some gE) (.nd (some iB) (.nd (some kI) (.nd (some pR) .mt .mt) .mt) (.nd (some ml) (.nd (some ry) .mt .mt) .mt)) (.nd (some jJ) (.nd (some ld) (.nd (some qk) .mt .mt) .mt) (.nd (some nz) (.nd none .mt .mt) .mt)))) (.nd (some AI8) (.nd (some AJa) (.nd (some UF) (.nd (some j0) (.nd (some pB) .mt .mt) .mt) (.nd (some mW) (.nd (some rf) .mt .mt) .mt)) (.nd (some iz) (.nd (some lQ) (.nd (some qV) .mt .mt) .mt) (.nd (some ng) (.nd (some tE) .mt .mt) .mt))) (.nd (some gR) (.nd (some iR) (.nd (some kZ) (.nd (some pm) .mt .mt) .mt) (.nd (some m7) (.nd (some sJ) .mt .mt) .mt)) (.nd (some UJ) (.nd (some l0) (.nd (some q8) .mt .mt) .mt) (.nd (some oN) (.nd (some te) .mt .mt) .mt))))) (.nd (some Vu) (.nd (some nK) (.nd (some AJT) (.nd (some Ex) (.nd (some js) (.nd (some ov) .mt .mt) (.nd (some uI) .mt .mt)) (.nd (some mO) (.nd (some rW) .mt .mt) .mt)) (.nd (some ip) (.nd (some lK) (.nd (some qN) .mt .mt) .mt) (.nd (some nW) (.nd (some sv) .mt .mt) .mt))) (.nd (some UB) (.nd (some iJ) (.nd (some kR) (.nd (some pZ) .mt .mt) .mt) (.nd (some mv) (.nd (some sB) .mt .mt) .mt)) (.nd (some jP) (.nd (some lq) (.nd (some MJ) .mt .mt) .mt) (.nd (some oF) (.nd (some tY) .mt .mt) .mt)))) (.nd (some AJF) (.nd (some AJi) (.nd (some hO) (.nd (some kA) (.nd (some pJ) .mt .mt) .mt) (.nd (some me) (.nd (some ro) .mt .mt) .mt)) (.nd (some jD) (.nd (some lW) (.nd (some RR) .mt .mt) .mt) (.nd (some UU) (.nd (some tM) .mt .mt) .mt))) (.nd (some gW) (.nd (some iZ) (.nd (some kq) (.nd (some px) .mt .mt) .mt) (.nd (some nF) (.nd (some sR) .mt .mt) .mt)) (.nd (some je) (.nd (some mA) (.nd (some rG) .mt .mt) .mt) (.nd (some oW) (.nd (some tq) .mt .mt) .mt)))))))) (.nd (some ty2) (.nd (some ty4) (.nd none (.nd (some AIr) (.nd (some ku) (.nd (some AJI) (.nd (some gZ) (.nd (some jg) (.nd (some RQ) .mt .mt) (.nd (some tv) .mt .mt)) (.nd (some mC) (.nd (some rJ) .mt .mt) .mt)) (.nd (some UH) (.nd (some kv) (.nd (some qA) .mt .mt) .mt) (.nd (some nI) (.nd (some sU) .mt .mt) .mt))) (.nd (some AJl) (.nd (some UG) (.nd (some kD) (.nd (some pM) .mt .mt) .mt) (.nd (some MI) (.nd (some rr) .mt .mt) .mt)) (.nd (some jF) (.nd (some lY) (.nd (some qg) .mt .mt) .mt) (.nd (some nu) (.nd (some tP) .mt .mt) .mt)))) (.nd (some Tb) (.nd (some AJV) (.nd (some gp) (.nd (some jv) (.nd (some oy) .mt .mt) .mt) (.nd (some mR) (.nd (some rZ) .mt .mt) .mt)) (.nd (some iu) (.nd (some MG) (.nd (some qQ) .mt .mt) .mt) (.nd (some nZ) (.nd (some sy) .mt .mt) .mt))) (.nd (some gM) (.nd (some iN) (.nd (some kU) (.nd (some pg) .mt .mt) .mt) (.nd (some m0) (.nd (some sE) .mt .mt) .mt)) (.nd (some jT) (.nd (some lw) (.nd (some qu) .mt .mt) .mt) (.nd (some oI) (.nd none .mt .mt) .mt))))) (.nd (some jS) (.nd (some AI0) (.nd (some NU) (.nd (some gh) (.nd (some jo) (.nd (some ol) .mt .mt) (.nd (some uD) .mt .mt)) (.nd (some mJ) (.nd (some rR) .mt .mt) .mt)) (.nd (some il) (.nd (some lF) (.nd (some qI) .mt .mt) .mt) (.nd (some nR) (.nd (some sk) .mt .mt) .mt))) (.nd (some gG) (.nd (some iE) (.nd (some kL) (.nd (some pU) .mt .mt) .mt) (.nd (some mo) (.nd (some r6) .mt .mt) .mt)) (.nd (some jL) (.nd (some ll) (.nd (some qn) .mt .mt) .mt) (.nd (some n9) (.nd none .mt .mt) .mt)))) (.nd (some AJB) (.nd (some AJd) (.nd (some gy) (.nd (some j7) (.nd (some UY) .mt .mt) .mt) (.nd (some mZ) (.nd (some rj) .mt .mt) .mt)) (.nd (some i7) (.nd (some lT) (.nd (some qY) .mt .mt) .mt) (.nd (some nl) (.nd (some tH) .mt .mt) .mt))) (.nd (some Iz) (.nd (some iU) (.nd (some kl) (.nd (some pp) .mt .mt) .mt) (.nd (some nA) (.nd (some sM) .mt .mt) .mt)) (.nd (some jZ) (.nd (some l6) (.nd (some rB) .mt .mt) .mt) (.nd (some oQ) (.nd (some th) .mt .mt) .mt)))))) (.nd (some AIp) (.nd (some AIt) (.nd (some lh) (.nd (some AJM) (.nd (some MA) (.nd (some jk) (.nd (some od) .mt .mt) (.nd (some uA) .mt .mt)) (.nd (some mG) (.nd (some rN) .mt .mt) .mt)) (.nd (some ii) (.nd (some lC) (.nd (some qE) .mt .mt) .mt) (.nd (some nN) (.nd (some sY) .mt .mt) .mt))) (.nd (some gD) (.nd (some iA) (.nd (some kH) (.nd (some pQ) .mt .mt) .mt) (.nd (some mj) (.nd (some rx) .mt .mt) .mt)) (.nd (some jI) (.nd (some lc) (.nd (some qj) .mt .mt) .mt) (.nd (some ny) (.nd (some tT) .mt .mt) .mt)))) (.nd (some AI7) (.nd (some AJZ) (.nd (some gu) (.nd (some jz) (.nd (some pA) .mt .mt) .mt) (.nd (some mV) (.nd (some re) .mt .mt) .mt)) (.nd (some MB) (.nd (some lP) (.nd (some qU) .mt .mt) .mt) (.nd (some nf) (.nd (some tD) .mt .mt) .mt))) (.nd (some gQ) (.nd (some Jq) (.nd (some kY) (.nd (some pk) .mt .mt) .mt) (.nd (some m6) (.nd (some sI) .mt .mt) .mt)) (.nd (some jW) (.nd (some lz) (.nd (some qz) .mt .mt) .mt) (.nd (some oM) (.nd (some td) .mt .mt) .mt))))) (.nd (some j6) (.nd (some AI2) (.nd (some AJS) (.nd (some gk) (.nd (some jr) (.nd (some ou) .mt .mt) (.nd (some uH) .mt .mt)) (.nd (some mN) (.nd (some rV) .mt .mt) .mt)) (.nd (some io) (.nd (some lJ) (.nd (some qM) .mt .mt) .mt) (.nd (some nV) (.nd (some su) .mt .mt) .mt))) (.nd (some gK) (.nd (some iI) (.nd (some kQ) (.nd (some pY) .mt .mt) .mt) (.nd (some mu) (.nd (some sA) .mt .mt) .mt)) (.nd (some jO) (.nd (some lp) (.nd (some qr) .mt .mt) .mt) (.nd (some UW) (.nd (some tX) .mt .mt) .mt)))) (.nd (some AJE) (.nd (some AJh) (.nd (some hM) (.nd (some RM) (.nd (some pH) .mt .mt) .mt) (.nd (some md) (.nd (some rn) .mt .mt) .mt)) (.nd (some jC) (.nd (some lV) (.nd (some qd) .mt .mt) .mt) (.nd (some nr) (.nd (some tL) .mt .mt) .mt))) (.nd (some UD) (.nd (some iY) (.nd (some kp) (.nd (some pw) .mt .mt) .mt) (.nd (some nE) (.nd (some sQ) .mt .mt) .mt)) (.nd (some jd) (.nd (some l9) (.nd (some rF) .mt .mt) .mt) (.nd (some oV) (.nd (some Ua) .mt .mt) .mt))))))) (.nd (some ty6) (.nd (some AIn) (.nd none (.nd (some AIy) (.nd (some AJK) (.nd (some gb) (.nd (some ji) (.nd (some oa) .mt .mt) (.nd (some tx) .mt .mt)) (.nd (some mE) (.nd (some rL) .mt .mt) .mt)) (.nd (some ig) (.nd (some lA) (.nd (some qC) .mt .mt) .mt) (.nd (some nL) (.nd (some sW) .mt .mt) .mt))) (.nd (some RS) (.nd (some h8) (.nd (some kF) (.nd (some pO) .mt .mt) .mt) (.nd (some mh) (.nd (some ru) .mt .mt) .mt)) (.nd (some jH) (.nd (some la) (.nd (some UZ) .mt .mt) .mt) (.nd (some nv) (.nd (some tR) .mt .mt) .mt)))) (.nd (some AI5) (.nd (some AJX) (.nd (some gt) (.nd (some jx) (.nd (some o0) .mt .mt) .mt) (.nd (some mT) (.nd (some rb) .mt .mt) .mt)) (.nd (some iw) (.nd (some lN) (.nd (some qS) .mt .mt) .mt) (.nd (some nb) (.nd (some tB) .mt .mt) .mt))) (.nd (some gO) (.nd (some iP) (.nd (some kX) (.nd (some pi) .mt .mt) .mt) (.nd (some m4) (.nd (some sG) .mt .mt) .mt)) (.nd (some MD) (.nd (some ly) (.nd (some qx) .mt .mt) .mt) (.nd (some oK) (.nd (some tb) .mt .mt) .mt))))) (.nd (some Ta) (.nd (some AI1) (.nd (some AJQ) (.nd (some gj) (.nd (some jq) (.nd (some oq) .mt .mt) (.nd (some uF) .mt .mt)) (.nd (some mL) (.nd (some rT) .mt .mt) .mt)) (.nd (some HC) (.nd (some lI) (.nd (some qK) .mt .mt) .mt) (.nd (some nT) (.nd (some so) .mt .mt) .mt))) (.nd (some gI) (.nd (some iG) (.nd (some kN) (.nd (some pW) .mt .mt) .mt) (.nd (some mq) (.nd (some r8) .mt .mt) .mt)) (.nd (some jM) (.nd (some ln) (.nd (some qp) .mt .mt) .mt) (.nd (some oC) (.nd (some tV) .mt .mt) .mt)))) (.nd (some AJC) (.nd (some AJf) (.nd (some hI) (.nd (some UL) (.nd (some pF) .mt .mt) .mt) (.nd (some ma) (.nd (some rl) .mt .mt) .mt)) (.nd (some jA) (.nd (some HE) (.nd (some qa) .mt .mt) .mt) (.nd (some np) (.nd (some tJ) .mt .mt) .mt))) (.nd (some UC) (.nd (some iW) (.nd (some kn) (.nd (some pt) .mt .mt) .mt) (.nd (some nC) (.nd (some sO) .mt .mt) .mt)) (.nd (some jb) (.nd (some l7) (.nd (some rD) .mt .mt) .mt) (.nd (some oT) (.nd (some tk) .mt .mt) .mt)))))) (.nd none (.nd (some DA) (.nd (some AIz) (.nd (some Ez) (.nd (some ge) (.nd (some jm) (.nd (some oe) .mt .mt) (.nd (some uC) .mt .mt)) (.nd (some MH) (.nd (some rP) .mt .mt) .mt)) (.nd (some ij) (.nd (some RN) (.nd (some qG) .mt .mt) .mt) (.nd (some nP) (.nd (some sd) .mt .mt) .mt))) (.nd (some UA) (.nd (some iC) (.nd (some kJ) (.nd (some pS) .mt .mt) .mt) (.nd (some mm) (.nd (some rz) .mt .mt) .mt)) (.nd (some jK) (.nd (some lf) (.nd (some ql) .mt .mt) .mt) (.nd (some n3) (.nd none .mt .mt) .mt)))) (.nd (some AI9) (.nd (some AJb) (.nd (some gv) (.nd (some j5) (.nd (some pC) .mt .mt) .mt) (.nd (some mX) (.nd (some rh) .mt .mt) .mt)) (.nd (some i5) (.nd (some lR) (.nd (some qW) .mt .mt) .mt) (.nd (some nh) (.nd (some tF) .mt .mt) .mt))) (.nd (some gS) (.nd (some iS) (.nd (some kh) (.nd (some pn) .mt .mt) .mt) (.nd (some m8) (.nd (some sK) .mt .mt) .mt)) (.nd (some jX) (.nd (some l4) (.nd (some q9) .mt .mt) .mt) (.nd (some oO) (.nd (some tf) .mt .mt) .mt))))) (.nd (some kP) (.nd (some AI3) (.nd (some Tc) (.nd (some gm) (.nd (some jt) (.nd (some ow) .mt .mt) .mt) (.nd (some mP) (.nd (some rX) .mt .mt) .mt)) (.nd (some iq) (.nd (some lL) (.nd (some qO) .mt .mt) .mt) (.nd (some nX) (.nd (some sw) .mt .mt) .mt))) (.nd (some gL) (.nd (some iK) (.nd (some kS) (.nd (some pd) .mt .mt) .mt) (.nd (some my) (.nd (some sC) .mt .mt) .mt)) (.nd (some jQ) (.nd (some lr) (.nd (some qs) .mt .mt) .mt) (.nd (some oG) (.nd (some tZ) .mt .mt) .mt)))) (.nd (some AJG) (.nd (some AJj) (.nd (some hP) (.nd (some kB) (.nd (some pK) .mt .mt) .mt) (.nd (some UT) (.nd (some rp) .mt .mt) .mt)) (.nd (some jE) (.nd (some UP) (.nd (some qe) .mt .mt) .mt) (.nd (some nt) (.nd (some tN) .mt .mt) .mt))) (.nd (some gX) (.nd (some ia) (.nd (some UM) (.nd (some py) .mt .mt) .mt) (.nd (some nG) (.nd (some sS) .mt .mt) .mt)) (.nd (some jf) (.nd (some Jt) (.nd (some rH) .mt .mt) .mt) (.nd (some oX) (.nd (some ts) .mt .mt) .mt)))))))))
end
noncomputable section
open Go
set_option maxRecDepth 100000 in
def zt3:VT:=(.nd (.int .i64 0) .mt .mt)
set_option maxRecDepth 100000 in
def zt4:VT:=(.nd (.bool false) .mt .mt)
set_option maxRecDepth 100000 in
def zt5:VT:=(.nd (.int .u8 0) .mt .mt)
set_option maxRecDepth 100000 in
def zt9:VT:=(.nd (.string .empty) .mt .mt)
set_option maxRecDepth 100000 in
def Vz:VT:=(.nd (.slice none 0 0) .mt .mt)
set_option maxRecDepth 100000 in
def Ka:VT:=(.nd (.slice none 0 0) (.nd (.int .i64 0) .mt .mt) .mt)
set_option maxRecDepth 100000 in
def Re:VT:=(.nd (.int .i64 0) (.nd (.slice none 0 0) .mt .mt) .mt)
set_option maxRecDepth 100000 in
def G0:VT:=(.nd (.int .i64 0) (.nd (.slice none 0 0) (.nd (.int .i64 0) .mt .mt) (.nd (.slice none 0 0) .mt .mt)) (.nd (.int .i64 0) (.nd (.slice none 0 0) .mt .mt) (.nd (.slice none 0 0) .mt .mt)))
set_option maxRecDepth 100000 in
def uR:VT:=(.nd (.slice none 0 0) .mt .mt)
set_option maxRecDepth 100000 in
def Rg:VT:=(.nd (.int .i64 0) (.nd (.bool false) (.nd (.slice none 0 0) .mt .mt) .mt) (.nd (.slice none 0 0) .mt .mt))
set_option maxRecDepth 100000 in
def AJo:VT:=(.nd (.int .i64 0) .mt .mt)
def Ki:VT:=(.nd (.int .u32 0) .mt .mt)
def NV:VT:=(.nd (.int .u32 0) Ki Ki)
def NW:VT:=(.nd (.int .u32 0) NV NV)
def NX:VT:=(.nd (.int .u32 0) NW NW)
def NY:VT:=(.nd (.int .u32 0) NX NX)
def NZ:VT:=(.nd (.int .u32 0) NY NY)
def Te:VT:=(.nd (.int .u32 0) (.nd (.int .u32 0) (.nd (.int .u32 0) (.nd (.int .u32 0) (.nd (.int .u32 0) (.nd (.int .u32 0) (.nd (.int .u32 0) (.nd (.int .u32 0) Ki .mt) Ki) NV) NW) NX) NY) NZ) (.nd (.int .u32 0) NZ NZ))
set_option maxRecDepth 100000 in
def Rh:VT:=(.nd (.int .i64 0) (.nd (.int .i64 0) .mt .mt) .mt)
set_option maxRecDepth 100000 in
def Tf:VT:=(.nd (.int .i64 0) (.nd (.int .i64 0) (.nd (.int .i64 0) (.nd (.int .i64 0) .mt .mt) (.nd (.slice none 0 0) .mt .mt)) (.nd (.string .empty) (.nd (.int .i64 0) .mt .mt) .mt)) (.nd (.int .u8 0) (.nd (.int .i64 0) (.nd (.string .empty) .mt .mt) .mt) (.nd (.int .i64 0) (.nd (.int .i64 0) .mt .mt) .mt)))
set_option maxRecDepth 100000 in
def AJp:VT:=(.nd (.nilFunc) .mt .mt)
set_option maxRecDepth 100000 in
def Bq:VT:=(.nd (.int .i64 0) (.nd (.int .i64 0) (.nd (.int .i64 0) (.nd (.slice none 0 0) .mt .mt) .mt) (.nd (.bool false) (.nd (.bool false) .mt .mt) .mt)) (.nd (.int .i64 0) (.nd (.int .i64 0) (.nd (.slice none 0 0) .mt .mt) .mt) (.nd (.int .i64 0) (.nd (.int .i64 0) .mt .mt) .mt)))
set_option maxRecDepth 100000 in
def Ra:VT:=(.nd (.slice none 0 0) .mt .mt)
set_option maxRecDepth 100000 in
def MO:VT:=(.nd (.int .i64 0) (.nd (.int .i64 0) (.nd (.int .i64 0) (.nd (.int .i64 0) .mt .mt) (.nd (.int .i64 0) .mt .mt)) (.nd (.int .i64 0) (.nd (.slice none 0 0) .mt .mt) (.nd (.slice none 0 0) .mt .mt))) (.nd (.int .i64 0) (.nd (.int .i64 0) (.nd (.slice none 0 0) .mt .mt) (.nd (.slice none 0 0) .mt .mt)) (.nd (.bool false) (.nd (.bool false) .mt .mt) .mt)))
set_option maxRecDepth 100000 in
def uM:VT:=(.nd (.int .i64 0) (.nd (.int .i64 0) .mt .mt) (.nd (.slice none 0 0) .mt .mt))
set_option maxRecDepth 100000 in
def uN:VT:=(.nd (.int .i64 0) (.nd (.int .i64 0) (.nd (.int .i64 0) (.nd (.string .empty) (.nd (.int .i64 0) .mt .mt) .mt) (.nd (.int .i64 0) .mt .mt)) (.nd (.int .i64 0) (.nd (.int .i64 0) (.nd (.int .i64 0) .mt .mt) .mt) (.nd (.slice none 0 0) .mt .mt))) (.nd (.int .i64 0) (.nd (.int .u8 0) (.nd (.int .i64 0) (.nd (.int .i64 0) .mt .mt) .mt) (.nd (.int .i64 0) .mt .mt)) (.nd (.int .i64 0) (.nd (.string .empty) .mt .mt) (.nd (.slice none 0 0) .mt .mt))))
set_option maxRecDepth 100000 in
def CP:VT:=(.nd (.int .i64 0) (.nd (.int .i64 0) (.nd (.bool false) (.nd (.slice none 0 0) .mt .mt) .mt) (.nd (.slice none 0 0) .mt .mt)) (.nd (.bool false) (.nd (.int .i64 0) .mt .mt) (.nd (.int .i64 0) .mt .mt)))
set_option maxRecDepth 100000 in
def Jv:VT:=(.nd (.int .i64 0) (.nd (.int .i64 0) .mt .mt) .mt)
set_option maxRecDepth 100000 in
def Rb:VT:=(.nd (.string .empty) (.nd (.int .i64 0) .mt .mt) .mt)
set_option maxRecDepth 100000 in
def Ub:VT:=(.nd (.int .i64 0) (.nd (.int .i64 0) .mt .mt) (.nd (.slice none 0 0) .mt .mt))
set_option maxRecDepth 100000 in
def E3:VT:=(.nd (.int .i64 0) (.nd (.int .i64 0) (.nd (.int .i64 0) .mt .mt) .mt) (.nd (.int .i64 0) (.nd (.slice none 0 0) .mt .mt) .mt))
set_option maxRecDepth 100000 in
def FS:VT:=(.nd (.int .i64 0) (.nd (.int .i64 0) (.nd (.int .i64 0) .mt .mt) (.nd (.slice none 0 0) .mt .mt)) (.nd (.int .u8 0) (.nd (.slice none 0 0) .mt .mt) (.nd (.int .i64 0) .mt .mt)))
set_option maxRecDepth 100000 in
def MP:VT:=(.nd (.int .i64 0) (.nd (.int .u8 0) .mt .mt) (.nd (.int .i64 0) .mt .mt))
set_option maxRecDepth 100000 in
def Uc:VT:=(.nd (.int .i64 0) (.nd (.int .i64 0) (.nd (.int .i64 0) .mt .mt) (.nd (.int .i64 0) .mt .mt)) (.nd (.int .u8 0) (.nd (.int .i64 0) .mt .mt) .mt))
set_option maxRecDepth 100000 in
def Rc:VT:=(.nd (.int .i64 0) (.nd (.int .i64 0) (.nd (.int .i64 0) .mt .mt) (.nd (.int .i64 0) .mt .mt)) (.nd (.int .u8 0) (.nd (.int .i64 0) .mt .mt) (.nd (.slice none 0 0) .mt .mt)))
set_option maxRecDepth 100000 in
def MQ:VT:=(.nd (.int .i64 0) (.nd (.slice none 0 0) .mt .mt) .mt)
set_option maxRecDepth 100000 in
def OX:VT:=(.nd (.pointer none) (.nd (.int .i64 0) (.nd (.int .i64 0) (.nd (.bool false) .mt .mt) .mt) (.nd (.slice none 0 0) .mt .mt)) (.nd (.int .i64 0) (.nd (.int .i64 0) .mt .mt) (.nd (.slice none 0 0) .mt .mt)))
set_option maxRecDepth 100000 in
def GQ:VT:=(.nd (.slice none 0 0) (.nd (.int .i64 0) .mt .mt) (.nd (.slice none 0 0) .mt .mt))
def Hn:VT:=(.nd (.int .u8 0) .mt .mt)
def Kb:VT:=(.nd (.int .u8 0) Hn Hn)
def Kc:VT:=(.nd (.int .u8 0) Kb Kb)
def Ke:VT:=(.nd (.int .u8 0) Kc Kc)
def uO:VT:=(.nd (.int .u8 0) (.nd (.int .u8 0) (.nd (.int .u8 0) (.nd (.int .u8 0) (.nd (.int .u8 0) (.nd (.int .u8 0) Hn .mt) Hn) Kb) Kc) Ke) (.nd (.int .u8 0) Ke Ke))
def Ho:VT:=(.nd (.int .u8 0) .mt .mt)
def Kf:VT:=(.nd (.int .u8 0) Ho Ho)
def Kg:VT:=(.nd (.int .u8 0) Kf Kf)
def Kh:VT:=(.nd (.int .u8 0) Kg Kg)
def Ud:VT:=(.nd (.int .u8 0) (.nd (.int .u8 0) (.nd (.int .u8 0) (.nd (.int .u8 0) (.nd (.int .u8 0) (.nd (.int .u8 0) Ho .mt) Ho) Kf) Kg) Kh) (.nd (.int .u8 0) Kh Kh))
set_option maxRecDepth 100000 in
def HG:VT:=(.nd (.int .i64 0) (.nd (.int .i64 0) (.nd (.int .u8 0) .mt .mt) .mt) (.nd (.int .i64 0) (.nd (.slice none 0 0) .mt .mt) .mt))
set_option maxRecDepth 100000 in
def uP:VT:=(.nd (.int .i64 0) (.nd (.int .i64 0) .mt .mt) (.nd (.int .i64 0) .mt .mt))
set_option maxRecDepth 100000 in
def uQ:VT:=(.nd (.pointer none) .mt .mt)
set_option maxRecDepth 100000 in
def GR:VT:=(.nd (.int .i64 0) (.nd (.int .i64 0) (.nd (.int .i64 0) .mt .mt) .mt) (.nd (.int .i64 0) .mt .mt))
set_option maxRecDepth 100000 in
def I4:VT:=(.nd (.int .i64 0) (.nd (.int .i64 0) (.nd (.int .i64 0) .mt .mt) (.nd (.slice none 0 0) .mt .mt)) (.nd (.int .i64 0) (.nd (.slice none 0 0) .mt .mt) (.nd (.slice none 0 0) .mt .mt)))
set_option maxRecDepth 100000 in
def Rf:VT:=(.nd (.int .i64 0) (.nd (.int .i64 0) (.nd (.int .u8 0) .mt .mt) .mt) (.nd (.int .i64 0) .mt .mt))
set_option maxRecDepth 100000 in
def MR:VT:=(.nd (.bool false) (.nd (.bool false) (.nd (.bool false) .mt .mt) (.nd (.bool false) .mt .mt)) (.nd (.bool false) (.nd (.int .i64 0) .mt .mt) .mt))
set_option maxRecDepth 100000 in
def Ue:VT:=(.nd (.int .i64 0) (.nd (.int .i64 0) .mt .mt) (.nd (.slice none 0 0) .mt .mt))
set_option maxRecDepth 100000 in
def I5:VT:=(.nd (.int .i64 0) (.nd (.int .i64 0) (.nd (.int .u8 0) .mt .mt) (.nd (.int .i64 0) .mt .mt)) (.nd (.int .i64 0) (.nd (.slice none 0 0) .mt .mt) .mt))
set_option maxRecDepth 100000 in
def uS:VT:=(.nd (.nilFunc) .mt .mt)
set_option maxRecDepth 100000 in
def Jw:VT:=(.nd (.int .i64 0) (.nd (.int .i64 0) (.nd (.int .i64 0) .mt .mt) .mt) (.nd (.int .i64 0) (.nd (.slice none 0 0) .mt .mt) .mt))
set_option maxRecDepth 100000 in
def OY:VT:=(.nd (.int .i64 0) (.nd (.int .i64 0) (.nd (.int .i64 0) .mt .mt) (.nd (.slice none 0 0) .mt .mt)) (.nd (.int .i64 0) (.nd (.slice none 0 0) .mt .mt) (.nd (.slice none 0 0) .mt .mt)))
set_option maxRecDepth 100000 in
def OZ:VT:=(.nd (.int .i64 0) (.nd (.bool false) .mt .mt) (.nd (.slice none 0 0) .mt .mt))
set_option maxRecDepth 100000 in
def uT:VT:=(.nd (.int .u64 0) (.nd (.int .u64 0) (.nd (.int .u64 0) .mt .mt) (.nd (.int .u64 0) .mt .mt)) (.nd (.int .u64 0) (.nd (.int .u64 0) .mt .mt) .mt))
set_option maxRecDepth 100000 in
def uU:VT:=(.nd (.int .i64 0) (.nd (.int .u8 0) .mt .mt) .mt)
def c3:C:=
(cOp t4 (oMove (kV (.bool false)))
(cOp t14 (AP g1)
(cOp t15 (AH iGt .i64 g14 (kV (.int .i64 3000)))
(AF g15
(cOp t16 (AE 5 [])
(cOp t4 (oMove g16)
AL))
(cOp t5 (oMove (kV (.pointer none)))
(cOp t18 (AZ Tb.zero [])
(cOp t19 (Al g18)
(cOp t20 (AZ Vw.zero [(0,1,g5),(1,1,g19)])
(cOp t21 (oMove (kV (.int .i64 0)))
(AY (AM 0 (Ah (cOp t22 (AH iLt .i64 g21 (kV (.int .i64 2)))
(AF g22
(AY (AM 1 (cOp t23 (oAt false 2 1 g20 g21)
(cOp t7 (oMove g23)
(cOp t25 (AE 6 [g7])
(cOp t27 (AE 7 [g7])
(cOp t29 (AE 8 [g7,(kV (.bool true))])
(cOp t33 (AE 9 [g7,g0,g1])
(cOp t34 (AH iNe .i64 g33 (kV (.int .i64 1)))
(cG g34 false t36 (oMove g7)
(cG g34 false t37 (AE 10 [g36])
(cG g34 false t38 (AP g37)
(cG g34 false t39 (AH iNe .i64 g38 (kV (.int .i64 0)))
(cOp t40 (AK g34 (kV (.bool true)) g39)
(cG g40 false t42 (oMove g7)
(cG g40 false t43 (AE 11 [g42,(kV (.int .i64 1)),(kV (.int .i64 2))])
(cG g40 false t44 (AH iNe .i64 g43 (kV (.int .i64 1)))
(cOp t45 (AK g40 (kV (.bool true)) g44)
(cG g45 false t47 (oMove g7)
(cG g45 false t48 (AE 12 [g47])
(cG g45 false t49 (C2 true 2 1 g48)
(cG g45 false t50 (C2 false 1 0 g49)
(cG g45 false t51 (AP g50)
(cG g45 false t52 (AH iNe .i64 g51 (kV (.int .i64 0)))
(cOp t53 (AK g45 (kV (.bool true)) g52)
(cG g53 false t55 (oMove g7)
(cG g53 false t56 (AE 13 [g55])
(cG g53 false t57 (AP g56)
(cG g53 false t58 (AH iNe .i64 g57 (kV (.int .i64 0)))
(cOp t59 (AK g53 (kV (.bool true)) g58)
(cG g59 false t61 (oMove g7)
(cG g59 false t62 (AE 14 [g61])
(cOp t63 (AK g59 (kV (.bool true)) g62)
(cG g63 false t65 (oMove g7)
(cG g63 false t66 (AE 15 [g65])
(cOp t67 (AK g63 (kV (.bool true)) g66)
(AF g67
(cOp t4 (oMove (kV (.bool false)))
AL)
cNorm))))))))))))))))))))))))))))))))))))
(cOp t68 (Ad .i64 (AW .i64) g21 (kV (.int .i64 1)))
(cOp t21 (oMove g68)
cNorm)))
(Af 0)))))
(cOp t70 (AE 16 [(kV (.int .i64 20))])
(cOp t71 (AG 0 g70)
(cOp t72 (AG 1 g70)
(cOp t8 (oMove g71)
(cOp t9 (oMove g72)
(cOp t73 (AE 17 [])
(cOp t10 (AV 256 Te)
(cDo (AD 256 g10 g73)
(cOp t76 (AZ Ta.zero [])
(cOp t77 (AE 18 [g8,(kV (.pointer none)),g10,g76])
(cOp t78 (AG 0 g77)
(cOp t79 (AG 1 g77)
(cOp t11 (oMove g78)
(cOp t12 (oMove g79)
(cOp t81 (AH iEq .i64 g12 (kV (.int .i64 1)))
(cG g81 true t83 (AE 5 [])
(cOp t84 (AK g81 g83 (kV (.bool false)))
(cOp t4 (oMove g84)
AL))))))))))))))))))))))))))))
def b3:Body:=⟨[.t g4],c3⟩
theorem oFn{g:Nat}{f:Func}{b:Body}(A:List Nat)(hf:Tryz.prog.funcs[g]? =some f)(hn:(f.name == "runtime.NumGoroutine")=false)(hb:Pm ty A f=some b):AX Tryz.prog ty g b:=Or.inl ⟨f,A,hf,by simpa using hn,hb⟩
theorem o3:AX Tryz.prog ty 3 b3:=oFn [13,17,24,26,28,30,31,32,35,41,46,54,60,64,69,74,75,80,82] Tryz.func3 (by kernel_rfl) (by kernel_rfl)
def c5:C:=
(cOp t0 (oMove (kV (.bool false)))
(cOp t10 (AE 40 [(kV (.int .u8 0)),(kV (.slice none 0 0))])
(cOp t11 (AG 0 g10)
(cOp t12 (AG 1 g10)
(cOp t1 (oMove g11)
(cOp t2 (oMove g12)
(cOp t14 (Ak g2)
(AF g14
(cOp t0 (oMove (kV (.bool false)))
AL)
(cOp t17 (AZ Ez.zero [(0,1,(kV (.int .i64 1))),(1,1,(kV (.int .i64 1)))])
(cOp t18 (AZ NU.zero [(1,1,(kV (.int .i64 1))),(2,1,(kV (.int .u8 2))),(3,2,g17),(5,1,(kV (.string ⟨#[102]⟩)))])
(cOp t19 (AE 41 [g1,g18,(kV (.int .i64 9))])
(cOp t20 (AG 0 g19)
(cOp t21 (AG 1 g19)
(cOp t3 (AV 11 Bq)
(cDo (AD 11 g3 g20)
(cOp t4 (oMove g21)
(cOp t24 (AB 3 g3)
(cOp t25 (AJ 2 g24)
(cOp t26 (AQ 4 (Ao ty5.zero 4) [(0,1,(kV (.int .u8 97))),(1,1,(kV (.int .u8 98))),(2,1,(kV (.int .u8 99))),(3,1,(kV (.int .u8 100)))])
(cOp t27 (KO g26)
(cOp t28 (AZ NU.zero [(1,1,(kV (.int .i64 2))),(2,1,(kV (.int .u8 5))),(3,2,g25),(9,1,(kV (.int .i64 14))),(11,1,g27)])
(cOp t29 (AE 41 [g1,g28,(kV (.int .i64 9))])
(cOp t30 (AG 0 g29)
(cOp t31 (AG 1 g29)
(cOp t5 (AV 11 Bq)
(cDo (AD 11 g5 g30)
(cOp t6 (oMove g31)
(cOp t34 (AB 3 g3)
(cOp t35 (AJ 2 g34)
(cOp t36 (AZ NU.zero [(1,1,(kV (.int .i64 3))),(2,1,(kV (.int .u8 4))),(3,2,g35),(9,1,(kV (.int .i64 13))),(10,1,(kV (.int .i64 9)))])
(cOp t37 (AE 41 [g1,g36,(kV (.int .i64 9))])
(cOp t38 (AG 0 g37)
(cOp t39 (AG 1 g37)
(cOp t7 (AV 11 Bq)
(cDo (AD 11 g7 g38)
(cOp t8 (oMove g39)
(cG g4 true t42 (oMove g6)
(cOp t43 (AK g4 g42 (kV (.bool false)))
(cG g43 true t45 (oMove g8)
(cOp t46 (AK g43 g45 (kV (.bool false)))
(cG g46 true t48 (AB 2 g3)
(cG g46 true t49 (AC g48)
(cG g46 true t50 (AH iEq .i64 g49 (kV (.int .i64 0)))
(cOp t51 (AK g46 g50 (kV (.bool false)))
(cG g51 true t53 (AB 7 g7)
(cG g51 true t54 (AC g53)
(cG g51 true t55 (C3 g54)
(cG g51 true t56 (EQ bEq g55 (kV (.string ⟨#[0,97,98,99,100]⟩)))
(cOp t57 (AK g51 g56 (kV (.bool false)))
(cG g57 true t59 (AB 6 g7)
(cG g57 true t60 (AC g59)
(cG g57 true t61 (AH iEq .i64 g60 (kV (.int .i64 18)))
(cOp t62 (AK g57 g61 (kV (.bool false)))
(cOp t0 (oMove g62)
AL))))))))))))))))))))))))))))))))))))))))))))))))))))))
def b5:Body:=⟨[.t g0],c5⟩
theorem o5:AX Tryz.prog ty 5 b5:=oFn [9,13,15,16,22,23,32,33,40,41,44,47,52,58] Tryz.func5 (by kernel_rfl) (by kernel_rfl)
def c6:C:=
(cOp t3 (AE 42 [g0])
(cOp t4 (Ak g3)
(AF g4
AL
(AY (AM 0 (Ah (cOp t6 (AE 15 [g0])
(cOp t7 (Ak g6)
(AF g7
(AM 1 (cOp t9 (AO g0)
(cOp t10 (AB 24 g9)
(cOp t11 (AC g10)
(cOp t12 (oEq RP.k false g11 (kV (.pointer none)))
(cG g12 true t14 (oMove g0)
(cG g12 true t15 (AE 43 [g14])
(cG g12 true t16 (Ak g15)
(cOp t17 (AK g12 g16 (kV (.bool false)))
(AF g17
(Af 0)
(cOp t19 (AO g0)
(cOp t20 (AB 24 g19)
(cOp t21 (AC g20)
(cOp t22 (oEq RP.k true g21 (kV (.pointer none)))
(cG g22 true t24 (oMove g0)
(cG g22 true t25 (AE 44 [g24])
(cG g22 true t26 (Ak g25)
(cOp t27 (AK g22 g26 (kV (.bool false)))
(AF g27
(Af 0)
cNorm)))))))))))))))))))
(Af 0))))))
(cOp t29 (AE 15 [g0])
(cOp t30 (Ak g29)
(AF g30
(cOp t32 (AE 45 [g0])
(cOp t34 (AE 46 [g0])
cNorm))
cNorm)))))))
def b6:Body:=⟨[],c6⟩
theorem o6:AX Tryz.prog ty 6 b6:=oFn [2,5,8,13,18,23,28,31,33] Tryz.func6 (by kernel_rfl) (by kernel_rfl)
def c7:C:=
(cOp t3 (AE 42 [g0])
(AF g3
(cOp t5 (AO g0)
(cOp t6 (AB 22 g5)
(cOp t7 (AC g6)
(cOp t8 (Ad .i64 (AW .i64) g7 (kV (.int .i64 1)))
(cOp t9 (AO g0)
(cOp t10 (AB 22 g9)
(cDo (AD 1 g10 g8)
(cOp t12 (AO g0)
(cOp t13 (AB 13 g12)
(cOp t14 (AC g13)
(cOp t15 (AE 47 [g14])
cNorm)))))))))))
cNorm))
def b7:Body:=⟨[],c7⟩
theorem o7:AX Tryz.prog ty 7 b7:=oFn [2,4,11] Tryz.func7 (by kernel_rfl) (by kernel_rfl)
def c8:C:=
(cOp t5 (AE 42 [g0])
(AF g5
(cOp t8 (AO g0)
(cOp t9 (AB 32 g8)
(cDo (AD 1 g9 g1)
cNorm)))
cNorm))
def b8:Body:=⟨[],c8⟩
theorem o8:AX Tryz.prog ty 8 b8:=oFn [4,6,7] Tryz.func8 (by kernel_rfl) (by kernel_rfl)
def c9:C:=
(cOp t6 (oMove (kV (.int .i64 0)))
(cOp t11 (AE 42 [g0])
(cOp t12 (Ak g11)
(AF g12
(cOp t6 (oMove (kV (.int .i64 1)))
AL)
(cOp t15 (AO g0)
(cOp t16 (AB 0 g15)
(cOp t17 (AB 1 g16)
(cOp t18 (AC g17)
(cOp t19 (AH iLt .i64 g1 g18)
(cG g19 false t21 (oMove g1)
(cG g19 false t22 (oMove g0)
(cG g19 false t23 (AO g22)
(cG g19 false t24 (AB 0 g23)
(cG g19 false t25 (AB 1 g24)
(cG g19 false t26 (AC g25)
(cG g19 false t27 (Ad .i64 (AW .i64) g26 (kV (.int .i64 16)))
(cG g19 false t28 (AH iGe .i64 g21 g27)
(cOp t29 (AK g19 (kV (.bool true)) g28)
(AF g29
(cOp t31 (AO g0)
(cOp t32 (AB 13 g31)
(cOp t33 (AC g32)
(cOp t36 (AE 48 [g33,g1,g2])
(cOp t6 (oMove g36)
AL)))))
(cOp t39 (AO g0)
(cOp t40 (AB 11 g39)
(cOp t41 (AC g40)
(cOp t43 (AE 49 [g41,g2])
(cOp t44 (AG 0 g43)
(cOp t45 (AG 1 g43)
(cOp t7 (AV 12 Tf)
(cDo (AD 12 g7 g44)
(cOp t8 (oMove g45)
(cOp t47 (AH iNe .i64 g8 (kV (.int .i64 0)))
(AF g47
(cOp t6 (oMove g8)
AL)
(cOp t49 (Ax (.func 50) [] [g7])
(cOp t9 (oMove g49)
(AY (AM 0 (Aa (cOp t51 (AB 0 g7)
(cOp t52 (AC g51)
(cOp t55 (AO g0)
(cOp t56 (AB 0 g55)
(cOp t57 (AB 1 g56)
(cOp t58 (AC g57)
(cOp t59 (At Int.sub .i64 g1 g58)
(cOp t60 (AH iNe .i64 g52 g59)
(cOp t50 (oMove g60)
(AF g50
(cOp t6 (oMove (kV (.int .i64 179)))
AL)
(cOp t63 (AO g0)
(cOp t64 (AB 21 g63)
(cOp t65 (AC g64)
(cOp t67 (AE 51 [g65,g9])
(cG g67 false t69 (oMove g0)
(cG g67 false t70 (AO g69)
(cG g67 false t71 (AB 24 g70)
(cG g67 false t72 (AC g71)
(cG g67 false t73 (oEq RP.k true g72 (kV (.pointer none)))
(cG g67 false t74 (oMove g73)
(cG g74 true t75 (oMove g9)
(cG g74 true t76 (oMove g0)
(cG g74 true t77 (AO g76)
(cG g74 true t78 (AB 24 g77)
(cG g74 true t79 (AC g78)
(cG g74 true t80 (AO g79)
(cG g74 true t81 (AB 0 g80)
(cG g74 true t82 (AJ 12 g81)
(cG g74 true t83 (Ap g75 [g82])
(cG g67 false t84 (AK g74 g83 (kV (.bool false)))
(cOp t85 (AK g67 (kV (.bool true)) g84)
(cOp t61 (oMove g85)
(AF g61
(cOp t6 (oMove (kV (.int .i64 0)))
AL)
(cOp t88 (AO g0)
(cOp t89 (AB 21 g88)
(cOp t90 (AC g89)
(cOp t91 (AP g90)
(cOp t92 (AH iGe .i64 g91 (kV (.int .i64 64)))
(cOp t86 (oMove g92)
(AF g86
(cOp t6 (oMove (kV (.int .i64 5)))
AL)
cNorm))))))))))))))))))))))))))))))))))))))))))
(Aa (cOp t95 (AO g0)
(cOp t96 (AB 21 g95)
(cOp t97 (AC g96)
(cOp t98 (AJ 12 g7)
(cOp t99 (AN .strong (AQ 1 (Ao NU.zero 1) [(0,12,g98)]))
(cOp Cl (AN .free (Aj 12 128 72 g97 g99))
(cOp Ca (AO g0)
(cOp C8 (AB 21 Bl)
(cDo (AN .free (AD 1 Cp Cf))
(cOp t6 (oMove (kV (.int .i64 0)))
AL))))))))))))))))))))))))))))))))))))))))))))
def b9:Body:=⟨[.t g6],c9⟩
theorem o9:AX Tryz.prog ty 9 b9:=oFn [10,13,14,20,30,34,35,37,38,42,46,48,53,54,62,66,68,87,93,94] Tryz.func9 (by kernel_rfl) (by kernel_rfl)
def c10:C:=
(cOp t2 (oMove (kV (.slice none 0 0)))
(cOp t5 (AE 42 [g0])
(cOp t6 (Ak g5)
(AF g6
(cOp t2 (oMove (kV (.slice none 0 0)))
AL)
(Aa (cOp t8 (AO g0)
(cOp t9 (AB 25 g8)
(cOp t10 (AC g9)
(cOp t12 (AO g0)
(cOp t13 (AB 13 g12)
(cOp t14 (AC g13)
(cOp t15 (Am [g9] (AE 52 [g14]))
(cOp t16 (AN .free (Aj 3 40 202 g10 g15))
(cOp t3 (oMove g16)
(cOp t18 (AO g0)
(cOp t19 (AB 25 g18)
(cDo (AD 1 g19 (kV (.slice none 0 0)))
(cOp t2 (oMove g3)
AL))))))))))))))))))
def b10:Body:=⟨[.t g2],c10⟩
theorem o10:AX Tryz.prog ty 10 b10:=oFn [4,7,11,17,20] Tryz.func10 (by kernel_rfl) (by kernel_rfl)
def c11:C:=
(cOp t6 (oMove (kV (.int .i64 0)))
(AY (AM 0 (cOp t16 (AE 42 [g0])
(cOp t17 (Ak g16)
(cOp t14 (oMove g17)
(AF g14
(cOp t6 (oMove (kV (.int .i64 1)))
AL)
(cOp t20 (AE 15 [g0])
(cOp t18 (oMove g20)
(AF g18
(cOp t6 (oMove (kV (.int .i64 17)))
AL)
cNorm))))))))
(Aa (cOp t23 (AO g0)
(cOp t24 (AB 14 g23)
(cOp t25 (AB 5 g24)
(cOp t26 (AC g25)
(cOp t30 (Am [g25] (AE 13 [g0]))
(cOp t31 (Am [] (AE 53 [g26,g1,g2,g30]))
(cOp t32 (AG 0 g31)
(cOp t33 (AG 1 g31)
(cOp t34 (AG 2 g31)
(cOp t8 (AN .strong (AV 3 uM))
(cOp t7 (oMove g32)
(cDo (AN .free (AD 3 g8 g33))
(cOp t9 (oMove g34)
(cOp t36 (AH iNe .i64 g9 (kV (.int .i64 0)))
(AF g36
(cOp t6 (oMove g9)
AL)
(cOp t42 (AZ MA.zero [(0,1,(kV (.int .i64 3))),(16,1,g1),(17,1,g2)])
(cOp t43 (AE 54 [g0,g42])
(cOp t44 (AG 0 g43)
(cOp t45 (AG 1 g43)
(cOp t10 (AV 11 Bq)
(cDo (AD 11 g10 g44)
(cOp t11 (oMove g45)
(cOp t47 (AH iNe .i64 g11 (kV (.int .i64 0)))
(AF g47
(cOp t6 (oMove g11)
AL)
(Aa (cOp t50 (AO g0)
(cOp t51 (AB 13 g50)
(cOp t52 (AC g51)
(cOp t54 (AO g0)
(cOp t55 (AB 14 g54)
(cOp t56 (AB 5 g55)
(cOp t57 (AC g56)
(cOp t58 (AN .free (AE 55 [g52,g57]))
(cOp t9 (oMove g58)
(cOp t59 (AB 2 g8)
(cOp t60 (AC g59)
(cOp t61 (AP g60)
(cOp t62 (oMove (kV (.int .i64 0)))
(AY (AM 1 (Ah (cOp t63 (AH iLt .i64 g62 g61)
(AF g63
(AY (AM 2 (cOp t64 (Ac 1 g60 g62)
(cOp t65 (AC g64)
(cOp t13 (oMove g65)
(cOp t69 (AO g0)
(cOp t70 (AB 28 g69)
(cOp t71 (AJ 4 g70)
(cOp t73 (AE 56 [g71,g13])
(cOp t74 (AG 0 g73)
(cOp t75 (AG 1 g73)
(cOp t76 (AO g0)
(cOp t77 (AB 28 g76)
(cDo (AD 4 g77 g74)
cNorm)))))))))))))
(cOp t78 (Ad .i64 (AW .i64) g62 (kV (.int .i64 1)))
(cOp t62 (oMove g78)
cNorm)))
(Af 1)))))
(cOp t6 (oMove g9)
AL)))))))))))))))))))))))))))))))))))))))))))
def b11:Body:=⟨[.t g6],c11⟩
theorem o11:AX Tryz.prog ty 11 b11:=oFn [15,19,21,22,27,28,29,35,37,38,39,40,41,46,48,49,53,66,67,68,72,79] Tryz.func11 (by kernel_rfl) (by kernel_rfl)
def c12:C:=
(cOp t2 (AV 7 G0)
(cOp t7 (AE 42 [g0])
(cOp t8 (Ak g7)
(AF g8
(cOp t9 (AZ RO.zero [])
(cDo (AD 7 g2 g9)
AL))
(cOp t12 (AO g0)
(cOp t13 (AB 14 g12)
(cOp t14 (AJ 7 g13)
(cOp t15 (AE 57 [g14,(kV (.int .i64 (-1))),(kV (.int .i64 (-1)))])
(cOp t16 (AG 0 g15)
(cOp t17 (AG 1 g15)
(cOp t18 (AG 2 g15)
(cOp t3 (AV 7 G0)
(cDo (AD 7 g3 g16)
(cOp t4 (oMove g17)
(cOp t5 (oMove g18)
(cOp t19 (AJ 7 g3)
(cDo (AD 7 g2 g19)
AL)))))))))))))))))
def b12:Body:=⟨[.cN g2 7],c12⟩
theorem o12:AX Tryz.prog ty 12 b12:=oFn [6,10,11] Tryz.func12 (by kernel_rfl) (by kernel_rfl)
def c13:C:=
(cOp t2 (oMove (kV (.slice none 0 0)))
(cOp t11 (AE 42 [g0])
(cOp t12 (Ak g11)
(AF g12
(cOp t2 (oMove (kV (.slice none 0 0)))
AL)
(cOp t13 Em
(cOp t3 (oMove g13)
(cOp t15 (AO g0)
(cOp t16 (AB 14 g15)
(cOp t17 (AB 1 g16)
(cOp t18 (AB 0 g17)
(cOp t19 (AC g18)
(cOp t20 (AP g19)
(cOp t21 (oMove (kV (.int .i64 0)))
(AY (AM 0 (Ah (cOp t22 (AH iLt .i64 g21 g20)
(AF g22
(AY (AM 1 (cOp t23 (Ac 8 g19 g21)
(cOp t24 (AJ 8 g23)
(cOp t5 (AV 8 CP)
(cDo (AD 8 g5 g24)
(cOp t25 (AB 5 g5)
(cOp t26 (AC g25)
(cOp t27 (AP g26)
(cOp t28 (oMove (kV (.int .i64 0)))
(AM 2 (Ah (cOp t29 (AH iLt .i64 g28 g27)
(AF g29
(AY (AM 3 (cOp t30 (Ac 2 g26 g28)
(cOp t31 (AJ 2 g30)
(cOp t7 (AV 2 Jv)
(cDo (AD 2 g7 g31)
(cOp t33 (AB 0 g7)
(cOp t34 (AC g33)
(cDo (Au ⟨false,[.i .i64]⟩ g3 g34 (kV (.int .i64 1)))
cNorm))))))))
(cOp t35 (Ad .i64 (AW .i64) g28 (kV (.int .i64 1)))
(cOp t28 (oMove g35)
cNorm)))
(Af 2))))))))))))))
(cOp t36 (Ad .i64 (AW .i64) g21 (kV (.int .i64 1)))
(cOp t21 (oMove g36)
cNorm)))
(Af 0)))))
(cOp t38 (AO g0)
(cOp t39 (AB 14 g38)
(cOp t40 (AB 6 g39)
(cOp t41 (AC g40)
(cOp t42 (AP g41)
(cOp t43 (oMove (kV (.int .i64 0)))
(AY (AM 4 (Ah (cOp t44 (AH iLt .i64 g43 g42)
(AF g44
(AY (AM 5 (cOp t45 (Ac 2 g41 g43)
(cOp t46 (AJ 2 g45)
(cOp t9 (AV 2 Jv)
(cDo (AD 2 g9 g46)
(cOp t48 (AB 0 g9)
(cOp t49 (AC g48)
(cDo (Au ⟨false,[.i .i64]⟩ g3 g49 (kV (.int .i64 1)))
cNorm))))))))
(cOp t50 (Ad .i64 (AW .i64) g43 (kV (.int .i64 1)))
(cOp t43 (oMove g50)
cNorm)))
(Af 4)))))
(cDo (oDelete ⟨false,[.i .i64]⟩ g3 (kV (.int .i64 0)))
(cOp t53 (AE 59 [g3])
(cOp t54 (AE 58 [g53])
(cOp t2 (oMove g54)
AL)))))))))))))))))))))))))
def b13:Body:=⟨[.t g2],c13⟩
theorem o13:AX Tryz.prog ty 13 b13:=oFn [10,14,32,37,47,51,52] Tryz.func13 (by kernel_rfl) (by kernel_rfl)
def c14:C:=
(cOp t2 (oMove (kV (.bool false)))
(cOp t4 (AE 42 [g0])
(cG g4 true t6 (oMove g0)
(cG g4 true t7 (AO g6)
(cG g4 true t8 (AB 24 g7)
(cG g4 true t9 (AC g8)
(cG g4 true t10 (oEq RP.k true g9 (kV (.pointer none)))
(cG g4 true t11 (oMove g10)
(cG g11 false t12 (oMove g0)
(cG g11 false t13 (AO g12)
(cG g11 false t14 (AB 21 g13)
(cG g11 false t15 (AC g14)
(cG g11 false t16 (AP g15)
(cG g11 false t17 (AH iGt .i64 g16 (kV (.int .i64 0)))
(cG g4 true t18 (AK g11 (kV (.bool true)) g17)
(cOp t19 (AK g4 g18 (kV (.bool false)))
(cOp t2 (oMove g19)
AL)))))))))))))))))
def b14:Body:=⟨[.t g2],c14⟩
theorem o14:AX Tryz.prog ty 14 b14:=oFn [3,5] Tryz.func14 (by kernel_rfl) (by kernel_rfl)
def c15:C:=
(cOp t2 (oMove (kV (.bool false)))
(cOp t4 (AE 42 [g0])
(cG g4 true t6 (oMove g0)
(cG g4 true t7 (AO g6)
(cG g4 true t8 (AB 34 g7)
(cG g4 true t9 (AC g8)
(cG g4 true t10 (oMove g9)
(cG g10 false t11 (oMove g0)
(cG g10 false t12 (AO g11)
(cG g10 false t13 (AB 13 g12)
(cG g10 false t14 (AC g13)
(cG g10 false t15 (AE 60 [g14])
(cG g4 true t16 (AK g10 (kV (.bool true)) g15)
(cOp t17 (AK g4 g16 (kV (.bool false)))
(cOp t2 (oMove g17)
AL)))))))))))))))
def b15:Body:=⟨[.t g2],c15⟩
theorem o15:AX Tryz.prog ty 15 b15:=oFn [3,5] Tryz.func15 (by kernel_rfl) (by kernel_rfl)
def c16:C:=
(cOp t2 (oMove (kV (.pointer none)))
(cOp t3 (oMove (kV (.int .i64 0)))
(cOp t5 (AH iLt .i64 g0 (kV (.int .i64 1)))
(cG g5 false t7 (oMove g0)
(cG g5 false t8 (AH iGt .i64 g7 (kV (.int .i64 65536)))
(cOp t9 (AK g5 (kV (.bool true)) g8)
(AF g9
(cOp t2 (oMove (kV (.pointer none)))
(cOp t3 (oMove (kV (.int .i64 2)))
AL))
(cOp t11 (Bp 64 RN.zero g0 g0)
(cOp t12 Em
(cOp t13 (AZ UF.zero [(0,1,g11),(1,1,g12),(2,1,(kV (.int .i64 (-1))))])
(cOp t14 (Al g13)
(cOp t2 (oMove g14)
(cOp t3 (oMove (kV (.int .i64 0)))
AL)))))))))))))
def b16:Body:=⟨[.t g2,.t g3],c16⟩
theorem o16:AX Tryz.prog ty 16 b16:=oFn [4,6,10] Tryz.func16 (by kernel_rfl) (by kernel_rfl)
def c17:C:=
(cOp t0 (AV 256 Te)
(cOp t1 (AV 256 Te)
(cOp t2 (oMove (kV (.int .u32 2197175160)))
(cOp t6 (oMove (kV (.int .i64 0)))
(AY (AM 0 (Ah (cOp t7 (AH iLt .i64 g6 (kV (.int .i64 8)))
(AF g7
(AY (AM 1 (cOp t3 (oMove g6)
(cOp t10 (Fd .i64 (kV (.int .i64 128)) g3)
(cOp t12 (A1 256 1 g1 g10)
(cDo (AD 1 g12 g2)
(cOp t14 (AE 61 [g2])
(cOp t2 (oMove g14)
cNorm)))))))
(cOp t15 (Ad .i64 (AW .i64) g6 (kV (.int .i64 1)))
(cOp t6 (oMove g15)
cNorm)))
(Af 0)))))
(cOp t16 (oMove (kV (.int .i64 0)))
(AY (AM 2 (Ah (cOp t17 (AH iLt .i64 g16 (kV (.int .i64 8)))
(AF g17
(AY (AM 3 (cOp t4 (oMove g16)
(cOp t20 (JB .i64 (kV (.int .i64 1)) g4)
(cOp t21 (oMove (kV (.int .i64 0)))
(AM 4 (Ah (cOp t22 (AH iLt .i64 g21 g20)
(AF g22
(AY (AM 5 (cOp t5 (oMove g21)
(Aa (cOp t25 (JB .i64 (kV (.int .i64 1)) g4)
(cOp t27 (FJ Nat.lor .i64 g25 g5)
(cOp t29 (JB .i64 (kV (.int .i64 1)) g4)
(cOp t30 (A1 256 1 g1 g29)
(cOp t31 (AC g30)
(cOp t33 (A1 256 1 g1 g5)
(cOp t34 (AC g33)
(cOp t35 (FJ Nat.xor .u32 g31 g34)
(cOp t36 (A1 256 1 g1 g27)
(cDo (AN .free (AD 1 g36 g35))
cNorm)))))))))))))
(cOp t37 (Ad .i64 (AW .i64) g21 (kV (.int .i64 1)))
(cOp t21 (oMove g37)
cNorm)))
(Af 4)))))))))
(cOp t38 (Ad .i64 (AW .i64) g16 (kV (.int .i64 1)))
(cOp t16 (oMove g38)
cNorm)))
(Af 2)))))
(cOp t39 (AJ 256 g1)
(cDo (AD 256 g0 g39)
AL)))))))))
def b17:Body:=⟨[.cN g0 256],c17⟩
theorem o17:AX Tryz.prog ty 17 b17:=oFn [8,9,11,13,18,19,23,24,26,28,32] Tryz.func17 (by kernel_rfl) (by kernel_rfl)
def c18:C:=
(cOp t7 (Al g3)
(cOp t8 (oMove (kV (.pointer none)))
(cOp t9 (oMove (kV (.int .i64 0)))
(cOp t14 (oEq Tc.k false g1 (kV (.pointer none)))
(cG g14 false t16 (oMove g1)
(cG g14 false t17 (AE 62 [g16])
(cG g14 false t18 (AH iEq .i64 g17 (kV (.int .i64 0)))
(cOp t19 (AK g14 (kV (.bool true)) g18)
(cG g19 false t21 (oMove g2)
(cG g19 false t22 (oEq RL.k false g21 (kV (.pointer none)))
(cOp t23 (AK g19 (kV (.bool true)) g22)
(AF g23
(cOp t8 (oMove (kV (.pointer none)))
(cOp t9 (oMove (kV (.int .i64 1)))
AL))
(cOp t25 (AJ 9 g7)
(cOp t26 (AE 63 [g1,g25])
(cOp t27 (Ak g26)
(AF g27
(cOp t8 (oMove (kV (.pointer none)))
(cOp t9 (oMove (kV (.int .i64 2)))
AL))
(cOp t30 (AE 64 [g0])
(cOp t31 (AG 0 g30)
(cOp t32 (AG 1 g30)
(cOp t10 (oMove g31)
(cOp t11 (oMove g32)
(cOp t34 (AH iNe .i64 g11 (kV (.int .i64 0)))
(AF g34
(cOp t8 (oMove (kV (.pointer none)))
(cOp t9 (oMove g11)
AL))
(Aa (cOp t36 (AJ 9 g7)
(cOp t38 (Am [g7,g7] (AE 62 [g1]))
(cOp t39 (AB 3 g7)
(cOp t40 (AC g39)
(cOp t41 (At Int.mul .i64 g38 g40)
(cOp t43 (Am [g7,g39] (AE 62 [g1]))
(cOp t46 (Am [g7,g39] (AE 65 []))
(cOp t47 (AN .strong Em)
(cOp t48 (AZ Tb.zero [(0,9,g36),(9,1,g41),(10,1,g43),(11,1,g2),(12,1,g10),(28,4,g46),(32,1,(kV (.bool true))),(33,1,g47)])
(cOp t49 (AN .strong (Al g48))
(cOp t12 (oMove g49)
(cOp t54 (AE 66 [g12,g1])
(cOp t55 (AG 0 g54)
(cOp t56 (AG 1 g54)
(cOp t57 (AO g12)
(cOp t58 (AB 14 g57)
(cDo (AD 7 g58 g55)
(cOp t11 (oMove g56)
(cOp t60 (AH iNe .i64 g11 (kV (.int .i64 0)))
(AF g60
(cOp t8 (oMove (kV (.pointer none)))
(cOp t9 (oMove g11)
AL))
(cOp t65 (AO g12)
(cOp t66 (AB 14 g65)
(cOp t67 (AB 0 g66)
(cOp t68 (AC g67)
(cOp t69 (Ad .i64 (AW .i64) g68 (kV (.int .i64 1)))
(cOp t70 (AZ MA.zero [(0,1,(kV (.int .i64 1))),(1,1,g69)])
(cOp t71 (AE 54 [g12,g70])
(cOp t72 (AG 0 g71)
(cOp t73 (AG 1 g71)
(cOp t11 (oMove g73)
(cOp t75 (AH iNe .i64 g11 (kV (.int .i64 0)))
(AF g75
(cOp t8 (oMove (kV (.pointer none)))
(cOp t9 (oMove g11)
AL))
(Aa (cOp t82 (AO g12)
(cOp t83 (AB 14 g82)
(cOp t84 (AB 5 g83)
(cOp t85 (AC g84)
(cOp t86 (AB 0 g7)
(cOp t87 (AC g86)
(cOp t89 (AO g12)
(cOp t90 (AB 14 g89)
(cOp t91 (AB 0 g90)
(cOp t92 (AC g91)
(cOp t93 (AB 2 g7)
(cOp t94 (AC g93)
(cOp t95 (AB 4 g7)
(cOp t96 (AC g95)
(cOp t97 (AZ UG.zero [(0,1,g87),(1,1,g92),(2,1,g94),(3,1,g96)])
(cOp t98 (AN .free (AE 67 [g1,g2,g85,g97]))
(cOp t99 (AG 0 g98)
(cOp Cl (AG 1 g98)
(cOp Ca (AO g12)
(cOp C8 (AB 13 Bl)
(cDo (AN .free (AD 1 Cp g99))
(cOp t11 (oMove Cf)
(cOp Cs (AH iNe .i64 g11 (kV (.int .i64 0)))
(AF Bx
(cOp t8 (oMove (kV (.pointer none)))
(cOp t9 (oMove g11)
AL))
(cOp FK (AO g12)
(cOp Fi (AB 14 DF)
(cOp FL (AB 0 FZ)
(cOp Dq (AC Eb)
(cOp FM (AH iGt .i64 Df (kV (.int .i64 1)))
(AY (AF Dz
(Aa (cOp Fj (AO g12)
(cOp Gw (AB 14 Ec)
(cOp GK (AB 1 F4)
(cOp Gx (AB 1 D0)
(cOp Iu (AC Gf)
(cOp HP (AO g12)
(cOp L6 (AB 9 Gg)
(cOp Iv (AC Mh)
(cOp NO (D6 .i64 (kV (.int .i64 4096)) DG)
(cOp L7 (Ad .i64 (AW .i64) IG Ed)
(cOp Gy (Ad .i64 (AW .i64) K3 (kV (.int .i64 2)))
(cOp HQ (AO g12)
(cOp Iw (AB 27 HL)
(cDo (AN .free (AD 1 IH Gh))
cNorm)))))))))))))))
cNorm)
(cOp t8 (oMove g12)
(cOp t9 (oMove (kV (.int .i64 0)))
AL)))))))))))))))))))))))))))))))))))))))))))))))))))))))))))))))))))))))))))))))))))))))))
def b18:Body:=⟨[.t g8,.t g9],c18⟩
theorem o18:AX Tryz.prog ty 18 b18:=oFn [13,15,20,24,28,29,33,35,37,42,44,45,50,51,52,53,59,61,62,63,64,74,76,77,78,79,80,81,88,103,105,106,112,113,119,128] Tryz.func18 (by kernel_rfl) (by kernel_rfl)
def c40:C:=
(cOp t4 (oMove (kV (.pointer none)))
(cOp t5 (oMove (kV (.bool false)))
(cOp t17 (AE 105 [g0])
(cOp t18 (AG 0 g17)
(cOp t19 (AG 1 g17)
(cOp t20 (AG 2 g17)
(cOp t6 (oMove g18)
(cOp t7 (oMove g19)
(cOp t8 (oMove g20)
(Aa (cOp t21 (Am [] (AE 17 []))
(cOp t23 (AN .strong Em)
(cOp t26 (AP g1)
(cOp t27 (En g26 (kV (.int .i64 400)))
(cOp t28 (A7 5 1 g1 none (some g27) none)
(cOp t29 (AZ UH.zero [(0,256,g21),(266,1,g7),(271,1,g23),(272,1,g28)])
(cOp t30 (AN .strong (Al g29))
(cOp t9 (oMove g30)
(cOp t10 (oMove (kV (.int .i64 0)))
(cOp t33 (AE 107 [])
(cOp t36 (AE 106 [g33,g6,g7])
(cOp t37 (AG 0 g36)
(cOp t38 (AG 1 g36)
(cOp t39 (AO g9)
(cOp t40 (AB 256 g39)
(cDo (AD 1 g40 g37)
(cOp t10 (oMove g38)
(cOp t42 (AH iNe .i64 g10 (kV (.int .i64 0)))
(AF g42
(cOp t4 (oMove (kV (.pointer none)))
(cOp t5 (oMove (kV (.bool false)))
AL))
(cOp t46 (Ad .i64 (AW .i64) g7 (kV (.int .i64 1)))
(cOp t47 (AZ Ta.zero [(0,1,(kV (.int .i64 290))),(1,1,(kV (.int .i64 260))),(2,1,g8),(3,1,(kV (.int .i64 16))),(4,1,(kV (.int .i64 2))),(5,1,(kV (.int .i64 20))),(6,1,(kV (.int .i64 4))),(7,1,g46),(8,1,(kV (.int .i64 2)))])
(cOp t48 (AO g9)
(cOp t49 (AB 257 g48)
(cDo (AD 9 g49 g47)
(cOp t51 (Ad .i64 (AW .i64) g7 (kV (.int .i64 1)))
(cOp t52 (oMove (kV (.int .i64 0)))
(AY (AM 0 (Ah (cOp t53 (AH iLt .i64 g52 g51)
(AF g53
(AY (AM 1 (cOp t55 (AE 16 [(kV (.int .i64 300))])
(cOp t56 (AG 0 g55)
(cOp t57 (AG 1 g55)
(cOp t11 (oMove g56)
(cOp t12 (oMove g57)
(Aa (cOp t61 (AO g9)
(cOp t62 (AB 0 g61)
(cOp t64 (AO g9)
(cOp t65 (AB 257 g64)
(cOp t66 (AB 3 g65)
(cOp t67 (AC g66)
(cOp t68 (AN .free (AE 108 [g11,g62,g67]))
(cOp t69 (AG 0 g68)
(cOp t70 (AG 1 g68)
(cOp t13 (oMove g69)
(cOp t14 (oMove g70)
(cOp t72 (AH iNe .i64 g12 (kV (.int .i64 0)))
(cG g72 false t74 (oMove g14)
(cG g72 false t75 (AH iNe .i64 g74 (kV (.int .i64 0)))
(cOp t76 (AK g72 (kV (.bool true)) g75)
(AF g76
(cOp t4 (oMove (kV (.pointer none)))
(cOp t5 (oMove (kV (.bool false)))
AL))
(Aa (cOp t80 (AO g9)
(cOp t81 (AB 268 g80)
(cOp t82 (AC g81)
(cOp t84 (AN .strong (AQ 1 (Ao PY.zero 1) [(0,1,g11)]))
(BA g82 []
(cOp t85 (Cj g82 (Aj 1 8 57 g82 g84))
(cOp t87 (AO g9)
(cOp t88 (AB 267 g87)
(BA g88 [g82]
(cOp t89 (AC g88)
(cOp t91 (AN .strong (AQ 1 (Ao RK.zero 1) [(0,1,g13)]))
(cOp t92 (AN .free (Aj 1 8 197 g89 g91))
(cOp t93 (AO g9)
(cOp t94 (AB 268 g93)
(cDo (AN .free (AD 1 g94 g85))
(cOp t95 (AO g9)
(cOp t96 (AB 267 g95)
(cDo (AN .free (AD 1 g96 g92))
cNorm))))))))))))))))))))))))))))))))))))))))))
(cOp t97 (Ad .i64 (AW .i64) g52 (kV (.int .i64 1)))
(cOp t52 (oMove g97)
cNorm)))
(Af 0)))))
(cOp Cl (AE 16 [(kV (.int .i64 600))])
(cOp Ca (AG 0 Cf)
(cOp C8 (AG 1 Cf)
(cOp Cr (AO g9)
(cOp Cs (AB 270 Ck)
(cDo (AD 1 Bx Bl)
(cOp t10 (oMove Cp)
(cOp DH (AH iNe .i64 g10 (kV (.int .i64 0)))
(AF Cg
(cOp t4 (oMove (kV (.pointer none)))
(cOp t5 (oMove (kV (.bool false)))
AL))
(cOp FL (AE 109 [g9])
(cOp t4 (oMove g9)
(cOp t5 (oMove Eb)
AL)))))))))))))))))))))))))))))))))))))))))))))))))
def b40:Body:=⟨[.t g4,.t g5],c40⟩
theorem o40:AX Tryz.prog ty 40 b40:=oFn [15,16,22,24,25,31,32,34,35,41,43,44,45,50,54,58,59,60,63,71,73,77,78,79,83,86,90,98,99,105,107,108] Tryz.func40 (by kernel_rfl) (by kernel_rfl)
def c41:C:=
(cOp t4 (Al g1)
(cOp t6 (AV 11 Bq)
(cOp t7 (oMove (kV (.bool false)))
(Aa (cOp t15 (AO g0)
(cOp t16 (AB 0 g15)
(cOp t17 (AJ 12 g4)
(cOp t18 (AN .free (AE 81 [g16,g17]))
(cOp t19 (AG 0 g18)
(cOp t20 (AG 1 g18)
(cOp t8 (oMove g19)
(cOp t9 (oMove g20)
(cOp t22 (AH iNe .i64 g9 (kV (.int .i64 0)))
(AF g22
(cOp t23 (AZ BW.zero [])
(cDo (AD 11 g6 g23)
(cOp t7 (oMove (kV (.bool false)))
AL)))
(cOp t24 (oMove g2)
(cOp t25 (oMove (kV (.int .i64 0)))
(AY (AM 0 (Ah (cOp t26 (AH iLt .i64 g25 g24)
(AF g26
(AY (AM 1 (cOp t10 (oMove g25)
(cOp t29 (HM .i64 g10 (kV (.int .i64 6)))
(cOp t30 (AH iEq .i64 g29 (kV (.int .i64 0)))
(AY (AF g30
(Aa (cOp t33 (AO g0)
(cOp t34 (AB 257 g33)
(cOp t35 (AB 1 g34)
(cOp t36 (AC g35)
(cOp t37 (AB 0 g4)
(cOp t38 (AC g37)
(cOp t39 (Ad .i64 (AW .i64) g36 g38)
(cOp t41 (AO g0)
(cOp t42 (AB 257 g41)
(cOp t43 (AB 0 g42)
(cOp t44 (AC g43)
(cOp t46 (AZ HC.zero [(0,1,g39),(1,1,g44),(2,1,g8)])
(cOp t47 (AN .free (AE 110 [g0,g46]))
cNorm))))))))))))))
cNorm)
(cOp t49 (AE 111 [g0])
(Aa (cOp t52 (AO g0)
(cOp t53 (AB 271 g52)
(cOp t54 (AC g53)
(cOp t55 (AB 0 g4)
(cOp t56 (AC g55)
(cOp t57 (AB 1 g4)
(cOp t58 (AC g57)
(cOp t59 (AZ OQ.zero [(0,1,g56),(1,1,g58)])
(cOp t60 (A5 ⟨true,[.i .i64,.i .i64]⟩ (.agg ⟨BW.zero⟩) true g54 g59)
(cOp t61 (AG 0 g60)
(cOp t62 (AG 1 g60)
(cOp t11 (AN .strong (AV 11 Bq))
(cDo (AN .free (AD 11 g11 g61))
(cOp t12 (oMove g62)
(AF g12
(cOp t64 (AJ 11 g11)
(cDo (AD 11 g6 g64)
(cOp t7 (oMove (kV (.bool true)))
AL)))
(cOp t66 (AO g0)
(cOp t67 (AB 269 g66)
(cOp t68 (AC g67)
(cOp t69 (AE 15 [g68])
(AF g69
(Af 0)
cNorm)))))))))))))))))))))))))))
(cOp t70 (Ad .i64 (AW .i64) g25 (kV (.int .i64 1)))
(cOp t25 (oMove g70)
cNorm)))
(Af 0)))))
(cOp t71 (AZ BW.zero [])
(cDo (AD 11 g6 g71)
(cOp t7 (oMove (kV (.bool false)))
AL))))))))))))))))))))
def b41:Body:=⟨[.cN g6 11,.t g7],c41⟩
theorem o41:AX Tryz.prog ty 41 b41:=oFn [13,14,21,27,28,31,32,40,45,48,50,51,63,65] Tryz.func41 (by kernel_rfl) (by kernel_rfl)
def c42:C:=
(cOp t2 (oMove (kV (.bool false)))
(cOp t4 (oEq jS.k true g0 (kV (.pointer none)))
(cG g4 true t6 (oMove g0)
(cG g4 true t7 (AO g6)
(cG g4 true t8 (AB 13 g7)
(cG g4 true t9 (AC g8)
(cG g4 true t10 (oEq Vu.k true g9 (kV (.pointer none)))
(cOp t11 (AK g4 g10 (kV (.bool false)))
(cOp t2 (oMove g11)
AL)))))))))
def b42:Body:=⟨[.t g2],c42⟩
theorem o42:AX Tryz.prog ty 42 b42:=oFn [3,5] Tryz.func42 (by kernel_rfl) (by kernel_rfl)
def c43:C:=
(cOp t2 (oMove (kV (.bool false)))
(cOp t7 (AO g0)
(cOp t8 (AB 21 g7)
(cOp t9 (AC g8)
(cOp t10 (AP g9)
(cOp t11 (AH iEq .i64 g10 (kV (.int .i64 0)))
(AF g11
(cOp t2 (oMove (kV (.bool false)))
AL)
(cOp t13 (AO g0)
(cOp t14 (AB 21 g13)
(cOp t15 (AC g14)
(cOp t16 (Ac 12 g15 (kV (.int .i64 0)))
(cOp t17 (AJ 12 g16)
(cOp t3 (AV 12 Tf)
(cDo (AD 12 g3 g17)
(cOp t20 (AO g0)
(cOp t21 (AB 21 g20)
(cOp t22 (AC g21)
(cOp t23 (A7 72 12 g22 (some (kV (.int .i64 1))) none none)
(cOp t24 (AO g0)
(cOp t25 (AB 21 g24)
(cDo (AD 1 g25 g23)
(Aa (cOp t28 (AO g0)
(cOp t29 (AB 14 g28)
(cOp t30 (AJ 7 g29)
(cOp t32 (AO g0)
(cOp t33 (AB 9 g32)
(cOp t34 (AC g33)
(cOp t35 (AJ 12 g3)
(cOp t36 (Am [] (AE 112 [g30,g34,g35]))
(cOp t37 (AG 0 g36)
(cOp t38 (AG 1 g36)
(cOp t4 (AN .strong (AV 14 MO))
(cDo (AN .free (AD 14 g4 g37))
(cOp t5 (oMove g38)
(AY (AM 0 (cOp t41 (AH iNe .i64 g5 (kV (.int .i64 0)))
(cG g41 false t43 (AB 0 g4)
(cG g41 false t44 (AC g43)
(cG g41 false t45 (AH iEq .i64 g44 (kV (.int .i64 4)))
(cOp t46 (AK g41 (kV (.bool true)) g45)
(cOp t39 (oMove g46)
(AF g39
(cOp t2 (oMove (kV (.bool true)))
AL)
(cOp t48 (AB 0 g4)
(cOp t49 (AC g48)
(cOp t50 (AH iEq .i64 g49 (kV (.int .i64 3)))
(cG g50 false t52 (AB 0 g4)
(cG g50 false t53 (AC g52)
(cG g50 false t54 (AH iEq .i64 g53 (kV (.int .i64 1)))
(cG g50 false t55 (oMove g54)
(cG g55 true t56 (AB 12 g4)
(cG g55 true t57 (AC g56)
(cG g55 true t58 (AP g57)
(cG g55 true t59 (AH iEq .i64 g58 (kV (.int .i64 0)))
(cG g50 false t60 (AK g55 g59 (kV (.bool false)))
(cOp t61 (AK g50 (kV (.bool true)) g60)
(cOp t47 (oMove g61)
(AF g47
(cOp t64 (AJ 12 g3)
(cOp t65 (AJ 14 g4)
(cOp t66 (AE 114 [g0,g64,g65])
(cOp t67 (AE 113 [g0,g66])
(cOp t2 (oMove (kV (.bool true)))
AL)))))
cNorm)))))))))))))))))))))))
(Aa (cOp t69 (AJ 12 g3)
(cOp t70 (AJ 14 g4)
(cOp t72 (AO g0)
(cOp t73 (AB 22 g72)
(cOp t74 (AC g73)
(cOp t76 (AO g0)
(cOp t77 (AB 0 g76)
(cOp t78 (AB 5 g77)
(cOp t79 (AC g78)
(cOp t80 (Ad .i64 (AW .i64) g74 g79)
(cOp t81 (AN .strong Em)
(cOp t82 (AN .strong Em)
(cOp t83 (AN .strong Em)
(cOp t84 (AZ UD.zero [(0,12,g69),(12,14,g70),(26,1,g80),(27,1,g81),(28,1,g82),(29,1,g83)])
(cOp t85 (AN .strong (Al g84))
(cOp t86 (AO g0)
(cOp t87 (AB 24 g86)
(cDo (AN .free (AD 1 g87 g85))
(cOp t2 (oMove (kV (.bool true)))
AL))))))))))))))))))))))))))))))))))))))))))))))))))))))))
def b43:Body:=⟨[.t g2],c43⟩
theorem o43:AX Tryz.prog ty 43 b43:=oFn [6,12,18,19,26,27,31,40,42,51,62,63,68,71,75] Tryz.func43 (by kernel_rfl) (by kernel_rfl)
def c44:C:=
(cOp t2 (oMove (kV (.bool false)))
(cOp t9 (AO g0)
(cOp t10 (AB 24 g9)
(cOp t11 (AC g10)
(cOp t3 (oMove g11)
(cOp t14 (AE 115 [g0])
(cOp t15 (AG 0 g14)
(cOp t16 (AG 1 g14)
(cOp t4 (oMove g15)
(cOp t5 (oMove g16)
(AY (AM 0 (Aa (cG g5 false t20 (oMove g4)
(cG g5 false t21 (Ak g20)
(cG g5 false t22 (oMove g21)
(cG g22 true t23 (oMove g0)
(cG g22 true t24 (AO g23)
(cG g22 true t25 (AB 22 g24)
(cG g22 true t26 (AC g25)
(cG g22 true t27 (oMove g3)
(cG g22 true t28 (AO g27)
(cG g22 true t29 (AB 26 g28)
(cG g22 true t30 (AC g29)
(cG g22 true t31 (AH iGe .i64 g26 g30)
(cG g5 false t32 (AK g22 g31 (kV (.bool false)))
(cOp t33 (AK g5 (kV (.bool true)) g32)
(cOp t17 (oMove g33)
(AF g17
(cOp t35 (AE 116 [g0])
(cOp t2 (oMove (kV (.bool true)))
AL))
(cOp t38 (Ak g4)
(cOp t36 (oMove g38)
(AF g36
(cOp t2 (oMove (kV (.bool false)))
AL)
(cOp t41 (AO g3)
(cOp t42 (AB 12 g41)
(cOp t43 (AB 0 g42)
(cOp t44 (AC g43)
(cOp t45 (AH iEq .i64 g44 (kV (.int .i64 1)))
(cOp t39 (oMove g45)
(AF g39
(cOp t47 (AE 117 [g0])
(cOp t2 (oMove (kV (.bool true)))
AL))
(cOp t50 (AO g3)
(cOp t51 (AB 12 g50)
(cOp t52 (AB 13 g51)
(cOp t53 (AC g52)
(cOp t54 (AP g53)
(cOp t55 (AH iEq .i64 g54 (kV (.int .i64 0)))
(cOp t48 (oMove g55)
(AF g48
(cOp t57 (AE 118 [g0,(kV (.slice none 0 0))])
(cOp t2 (oMove (kV (.bool true)))
AL))
cNorm))))))))))))))))))))))))))))))))))))
(cOp t60 (AE 119 [g0])
(cOp t61 (AG 0 g60)
(cOp t62 (AG 1 g60)
(cOp t6 (oMove g61)
(cOp t7 (oMove g62)
(AY (AM 1 (Aa (cG g7 false t66 (oMove g6)
(cG g7 false t67 (Ak g66)
(cG g7 false t68 (oMove g67)
(cG g68 true t69 (oMove g0)
(cG g68 true t70 (AO g69)
(cG g68 true t71 (AB 22 g70)
(cG g68 true t72 (AC g71)
(cG g68 true t73 (oMove g3)
(cG g68 true t74 (AO g73)
(cG g68 true t75 (AB 26 g74)
(cG g68 true t76 (AC g75)
(cG g68 true t77 (AH iGe .i64 g72 g76)
(cG g7 false t78 (AK g68 g77 (kV (.bool false)))
(cOp t79 (AK g7 (kV (.bool true)) g78)
(cOp t63 (oMove g79)
(AF g63
(cOp t81 (AE 116 [g0])
(cOp t2 (oMove (kV (.bool true)))
AL))
(cOp t84 (Ak g6)
(cOp t82 (oMove g84)
(AF g82
(cOp t2 (oMove (kV (.bool false)))
AL)
cNorm)))))))))))))))))))))
(cOp t87 (AO g3)
(cOp t88 (AB 30 g87)
(cOp t89 (AC g88)
(cOp t90 (AE 118 [g0,g89])
(cOp t2 (oMove (kV (.bool true)))
AL))))))))))))))))))))))
def b44:Body:=⟨[.t g2],c44⟩
theorem o44:AX Tryz.prog ty 44 b44:=oFn [8,12,13,18,19,34,37,40,46,49,56,58,59,64,65,80,83,85,86] Tryz.func44 (by kernel_rfl) (by kernel_rfl)
def c45:C:=
(cOp t2 (oMove (kV (.slice none 0 0)))
(cOp t9 (AO g0)
(cOp t10 (AB 26 g9)
(cOp t11 (AC g10)
(cOp t12 (AP g11)
(cOp t13 (oMove (kV (.int .i64 0)))
(AY (AM 0 (Ah (cOp t14 (AH iLt .i64 g13 g12)
(AF g14
(AY (AM 1 (cOp t16 (Ac 1 g11 g13)
(cOp t17 (AC g16)
(cOp t3 (oMove g13)
(cOp t4 (oMove g17)
(cOp t20 (AO g0)
(cOp t21 (AB 13 g20)
(cOp t22 (AC g21)
(cOp t24 (AE 120 [g22,g4])
(cOp t25 (AG 0 g24)
(cOp t26 (AG 1 g24)
(cOp t5 (AV 5 E3)
(cDo (AD 5 g5 g25)
(cOp t6 (oMove g26)
(cOp t28 (Ak g6)
(cG g28 false t30 (AB 3 g5)
(cG g28 false t31 (AC g30)
(cG g28 false t32 (AH iEq .i64 g31 (kV (.int .i64 4)))
(cOp t33 (AK g28 (kV (.bool true)) g32)
(cG g33 false t35 (AB 3 g5)
(cG g33 false t36 (AC g35)
(cG g33 false t37 (AH iEq .i64 g36 (kV (.int .i64 6)))
(cOp t38 (AK g33 (kV (.bool true)) g37)
(cG g38 false t40 (oMove g0)
(cG g38 false t41 (AO g40)
(cG g38 false t42 (AB 26 g41)
(cG g38 false t43 (AC g42)
(cG g38 false t44 (AP g43)
(cG g38 false t45 (oMove g3)
(cG g38 false t46 (At Int.sub .i64 g44 g45)
(cG g38 false t47 (AH iGt .i64 g46 (kV (.int .i64 100)))
(cOp t48 (AK g38 (kV (.bool true)) g47)
(cOp t7 (oMove g48)
(AF g7
(cOp t51 (AO g0)
(cOp t52 (AB 13 g51)
(cOp t53 (AC g52)
(cOp t55 (AE 121 [g53,g4])
(Af 1)))))
(cOp t58 (AQ 1 (Ao ty3.zero 1) [(0,1,g4)])
(cOp t59 (Aj 1 8 3 g2 g58)
(cOp t2 (oMove g59)
cNorm)))))))))))))))))))))))))))))))))))))
(cOp t60 (Ad .i64 (AW .i64) g13 (kV (.int .i64 1)))
(cOp t13 (oMove g60)
cNorm)))
(Af 0)))))
(cOp t63 (AO g0)
(cOp t64 (AB 26 g63)
(cDo (AD 1 g64 g2)
cNorm))))))))))
def b45:Body:=⟨[],c45⟩
theorem o45:AX Tryz.prog ty 45 b45:=oFn [8,15,18,19,23,27,29,34,39,49,50,54,56,57,61,62] Tryz.func45 (by kernel_rfl) (by kernel_rfl)
def c46:C:=
(cOp t7 (AE 122 [g0])
(AM 0 (Ah (cOp t9 (AO g0)
(cOp t10 (AB 32 g9)
(cOp t11 (AC g10)
(cG g11 true t13 (oMove g0)
(cG g11 true t14 (AO g13)
(cG g11 true t15 (AB 33 g14)
(cG g11 true t16 (AC g15)
(cG g11 true t17 (Ie g16)
(cG g11 true t18 (AH iLt .i64 g17 (kV (.int .i64 8)))
(cOp t19 (AK g11 g18 (kV (.bool false)))
(cG g19 true t21 (oMove g0)
(cG g19 true t22 (AO g21)
(cG g19 true t23 (AB 34 g22)
(cG g19 true t24 (AC g23)
(cG g19 true t25 (Ak g24)
(cOp t26 (AK g19 g25 (kV (.bool false)))
(AF g26
(AM 1 (Aa (cOp t29 (AO g0)
(cOp t30 (AB 28 g29)
(cOp t31 (AJ 4 g30)
(cOp t33 (Am [g30] (AE 124 [g0]))
(cOp t34 (Am [] (AE 123 [g31,g33]))
(cOp t35 (AG 0 g34)
(cOp t36 (AG 1 g34)
(cOp t37 (AG 2 g34)
(cOp t2 (AN .strong (AV 4 Rg))
(cDo (AN .free (AD 4 g2 g35))
(cOp t3 (oMove g36)
(cOp t4 (oMove g37)
(cOp t39 (AH iNe .i64 g4 (kV (.int .i64 0)))
(AF g39
AL
(Aa (cOp t42 (AO g0)
(cOp t43 (AB 13 g42)
(cOp t44 (AC g43)
(cOp t48 (Am [g43] (AE 126 [g0,g3]))
(cOp t49 (AN .free (AE 125 [g44,g3,g48]))
(cOp t50 (AG 0 g49)
(cOp t51 (AG 1 g49)
(cOp t5 (oMove g50)
(cOp t4 (oMove g51)
(cOp t53 (AH iNe .i64 g4 (kV (.int .i64 0)))
(AF g53
AL
(cOp t55 (AJ 4 g2)
(cOp t56 (AO g0)
(cOp t57 (AB 28 g56)
(cDo (AD 4 g57 g55)
(cOp t59 (AO g0)
(cOp t60 (AB 33 g59)
(cOp t61 (AC g60)
(cDo (Au ⟨false,[.i .i64]⟩ g61 g5 g3)
cNorm))))))))))))))))))))))))))))))))))))
(Af 0)))))))))))))))))))))
def b46:Body:=⟨[],c46⟩
theorem o46:AX Tryz.prog ty 46 b46:=oFn [6,8,12,20,27,28,32,38,40,41,45,46,47,52,54,58,62,63] Tryz.func46 (by kernel_rfl) (by kernel_rfl)
def c47:C:=
(cOp t3 (AE 127 [g0])
(cOp t4 (Ak g3)
(AF g4
(cOp t6 (AO g0)
(cOp t7 (AB 7 g6)
(cOp t8 (AC g7)
(cOp t9 (Ad .i64 (AW .i64) g8 (kV (.int .i64 1)))
(cOp t10 (AO g0)
(cOp t11 (AB 7 g10)
(cDo (AD 1 g11 g9)
cNorm)))))))
cNorm)))
def b47:Body:=⟨[],c47⟩
theorem o47:AX Tryz.prog ty 47 b47:=oFn [2,5] Tryz.func47 (by kernel_rfl) (by kernel_rfl)
def c48:C:=
(cOp t6 (oMove (kV (.int .i64 0)))
(cOp t12 (AE 127 [g0])
(AF g12
(cOp t6 (oMove (kV (.int .i64 1)))
AL)
(cOp t15 (AO g0)
(cOp t16 (AB 1 g15)
(cOp t17 (AC g16)
(cOp t19 (AE 128 [g17,g2])
(cOp t20 (AG 0 g19)
(cOp t21 (AG 1 g19)
(cOp t7 (AV 7 FS)
(cDo (AD 7 g7 g20)
(cOp t8 (oMove g21)
(cOp t23 (AH iNe .i64 g8 (kV (.int .i64 0)))
(AF g23
(cOp t6 (oMove g8)
AL)
(Aa (cOp t27 (AO g0)
(cOp t28 (AB 11 g27)
(cOp t29 (AC g28)
(cOp t30 (AB 1 g7)
(cOp t31 (AC g30)
(cOp t32 (A5 ⟨false,[.i .i64]⟩ (.agg ⟨OR.zero⟩) true g29 g31)
(cOp t33 (AG 0 g32)
(cOp t34 (AG 1 g32)
(cOp t9 (AN .strong (AV 6 Uc))
(cDo (AN .free (AD 6 g9 g33))
(cOp t10 (oMove g34)
(AY (AM 0 (Aa (cOp t36 (AB 0 g7)
(cOp t37 (AC g36)
(cOp t39 (AO g0)
(cOp t40 (AB 3 g39)
(cOp t41 (AB 1 g40)
(cOp t42 (AC g41)
(cOp t43 (AH iNe .i64 g37 g42)
(cOp t35 (oMove g43)
(AF g35
(cOp t6 (oMove (kV (.int .i64 120)))
AL)
(cOp t46 (Ak g10)
(cG g46 false t48 (AB 1 g9)
(cG g46 false t49 (AB 1 g48)
(cG g46 false t50 (AC g49)
(cG g46 false t51 (AB 2 g7)
(cG g46 false t52 (AC g51)
(cG g46 false t53 (AH iNe .u8 g50 g52)
(cOp t54 (AK g46 (kV (.bool true)) g53)
(cG g54 false t56 (AB 4 g9)
(cG g54 false t57 (AC g56)
(cG g54 false t58 (oMove g1)
(cG g54 false t59 (AH iNe .i64 g57 g58)
(cOp t60 (AK g54 (kV (.bool true)) g59)
(cOp t44 (oMove g60)
(AF g44
(cOp t6 (oMove (kV (.int .i64 150)))
AL)
cNorm))))))))))))))))))))))))))
(Aa (cOp t62 (AO g0)
(cOp t63 (AB 11 g62)
(cOp t64 (AC g63)
(cOp t65 (AB 1 g7)
(cOp t66 (AC g65)
(cDo (AN .free (oDelete ⟨false,[.i .i64]⟩ g64 g66))
(cOp t69 (AO g0)
(cOp t70 (AB 12 g69)
(cOp t71 (AC g70)
(cG g71 false t73 (AB 3 g7)
(cG g71 false t74 (AC g73)
(cG g71 false t75 (AH iEq .i64 g74 (kV (.int .i64 120)))
(cOp t76 (AK g71 (kV (.bool true)) g75)
(cOp t77 (AO g0)
(cOp t78 (AB 12 g77)
(cDo (AD 1 g78 g76)
(Aa (cOp t80 (AO g0)
(cOp t81 (AB 10 g80)
(cOp t82 (AC g81)
(cOp t83 (AB 0 g9)
(cOp t84 (AC g83)
(cOp t85 (A5 ⟨false,[.i .i64]⟩ .nilIface false g82 g84)
(cOp t86 (AB 1 g9)
(cOp t87 (AJ 3 g86)
(cOp t88 (AJ 7 g7)
(cOp t89 (AN .free (B2 [(375,685),(515,703),(608,715)] g85 [g87,g88]))
(cOp t6 (oMove (kV (.int .i64 0)))
AL))))))))))))))))))))))))))))))))))))))))))))))))))))))))
def b48:Body:=⟨[.t g6],c48⟩
theorem o48:AX Tryz.prog ty 48 b48:=oFn [11,13,14,18,22,24,25,26,38,45,47,55,61,67,68,72,79] Tryz.func48 (by kernel_rfl) (by kernel_rfl)
def c49:C:=
(cOp t4 (AV 12 Tf)
(cOp t5 (oMove (kV (.int .i64 0)))
(cOp t13 (AE 129 [g0,g1,(kV (.int .u8 3))])
(cOp t14 (AG 0 g13)
(cOp t15 (AG 1 g13)
(cOp t6 (oMove g14)
(cOp t7 (oMove g15)
(cOp t17 (AH iNe .i64 g7 (kV (.int .i64 0)))
(AF g17
(cOp t18 (AZ NU.zero [])
(cDo (AD 12 g4 g18)
(cOp t5 (oMove g7)
AL)))
(cOp t8 (AV 12 Tf)
(cOp t9 (AV 1 zt3)
(cOp t21 (AB 0 g8)
(cOp t22 (AB 1 g8)
(cOp t23 (AB 3 g8)
(cOp t24 (AB 0 g23)
(cOp t25 (AB 3 g8)
(cOp t26 (AB 1 g25)
(cOp t27 (AB 6 g8)
(cOp t28 (AB 0 g27)
(cOp t29 (AB 6 g8)
(cOp t30 (AB 1 g29)
(cOp t31 (AB 9 g8)
(cOp t32 (AB 10 g8)
(cOp t33 (AQ 9 (Ao MD.zero 9) [(0,1,g21),(1,1,g22),(2,1,g9),(3,1,g24),(4,1,g26),(5,1,g28),(6,1,g30),(7,1,g31),(8,1,g32)])
(cOp t34 (AE 130 [g6,g33])
(Aa (cOp t36 (AN .free (AE 131 [g6,(kV (.int .i64 100))]))
(cOp t37 (C3 g36)
(cOp t39 (Am [g36] (AE 131 [g6,(kV (.int .i64 100))]))
(cOp t40 (C3 g39)
(cOp t41 (AB 5 g8)
(cDo (AN .free (AD 1 g41 g37))
(cOp t42 (AB 8 g8)
(cDo (AN .free (AD 1 g42 g40))
(cOp t44 (AE 131 [g6,(kV (.int .i64 4096))])
(cOp t45 (AB 11 g8)
(cDo (AD 1 g45 g44)
(cOp t46 (AC g9)
(cOp t47 (Az .u8 g46)
(cOp t48 (AB 2 g8)
(cDo (AD 1 g48 g47)
(Aa (cOp t50 (AO g6)
(cOp t51 (AB 2 g50)
(cOp t52 (AC g51)
(cG g52 false t54 (AC g9)
(cG g52 false t55 (AH iGt .i64 g54 (kV (.int .i64 255)))
(cOp t56 (AK g52 (kV (.bool true)) g55)
(cG g56 false t58 (oMove g6)
(cG g56 false t59 (AO g58)
(cG g56 false t60 (AB 1 g59)
(cG g56 false t61 (AC g60)
(cG g56 false t62 (oMove g6)
(cG g56 false t63 (AO g62)
(cG g56 false t64 (AB 0 g63)
(cG g56 false t65 (AC g64)
(cG g56 false t66 (AP g65)
(cG g56 false t67 (AH iNe .i64 g61 g66)
(cOp t68 (AK g56 (kV (.bool true)) g67)
(cG g68 false t70 (AJ 12 g8)
(cG g68 false t71 (AN .free (AE 132 [g70]))
(cG g68 false t72 (Ak g71)
(cOp t73 (AK g68 (kV (.bool true)) g72)
(AF g73
(cOp t74 (AZ NU.zero [])
(cDo (AD 12 g4 g74)
(cOp t5 (oMove (kV (.int .i64 179)))
AL)))
(cOp t75 (AJ 12 g8)
(cDo (AD 12 g4 g75)
(cOp t5 (oMove (kV (.int .i64 0)))
AL)))))))))))))))))))))))))))))))))))))))))))))))))))))))))))))))))))
def b49:Body:=⟨[.cN g4 12,.t g5],c49⟩
theorem o49:AX Tryz.prog ty 49 b49:=oFn [10,11,12,16,19,20,35,38,43,49,53,57,69] Tryz.func49 (by kernel_rfl) (by kernel_rfl)
def c51:C:=
(cOp t4 (oMove (kV (.bool false)))
(cOp t7 (AE 133 [g0,g1])
(cOp t8 (AH iGe .i64 g7 (kV (.int .i64 0)))
(cOp t4 (oMove g8)
AL))))
def b51:Body:=⟨[.t g4],c51⟩
theorem o51:AX Tryz.prog ty 51 b51:=oFn [5,6] Tryz.func51 (by kernel_rfl) (by kernel_rfl)
def c52:C:=
(cOp t2 (oMove (kV (.slice none 0 0)))
(cOp t3 (oMove (kV (.slice none 0 0)))
(cOp t14 (AE 134 [g0])
(cOp t15 (AP g14)
(cOp t16 (oMove (kV (.int .i64 0)))
(AY (AM 0 (Ah (cOp t17 (AH iLt .i64 g16 g15)
(AF g17
(AY (AM 1 (cOp t18 (Ac 1 g14 g16)
(cOp t19 (AC g18)
(cOp t5 (oMove g19)
(cOp t21 (AO g0)
(cOp t22 (AB 10 g21)
(cOp t23 (AC g22)
(cOp t25 (A5 ⟨false,[.i .i64]⟩ .nilIface false g23 g5)
(cOp t26 (B2 [(375,683),(515,701),(608,713)] g25 [])
(cOp t6 (AV 5 E3)
(cDo (AD 5 g6 g26)
(cOp t28 (AO g0)
(cOp t29 (AB 10 g28)
(cOp t30 (AC g29)
(cOp t32 (A5 ⟨false,[.i .i64]⟩ .nilIface false g30 g5)
(cOp t33 (B2 [(375,686),(515,704),(608,716)] g32 [])
(cOp t34 (AP g33)
(cOp t35 (oMove (kV (.int .i64 0)))
(AM 2 (Ah (cOp t36 (AH iLt .i64 g35 g34)
(AF g36
(AY (AM 3 (cOp t37 (Ac 3 g33 g35)
(cOp t38 (AJ 3 g37)
(cOp t8 (AV 3 MP)
(cDo (AD 3 g8 g38)
(cOp t40 (AB 1 g6)
(cOp t41 (AC g40)
(cOp t42 (AB 0 g8)
(cOp t43 (AC g42)
(cOp t44 (AE 135 [g0,g41,g43])
(cOp t9 (oMove g44)
(cOp t47 (AJ 3 g8)
(cOp t49 (AE 136 [g0,g5,g47,g9])
(cOp t10 (oMove g49)
(Aa (cOp t51 (AH iGt .i64 g10 (kV (.int .i64 0)))
(cG g51 true t53 (oMove g0)
(cG g51 true t54 (AO g53)
(cG g51 true t55 (AB 7 g54)
(cG g51 true t56 (AC g55)
(cG g51 true t57 (oMove g0)
(cG g51 true t58 (AO g57)
(cG g51 true t59 (AB 11 g58)
(cG g51 true t60 (AC g59)
(cG g51 true t61 (oMove g10)
(cG g51 true t62 (A5 ⟨false,[.i .i64]⟩ (.agg ⟨OR.zero⟩) false g60 g61)
(cG g51 true t63 (C2 false 1 5 g62)
(cG g51 true t64 (At Int.sub .i64 g56 g63)
(cG g51 true t65 (oMove g0)
(cG g51 true t66 (AO g65)
(cG g51 true t67 (AB 3 g66)
(cG g51 true t68 (AB 3 g67)
(cG g51 true t69 (AC g68)
(cG g51 true t70 (AH iLt .i64 g64 g69)
(cOp t71 (AK g51 g70 (kV (.bool false)))
(AF g71
(Af 3)
(cOp t73 (AH iEq .i64 g10 (kV (.int .i64 0)))
(AY (AF g73
(cOp t75 (AO g0)
(cOp t76 (AB 9 g75)
(cOp t77 (AC g76)
(cOp t78 (Ad .i64 (AW .i64) g77 (kV (.int .i64 1)))
(cOp t79 (AO g0)
(cOp t80 (AB 9 g79)
(cDo (AD 1 g80 g78)
(cOp t82 (AO g0)
(cOp t83 (AB 9 g82)
(cOp t84 (AC g83)
(cOp t10 (oMove g84)
cNorm)))))))))))
cNorm)
(Aa (cOp t86 (AO g0)
(cOp t87 (AB 11 g86)
(cOp t88 (AC g87)
(cOp t91 (AJ 3 g8)
(cOp t94 (AO g0)
(cOp t95 (AB 7 g94)
(cOp t96 (AC g95)
(cOp t97 (AZ OR.zero [(0,1,g5),(1,3,g91),(4,1,g9),(5,1,g96)])
(cDo (AN .free (Au ⟨false,[.i .i64]⟩ g88 g10 g97))
(Aa (cOp Cl (AO g0)
(cOp Ca (AB 1 Cf)
(cOp C8 (AC Bl)
(cOp Cs (AO g0)
(cOp Et (AB 3 Bx)
(cOp DH (AB 1 DE)
(cOp FK (AC Cg)
(cOp FL (AB 1 g8)
(cOp Dq (AC Eb)
(cOp FM (AB 1 g6)
(cOp FN (AC Dz)
(cOp Gv (AB 0 g8)
(cOp Fj (AC F3)
(cOp Gw (AB 2 g8)
(cOp GK (AC F4)
(cOp Iu (AO g0)
(cOp JD (AB 10 IG)
(cOp HP (AC I6)
(cOp Iv (A5 ⟨false,[.i .i64]⟩ .nilIface false Gg g5)
(cOp L7 (AO g0)
(cOp Gy (AB 0 K3)
(cOp HQ (AC Gh)
(cOp Iw (AJ 3 g8)
(cOp Ix (AO DG)
(cOp NP (Am [Bl,Cg,Eb,Dz,F3,F4] (B2 [(375,681),(515,699),(608,711)] DG [HL,IH]))
(cOp TR (AZ ME.zero [(0,1,DF),(1,1,g10),(2,1,Df),(3,1,CA),(4,1,Ec),(5,1,D0),(6,1,Ee)])
(cOp NQ (AN .free (AE 137 [Cp,R1]))
(cOp RD (AG 0 K4)
(cOp NR (AG 1 K4)
(cOp t11 (oMove Ol)
(cOp t12 (oMove Pz)
(cOp TT (AO g0)
(cOp RF (AB 3 R3)
(cOp PU (AB 0 R4)
(cOp TU (AC Om)
(cOp RH (AZ HC.zero [(0,1,R5),(1,1,g9),(2,1,g11)])
(cOp TW (AQ 1 (Ao HC.zero 1) [(0,3,On)])
(cOp Ve (Aj 3 40 202 g3 R7)
(cOp t3 (oMove Ux)
cNorm))))))))))))))))))))))))))))))))))))))))))))))))))))))))))))))))))))))))))))))))))))))))
(cOp PV (Ad .i64 (AW .i64) g35 (kV (.int .i64 1)))
(cOp t35 (oMove Mj)
cNorm)))
(Af 2)))))))))))))))))))))))
(cOp Vf (Ad .i64 (AW .i64) g16 (kV (.int .i64 1)))
(cOp t16 (oMove Uy)
cNorm)))
(Af 0)))))
(cOp t2 (oMove g3)
AL)))))))
def b52:Body:=⟨[.t g2],c52⟩
theorem o52:AX Tryz.prog ty 52 b52:=oFn [13,20,24,27,31,39,45,46,48,50,52,72,74,81,85,89,90,92,93,98,99,103,108,117,121,123,129,135,136,141,142,148] Tryz.func52 (by kernel_rfl) (by kernel_rfl)
def c54:C:=
(cOp t3 (Al g1)
(cOp t4 (AV 11 Bq)
(cOp t5 (oMove (kV (.int .i64 0)))
(Aa (cOp t13 (AO g0)
(cOp t14 (AB 14 g13)
(cOp t15 (AJ 7 g14)
(cOp t17 (AO g0)
(cOp t18 (AB 9 g17)
(cOp t19 (AC g18)
(cOp t20 (AJ 18 g3)
(cOp t21 (Am [] (AE 140 [g15,g19,g20]))
(cOp t22 (AG 0 g21)
(cOp t23 (AG 1 g21)
(cOp t24 (AG 2 g21)
(cOp t6 (AN .strong (AV 7 G0))
(cOp t7 (AN .strong (AV 11 Bq))
(cDo (AN .free (AD 7 g6 g22))
(cDo (AN .free (AD 11 g7 g23))
(cOp t8 (oMove g24)
(cOp t26 (AH iNe .i64 g8 (kV (.int .i64 0)))
(AF g26
(cOp t27 (AZ BW.zero [])
(cDo (AD 11 g4 g27)
(cOp t5 (oMove g8)
AL)))
(Aa (cOp t31 (AO g0)
(cOp t32 (AB 11 g31)
(cOp t33 (AC g32)
(cOp t34 (AJ 18 g3)
(cOp t35 (AN .free (AE 141 [g33,g34]))
(cOp t36 (AG 0 g35)
(cOp t37 (AG 1 g35)
(cOp t9 (oMove g36)
(cOp t8 (oMove g37)
(cOp t39 (AH iNe .i64 g8 (kV (.int .i64 0)))
(AF g39
(cOp t40 (AZ BW.zero [])
(cDo (AD 11 g4 g40)
(cOp t5 (oMove g8)
AL)))
(cOp t43 (AO g0)
(cOp t44 (AB 12 g43)
(cOp t45 (AC g44)
(cOp t47 (AE 142 [g45,g9])
(cOp t8 (oMove g47)
(cOp t49 (AH iEq .i64 g8 (kV (.int .i64 5)))
(AY (AF g49
(cOp t10 (oMove (kV (.slice none 0 0)))
(Aa (cOp t52 (AO g0)
(cOp t53 (AB 11 g52)
(cOp t54 (AC g53)
(cOp t56 (AO g0)
(cOp t57 (AB 14 g56)
(cOp t58 (AJ 7 g57)
(cOp t59 (AN .free (AE 143 [g54,g58]))
(cOp t60 (AG 0 g59)
(cOp t61 (AG 1 g59)
(cOp t10 (oMove g60)
(cOp t8 (oMove g61)
(cOp t63 (AH iEq .i64 g8 (kV (.int .i64 0)))
(AY (AF g63
(cOp t65 (AO g0)
(cOp t66 (AB 12 g65)
(cOp t67 (AC g66)
(cOp t69 (AE 144 [g67,g10])
(cOp t8 (oMove g69)
cNorm)))))
cNorm)
(cOp t71 (AH iEq .i64 g8 (kV (.int .i64 0)))
(AF g71
(cOp t73 (AO g0)
(cOp t74 (AB 12 g73)
(cOp t75 (AC g74)
(cOp t77 (AE 142 [g75,g9])
(cOp t8 (oMove g77)
cNorm)))))
cNorm)))))))))))))))))
cNorm)
(cOp t80 (AO g0)
(cOp t81 (AB 34 g80)
(cOp t82 (AC g81)
(cG g82 false t84 (oMove g0)
(cG g82 false t85 (AO g84)
(cG g82 false t86 (AB 12 g85)
(cG g82 false t87 (AC g86)
(cG g82 false t88 (AE 145 [g87])
(cOp t89 (AK g82 (kV (.bool true)) g88)
(cOp t90 (AO g0)
(cOp t91 (AB 34 g90)
(cDo (AD 1 g91 g89)
(cOp t93 (AH iNe .i64 g8 (kV (.int .i64 0)))
(AF g93
(cOp t94 (AZ BW.zero [])
(cDo (AD 11 g4 g94)
(cOp t5 (oMove g8)
AL)))
(cOp t97 (AJ 7 g6)
(cOp t98 (AO g0)
(cOp t99 (AB 14 g98)
(cDo (AD 7 g99 g97)
(cOp Cl (AJ 11 g7)
(cDo (AD 11 g4 Cf)
(cOp t5 (oMove (kV (.int .i64 0)))
AL))))))))))))))))))))))))))))))))))))))))))))))))))))))))))))))
def b54:Body:=⟨[.cN g4 11,.t g5],c54⟩
theorem o54:AX Tryz.prog ty 54 b54:=oFn [11,12,16,25,28,29,30,38,41,42,46,48,50,51,55,62,64,68,70,72,76,78,79,83,92,95,96] Tryz.func54 (by kernel_rfl) (by kernel_rfl)
def c57:C:=
(cOp t3 (Al g0)
(cOp t6 (AV 7 G0)
(cOp t7 (oMove (kV (.slice none 0 0)))
(cOp t8 (oMove (kV (.int .i64 0)))
(cOp t13 (AJ 7 g3)
(cOp t14 (AE 155 [g13])
(cOp t9 (AV 7 G0)
(cDo (AD 7 g9 g14)
(cOp t16 (AB 5 g3)
(cOp t17 (AC g16)
(cOp t20 (AE 138 [g17,g1,g2])
(cOp t21 (AG 0 g20)
(cOp t22 (AG 1 g20)
(cOp t23 (AG 2 g20)
(cOp t10 (oMove g21)
(cOp t11 (oMove g22)
(cOp t12 (oMove g23)
(cOp t25 (AH iEq .i64 g12 (kV (.int .i64 0)))
(AY (AF g25
(cOp t27 (AB 5 g9)
(cDo (AD 1 g27 g10)
cNorm))
cNorm)
(cOp t28 (AJ 7 g9)
(cDo (AD 7 g6 g28)
(cOp t7 (oMove g11)
(cOp t8 (oMove g12)
AL)))))))))))))))))))))))
def b57:Body:=⟨[.cN g6 7,.t g7,.t g8],c57⟩
theorem o57:AX Tryz.prog ty 57 b57:=oFn [15,18,19,24,26,29,30] Tryz.func57 (by kernel_rfl) (by kernel_rfl)
def c59:C:=
(cOp t1 (Al g0)
(cOp t2 (oMove (kV .nilFunc))
(cOp t3 (Ax (.func 158) [] [g1])
(cOp t2 (oMove g3)
AL))))
def b59:Body:=⟨[.t g2],c59⟩
theorem o59:AX Tryz.prog ty 59 b59:=oFn [] Tryz.func59 (by kernel_rfl) (by kernel_rfl)
def c60:C:=
(cOp t2 (oMove (kV (.bool false)))
(cOp t4 (AE 127 [g0])
(cOp t5 (Ak g4)
(cG g5 true t7 (oMove g0)
(cG g5 true t8 (AO g7)
(cG g5 true t9 (AB 12 g8)
(cG g5 true t10 (AC g9)
(cOp t11 (AK g5 g10 (kV (.bool false)))
(cOp t2 (oMove g11)
AL)))))))))
def b60:Body:=⟨[.t g2],c60⟩
theorem o60:AX Tryz.prog ty 60 b60:=oFn [3,6] Tryz.func60 (by kernel_rfl) (by kernel_rfl)
def c61:C:=
(cOp t2 (oMove (kV (.int .u32 0)))
(cOp t4 (Fd .u32 g0 (kV (.int .u64 1)))
(cOp t6 (FJ Nat.land .u32 g0 (kV (.int .u32 1)))
(cOp t7 (At Int.mul .u32 (kV (.int .u32 2197175160)) g6)
(cOp t8 (FJ Nat.xor .u32 g4 g7)
(cOp t2 (oMove g8)
AL))))))
def b61:Body:=⟨[.t g2],c61⟩
theorem o61:AX Tryz.prog ty 61 b61:=oFn [3,5] Tryz.func61 (by kernel_rfl) (by kernel_rfl)
def c62:C:=
(cOp t2 (oMove (kV (.int .i64 0)))
(cOp t4 (AE 159 [g0])
(cOp t5 (Ak g4)
(AF g5
(cOp t2 (oMove (kV (.int .i64 0)))
AL)
(cOp t7 (AO g0)
(cOp t8 (AB 1 g7)
(cOp t9 (AC g8)
(cOp t2 (oMove g9)
AL))))))))
def b62:Body:=⟨[.t g2],c62⟩
theorem o62:AX Tryz.prog ty 62 b62:=oFn [3,6] Tryz.func62 (by kernel_rfl) (by kernel_rfl)
def c63:C:=
(cOp t3 (Al g1)
(cOp t4 (oMove (kV (.bool false)))
(cOp t7 (AB 0 g3)
(cOp t8 (AC g7)
(cOp t9 (AH iGe .i64 g8 (kV (.int .i64 256)))
(cG g9 true t11 (AB 0 g3)
(cG g9 true t12 (AC g11)
(cG g9 true t13 (AH iLt .i64 g12 (kV (.int .i64 300)))
(cOp t14 (AK g9 g13 (kV (.bool false)))
(cG g14 true t16 (AB 1 g3)
(cG g14 true t17 (AC g16)
(cG g14 true t18 (AH iGe .i64 g17 (kV (.int .i64 256)))
(cOp t19 (AK g14 g18 (kV (.bool false)))
(cG g19 true t21 (AB 1 g3)
(cG g19 true t22 (AC g21)
(cG g19 true t23 (Ad .i64 (AW .i64) g22 (kV (.int .i64 16)))
(cG g19 true t24 (AH iLe .i64 g23 (kV (.int .i64 300)))
(cOp t25 (AK g19 g24 (kV (.bool false)))
(cG g25 true t27 (AB 0 g3)
(cG g25 true t28 (AC g27)
(cG g25 true t29 (AB 1 g3)
(cG g25 true t30 (AC g29)
(cG g25 true t31 (AH iLt .i64 g28 g30)
(cG g25 true t32 (oMove g31)
(cG g32 false t33 (AB 0 g3)
(cG g32 false t34 (AC g33)
(cG g32 false t35 (AB 1 g3)
(cG g32 false t36 (AC g35)
(cG g32 false t37 (Ad .i64 (AW .i64) g36 (kV (.int .i64 16)))
(cG g32 false t38 (AH iGe .i64 g34 g37)
(cG g25 true t39 (AK g32 (kV (.bool true)) g38)
(cOp t40 (AK g25 g39 (kV (.bool false)))
(cOp t5 (oMove g40)
(Aa (cOp t42 (Am [g3] (AE 62 [g0]))
(cOp t43 (AB 3 g3)
(cOp t44 (AC g43)
(cOp t45 (At Int.mul .i64 g42 g44)
(cOp t6 (oMove g45)
(Aa (cG g5 true t48 (AB 3 g3)
(cG g5 true t49 (AC g48)
(cG g5 true t50 (AH iGe .i64 g49 (kV (.int .i64 1)))
(cOp t51 (AK g5 g50 (kV (.bool false)))
(cG g51 true t53 (AB 3 g3)
(cG g51 true t54 (AC g53)
(cG g51 true t55 (AH iLe .i64 g54 (kV (.int .i64 65536)))
(cOp t56 (AK g51 g55 (kV (.bool false)))
(cG g56 true t58 (oMove g6)
(cG g56 true t59 (AH iGe .i64 g58 (kV (.int .i64 16)))
(cOp t60 (AK g56 g59 (kV (.bool false)))
(cG g60 true t62 (oMove g6)
(cG g60 true t63 (AH iLe .i64 g62 (kV (.int .i64 65536)))
(cOp t64 (AK g60 g63 (kV (.bool false)))
(cG g64 true t66 (AB 5 g3)
(cG g64 true t67 (AC g66)
(cG g64 true t68 (AH iGe .i64 g67 (kV (.int .i64 1)))
(cOp t69 (AK g64 g68 (kV (.bool false)))
(cG g69 true t71 (AB 5 g3)
(cG g69 true t72 (AC g71)
(cG g69 true t73 (AH iLe .i64 g72 (kV (.int .i64 1099511627776)))
(cOp t74 (AK g69 g73 (kV (.bool false)))
(cG g74 true t76 (AB 2 g3)
(cG g74 true t77 (AC g76)
(cG g74 true t78 (oMove g0)
(cG g74 true t79 (Am [g76] (AE 62 [g78]))
(cG g74 true t80 (AH iGe .i64 g77 g79)
(cOp t81 (AK g74 g80 (kV (.bool false)))
(cG g81 true t83 (AB 2 g3)
(cG g81 true t84 (AC g83)
(cG g81 true t85 (oMove g0)
(cG g81 true t86 (Am [g83] (AE 160 [g85]))
(cG g81 true t87 (AH iLe .i64 g84 g86)
(cOp t88 (AK g81 g87 (kV (.bool false)))
(cG g88 true t90 (AB 2 g3)
(cG g88 true t91 (AC g90)
(cG g88 true t92 (At Int.mul .i64 (kV (.int .i64 2)) g91)
(cG g88 true t93 (oMove g0)
(cG g88 true t94 (Am [g90] (AE 160 [g93]))
(cG g88 true t95 (oMove g0)
(cG g88 true t96 (Am [g90] (AE 62 [g95]))
(cG g88 true t97 (Ad .i64 (AW .i64) g94 g96)
(cG g88 true t98 (AH iGe .i64 g92 g97)
(cOp t99 (AK g88 g98 (kV (.bool false)))
(cG g99 true Ca (AB 4 g3)
(cG g99 true C8 (AC Bl)
(cG g99 true Cr (AH iGe .i64 Cp (kV (.int .i64 1)))
(cOp Cs (AK g99 Ck (kV (.bool false)))
(cG Bx true DH (AB 4 g3)
(cG Bx true FK (AC Cg)
(cG Bx true Fi (AH iLe .i64 DF (kV (.int .i64 1048576)))
(cOp FL (AK Bx FZ (kV (.bool false)))
(cOp t4 (oMove Eb)
AL)))))))))))))))))))))))))))))))))))))))))))))))))))))))))))))))))))))))))))))))))))))))))))))
def b63:Body:=⟨[.t g4],c63⟩
theorem o63:AX Tryz.prog ty 63 b63:=oFn [10,15,20,26,41,46,47,52,57,61,65,70,75,82,89,100,105] Tryz.func63 (by kernel_rfl) (by kernel_rfl)
def c64:C:=
(cOp t2 (oMove (kV (.pointer none)))
(cOp t3 (oMove (kV (.int .i64 0)))
(cOp t10 (oEq PY.k false g0 (kV (.pointer none)))
(cG g10 false t12 (oMove g0)
(cG g10 false t13 (AE 90 [g12])
(cG g10 false t14 (AH iEq .i64 g13 (kV (.int .i64 0)))
(cOp t15 (AK g10 (kV (.bool true)) g14)
(AF g15
(cOp t2 (oMove (kV (.pointer none)))
(cOp t3 (oMove (kV (.int .i64 1)))
AL))
(cOp t17 (AE 90 [g0])
(cOp t18 (AH iLt .i64 g17 (kV (.int .i64 8)))
(AF g18
(cOp t2 (oMove (kV (.pointer none)))
(cOp t3 (oMove (kV (.int .i64 2)))
AL))
(cOp t20 (AZ UL.zero [(0,1,g0)])
(cOp t21 (Al g20)
(cOp t4 (oMove g21)
(cOp t23 (AE 90 [g0])
(cOp t24 (D6 .i64 g23 (kV (.int .i64 2)))
(cOp t5 (oMove g24)
(cOp t27 (AE 161 [g4,(kV (.int .i64 0)),g5])
(cOp t31 (AE 161 [g4,g5,g5])
(cOp t6 (AV 8 OX)
(cOp t7 (AV 8 OX)
(cDo (AD 8 g6 g27)
(cDo (AD 8 g7 g31)
(cOp t33 (AO g4)
(cOp t34 (AB 1 g33)
(cOp t35 (AC g34)
(cOp t36 (AH iNe .i64 g35 (kV (.int .i64 0)))
(AF g36
(Aa (cOp t38 (AO g4)
(cOp t39 (AB 1 g38)
(cOp t40 (AC g39)
(cOp t2 (oMove (kV (.pointer none)))
(cOp t3 (oMove g40)
AL))))))
(cOp t41 (AB 4 g7)
(cOp t42 (AC g41)
(cOp t43 (AB 4 g6)
(cOp t44 (AC g43)
(cOp t45 (AH iGt .i64 g42 g44)
(AY (AF g45
(cOp t46 (AJ 8 g7)
(cDo (AD 8 g6 g46)
cNorm))
cNorm)
(cOp t47 (AB 4 g6)
(cOp t48 (AC g47)
(cOp t49 (AH iEq .i64 g48 (kV (.int .i64 0)))
(AY (AF g49
(cOp t52 (AZ RM.zero [(0,1,g0),(1,1,g5),(3,1,(kV (.int .i64 1))),(4,1,(kV (.int .i64 1)))])
(cDo (AD 8 g6 g52)
(cOp t53 (AQ 2 (Ao ty3.zero 2) [(0,1,(kV (.int .i64 1))),(1,1,(kV (.int .i64 0)))])
(cOp t54 (AE 163 [(kV (.int .u8 1)),g53])
(cOp t55 (AE 162 [g6,(kV (.int .i64 0)),(kV (.slice none 0 0)),g54])
(cOp t8 (oMove g55)
(cOp t57 (AH iNe .i64 g8 (kV (.int .i64 0)))
(AF g57
(cOp t2 (oMove (kV (.pointer none)))
(cOp t3 (oMove g8)
AL))
cNorm))))))))
cNorm)
(cOp t2 (oMove g6)
(cOp t3 (oMove (kV (.int .i64 0)))
AL))))))))))))))))))))))))))))))))))))))))
def b64:Body:=⟨[.t g2,.t g3],c64⟩
theorem o64:AX Tryz.prog ty 64 b64:=oFn [9,11,16,19,22,25,26,28,29,30,32,37,50,51,56,58] Tryz.func64 (by kernel_rfl) (by kernel_rfl)
def c65:C:=
(cOp t0 (AV 4 Rg)
(cOp t1 (AZ nK.zero [(0,1,(kV (.int .i64 (-1)))),(1,1,(kV (.bool true)))])
(cDo (AD 4 g0 g1)
AL)))
def b65:Body:=⟨[.cN g0 4],c65⟩
theorem o65:AX Tryz.prog ty 65 b65:=oFn [] Tryz.func65 (by kernel_rfl) (by kernel_rfl)
def c66:C:=
(cOp t4 (AV 7 G0)
(cOp t5 (oMove (kV (.int .i64 0)))
(cOp t16 (AO g0)
(cOp t17 (AB 12 g16)
(cOp t18 (AC g17)
(cOp t19 (AE 164 [g18])
(cOp t6 (oMove g19)
(cOp t7 (AV 7 G0)
(cOp t21 (AP g6)
(cOp t22 (AH iEq .i64 g21 (kV (.int .i64 0)))
(AY (AF g22
(Aa (cOp t25 (AO g0)
(cOp t26 (AB 0 g25)
(cOp t27 (AB 7 g26)
(Bc g27 (BA g27 []
(cOp t28 (AC g27)
(cOp t30 (AN .weak (AE 160 [g1]))
(cOp t32 (AO g0)
(cOp t33 (AB 0 g32)
(cOp t34 (AB 8 g33)
(Bc g34 (BA g34 []
(cOp t35 (AC g34)
(cOp t36 (AN .free (AE 165 [g28,g30,g35]))
(cOp t37 (AG 0 g36)
(cOp t38 (AG 1 g36)
(cOp t8 (oMove g37)
(cOp t9 (oMove g38)
(cOp t40 (AH iNe .i64 g9 (kV (.int .i64 0)))
(AF g40
(cOp t41 (AJ 7 g7)
(cDo (AD 7 g4 g41)
(cOp t5 (oMove g9)
AL)))
(cOp t45 (AO g0)
(cOp t46 (AB 0 g45)
(cOp t47 (AB 6 g46)
(cOp t48 (AC g47)
(cOp t50 (AE 166 [g48,g8])
(cOp t51 (AG 0 g50)
(cOp t52 (AG 1 g50)
(cDo (AD 7 g7 g51)
(cOp t9 (oMove g52)
(cOp t54 (AH iNe .i64 g9 (kV (.int .i64 0)))
(AF g54
(cOp t55 (AJ 7 g7)
(cDo (AD 7 g4 g55)
(cOp t5 (oMove g9)
AL)))
cNorm))))))))))))))))))))))))))))))))
(cOp t10 (oMove (kV (.int .i64 0)))
(cOp t59 (AO g0)
(cOp t60 (AB 11 g59)
(cOp t61 (AC g60)
(cOp t63 (AE 167 [g61,g6])
(cOp t64 (AG 0 g63)
(cOp t65 (AG 1 g63)
(cDo (AD 7 g7 g64)
(cOp t10 (oMove g65)
(Aa (cOp t67 (AH iNe .i64 g10 (kV (.int .i64 0)))
(cG g67 false t69 (AJ 7 g7)
(cG g67 false t70 (oMove g0)
(cG g67 false t71 (AO g70)
(cG g67 false t72 (AB 9 g71)
(cG g67 false t73 (AC g72)
(cG g67 false t74 (AN .free (AE 168 [g69,g73]))
(cG g67 false t75 (Ak g74)
(cOp t76 (AK g67 (kV (.bool true)) g75)
(AF g76
(cOp t77 (AJ 7 g7)
(cDo (AD 7 g4 g77)
(cOp t5 (oMove (kV (.int .i64 180)))
AL)))
cNorm)))))))))))))))))))))
(cOp t79 (AO g0)
(cOp t80 (AB 12 g79)
(cOp t81 (AC g80)
(cOp t82 (AE 169 [g81])
(cOp t83 (AP g82)
(cOp t84 (oMove (kV (.int .i64 0)))
(AY (AM 0 (Ah (cOp t85 (AH iLt .i64 g84 g83)
(AF g85
(AY (AM 1 (cOp t86 (Ac 1 g82 g84)
(cOp t87 (AC g86)
(cOp t12 (oMove g87)
(cOp t90 (AO g0)
(cOp t91 (AB 11 g90)
(cOp t92 (AC g91)
(cOp t94 (AE 170 [g92,g12])
(cOp t95 (AG 0 g94)
(cOp t96 (AG 1 g94)
(cOp t13 (AV 18 uN)
(cDo (AD 18 g13 g95)
(cOp t14 (oMove g96)
(cOp t98 (AH iNe .i64 g14 (kV (.int .i64 0)))
(AF g98
(cOp t99 (AJ 7 g7)
(cDo (AD 7 g4 g99)
(cOp t5 (oMove (kV (.int .i64 180)))
AL)))
(Aa (cOp Ca (AJ 7 g7)
(cOp Cr (AO g0)
(cOp Cs (AB 9 Ck)
(cOp Et (AC Bx)
(cOp DH (AJ 18 g13)
(cOp FK (AN .free (AE 140 [Bl,DE,Cg]))
(cOp Fi (AG 0 DF)
(cOp FL (AG 1 DF)
(cOp Dq (AG 2 DF)
(cDo (AN .free (AD 7 g7 FZ))
(cOp t14 (oMove Df)
(cOp FN (AH iNe .i64 g14 (kV (.int .i64 0)))
(AF CA
(cOp Gv (AJ 7 g7)
(cDo (AD 7 g4 F3)
(cOp t5 (oMove (kV (.int .i64 180)))
AL)))
cNorm)))))))))))))))))))))))))))))
(cOp Fj (Ad .i64 (AW .i64) g84 (kV (.int .i64 1)))
(cOp t84 (oMove Ec)
cNorm)))
(Af 0)))))
(cOp Gw (AJ 7 g7)
(cDo (AD 7 g4 F4)
(cOp t5 (oMove (kV (.int .i64 0)))
AL)))))))))))))))))))))
def b66:Body:=⟨[.cN g4 7,.t g5],c66⟩
theorem o66:AX Tryz.prog ty 66 b66:=oFn [15,20,23,24,29,31,39,42,43,44,49,53,56,57,58,62,66,68,78,88,89,93,97,100,102,111] Tryz.func66 (by kernel_rfl) (by kernel_rfl)
def c67:C:=
(cOp t7 (Al g3)
(cOp t8 (oMove (kV (.pointer none)))
(cOp t9 (oMove (kV (.int .i64 0)))
(cOp t13 (AE 62 [g0])
(cOp t15 (AE 160 [g0])
(cOp t10 (oMove g13)
(cOp t11 (oMove g15)
(AY (AM 0 (cOp t18 (AH iEq .i64 g11 (kV (.int .i64 0)))
(cG g18 false t20 (oMove g1)
(cG g18 false t21 (oEq RL.k false g20 (kV (.pointer none)))
(cOp t22 (AK g18 (kV (.bool true)) g21)
(cOp t16 (oMove g22)
(AF g16
(cOp t8 (oMove (kV (.pointer none)))
(cOp t9 (oMove (kV (.int .i64 1)))
AL))
(cOp t26 (AE 146 [g0,g2])
(cOp t27 (Ak g26)
(cG g27 false t29 (AB 0 g7)
(cG g27 false t30 (AC g29)
(cG g27 false t31 (AH iLt .i64 g30 (kV (.int .i64 0)))
(cOp t32 (AK g27 (kV (.bool true)) g31)
(cG g32 false t34 (AB 0 g7)
(cG g32 false t35 (AC g34)
(cG g32 false t36 (AH iGe .i64 g35 (kV (.int .i64 300)))
(cOp t37 (AK g32 (kV (.bool true)) g36)
(cG g37 false t39 (AB 1 g7)
(cG g37 false t40 (AC g39)
(cG g37 false t41 (AH iLt .i64 g40 (kV (.int .i64 1)))
(cOp t42 (AK g37 (kV (.bool true)) g41)
(cG g42 false t44 (AB 1 g7)
(cG g42 false t45 (AC g44)
(cG g42 false t46 (AH iGt .i64 g45 (kV (.int .i64 1099511627776)))
(cOp t47 (AK g42 (kV (.bool true)) g46)
(cG g47 false t49 (AB 2 g7)
(cG g47 false t50 (AC g49)
(cG g47 false t51 (oMove g10)
(cG g47 false t52 (AH iLt .i64 g50 g51)
(cOp t53 (AK g47 (kV (.bool true)) g52)
(cG g53 false t55 (AB 2 g7)
(cG g53 false t56 (AC g55)
(cG g53 false t57 (oMove g11)
(cG g53 false t58 (AH iGt .i64 g56 g57)
(cOp t59 (AK g53 (kV (.bool true)) g58)
(cG g59 false t61 (AB 2 g7)
(cG g59 false t62 (AC g61)
(cG g59 false t63 (At Int.mul .i64 (kV (.int .i64 2)) g62)
(cG g59 false t64 (oMove g11)
(cG g59 false t65 (oMove g10)
(cG g59 false t66 (Ad .i64 (AW .i64) g64 g65)
(cG g59 false t67 (AH iLt .i64 g63 g66)
(cOp t68 (AK g59 (kV (.bool true)) g67)
(cG g68 false t70 (AB 3 g7)
(cG g68 false t71 (AC g70)
(cG g68 false t72 (AH iLt .i64 g71 (kV (.int .i64 1)))
(cOp t73 (AK g68 (kV (.bool true)) g72)
(cG g73 false t75 (AB 3 g7)
(cG g73 false t76 (AC g75)
(cG g73 false t77 (AH iGt .i64 g76 (kV (.int .i64 1048576)))
(cOp t78 (AK g73 (kV (.bool true)) g77)
(cOp t23 (oMove g78)
(AF g23
(cOp t8 (oMove (kV (.pointer none)))
(cOp t9 (oMove (kV (.int .i64 2)))
AL))
cNorm)))))))))))))))))))))))))))))))))))))))))))))))))))))
(Aa (cOp t82 (Am [g7] (AE 147 [g2]))
(cOp t83 (AJ 4 g7)
(cOp t84 (AN .strong Em)
(cOp t85 (AN .strong Em)
(cOp t86 (AZ UI.zero [(0,1,g0),(1,1,g1),(2,1,g82),(3,4,g83),(10,1,g84),(11,1,g85)])
(cOp t87 (AN .strong (Al g86))
(cOp t8 (oMove g87)
(cOp t9 (oMove (kV (.int .i64 0)))
AL)))))))))))))))))
def b67:Body:=⟨[.t g8,.t g9],c67⟩
theorem o67:AX Tryz.prog ty 67 b67:=oFn [12,14,17,19,24,25,28,33,38,43,48,54,60,69,74,79,80,81] Tryz.func67 (by kernel_rfl) (by kernel_rfl)
def c81:C:=
(cOp t3 (Al g1)
(cOp t4 (oMove (kV (.slice none 0 0)))
(cOp t5 (oMove (kV (.int .i64 0)))
(cOp t9 (AJ 12 g3)
(cOp t10 (AE 132 [g9])
(cOp t11 (Ak g10)
(AF g11
(cOp t4 (oMove (kV (.slice none 0 0)))
(cOp t5 (oMove (kV (.int .i64 179)))
AL))
(cOp t12 (AQ 1 (Ao ty5.zero 1) [(0,1,(kV (.int .u8 3)))])
(cOp t13 (AB 0 g3)
(cOp t14 (AC g13)
(cOp t15 (AB 1 g3)
(cOp t16 (AC g15)
(cOp t17 (AB 2 g3)
(cOp t18 (AC g17)
(cOp t19 (Az .i64 g18)
(cOp t20 (AB 3 g3)
(cOp t21 (AB 0 g20)
(cOp t22 (AC g21)
(cOp t23 (AB 3 g3)
(cOp t24 (AB 1 g23)
(cOp t25 (AC g24)
(cOp t26 (AB 6 g3)
(cOp t27 (AB 0 g26)
(cOp t28 (AC g27)
(cOp t29 (AB 6 g3)
(cOp t30 (AB 1 g29)
(cOp t31 (AC g30)
(cOp t32 (AB 9 g3)
(cOp t33 (AC g32)
(cOp t34 (AB 10 g3)
(cOp t35 (AC g34)
(cOp t36 (AQ 9 (Ao ty3.zero 9) [(0,1,g14),(1,1,g16),(2,1,g19),(3,1,g22),(4,1,g25),(5,1,g28),(6,1,g31),(7,1,g33),(8,1,g35)])
(cOp t37 (AE 188 [g12,g36])
(cOp t6 (oMove g37)
(cOp t38 (AB 5 g3)
(cOp t39 (AC g38)
(cOp t40 (Dm 5 g39)
(cOp t41 (AB 8 g3)
(cOp t42 (AC g41)
(cOp t43 (Dm 5 g42)
(cOp t44 (AB 11 g3)
(cOp t45 (AC g44)
(cOp t46 (AZ UM.zero [(0,1,g40),(1,1,g43),(2,1,g45)])
(cOp t47 (oMove (kV (.int .i64 0)))
(AY (AM 0 (Ah (cOp t48 (AH iLt .i64 g47 (kV (.int .i64 3)))
(AF g48
(AY (AM 1 (cOp t49 (oAt false 3 1 g46 g47)
(cOp t8 (oMove g49)
(cOp t52 (AE 189 [g6,g8])
(cOp t6 (oMove g52)
cNorm)))))
(cOp t53 (Ad .i64 (AW .i64) g47 (kV (.int .i64 1)))
(cOp t47 (oMove g53)
cNorm)))
(Af 0)))))
(cOp t56 (AE 190 [g0,g6])
(cOp t4 (oMove g56)
(cOp t5 (oMove (kV (.int .i64 0)))
AL))))))))))))))))))))))))))))))))))))))))))))))))
def b81:Body:=⟨[.t g4,.t g5],c81⟩
theorem o81:AX Tryz.prog ty 81 b81:=oFn [50,51,54,55] Tryz.func81 (by kernel_rfl) (by kernel_rfl)
def c82:C:=
(cOp t2 (oMove (kV (.slice none 0 0)))
(cOp t4 (oEq DA.k false g0 (kV (.slice none 0 0)))
(AF g4
(cOp t2 (oMove (kV (.slice none 0 0)))
AL)
(cOp t5 (AQ 0 (Ao ty5.zero 0) [])
(cOp t7 (Aj 1 1 5 g5 g0)
(cOp t2 (oMove g7)
AL))))))
def b82:Body:=⟨[.t g2],c82⟩
theorem o82:AX Tryz.prog ty 82 b82:=oFn [3,6] Tryz.func82 (by kernel_rfl) (by kernel_rfl)
def c90:C:=
(cOp t2 (oMove (kV (.int .i64 0)))
(cOp t4 (AE 195 [g0])
(AF g4
(cOp t2 (oMove (kV (.int .i64 0)))
AL)
(cOp t6 (AO g0)
(cOp t7 (AB 0 g6)
(cOp t8 (AC g7)
(cOp t9 (AP g8)
(cOp t2 (oMove g9)
AL))))))))
def b90:Body:=⟨[.t g2],c90⟩
theorem o90:AX Tryz.prog ty 90 b90:=oFn [3,5] Tryz.func90 (by kernel_rfl) (by kernel_rfl)
def c97:C:=
(cOp t2 (oMove (kV (.slice none 0 0)))
(cOp t4 (oEq mw.k false g0 (kV (.slice none 0 0)))
(AF g4
(cOp t2 (oMove (kV (.slice none 0 0)))
AL)
(cOp t5 (AQ 0 (Ao ty3.zero 0) [])
(cOp t7 (Aj 1 8 3 g5 g0)
(cOp t2 (oMove g7)
AL))))))
def b97:Body:=⟨[.t g2],c97⟩
theorem o97:AX Tryz.prog ty 97 b97:=oFn [3,6] Tryz.func97 (by kernel_rfl) (by kernel_rfl)
def uX:C:=
(cOp t2 (oMove (kV (.slice none 0 0)))
(cOp t4 (oEq UB.k false g0 (kV (.slice none 0 0)))
(AF g4
(cOp t2 (oMove (kV (.slice none 0 0)))
AL)
(cOp t5 (AQ 0 (Ao Jq.zero 0) [])
(cOp t7 (Aj 2 24 180 g5 g0)
(cOp t2 (oMove g7)
AL))))))
def V3:Body:=⟨[.t g2],uX⟩
theorem ACF:AX Tryz.prog ty 100 V3:=oFn [3,6] Tryz.func100 (by kernel_rfl) (by kernel_rfl)
def uY:C:=
(cOp t2 (oMove (kV (.int .i64 0)))
(cOp t3 (oMove (kV (.int .i64 0)))
(cOp t4 (oMove (kV (.int .i64 0)))
(cOp t6 (AZ MG.zero [(0,1,(kV (.int .i64 1))),(1,1,(kV (.int .i64 3))),(2,1,(kV (.int .i64 2)))])
(cOp t7 (AZ MG.zero [(0,1,(kV (.int .i64 2))),(1,1,(kV (.int .i64 4))),(2,1,(kV (.int .i64 3)))])
(cOp t8 (AZ MG.zero [(0,1,(kV (.int .i64 2))),(1,1,(kV (.int .i64 3))),(2,1,(kV (.int .i64 3)))])
(cOp t9 (AZ MG.zero [(0,1,(kV (.int .i64 3))),(1,1,(kV (.int .i64 5))),(2,1,(kV (.int .i64 4)))])
(cOp t10 (AZ UN.zero [(0,3,g6),(3,3,g7),(6,3,g8),(9,3,g9)])
(cOp t12 (HM .u8 g0 (kV (.int .u8 4)))
(cOp t13 (oAt true 4 3 g10 g12)
(cOp t5 (AV 3 uP)
(cDo (AD 3 g5 g13)
(Aa (cOp t14 (A1 3 1 g5 (kV (.int .i64 0)))
(cOp t15 (AC g14)
(cOp t16 (A1 3 1 g5 (kV (.int .i64 1)))
(cOp t17 (AC g16)
(cOp t18 (A1 3 1 g5 (kV (.int .i64 2)))
(cOp t19 (AC g18)
(cOp t2 (oMove g15)
(cOp t3 (oMove g17)
(cOp t4 (oMove g19)
AL))))))))))))))))))))))
def V4:Body:=⟨[.t g2,.t g3,.t g4],uY⟩
theorem ACG:AX Tryz.prog ty 105 V4:=oFn [11] Tryz.func105 (by kernel_rfl) (by kernel_rfl)
def uZ:C:=
(cOp t6 (oMove (kV (.pointer none)))
(cOp t7 (oMove (kV (.int .i64 0)))
(AY (AM 0 (cOp t14 (AE 202 [g0,(kV (.int .u8 0)),(kV (.int .u8 1))])
(cOp t15 (AH iEq .u8 g14 (kV (.int .u8 0)))
(cOp t12 (oMove g15)
(AF g12
(cOp t6 (oMove (kV (.pointer none)))
(cOp t7 (oMove (kV (.int .i64 1)))
AL))
(cOp t18 (AH iLt .i64 g1 (kV (.int .i64 1)))
(cG g18 false t20 (oMove g2)
(cG g18 false t21 (oMove g1)
(cG g18 false t22 (AH iLt .i64 g20 g21)
(cOp t23 (AK g18 (kV (.bool true)) g22)
(cG g23 false t25 (oMove g2)
(cG g23 false t26 (AH iGt .i64 g25 (kV (.int .i64 255)))
(cOp t27 (AK g23 (kV (.bool true)) g26)
(cOp t16 (oMove g27)
(AF g16
(cOp t6 (oMove (kV (.pointer none)))
(cOp t7 (oMove (kV (.int .i64 2)))
AL))
cNorm)))))))))))))))
(cOp t30 (AE 203 [g1])
(cOp t31 (AG 0 g30)
(cOp t32 (AG 1 g30)
(cOp t8 (oMove g31)
(cOp t9 (oMove g32)
(cOp t35 (AH iGt .i64 g2 g1)
(AY (AF g35
(cOp t40 (At Int.sub .i64 g2 g1)
(cOp t42 (AE 204 [g0,g40,g1])
(cOp t43 (AG 0 g42)
(cOp t44 (AG 1 g42)
(cOp t10 (oMove g43)
(cOp t11 (oMove g44)
(cOp t47 (Aj 1 24 22 g8 g10)
(cOp t8 (oMove g47)
cNorm))))))))
cNorm)
(cOp t51 (AZ UK.zero [(0,1,g0),(1,1,g1),(2,1,g8)])
(cOp t52 (Al g51)
(cOp t6 (oMove g52)
(cOp t7 (oMove (kV (.int .i64 0)))
AL))))))))))))))
def V5:Body:=⟨[.t g6,.t g7],uZ⟩
theorem ACH:AX Tryz.prog ty 106 V5:=oFn [13,17,19,24,28,29,33,34,36,37,38,39,41,45,46,48,49,50] Tryz.func106 (by kernel_rfl) (by kernel_rfl)
def ua:C:=
(cOp t0 (oMove (kV (.pointer none)))
(cOp t4 (AZ UO.zero [(0,1,(kV (.bool true)))])
(cOp t5 (Al g4)
(cOp t1 (oMove g5)
(cOp t2 (oMove (kV (.int .i64 1)))
(cOp t6 (oMove (kV (.int .i64 0)))
(AY (AM 0 (Ah (cOp t7 (AH iLt .i64 g6 (kV (.int .i64 255)))
(AF g7
(AY (AM 1 (cOp t3 (oMove g6)
(Aa (cOp t13 (Ad .i64 (AW .i64) g3 (kV (.int .i64 255)))
(cOp t15 (Az .u8 g2)
(cOp t17 (Az .u8 g2)
(cOp t18 (AO g1)
(cOp t19 (AB 1 g18)
(cOp t20 (A1 510 1 g19 g3)
(cDo (AN .free (AD 1 g20 g15))
(cOp t21 (AO g1)
(cOp t22 (AB 1 g21)
(cOp t23 (A1 510 1 g22 g13)
(cDo (AN .free (AD 1 g23 g17))
(cOp t27 (AO g1)
(cOp t28 (AB 511 g27)
(cOp t29 (A1 256 1 g28 g2)
(cDo (AD 1 g29 g3)
(cOp t31 (JB .i64 g2 (kV (.int .u64 1)))
(cOp t2 (oMove g31)
(cOp t33 (AH iGt .i64 g2 (kV (.int .i64 255)))
(AF g33
(cOp t35 (FJ Nat.xor .i64 g2 (kV (.int .i64 285)))
(cOp t2 (oMove g35)
cNorm))
cNorm))))))))))))))))))))))
(cOp t36 (Ad .i64 (AW .i64) g6 (kV (.int .i64 1)))
(cOp t6 (oMove g36)
cNorm)))
(Af 0)))))
(cOp t0 (oMove g1)
AL))))))))
def V6:Body:=⟨[.t g0],ua⟩
theorem ACI:AX Tryz.prog ty 107 V6:=oFn [8,9,10,11,12,14,16,24,25,26,30,32,34,37] Tryz.func107 (by kernel_rfl) (by kernel_rfl)
def ub:C:=
(cOp t6 (oMove (kV (.pointer none)))
(cOp t7 (oMove (kV (.int .i64 0)))
(cOp t14 (AE 205 [g0,g1,g2])
(cOp t15 (AG 0 g14)
(cOp t16 (AG 1 g14)
(cOp t8 (oMove g15)
(cOp t9 (oMove g16)
(cOp t18 (AH iNe .i64 g9 (kV (.int .i64 0)))
(AF g18
(cOp t6 (oMove (kV (.pointer none)))
(cOp t7 (oMove g9)
AL))
(cOp t23 (AZ UP.zero [(0,1,g0),(1,1,g1),(2,1,g8)])
(cOp t24 (Al g23)
(cOp t6 (oMove g24)
(cOp t7 (oMove (kV (.int .i64 0)))
AL)))))))))))))
def V7:Body:=⟨[.t g6,.t g7],ub⟩
theorem ACJ:AX Tryz.prog ty 108 V7:=oFn [10,11,12,13,17,19,20,21,22] Tryz.func108 (by kernel_rfl) (by kernel_rfl)
def uc:C:=
(cOp t2 (oMove (kV (.bool false)))
(Aa (cOp t7 (AO g0)
(cOp t8 (AB 270 g7)
(cOp t9 (AC g8)
(cOp t11 (AO g0)
(cOp t12 (AB 256 g11)
(cOp t13 (AC g12)
(cOp t15 (AO g0)
(cOp t16 (AB 0 g15)
(cOp t18 (AO g0)
(cOp t19 (AB 257 g18)
(cOp t20 (AJ 9 g19)
(cOp t21 (AN .free (AE 18 [g9,g13,g16,g20]))
(cOp t22 (AG 0 g21)
(cOp t23 (AG 1 g21)
(cOp t3 (oMove g22)
(cOp t4 (oMove g23)
(cOp t26 (AO g0)
(cOp t27 (AB 269 g26)
(cDo (AD 1 g27 g3)
(cOp t29 (AH iEq .i64 g4 (kV (.int .i64 0)))
(cOp t2 (oMove g29)
AL)))))))))))))))))))))))
def V8:Body:=⟨[.t g2],uc⟩
theorem ACK:AX Tryz.prog ty 109 V8:=oFn [5,6,10,14,17,24,25,28] Tryz.func109 (by kernel_rfl) (by kernel_rfl)
def ud:C:=
(cOp t3 (Al g1)
(cOp t5 (AE 206 [g0])
(AM 0 (cOp t7 (AH iEq .i64 g5 (kV (.int .i64 0)))
(cOp t6 (oMove g7)
(AF g6
(cOp t9 (AJ 3 g3)
(cOp t10 (AE 207 [g0,g9])
cNorm))
(cOp t12 (AH iEq .i64 g5 (kV (.int .i64 2)))
(cOp t11 (oMove g12)
(AF g11
(cOp t14 (AJ 3 g3)
(cOp t15 (AE 207 [g0,g14])
(cOp t17 (AJ 3 g3)
(cOp t18 (AE 207 [g0,g17])
cNorm))))
(cOp t20 (AH iEq .i64 g5 (kV (.int .i64 3)))
(cOp t19 (oMove g20)
(AF g19
(Aa (cOp t23 (AO g0)
(cOp t24 (AB 274 g23)
(cOp t25 (AC g24)
(cOp t26 (AJ 3 g3)
(cOp t27 (AN .strong (AQ 1 (Ao HC.zero 1) [(0,3,g26)]))
(cOp t28 (AN .free (Aj 3 40 202 g25 g27))
(cOp t29 (AO g0)
(cOp t30 (AB 274 g29)
(cDo (AN .free (AD 1 g30 g28))
cNorm))))))))))
cNorm))))))))))))
def V9:Body:=⟨[],ud⟩
theorem ACL:AX Tryz.prog ty 110 V9:=oFn [4,8,13,16,21,22] Tryz.func110 (by kernel_rfl) (by kernel_rfl)
def ue:C:=
(cOp t8 (AO g0)
(cOp t9 (AB 274 g8)
(cOp t10 (AC g9)
(cOp t2 (oMove g10)
(cOp t12 (AO g0)
(cOp t13 (AB 274 g12)
(cDo (AD 1 g13 (kV (.slice none 0 0)))
(cOp t14 (oMove g2)
(cOp t15 (AP g14)
(cOp t16 (oMove (kV (.int .i64 0)))
(AY (AM 0 (Ah (cOp t17 (AH iLt .i64 g16 g15)
(AF g17
(AY (AM 1 (cOp t18 (Ac 3 g14 g16)
(cOp t19 (AJ 3 g18)
(cOp t4 (AV 3 Ub)
(cDo (AD 3 g4 g19)
(cOp t21 (AJ 3 g4)
(cOp t22 (AE 207 [g0,g21])
cNorm)))))))
(cOp t23 (Ad .i64 (AW .i64) g16 (kV (.int .i64 1)))
(cOp t16 (oMove g23)
cNorm)))
(Af 0)))))
(cOp t25 (AO g0)
(cOp t26 (AB 269 g25)
(cOp t27 (AC g26)
(cOp t28 (AE 6 [g27])
(cOp t30 (AO g0)
(cOp t31 (AB 269 g30)
(cOp t32 (AC g31)
(cOp t33 (AE 10 [g32])
(cOp t34 (AP g33)
(cOp t35 (oMove (kV (.int .i64 0)))
(AY (AM 2 (Ah (cOp t36 (AH iLt .i64 g35 g34)
(AF g36
(AY (AM 3 (cOp t37 (Ac 3 g33 g35)
(cOp t38 (AJ 3 g37)
(cOp t6 (AV 3 Ub)
(cDo (AD 3 g6 g38)
(cOp t40 (AJ 3 g6)
(cOp t41 (AE 110 [g0,g40])
cNorm)))))))
(cOp t42 (Ad .i64 (AW .i64) g35 (kV (.int .i64 1)))
(cOp t35 (oMove g42)
cNorm)))
(Af 2)))))
(cOp t44 (AO g0)
(cOp t45 (AB 269 g44)
(cOp t46 (AC g45)
(cOp t47 (AE 7 [g46])
cNorm))))))))))))))))))))))))))
def WA:Body:=⟨[],ue⟩
theorem ACM:AX Tryz.prog ty 111 WA:=oFn [7,11,20,24,29,39,43] Tryz.func111 (by kernel_rfl) (by kernel_rfl)
def uf:C:=
(cOp t3 (Al g0)
(cOp t5 (Al g2)
(cOp t6 (AV 14 MO)
(cOp t7 (oMove (kV (.int .i64 0)))
(AY (AM 0 (cOp t15 (AJ 7 g3)
(cOp t17 (AE 168 [g15,g1])
(cOp t18 (Ak g17)
(cOp t14 (oMove g18)
(AF g14
(cOp t19 (AZ Iz.zero [])
(cDo (AD 14 g6 g19)
(cOp t7 (oMove (kV (.int .i64 180)))
AL)))
(cOp t21 (AJ 12 g5)
(cOp t22 (AE 132 [g21])
(cOp t23 (Ak g22)
(cOp t20 (oMove g23)
(AF g20
(cOp t24 (AZ Iz.zero [])
(cDo (AD 14 g6 g24)
(cOp t7 (oMove (kV (.int .i64 179)))
AL)))
cNorm)))))))))))
(Aa (cOp t26 (AB 1 g3)
(cOp t27 (AJ 2 g26)
(cOp t28 (Am [g5] (AE 209 [g27]))
(cOp t29 (AJ 12 g5)
(cOp t30 (Am [] (AE 208 [g28,g29]))
(cOp t31 (AG 0 g30)
(cOp t32 (AG 1 g30)
(cOp t8 (AN .strong (AV 3 GQ))
(cOp t9 (AN .strong (AV 11 Bq))
(cDo (AN .free (AD 3 g8 g31))
(cDo (AN .free (AD 11 g9 g32))
(cOp t33 (AB 2 g5)
(cOp t34 (AC g33)
(cOp t35 (AE 210 [g34])
(AF g35
(cOp t36 (AJ 11 g9)
(cOp t37 (AZ Iz.zero [(0,1,(kV (.int .i64 1))),(1,11,g36)])
(cOp t10 (AV 14 MO)
(cDo (AD 14 g10 g37)
(cOp t38 (AB 2 g5)
(cOp t39 (AC g38)
(cOp t40 (AH iEq .u8 g39 (kV (.int .u8 4)))
(cG g40 true t42 (AB 2 g9)
(cG g40 true t43 (AC g42)
(cG g40 true t44 (AH iEq .i64 g43 (kV (.int .i64 0)))
(cOp t45 (AK g40 g44 (kV (.bool false)))
(AY (AF g45
(cOp t46 (AB 1 g10)
(cOp t47 (AB 7 g46)
(cDo (AD 1 g47 (kV (.slice none 0 0)))
(Aa (cOp t48 (AB 1 g3)
(cOp t49 (AB 0 g48)
(cOp t50 (AC g49)
(cOp t51 (AB 3 g5)
(cOp t52 (AB 0 g51)
(cOp t53 (AC g52)
(cOp t54 (At Int.sub .i64 g53 (kV (.int .i64 1)))
(cOp t55 (Ac 8 g50 g54)
(cOp t56 (AJ 8 g55)
(cOp t58 (AJ 12 g5)
(cOp t59 (AN .free (AE 211 [g56,g1,g58]))
(cOp t60 (AB 12 g10)
(cDo (AN .free (AD 1 g60 g59))
cNorm)))))))))))))))))
cNorm)
(cOp t61 (AJ 14 g10)
(cDo (AD 14 g6 g61)
(cOp t7 (oMove (kV (.int .i64 0)))
AL)))))))))))))))
(cOp t63 (AB 3 g3)
(cOp t64 (AJ 2 g63)
(cOp t65 (AB 0 g5)
(cOp t66 (AC g65)
(cOp t67 (AB 1 g5)
(cOp t68 (AC g67)
(cOp t69 (AE 212 [g64,g66,g68])
(cOp t70 (AG 0 g69)
(cOp t71 (AG 1 g69)
(cOp t11 (AV 11 Bq)
(cDo (AD 11 g11 g70)
(cOp t12 (oMove g71)
(cOp t72 (oMove g12)
(AY (AM 1 (cOp t74 (AH iEq .i64 g72 (kV (.int .i64 1)))
(cOp t73 (oMove g74)
(AF g73
(cOp t75 (AJ 11 g11)
(cOp t76 (AZ Iz.zero [(0,1,(kV (.int .i64 3))),(1,11,g75)])
(cDo (AD 14 g6 g76)
(cOp t7 (oMove (kV (.int .i64 0)))
AL))))
(cOp t78 (AH iEq .i64 g72 (kV (.int .i64 2)))
(cOp t77 (oMove g78)
(AF g77
(cOp t79 (AZ Iz.zero [(0,1,(kV (.int .i64 4)))])
(cDo (AD 14 g6 g79)
(cOp t7 (oMove (kV (.int .i64 0)))
AL)))
cNorm)))))))
(cOp t80 (AZ Iz.zero [(0,1,(kV (.int .i64 2)))])
(cOp t13 (AV 14 MO)
(cDo (AD 14 g13 g80)
(cOp t81 (AB 2 g9)
(cOp t82 (AC g81)
(cOp t83 (AH iEq .i64 g82 (kV (.int .i64 0)))
(cG g83 true t85 (AB 2 g5)
(cG g83 true t86 (AC g85)
(cG g83 true t87 (AH iEq .u8 g86 (kV (.int .u8 5)))
(cG g83 true t88 (oMove g87)
(cG g88 false t89 (AB 2 g5)
(cG g88 false t90 (AC g89)
(cG g88 false t91 (AH iEq .u8 g90 (kV (.int .u8 6)))
(cG g83 true t92 (AK g88 (kV (.bool true)) g91)
(cOp t93 (AK g83 g92 (kV (.bool false)))
(AY (AF g93
(Aa (cOp t95 (AB 1 g3)
(cOp t96 (AB 0 g95)
(cOp t97 (AC g96)
(cOp t98 (AB 3 g5)
(cOp t99 (AB 0 g98)
(cOp Cl (AC g99)
(cOp Ca (At Int.sub .i64 Cf (kV (.int .i64 1)))
(cOp C8 (Ac 8 g97 Bl)
(cOp Cr (AJ 8 Cp)
(cOp Cs (AB 1 g3)
(cOp Et (AB 1 Bx)
(cOp DH (AC DE)
(cOp Fi (AJ 12 g5)
(cOp FL (AN .free (AE 213 [Ck,Cg,g1,FZ]))
(cOp Dq (AG 0 Eb)
(cOp FM (AG 1 Eb)
(cOp FN (AB 13 g13)
(cDo (AN .free (AD 1 CA Df))
(cOp Gv (AB 12 g13)
(cDo (AN .free (AD 1 F3 Dz))
cNorm)))))))))))))))))))))
cNorm)
(cOp Fj (AJ 14 g13)
(cDo (AD 14 g6 Ec)
(cOp t7 (oMove (kV (.int .i64 0)))
AL))))))))))))))))))))))))))))))))))))))))))))))))))))))
def WB:Body:=⟨[.cN g6 14,.t g7],uf⟩
theorem ACN:AX Tryz.prog ty 112 WB:=oFn [16,25,41,57,62,84,94,107] Tryz.func112 (by kernel_rfl) (by kernel_rfl)
def ug:C:=
(cOp t3 (Al g1)
(Aa (cOp t8 (AO g0)
(cOp t9 (AB 11 g8)
(cOp t10 (AC g9)
(cOp t11 (AJ 11 g3)
(cOp t12 (AN .free (AE 214 [g10,g11]))
(cOp t13 (AG 0 g12)
(cOp t14 (AG 1 g12)
(cOp t4 (oMove g13)
(cOp t5 (oMove g14)
(cOp t16 (AH iEq .i64 g5 (kV (.int .i64 0)))
(AF g16
(Aa (cOp t19 (AO g0)
(cOp t20 (AB 25 g19)
(cOp t21 (AC g20)
(cOp t23 (AO g0)
(cOp t24 (AB 0 g23)
(cOp t25 (AB 0 g24)
(cOp t26 (AC g25)
(cOp t28 (AO g0)
(cOp t29 (AB 0 g28)
(cOp t30 (AB 1 g29)
(cOp t31 (AC g30)
(cOp t32 (AB 0 g3)
(cOp t33 (AC g32)
(cOp t34 (Ad .i64 (AW .i64) g31 g33)
(cOp t36 (AZ HC.zero [(0,1,g26),(1,1,g34),(2,1,g4)])
(cOp t37 (AN .strong (AQ 1 (Ao HC.zero 1) [(0,3,g36)]))
(cOp t38 (AN .free (Aj 3 40 202 g21 g37))
(cOp t39 (AO g0)
(cOp t40 (AB 25 g39)
(cDo (AN .free (AD 1 g40 g38))
cNorm)))))))))))))))))))))
cNorm)))))))))))))
def WC:Body:=⟨[],ug⟩
theorem ACO:AX Tryz.prog ty 113 WC:=oFn [6,7,15,17,18,22,27,35] Tryz.func113 (by kernel_rfl) (by kernel_rfl)
def uh:C:=
(cOp t2 (oMove (kV (.bool false)))
(cOp t3 (oMove (kV (.bool false)))
(cOp t4 (oMove (kV (.bool true)))
(cOp t10 (AO g0)
(cOp t11 (AB 24 g10)
(cOp t12 (AC g11)
(cOp t13 (AO g12)
(cOp t14 (AB 12 g13)
(cOp t15 (AB 12 g14)
(cOp t16 (AC g15)
(cOp t17 (AP g16)
(cOp t18 (oMove (kV (.int .i64 0)))
(AY (AM 0 (Ah (cOp t19 (AH iLt .i64 g18 g17)
(AF g19
(AY (AM 1 (cOp t21 (Ac 4 g16 g18)
(cOp t22 (AJ 4 g21)
(cOp t6 (AV 4 GR)
(cOp t5 (oMove g18)
(cDo (AD 4 g6 g22)
(cOp t26 (AJ 4 g6)
(cOp t27 (AE 216 [g0,g5,g26])
(cOp t28 (AG 0 g27)
(cOp t29 (AG 1 g27)
(cOp t7 (oMove g28)
(cOp t8 (oMove g29)
(AF g8
(cOp t2 (oMove (kV (.bool false)))
(cOp t3 (oMove (kV (.bool true)))
AL))
(cG g4 true t33 (oMove g7)
(cOp t34 (AK g4 g33 (kV (.bool false)))
(cOp t4 (oMove g34)
cNorm))))))))))))))))
(cOp t35 (Ad .i64 (AW .i64) g18 (kV (.int .i64 1)))
(cOp t18 (oMove g35)
cNorm)))
(Af 0)))))
(cOp t2 (oMove g4)
(cOp t3 (oMove (kV (.bool false)))
AL)))))))))))))))
def WD:Body:=⟨[.t g2,.t g3],uh⟩
theorem ACP:AX Tryz.prog ty 115 WD:=oFn [9,20,23,24,25,30,31,32,36] Tryz.func115 (by kernel_rfl) (by kernel_rfl)
def ui:C:=
(cOp t7 (AO g0)
(cOp t8 (AB 24 g7)
(cOp t9 (AC g8)
(cOp t2 (oMove g9)
(cOp t3 (oMove (kV (.slice none 0 0)))
(cOp t11 (AO g2)
(cOp t12 (AB 12 g11)
(cOp t13 (AB 12 g12)
(cOp t14 (AC g13)
(cOp t15 (AP g14)
(cOp t16 (oMove (kV (.int .i64 0)))
(AY (AM 0 (Ah (cOp t17 (AH iLt .i64 g16 g15)
(AF g17
(AY (AM 1 (cOp t4 (oMove g16)
(cOp t21 (AO g2)
(cOp t22 (AB 28 g21)
(cOp t23 (AC g22)
(cOp t25 (A5 ⟨false,[.i .i64]⟩ (.slice none 0 0) false g23 g4)
(cOp t26 (AQ 1 (Ao DA.zero 1) [(0,1,g25)])
(cOp t27 (Aj 1 24 22 g3 g26)
(cOp t3 (oMove g27)
cNorm)))))))))
(cOp t28 (Ad .i64 (AW .i64) g16 (kV (.int .i64 1)))
(cOp t16 (oMove g28)
cNorm)))
(Af 0)))))
(cOp t30 (AO g2)
(cOp t31 (AB 12 g30)
(cOp t32 (AB 1 g31)
(cOp t33 (AJ 11 g32)
(cOp t5 (AV 11 Bq)
(cDo (AD 11 g5 g33)
(Aa (cOp t36 (AO g0)
(cOp t37 (AB 9 g36)
(cOp t38 (AC g37)
(cOp t40 (AO g2)
(cOp t41 (AB 0 g40)
(cOp t42 (AJ 12 g41)
(cOp t43 (AB 6 g5)
(cOp t44 (AC g43)
(cOp t46 (AO g2)
(cOp t47 (AB 12 g46)
(cOp t48 (AB 12 g47)
(cOp t49 (AC g48)
(cOp t51 (AN .free (AE 215 [g38,g42,g44,g49,g3]))
(cOp t52 (AG 0 g51)
(cOp t53 (AG 1 g51)
(cOp t54 (AB 7 g5)
(cDo (AN .free (AD 1 g54 g52))
(cOp t56 (AJ 11 g5)
(cOp t57 (AE 113 [g0,g56])
(cOp t59 (AO g0)
(cOp t60 (AB 24 g59)
(cDo (AD 1 g60 (kV (.pointer none)))
cNorm)))))))))))))))))))))))))))))))))))))))))
def WE:Body:=⟨[],ui⟩
theorem ACQ:AX Tryz.prog ty 117 WE:=oFn [6,10,18,19,20,24,29,34,35,39,45,50,55,58] Tryz.func117 (by kernel_rfl) (by kernel_rfl)
def uj:C:=
(cOp t9 (AO g0)
(cOp t10 (AB 24 g9)
(cOp t11 (AC g10)
(cOp t4 (oMove g11)
(cOp t15 (AO g4)
(cOp t16 (AB 0 g15)
(cOp t17 (AJ 12 g16)
(cOp t19 (AZ MA.zero [(0,1,(kV (.int .i64 2))),(2,12,g17),(14,1,g1)])
(cOp t20 (AE 54 [g0,g19])
(cOp t21 (AG 0 g20)
(cOp t22 (AG 1 g20)
(cOp t5 (AV 11 Bq)
(cDo (AD 11 g5 g21)
(cOp t6 (oMove g22)
(cOp t24 (AH iNe .i64 g6 (kV (.int .i64 0)))
(AF g24
(cOp t26 (AO g0)
(cOp t27 (AB 34 g26)
(cOp t28 (AC g27)
(cOp t29 (Ak g28)
(AY (AF g29
(cOp t31 (AE 217 [g0])
cNorm)
cNorm)
(cOp t33 (AO g0)
(cOp t34 (AB 24 g33)
(cDo (AD 1 g34 (kV (.pointer none)))
AL))))))))
(cOp t36 (AO g4)
(cOp t37 (AB 12 g36)
(cOp t38 (AB 13 g37)
(cOp t39 (AC g38)
(cOp t40 (AP g39)
(cOp t41 (oMove (kV (.int .i64 0)))
(AY (AM 0 (Ah (cOp t42 (AH iLt .i64 g41 g40)
(AF g42
(AY (AM 1 (cOp t7 (oMove g41)
(Aa (cOp t45 (AO g0)
(cOp t46 (AB 13 g45)
(cOp t47 (AC g46)
(cOp t49 (AO g4)
(cOp t50 (AB 29 g49)
(cOp t51 (AC g50)
(cOp t53 (A5 ⟨false,[.i .i64]⟩ (.int .i64 0) false g51 g7)
(cOp t54 (AN .free (AE 218 [g47,g53]))
(Aa (cOp t57 (AO g0)
(cOp t58 (AB 26 g57)
(cOp t59 (AC g58)
(cOp t61 (AO g4)
(cOp t62 (AB 29 g61)
(cOp t63 (AC g62)
(cOp t65 (A5 ⟨false,[.i .i64]⟩ (.int .i64 0) false g63 g7)
(cOp t66 (AN .strong (AQ 1 (Ao ty3.zero 1) [(0,1,g65)]))
(cOp t67 (AN .free (Aj 1 8 3 g59 g66))
(cOp t68 (AO g0)
(cOp t69 (AB 26 g68)
(cDo (AN .free (AD 1 g69 g67))
cNorm))))))))))))))))))))))))
(cOp t70 (Ad .i64 (AW .i64) g41 (kV (.int .i64 1)))
(cOp t41 (oMove g70)
cNorm)))
(Af 0)))))
(cOp t72 (AJ 11 g5)
(cOp t73 (AE 113 [g0,g72])
(cOp t75 (AO g0)
(cOp t76 (AB 24 g75)
(cDo (AD 1 g76 (kV (.pointer none)))
cNorm))))))))))))))))))))))))))))
def WF:Body:=⟨[],uj⟩
theorem ACR:AX Tryz.prog ty 118 WF:=oFn [8,12,13,14,18,23,25,30,32,35,43,44,48,52,55,56,60,64,71,74] Tryz.func118 (by kernel_rfl) (by kernel_rfl)
def uk:C:=
(cOp t2 (oMove (kV (.bool false)))
(cOp t3 (oMove (kV (.bool false)))
(cOp t15 (AO g0)
(cOp t16 (AB 24 g15)
(cOp t17 (AC g16)
(cOp t4 (oMove g17)
(cOp t19 (AE 219 [g0])
(cOp t20 (Ak g19)
(AF g20
(cOp t2 (oMove (kV (.bool false)))
(cOp t3 (oMove (kV (.bool true)))
AL))
(cOp t5 (oMove (kV (.bool true)))
(cOp t22 (AO g4)
(cOp t23 (AB 12 g22)
(cOp t24 (AB 13 g23)
(cOp t25 (AC g24)
(cOp t26 (AP g25)
(cOp t27 (oMove (kV (.int .i64 0)))
(AY (AM 0 (Ah (cOp t28 (AH iLt .i64 g27 g26)
(AF g28
(AY (AM 1 (cOp t30 (Ac 4 g25 g27)
(cOp t31 (AJ 4 g30)
(cOp t7 (AV 4 GR)
(cOp t6 (oMove g27)
(cDo (AD 4 g7 g31)
(cOp t34 (AO g4)
(cOp t35 (AB 29 g34)
(cOp t36 (AC g35)
(cOp t38 (A5 ⟨false,[.i .i64]⟩ (.int .i64 0) true g36 g6)
(cOp t39 (AG 0 g38)
(cOp t40 (AG 1 g38)
(cOp t8 (oMove g39)
(cOp t9 (oMove g40)
(cOp t42 (Ak g9)
(AF g42
(Aa (cOp t45 (AO g0)
(cOp t46 (AB 13 g45)
(cOp t47 (AC g46)
(cOp t48 (AB 3 g7)
(cOp t49 (AC g48)
(cOp t51 (AO g4)
(cOp t52 (AB 30 g51)
(cOp t53 (AC g52)
(cOp t55 (Ac 1 g53 g6)
(cOp t56 (AC g55)
(cOp t59 (AO g4)
(cOp t60 (AB 31 g59)
(cOp t61 (AC g60)
(cOp t63 (Ac 1 g61 g6)
(cOp t64 (AC g63)
(cOp t65 (Am [g46,g48,g52,g55] (AE 221 [g0,g64]))
(cOp t66 (AN .free (AE 220 [g47,g49,g56,g65]))
(cOp t67 (AG 0 g66)
(cOp t68 (AG 1 g66)
(cOp t10 (oMove g67)
(cOp t11 (oMove g68)
(cOp t70 (AH iEq .i64 g11 (kV (.int .i64 80)))
(AY (AF g70
(cOp t72 (AB 3 g7)
(cOp t73 (AC g72)
(cOp t74 (AE 222 [g0,g73])
(Aa (cOp t77 (AO g0)
(cOp t78 (AB 13 g77)
(cOp t79 (AC g78)
(cOp t80 (AB 3 g7)
(cOp t81 (AC g80)
(cOp t83 (AO g4)
(cOp t84 (AB 30 g83)
(cOp t85 (AC g84)
(cOp t87 (Ac 1 g85 g6)
(cOp t88 (AC g87)
(cOp t91 (AO g4)
(cOp t92 (AB 31 g91)
(cOp t93 (AC g92)
(cOp t95 (Ac 1 g93 g6)
(cOp t96 (AC g95)
(cOp t97 (Am [g78,g80,g84,g87] (AE 221 [g0,g96]))
(cOp t98 (AN .free (AE 220 [g79,g81,g88,g97]))
(cOp t99 (AG 0 g98)
(cOp Cl (AG 1 g98)
(cOp t10 (oMove g99)
(cOp t11 (oMove Cf)
cNorm)))))))))))))))))))))))))
cNorm)
(cOp Ca (oMove g11)
(AY (AM 2 (cOp Cr (AH iEq .i64 Bl (kV (.int .i64 0)))
(cOp C8 (oMove Ck)
(AF Cp
(cOp Et (AO g4)
(cOp DH (AB 29 DE)
(cOp FK (AC Cg)
(cDo (Au ⟨false,[.i .i64]⟩ DF g6 g10)
cNorm))))
(cOp FM (AH iEq .i64 Bl (kV (.int .i64 80)))
(cOp Dq (oMove Dz)
(AY (AF Df
cNorm
(cOp FN (AH iEq .i64 Bl (kV (.int .i64 5)))
(cOp Dq (oMove CA)
cNorm)))
(AF Df
cNorm
(cOp t2 (oMove (kV (.bool false)))
(cOp t3 (oMove (kV (.bool true)))
AL))))))))))
(cOp t5 (oMove (kV (.bool false)))
(Af 1))))))))))))))))))))))))))))
(cOp Gw (AO g0)
(cOp GK (AB 13 F4)
(cOp Gx (AC D0)
(cOp JD (AE 120 [Gf,g8])
(cOp HP (AG 0 I6)
(cOp L6 (AG 1 I6)
(cOp t12 (AV 5 E3)
(cDo (AD 5 g12 Gg)
(cOp t13 (oMove Mh)
(cG g5 true L7 (AB 3 g12)
(cG g5 true Gy (AC K3)
(cG g5 true HQ (AH iEq .i64 Gh (kV (.int .i64 2)))
(cOp Iw (AK g5 HL (kV (.bool false)))
(cOp t5 (oMove IH)
cNorm))))))))))))))))))))))))))))))
(cOp Ix (Ad .i64 (AW .i64) g27 (kV (.int .i64 1)))
(cOp t27 (oMove I7)
cNorm)))
(Af 0)))))
(cOp t2 (oMove g5)
(cOp t3 (oMove (kV (.bool false)))
AL)))))))))))))))))))
def WG:Body:=⟨[.t g2,.t g3],uk⟩
theorem ACS:AX Tryz.prog ty 119 WG:=oFn [14,18,21,29,32,33,37,41,43,44,50,54,57,58,62,69,71,75,76,82,86,89,90,94,104,108,109,113,114,118,122,123,129] Tryz.func119 (by kernel_rfl) (by kernel_rfl)
def ul:C:=
(cOp t4 (AV 5 E3)
(cOp t5 (oMove (kV (.bool false)))
(cOp t7 (AE 127 [g0])
(cG g7 false t9 (oMove g0)
(cG g7 false t10 (AO g9)
(cG g7 false t11 (AB 10 g10)
(cG g7 false t12 (AC g11)
(cG g7 false t13 (oMove g1)
(cG g7 false t14 (A5 ⟨false,[.i .i64]⟩ .nilIface false g12 g13)
(cG g7 false t15 (G8 false g14)
(cOp t16 (AK g7 (kV (.bool true)) g15)
(AF g16
(cOp t17 (AZ MB.zero [])
(cDo (AD 5 g4 g17)
(cOp t5 (oMove (kV (.bool false)))
AL)))
(cOp t19 (AO g0)
(cOp t20 (AB 10 g19)
(cOp t21 (AC g20)
(cOp t23 (A5 ⟨false,[.i .i64]⟩ .nilIface false g21 g1)
(cOp t24 (B2 [(375,683),(515,701),(608,713)] g23 [])
(cDo (AD 5 g4 g24)
(cOp t5 (oMove (kV (.bool true)))
AL)))))))))))))))))))
def WH:Body:=⟨[.cN g4 5,.t g5],ul⟩
theorem ACT:AX Tryz.prog ty 120 WH:=oFn [6,8,18,22] Tryz.func120 (by kernel_rfl) (by kernel_rfl)
def um:C:=
(cOp t3 (Al g1)
(cOp t4 (oMove (kV (.int .i64 0)))
(cOp t6 (AE 127 [g0])
(AF g6
(cOp t4 (oMove (kV (.int .i64 1)))
AL)
(Aa (cOp t8 (AO g0)
(cOp t9 (AB 10 g8)
(cOp t10 (AC g9)
(cOp t11 (AC g3)
(cOp t12 (A5 ⟨false,[.i .i64]⟩ .nilIface false g10 g11)
(cOp t13 (G8 false g12)
(AF g13
(cOp t4 (oMove (kV (.int .i64 150)))
AL)
(Aa (cOp t15 (AO g0)
(cOp t16 (AB 10 g15)
(cOp t17 (AC g16)
(cOp t18 (AC g3)
(cDo (AN .free (oDelete ⟨false,[.i .i64]⟩ g17 g18))
(cOp t20 (AO g0)
(cOp t21 (AB 11 g20)
(cOp t22 (AC g21)
(cOp t23 (Ax (.func 223) [] [g3])
(cOp t24 (AE 149 [g22,g23])
(cOp t4 (oMove (kV (.int .i64 0)))
AL))))))))))))))))))))))))
def WI:Body:=⟨[.t g4],um⟩
theorem ACU:AX Tryz.prog ty 121 WI:=oFn [5,7,14,19] Tryz.func121 (by kernel_rfl) (by kernel_rfl)
def un:C:=
(cOp t8 (AO g0)
(cOp t9 (AB 33 g8)
(cOp t10 (AC g9)
(cOp t11 (AE 59 [g10])
(cOp t12 (AE 58 [g11])
(cOp t13 (AP g12)
(cOp t14 (oMove (kV (.int .i64 0)))
(AM 0 (Ah (cOp t15 (AH iLt .i64 g14 g13)
(AF g15
(AY (AM 1 (cOp t16 (Ac 1 g12 g14)
(cOp t17 (AC g16)
(cOp t3 (oMove g17)
(cOp t20 (AO g0)
(cOp t21 (AB 13 g20)
(cOp t22 (AC g21)
(cOp t24 (AE 120 [g22,g3])
(cOp t25 (AG 0 g24)
(cOp t26 (AG 1 g24)
(cOp t4 (AV 5 E3)
(cDo (AD 5 g4 g25)
(cOp t5 (oMove g26)
(cG g5 true t29 (AB 3 g4)
(cG g5 true t30 (AC g29)
(cG g5 true t31 (AH iEq .i64 g30 (kV (.int .i64 1)))
(cOp t32 (AK g5 g31 (kV (.bool false)))
(AF g32
(Af 1)
(cOp t34 (AO g0)
(cOp t35 (AB 33 g34)
(cOp t36 (AC g35)
(cOp t38 (A5 ⟨false,[.i .i64]⟩ (.int .i64 0) false g36 g3)
(cOp t6 (oMove g38)
(cOp t40 (AO g0)
(cOp t41 (AB 33 g40)
(cOp t42 (AC g41)
(cDo (oDelete ⟨false,[.i .i64]⟩ g42 g3)
(cOp t45 (AO g0)
(cOp t46 (AB 13 g45)
(cOp t47 (AC g46)
(cOp t49 (AE 121 [g47,g3])
(cOp t53 (AO g0)
(cOp t54 (AB 28 g53)
(cOp t55 (AJ 4 g54)
(cOp t57 (AE 224 [g55,g6])
(cOp t58 (AG 0 g57)
(cOp t59 (AG 1 g57)
(cOp t60 (AO g0)
(cOp t61 (AB 28 g60)
(cDo (AD 4 g61 g58)
(AM 2 (cG g5 true t65 (AB 3 g4)
(cG g5 true t66 (AC g65)
(cG g5 true t67 (AH iEq .i64 g66 (kV (.int .i64 2)))
(cOp t68 (AK g5 g67 (kV (.bool false)))
(cG g68 true t70 (AB 2 g4)
(cG g68 true t71 (AC g70)
(cG g68 true t72 (AH iEq .i64 g71 (kV (.int .i64 0)))
(cOp t73 (AK g68 g72 (kV (.bool false)))
(cG g73 true t75 (oMove g0)
(cG g73 true t76 (oMove g6)
(cG g73 true t77 (AE 225 [g75,g76])
(cOp t78 (AK g73 g77 (kV (.bool false)))
(cOp t62 (oMove g78)
(AF g62
(cOp t81 (AZ MA.zero [(0,1,(kV (.int .i64 4))),(1,1,g6)])
(cOp t82 (AE 54 [g0,g81])
cNorm))
(cOp t85 (Ak g5)
(cG g85 false t87 (AB 3 g4)
(cG g85 false t88 (AC g87)
(cG g85 false t89 (AH iEq .i64 g88 (kV (.int .i64 3)))
(cOp t90 (AK g85 (kV (.bool true)) g89)
(cOp t83 (oMove g90)
(AF g83
(cOp t94 (AO g0)
(cOp t95 (AB 28 g94)
(cOp t96 (AJ 4 g95)
(cOp t98 (AE 56 [g96,g6])
(cOp t99 (AG 0 g98)
(cOp Cl (AG 1 g98)
(cOp Ca (AO g0)
(cOp C8 (AB 28 Bl)
(cDo (AD 4 Cp g99)
cNorm)))))))))
cNorm))))))))))))))))))))))))))))))))))))))))))))))))))))))))))))))
(cOp Cr (Ad .i64 (AW .i64) g14 (kV (.int .i64 1)))
(cOp t14 (oMove Ck)
cNorm)))
(Af 0))))))))))))
def WJ:Body:=⟨[],un⟩
theorem ACV:AX Tryz.prog ty 122 WJ:=oFn [7,18,19,23,27,28,33,37,39,43,44,48,50,51,52,56,63,64,69,74,79,80,84,86,91,92,93,97] Tryz.func122 (by kernel_rfl) (by kernel_rfl)
def uo:C:=
(cOp t2 (Al g0)
(cOp t4 (AV 4 Rg)
(cOp t5 (oMove (kV (.int .i64 0)))
(cOp t6 (oMove (kV (.int .i64 0)))
(AY (AM 0 (cOp t12 (AJ 4 g2)
(cOp t13 (AE 151 [g12])
(cOp t14 (Ak g13)
(cOp t11 (oMove g14)
(AF g11
(cOp t15 (AJ 4 g2)
(cDo (AD 4 g4 g15)
(cOp t5 (oMove (kV (.int .i64 0)))
(cOp t6 (oMove (kV (.int .i64 165)))
AL))))
(cOp t18 (AE 226 [g1])
(cOp t19 (Ak g18)
(cOp t16 (oMove g19)
(AF g16
(cOp t20 (AJ 4 g2)
(cDo (AD 4 g4 g20)
(cOp t5 (oMove (kV (.int .i64 0)))
(cOp t6 (oMove (kV (.int .i64 2)))
AL))))
(cOp t22 (AB 3 g2)
(cOp t23 (AC g22)
(cOp t24 (AP g23)
(cOp t25 (AH iGe .i64 g24 (kV (.int .i64 1000)))
(cOp t21 (oMove g25)
(AF g21
(cOp t26 (AJ 4 g2)
(cDo (AD 4 g4 g26)
(cOp t5 (oMove (kV (.int .i64 0)))
(cOp t6 (oMove (kV (.int .i64 5)))
AL))))
cNorm))))))))))))))))
(cOp t27 (Ax (.func 227) [] [g2])
(cOp t7 (AV 1 AJp)
(cDo (AD 1 g7 g27)
(cOp t28 (AB 2 g2)
(cOp t29 (AC g28)
(cOp t30 (AC g7)
(cOp t31 (AE 228 [g29,g30])
(cOp t8 (oMove g31)
(cOp t33 (Ax (.func 229) [] [g2,g7])
(cOp t34 (AE 228 [g1,g33])
(cOp t9 (oMove g34)
(cOp t36 (AH iLt .i64 g9 (kV (.int .i64 0)))
(AY (AF g36
(cOp t38 (AC g7)
(cOp t39 (AE 228 [g1,g38])
(cOp t9 (oMove g39)
cNorm)))
cNorm)
(cOp t41 (AH iLt .i64 g8 (kV (.int .i64 0)))
(cG g41 true t43 (oMove g9)
(cG g41 true t44 (AH iLt .i64 g43 (kV (.int .i64 0)))
(cOp t45 (AK g41 g44 (kV (.bool false)))
(AF g45
(cOp t46 (AJ 4 g2)
(cDo (AD 4 g4 g46)
(cOp t5 (oMove (kV (.int .i64 0)))
(cOp t6 (oMove (kV (.int .i64 166)))
AL))))
(cOp t47 (AJ 4 g2)
(cOp t48 (AE 154 [g47])
(cDo (AD 4 g2 g48)
(cOp t10 (oMove (kV (.int .i64 0)))
(cOp t50 (AH iGe .i64 g8 (kV (.int .i64 0)))
(cG g50 true t52 (AB 1 g2)
(cG g50 true t53 (AC g52)
(cG g50 true t54 (oMove g53)
(cG g54 false t55 (oMove g9)
(cG g54 false t56 (AH iLt .i64 g55 (kV (.int .i64 0)))
(cG g50 true t57 (AK g54 (kV (.bool true)) g56)
(cOp t58 (AK g50 g57 (kV (.bool false)))
(AY (AF g58
(cOp t59 (AB 2 g2)
(cOp t60 (AC g59)
(cOp t62 (Ac 1 g60 g8)
(cOp t63 (AC g62)
(cOp t10 (oMove g63)
(cOp t64 (AB 2 g2)
(cOp t65 (AC g64)
(cOp t68 (Ad .i64 (AW .i64) g8 (kV (.int .i64 1)))
(cOp t69 (AE 230 [g65,g8,g68])
(cOp t70 (AB 2 g2)
(cDo (AD 1 g70 g69)
(cOp t71 (AB 1 g2)
(cDo (AD 1 g71 (kV (.bool false)))
cNorm)))))))))))))
(cOp t74 (Ac 1 g1 g9)
(cOp t75 (AC g74)
(cOp t10 (oMove g75)
(cOp t77 (AB 0 g2)
(cDo (AD 1 g77 g10)
(cOp t78 (AB 1 g2)
(cDo (AD 1 g78 (kV (.bool true)))
cNorm))))))))
(cOp t79 (AB 3 g2)
(cOp t80 (AC g79)
(cOp t82 (AQ 1 (Ao ty3.zero 1) [(0,1,g10)])
(cOp t83 (Aj 1 8 3 g80 g82)
(cOp t84 (AB 3 g2)
(cDo (AD 1 g84 g83)
(cOp t85 (AB 3 g2)
(cOp t86 (AC g85)
(cOp t87 (AE 157 [g86])
(cOp t88 (AJ 4 g2)
(cDo (AD 4 g4 g88)
(cOp t5 (oMove g10)
(cOp t6 (oMove (kV (.int .i64 0)))
AL)))))))))))))))))))))))))))))))))))))))))))))))))
def WK:Body:=⟨[.cN g4 4,.t g5,.t g6],uo⟩
theorem ACW:AX Tryz.prog ty 123 WK:=oFn [17,32,35,37,40,42,49,51,61,66,67,72,73,76,81,89] Tryz.func123 (by kernel_rfl) (by kernel_rfl)
def uq:C:=
(cOp t2 (oMove (kV (.slice none 0 0)))
(cOp t6 (AE 13 [g0])
(cOp t3 (oMove g6)
(cOp t8 (AO g0)
(cOp t9 (AB 14 g8)
(cOp t10 (AB 1 g9)
(cOp t11 (AB 1 g10)
(cOp t12 (AC g11)
(cOp t13 (Ad .i64 (AW .i64) g12 (kV (.int .i64 1)))
(cOp t4 (oMove g13)
(AY (AM 0 (Ah (cOp t16 (AO g0)
(cOp t17 (AB 27 g16)
(cOp t18 (AC g17)
(cOp t19 (AH iLe .i64 g4 g18)
(AF g19
(AY (AM 1 (cOp t24 (AQ 1 (Ao ty3.zero 1) [(0,1,g4)])
(cOp t25 (Aj 1 8 3 g3 g24)
(cOp t3 (oMove g25)
cNorm))))
(cOp t21 (Ad .i64 (AW .i64) g4 (kV (.int .i64 1)))
(cOp t4 (oMove g21)
cNorm)))
(Af 0))))))))
(cOp t2 (oMove g3)
AL))))))))))))
def WL:Body:=⟨[.t g2],uq⟩
theorem ACX:AX Tryz.prog ty 124 WL:=oFn [5,7,14,15,20,22,23,26] Tryz.func124 (by kernel_rfl) (by kernel_rfl)
def ur:C:=
(cOp t6 (oMove (kV (.int .i64 0)))
(cOp t7 (oMove (kV (.int .i64 0)))
(cOp t11 (AE 127 [g0])
(AF g11
(cOp t6 (oMove (kV (.int .i64 0)))
(cOp t7 (oMove (kV (.int .i64 1)))
AL))
(Aa (cOp t16 (AO g0)
(cOp t17 (AB 0 g16)
(cOp t18 (AC g17)
(cOp t19 (AN .weak (AE 160 [g18]))
(cOp t21 (AO g0)
(cOp t22 (AB 0 g21)
(Bc g22 (BA g22 []
(cOp t23 (AC g22)
(cOp t24 (Am [] (AE 62 [g23]))
(cOp t25 (Am [] (AE 231 [g1,g2,g19,g24]))
(cOp t26 (AG 0 g25)
(cOp t27 (AG 1 g25)
(cOp t8 (AN .strong (AV 7 I4))
(cDo (AN .free (AD 7 g8 g26))
(cOp t9 (oMove g27)
(cOp t29 (AH iNe .i64 g9 (kV (.int .i64 0)))
(AF g29
(cOp t6 (oMove (kV (.int .i64 0)))
(cOp t7 (oMove (kV (.int .i64 2)))
AL))
(cOp t31 (AJ 7 g8)
(cOp t32 (AZ UR.zero [(0,7,g31)])
(cOp t33 (Al g32)
(cOp t34 (DV 375 g33)
(cOp t35 (AE 232 [g0,g34])
(cOp t36 (AG 0 g35)
(cOp t37 (AG 1 g35)
(cOp t6 (oMove g36)
(cOp t7 (oMove g37)
AL))))))))))))))))))))))))))))))))
def WM:Body:=⟨[.t g6,.t g7],ur⟩
theorem ACY:AX Tryz.prog ty 125 WM:=oFn [10,12,13,14,15,20,28,30] Tryz.func125 (by kernel_rfl) (by kernel_rfl)
def ut:C:=
(cOp t4 (oMove (kV (.int .i64 0)))
(cOp t10 (AO g0)
(cOp t11 (AB 14 g10)
(cOp t12 (AB 1 g11)
(cOp t13 (AB 0 g12)
(cOp t14 (AC g13)
(cOp t15 (AP g14)
(cOp t16 (oMove (kV (.int .i64 0)))
(AY (AM 0 (Ah (cOp t17 (AH iLt .i64 g16 g15)
(AF g17
(AY (AM 1 (cOp t18 (Ac 8 g14 g16)
(cOp t19 (AJ 8 g18)
(cOp t6 (AV 8 CP)
(cDo (AD 8 g6 g19)
(cOp t20 (AB 5 g6)
(cOp t21 (AC g20)
(cOp t22 (AP g21)
(cOp t23 (oMove (kV (.int .i64 0)))
(AM 2 (Ah (cOp t24 (AH iLt .i64 g23 g22)
(AF g24
(AY (AM 3 (cOp t25 (Ac 2 g21 g23)
(cOp t26 (AJ 2 g25)
(cOp t8 (AV 2 Jv)
(cDo (AD 2 g8 g26)
(cOp t27 (AB 0 g8)
(cOp t28 (AC g27)
(cOp t30 (AH iEq .i64 g28 g1)
(cG g30 true t32 (oMove g1)
(cG g30 true t33 (AH iGt .i64 g32 (kV (.int .i64 0)))
(cOp t34 (AK g30 g33 (kV (.bool false)))
(AF g34
(cOp t35 (AB 1 g8)
(cOp t36 (AC g35)
(cOp t4 (oMove g36)
AL)))
cNorm))))))))))))
(cOp t37 (Ad .i64 (AW .i64) g23 (kV (.int .i64 1)))
(cOp t23 (oMove g37)
cNorm)))
(Af 2))))))))))))))
(cOp t38 (Ad .i64 (AW .i64) g16 (kV (.int .i64 1)))
(cOp t16 (oMove g38)
cNorm)))
(Af 0)))))
(cOp t4 (oMove (kV (.int .i64 0)))
AL))))))))))
def WN:Body:=⟨[.t g4],ut⟩
theorem ACZ:AX Tryz.prog ty 126 WN:=oFn [9,29,31] Tryz.func126 (by kernel_rfl) (by kernel_rfl)
def uu:C:=
(cOp t2 (oMove (kV (.bool false)))
(cOp t4 (oEq Vu.k false g0 (kV (.pointer none)))
(cG g4 false t6 (oMove g0)
(cG g4 false t7 (AO g6)
(cG g4 false t8 (AB 0 g7)
(cG g4 false t9 (AC g8)
(cG g4 false t10 (oEq Tc.k false g9 (kV (.pointer none)))
(cOp t11 (AK g4 (kV (.bool true)) g10)
(cOp t2 (oMove g11)
AL)))))))))
def WO:Body:=⟨[.t g2],uu⟩
theorem ACa:AX Tryz.prog ty 127 WO:=oFn [3,5] Tryz.func127 (by kernel_rfl) (by kernel_rfl)
def uv:C:=
(cOp t4 (AV 7 FS)
(cOp t5 (oMove (kV (.int .i64 0)))
(cOp t15 (AE 233 [g0,g1,(kV (.int .u8 2))])
(cOp t16 (AG 0 g15)
(cOp t17 (AG 1 g15)
(cOp t18 (AG 2 g15)
(cOp t6 (oMove g16)
(cOp t7 (oMove g17)
(cOp t8 (oMove g18)
(cOp t20 (AH iNe .i64 g8 (kV (.int .i64 0)))
(AF g20
(cOp t21 (AZ DR.zero [])
(cDo (AD 7 g4 g21)
(cOp t5 (oMove g8)
AL)))
(cOp t24 (Ap g6 [(kV (.int .i64 1099511627776))])
(cOp t26 (Ap g6 [(kV (.int .i64 1099511627776))])
(cOp t28 (Ap g6 [(kV (.int .i64 9))])
(cOp t29 (Az .u8 g28)
(cOp t31 (Ap g6 [(kV (.int .i64 1000))])
(cOp t33 (Ap g6 [(kV (.int .i64 65536))])
(cOp t34 (AZ DR.zero [(0,1,g24),(1,1,g26),(2,1,g29),(3,1,g31),(6,1,g33)])
(cOp t9 (AV 7 FS)
(cDo (AD 7 g9 g34)
(cOp t36 (Ap g6 [(kV (.int .i64 50))])
(cOp t37 (oMove (kV (.int .i64 0)))
(AY (AM 0 (Ah (cOp t38 (AH iLt .i64 g37 g36)
(AF g38
(AY (AM 1 (Aa (cOp t39 (AB 4 g9)
(cOp t40 (AC g39)
(cOp t42 (Am [g39] (Ap g6 [(kV (.int .i64 1099511627776))]))
(cOp t44 (Am [g39] (Ap g6 [(kV (.int .i64 255))]))
(cOp t46 (Am [g39] (Ap g6 [(kV (.int .i64 1099511627776))]))
(cOp t48 (Am [g39] (Ap g6 [(kV (.int .i64 9))]))
(cOp t49 (Az .u8 g48)
(cOp t50 (AZ Jt.zero [(0,1,g42),(1,1,g44),(2,1,g46),(3,1,g49)])
(cOp t51 (AN .strong (AQ 1 (Ao Jt.zero 1) [(0,4,g50)]))
(cOp t52 (AN .free (Aj 4 32 382 g40 g51))
(cOp t53 (AB 4 g9)
(cDo (AN .free (AD 1 g53 g52))
cNorm))))))))))))))
(cOp t54 (Ad .i64 (AW .i64) g37 (kV (.int .i64 1)))
(cOp t37 (oMove g54)
cNorm)))
(Af 0)))))
(cOp t57 (Ap g7 [])
(cOp t58 (AG 0 g57)
(cOp t59 (AG 1 g57)
(cOp t10 (oMove g58)
(cOp t11 (oMove g59)
(cOp t61 (AB 5 g9)
(cDo (AD 1 g61 g10)
(cOp t63 (Ak g11)
(cG g63 false t65 (AJ 7 g9)
(cG g63 false t66 (AE 234 [g65])
(cG g63 false t67 (Ak g66)
(cOp t68 (AK g63 (kV (.bool true)) g67)
(AF g68
(cOp t69 (AZ DR.zero [])
(cDo (AD 7 g4 g69)
(cOp t5 (oMove (kV (.int .i64 110)))
AL)))
(cOp t70 (AJ 7 g9)
(cDo (AD 7 g4 g70)
(cOp t5 (oMove (kV (.int .i64 0)))
AL)))))))))))))))))))))))))))))))))))))))
def WP:Body:=⟨[.cN g4 7,.t g5],uv⟩
theorem ACb:AX Tryz.prog ty 128 WP:=oFn [12,13,14,19,22,23,25,27,30,32,35,41,43,45,47,55,56,60,62,64] Tryz.func128 (by kernel_rfl) (by kernel_rfl)
def uw:C:=
(cOp t6 (oMove (kV (.pointer none)))
(cOp t7 (oMove (kV (.int .i64 0)))
(cOp t13 (AE 235 [g0,g1])
(cOp t14 (AG 0 g13)
(cOp t15 (AG 1 g13)
(cOp t8 (oMove g14)
(cOp t9 (oMove g15)
(cOp t17 (AH iNe .i64 g9 (kV (.int .i64 0)))
(AF g17
(cOp t6 (oMove (kV (.pointer none)))
(cOp t7 (oMove g9)
AL))
(cOp t20 (AP g8)
(cOp t21 (AH iEq .i64 g20 (kV (.int .i64 0)))
(cG g21 false t23 (oMove g8)
(cG g21 false t24 (Ac 1 g23 (kV (.int .i64 0)))
(cG g21 false t25 (AC g24)
(cG g21 false t26 (oMove g2)
(cG g21 false t27 (AH iNe .u8 g25 g26)
(cOp t28 (AK g21 (kV (.bool true)) g27)
(AF g28
(cOp t6 (oMove (kV (.pointer none)))
(cOp t7 (oMove (kV (.int .i64 179)))
AL))
(cOp t30 (AZ UJ.zero [(0,1,g8),(1,1,(kV (.int .i64 1)))])
(cOp t31 (Al g30)
(cOp t6 (oMove g31)
(cOp t7 (oMove (kV (.int .i64 0)))
AL))))))))))))))))))))))
def WQ:Body:=⟨[.t g6,.t g7],uw⟩
theorem ACc:AX Tryz.prog ty 129 WQ:=oFn [10,11,12,16,18,19,22,29] Tryz.func129 (by kernel_rfl) (by kernel_rfl)
def ux:C:=
(cOp t6 (oMove g1)
(cOp t7 (AP g6)
(cOp t8 (oMove (kV (.int .i64 0)))
(AM 0 (Ah (cOp t9 (AH iLt .i64 g8 g7)
(AF g9
(AY (AM 1 (cOp t10 (Ac 1 g6 g8)
(cOp t11 (AC g10)
(cOp t5 (oMove g11)
(cOp t14 (AE 236 [g0])
(cOp t15 (AO g5)
(cDo (AD 1 g15 g14)
cNorm)))))))
(cOp t16 (Ad .i64 (AW .i64) g8 (kV (.int .i64 1)))
(cOp t8 (oMove g16)
cNorm)))
(Af 0))))))))
def WS:Body:=⟨[],ux⟩
theorem ACd:AX Tryz.prog ty 130 WS:=oFn [12,13] Tryz.func130 (by kernel_rfl) (by kernel_rfl)
def uy:C:=
(cOp t4 (oMove (kV (.slice none 0 0)))
(cOp t9 (AO g0)
(cOp t10 (AB 2 g9)
(cOp t11 (AC g10)
(AF g11
(cOp t4 (oMove (kV (.slice none 0 0)))
AL)
(Aa (cOp t14 (AO g0)
(cOp t15 (AB 0 g14)
(cOp t16 (AC g15)
(cOp t18 (AO g0)
(cOp t19 (AB 1 g18)
(cOp t20 (AC g19)
(cOp t22 (AN .free (AE 237 [g16,g20,g1]))
(cOp t23 (AG 0 g22)
(cOp t24 (AG 1 g22)
(cOp t25 (AG 2 g22)
(cOp t5 (oMove g23)
(cOp t6 (oMove g24)
(cOp t7 (oMove g25)
(cOp t27 (AH iNe .i64 g7 (kV (.int .i64 0)))
(AF g27
(cOp t29 (AO g0)
(cOp t30 (AB 2 g29)
(cDo (AD 1 g30 (kV (.bool true)))
(cOp t4 (oMove (kV (.slice none 0 0)))
AL))))
(cOp t33 (AO g0)
(cOp t34 (AB 1 g33)
(cDo (AD 1 g34 g6)
(cOp t4 (oMove g5)
AL)))))))))))))))))))))))))
def WT:Body:=⟨[.t g4],uy⟩
theorem ACe:AX Tryz.prog ty 131 WT:=oFn [8,12,13,17,21,26,28,31,32,35] Tryz.func131 (by kernel_rfl) (by kernel_rfl)
def uz:C:=
(cOp t1 (Al g0)
(cOp t2 (oMove (kV (.bool false)))
(cOp t8 (AB 2 g1)
(cOp t9 (AC g8)
(cOp t10 (AE 238 [g9])
(cOp t11 (AG 0 g10)
(cOp t12 (AG 1 g10)
(cOp t3 (AV 6 MR)
(cDo (AD 6 g3 g11)
(cOp t4 (oMove g12)
(cOp t14 (Ak g4)
(cG g14 false t16 (AB 0 g1)
(cG g14 false t17 (AC g16)
(cG g14 false t18 (AB 1 g1)
(cG g14 false t19 (AC g18)
(cG g14 false t20 (AE 239 [g17,g19])
(cG g14 false t21 (Ak g20)
(cOp t22 (AK g14 (kV (.bool true)) g21)
(AF g22
(cOp t2 (oMove (kV (.bool false)))
AL)
(cOp t5 (oMove (kV (.func (.func 240) #[] #[])))
(cOp t6 (oMove (kV (.func (.func 242) #[] #[])))
(cOp t24 (AB 0 g3)
(cOp t25 (AC g24)
(cOp t26 (AB 3 g1)
(cOp t27 (AJ 2 g26)
(cOp t28 (Ap g5 [g25,g27])
(cOp t29 (Ak g28)
(cG g29 false t31 (oMove g5)
(cG g29 false t32 (AB 2 g3)
(cG g29 false t33 (AC g32)
(cG g29 false t34 (AB 6 g1)
(cG g29 false t35 (AJ 2 g34)
(cG g29 false t36 (Ap g31 [g33,g35])
(cG g29 false t37 (Ak g36)
(cOp t38 (AK g29 (kV (.bool true)) g37)
(cG g38 false t40 (oMove g6)
(cG g38 false t41 (AB 1 g3)
(cG g38 false t42 (AC g41)
(cG g38 false t43 (AB 5 g1)
(cG g38 false t44 (AC g43)
(cG g38 false t45 (Ap g40 [g42,g44])
(cG g38 false t46 (Ak g45)
(cOp t47 (AK g38 (kV (.bool true)) g46)
(cG g47 false t49 (oMove g6)
(cG g47 false t50 (AB 2 g3)
(cG g47 false t51 (AC g50)
(cG g47 false t52 (AB 8 g1)
(cG g47 false t53 (AC g52)
(cG g47 false t54 (Ap g49 [g51,g53])
(cG g47 false t55 (Ak g54)
(cOp t56 (AK g47 (kV (.bool true)) g55)
(AF g56
(cOp t2 (oMove (kV (.bool false)))
AL)
(cOp t57 (AB 9 g1)
(cOp t58 (AC g57)
(cOp t59 (AH iLt .i64 g58 (kV (.int .i64 0)))
(cG g59 false t61 (AB 9 g1)
(cG g59 false t62 (AC g61)
(cG g59 false t63 (AH iGt .i64 g62 (kV (.int .i64 2147483648)))
(cOp t64 (AK g59 (kV (.bool true)) g63)
(cG g64 false t66 (AB 3 g3)
(cG g64 false t67 (AC g66)
(cG g64 false t68 (Ak g67)
(cG g64 false t69 (oMove g68)
(cG g69 true t70 (AB 9 g1)
(cG g69 true t71 (AC g70)
(cG g69 true t72 (AH iNe .i64 g71 (kV (.int .i64 0)))
(cG g64 false t73 (AK g69 g72 (kV (.bool false)))
(cOp t74 (AK g64 (kV (.bool true)) g73)
(cG g74 false t76 (AB 10 g1)
(cG g74 false t77 (AC g76)
(cG g74 false t78 (AH iLt .i64 g77 (kV (.int .i64 0)))
(cOp t79 (AK g74 (kV (.bool true)) g78)
(cG g79 false t81 (AB 10 g1)
(cG g79 false t82 (AC g81)
(cG g79 false t83 (AB 4 g3)
(cG g79 false t84 (AC g83)
(cG g79 false t85 (AH iGt .i64 g82 g84)
(cOp t86 (AK g79 (kV (.bool true)) g85)
(AF g86
(cOp t2 (oMove (kV (.bool false)))
AL)
(cOp t87 (AB 11 g1)
(cOp t88 (AC g87)
(cOp t89 (AP g88)
(cOp t90 (AH iEq .i64 g89 (kV (.int .i64 0)))
(cG g90 false t92 (AB 5 g3)
(cG g90 false t93 (AC g92)
(cG g90 false t94 (oMove g93)
(cG g94 true t95 (AB 11 g1)
(cG g94 true t96 (AC g95)
(cG g94 true t97 (AP g96)
(cG g94 true t98 (AH iLe .i64 g97 (kV (.int .i64 4096)))
(cG g90 false t99 (AK g94 g98 (kV (.bool false)))
(cOp Cl (AK g90 (kV (.bool true)) g99)
(cOp t2 (oMove Cf)
AL)))))))))))))))))))))))))))))))))))))))))))))))))))))))))))))))))))))))))))))))))))))))))))))
def WU:Body:=⟨[.t g2],uz⟩
theorem ACf:AX Tryz.prog ty 132 WU:=oFn [7,13,15,23,30,39,48,60,65,75,80,91] Tryz.func132 (by kernel_rfl) (by kernel_rfl)
def u0:C:=
(cOp t4 (oMove (kV (.int .i64 0)))
(cOp t7 (AP g0)
(cOp t8 (oMove (kV (.int .i64 0)))
(AY (AM 0 (Ah (cOp t9 (AH iLt .i64 g8 g7)
(AF g9
(AY (AM 1 (cOp t5 (oMove g8)
(cOp t14 (Ac 12 g0 g5)
(cOp t15 (AJ 12 g14)
(cOp t16 (Ap g1 [g15])
(AF g16
(cOp t4 (oMove g5)
AL)
cNorm))))))
(cOp t18 (Ad .i64 (AW .i64) g8 (kV (.int .i64 1)))
(cOp t8 (oMove g18)
cNorm)))
(Af 0)))))
(cOp t4 (oMove (kV (.int .i64 (-1))))
AL)))))
def WV:Body:=⟨[.t g4],u0⟩
theorem ACg:AX Tryz.prog ty 133 WV:=oFn [6,10,11,12,13,17] Tryz.func133 (by kernel_rfl) (by kernel_rfl)
def u1:C:=
(cOp t2 (oMove (kV (.slice none 0 0)))
(cOp t4 (AE 127 [g0])
(AF g4
(cOp t2 (oMove (kV (.slice none 0 0)))
AL)
(cOp t6 (AO g0)
(cOp t7 (AB 10 g6)
(cOp t8 (AC g7)
(cOp t9 (AE 243 [g8])
(cOp t10 (AE 58 [g9])
(cOp t2 (oMove g10)
AL)))))))))
def WW:Body:=⟨[.t g2],u1⟩
theorem ACh:AX Tryz.prog ty 134 WW:=oFn [3,5] Tryz.func134 (by kernel_rfl) (by kernel_rfl)
def u3:C:=
(cOp t6 (oMove (kV (.int .i64 0)))
(cOp t11 (AO g0)
(cOp t12 (AB 2 g11)
(cOp t13 (AC g12)
(cOp t15 (AE 148 [g13,g1])
(cOp t16 (AG 0 g15)
(cOp t17 (AG 1 g15)
(cOp t7 (AV 2 MQ)
(cDo (AD 2 g7 g16)
(cOp t8 (oMove g17)
(cOp t18 (AB 1 g7)
(cOp t19 (AC g18)
(cOp t21 (Ac 1 g19 g2)
(cOp t22 (AC g21)
(cOp t6 (oMove g22)
AL)))))))))))))))
def WX:Body:=⟨[.t g6],u3⟩
theorem ACi:AX Tryz.prog ty 135 WX:=oFn [9,10,14,20] Tryz.func135 (by kernel_rfl) (by kernel_rfl)
def u4:C:=
(cOp t6 (Al g2)
(cOp t8 (oMove (kV (.int .i64 0)))
(cOp t12 (AO g0)
(cOp t13 (AB 11 g12)
(cOp t14 (AC g13)
(cOp t15 (Gn g14)
(AY (AM 0 (G3 ⟨15,16,17,0,[16,17,18,19,20,10,9,21,22,23,24,25,26,27,28,29,30,31,32,33,34,35,36,37,8],[37,8]⟩ (cOp t16 (Eo g15)
(cOp t17 (AG 0 g16)
(AF g17
(AM 1 (cOp t18 (Gm g15)
(cOp t19 (AG 0 g18)
(cOp t20 (AG 1 g18)
(cOp t10 (AV 6 Uc)
(cOp t9 (oMove g19)
(cDo (AD 6 g10 g20)
(cOp t21 (AB 0 g10)
(cOp t22 (AC g21)
(cOp t24 (AH iEq .i64 g22 g1)
(cG g24 true t26 (AB 1 g10)
(cG g24 true t27 (AJ 3 g26)
(cG g24 true t28 (AJ 3 g6)
(cG g24 true t29 (Dl ⟨true,[.i .i64,.i .u8,.i .i64]⟩ false g27 g28)
(cOp t30 (AK g24 g29 (kV (.bool false)))
(cG g30 true t32 (AB 4 g10)
(cG g30 true t33 (AC g32)
(cG g30 true t34 (oMove g3)
(cG g30 true t35 (AH iEq .i64 g33 g34)
(cOp t36 (AK g30 g35 (kV (.bool false)))
(AF g36
(cOp t8 (oMove g9)
AL)
cNorm)))))))))))))))))))))
(Af 0))))))
(cOp t8 (oMove (kV (.int .i64 0)))
AL))))))))
def WY:Body:=⟨[.t g8],u4⟩
theorem ACj:AX Tryz.prog ty 136 WY:=oFn [11,23,25,31,37] Tryz.func136 (by kernel_rfl) (by kernel_rfl)
def u5:C:=
(cOp t3 (Al g1)
(cOp t4 (oMove (kV (.slice none 0 0)))
(cOp t5 (oMove (kV (.int .i64 0)))
(cOp t7 (AJ 7 g3)
(cOp t8 (AE 244 [g7])
(cOp t9 (Ak g8)
(AF g9
(cOp t4 (oMove (kV (.slice none 0 0)))
(cOp t5 (oMove (kV (.int .i64 110)))
AL))
(cOp t10 (AQ 1 (Ao ty5.zero 1) [(0,1,(kV (.int .u8 1)))])
(cOp t11 (AB 0 g3)
(cOp t12 (AC g11)
(cOp t13 (AB 1 g3)
(cOp t14 (AC g13)
(cOp t15 (AB 2 g3)
(cOp t16 (AC g15)
(cOp t17 (Az .i64 g16)
(cOp t18 (AB 3 g3)
(cOp t19 (AC g18)
(cOp t20 (AB 4 g3)
(cOp t21 (AC g20)
(cOp t22 (AB 5 g3)
(cOp t23 (AC g22)
(cOp t24 (AQ 6 (Ao ty3.zero 6) [(0,1,g12),(1,1,g14),(2,1,g17),(3,1,g19),(4,1,g21),(5,1,g23)])
(cOp t25 (AE 245 [g10,g24])
(cOp t6 (oMove g25)
(cOp t28 (AB 6 g3)
(cOp t29 (AC g28)
(cOp t30 (AE 189 [g6,g29])
(cOp t31 (AE 190 [g0,g30])
(cOp t4 (oMove g31)
(cOp t5 (oMove (kV (.int .i64 0)))
AL))))))))))))))))))))))))))))))
def WZ:Body:=⟨[.t g4,.t g5],u5⟩
theorem ACk:AX Tryz.prog ty 137 WZ:=oFn [26,27] Tryz.func137 (by kernel_rfl) (by kernel_rfl)
def u6:C:=
(cOp t4 (Al g1)
(cOp t5 (Al g2)
(cOp t6 (oMove (kV (.slice none 0 0)))
(cOp t7 (oMove (kV (.slice none 0 0)))
(cOp t8 (oMove (kV (.int .i64 0)))
(cOp t9 (oMove (kV (.func (.func 246) #[] #[])))
(cOp t16 (Ax (.func 247) [] [g4,g5])
(cOp t10 (oMove g16)
(AY (AM 0 (cOp t19 (AE 249 [g0])
(cOp t20 (Ak g19)
(cOp t17 (oMove g20)
(AF g17
(cOp t6 (oMove (kV (.slice none 0 0)))
(cOp t7 (oMove (kV (.slice none 0 0)))
(cOp t8 (oMove (kV (.int .i64 2)))
AL)))
(cOp t23 (AC g4)
(cOp t24 (Ap g9 [g23])
(cOp t25 (Ak g24)
(cG g25 false t27 (oMove g9)
(cG g25 false t28 (AC g5)
(cG g25 false t29 (Ap g27 [g28])
(cG g25 false t30 (Ak g29)
(cOp t31 (AK g25 (kV (.bool true)) g30)
(cG g31 false t33 (AC g4)
(cG g31 false t34 (AC g5)
(cG g31 false t35 (AH iEq .i64 g33 g34)
(cOp t36 (AK g31 (kV (.bool true)) g35)
(cG g36 false t38 (oMove g0)
(cG g36 false t39 (oMove g10)
(cG g36 false t40 (AE 250 [g38,g39])
(cOp t41 (AK g36 (kV (.bool true)) g40)
(cOp t21 (oMove g41)
(AF g21
(cOp t6 (oMove (kV (.slice none 0 0)))
(cOp t7 (oMove (kV (.slice none 0 0)))
(cOp t8 (oMove (kV (.int .i64 100)))
AL)))
cNorm)))))))))))))))))))))))
(cOp t11 (oMove (kV (.slice none 0 0)))
(cOp t12 (oMove (kV (.slice none 0 0)))
(cOp t42 (oMove g0)
(cOp t43 (AP g42)
(cOp t44 (oMove (kV (.int .i64 0)))
(AY (AM 1 (Ah (cOp t45 (AH iLt .i64 g44 g43)
(AF g45
(AY (AM 2 (cOp t47 (Ac 2 g42 g44)
(cOp t48 (AJ 2 g47)
(cOp t14 (AV 2 MQ)
(cOp t13 (oMove g44)
(cDo (AD 2 g14 g48)
(cOp t49 (AJ 2 g14)
(cOp t50 (AE 251 [g49])
(cDo (AD 2 g14 g50)
(cOp t51 (AJ 2 g14)
(cOp t52 (AC g4)
(cOp t53 (AE 248 [g51,g52])
(cOp t15 (oMove g53)
(cOp t55 (AH iGe .i64 g15 (kV (.int .i64 0)))
(AY (AF g55
(cOp t56 (AB 1 g14)
(cOp t57 (AC g56)
(cOp t59 (AC g5)
(cOp t60 (Ac 1 g57 g15)
(cDo (AD 1 g60 g59)
(cOp t61 (AB 0 g14)
(cOp t62 (AC g61)
(cOp t63 (Ad .i64 (AW .i64) g62 (kV (.int .i64 1)))
(cOp t64 (AB 0 g14)
(cDo (AD 1 g64 g63)
(cOp t67 (AQ 1 (Ao ty3.zero 1) [(0,1,g13)])
(cOp t68 (Aj 1 8 3 g12 g67)
(cOp t12 (oMove g68)
cNorm)))))))))))))
cNorm)
(cOp t70 (AJ 2 g14)
(cOp t71 (AQ 1 (Ao Jr.zero 1) [(0,2,g70)])
(cOp t72 (Aj 2 32 267 g11 g71)
(cOp t11 (oMove g72)
cNorm)))))))))))))))))))
(cOp t73 (Ad .i64 (AW .i64) g44 (kV (.int .i64 1)))
(cOp t44 (oMove g73)
cNorm)))
(Af 1)))))
(cOp t6 (oMove g11)
(cOp t7 (oMove g12)
(cOp t8 (oMove (kV (.int .i64 0)))
AL))))))))))))))))))
def Wa:Body:=⟨[.t g6,.t g7,.t g8],u6⟩
theorem ACl:AX Tryz.prog ty 138 Wa:=oFn [18,22,26,32,37,46,54,58,65,66,69,74,75] Tryz.func138 (by kernel_rfl) (by kernel_rfl)
def u7:C:=
(cOp t3 (Al g0)
(cOp t5 (Al g2)
(cOp t6 (AV 7 G0)
(cOp t7 (AV 11 Bq)
(cOp t8 (oMove (kV (.int .i64 0)))
(cOp t16 (AJ 7 g3)
(cOp t17 (AE 57 [g16,(kV (.int .i64 (-1))),(kV (.int .i64 (-1)))])
(cOp t18 (AG 0 g17)
(cOp t19 (AG 1 g17)
(cOp t20 (AG 2 g17)
(cOp t9 (AV 7 G0)
(cDo (AD 7 g9 g18)
(cOp t10 (oMove g19)
(cOp t11 (oMove g20)
(AY (AM 0 (cOp t22 (AJ 7 g3)
(cOp t24 (AE 168 [g22,g1])
(cOp t25 (Ak g24)
(cOp t21 (oMove g25)
(AF g21
(cOp t26 (AJ 7 g9)
(cOp t27 (AZ BW.zero [])
(cDo (AD 7 g6 g26)
(cDo (AD 11 g7 g27)
(cOp t8 (oMove (kV (.int .i64 180)))
AL)))))
(cOp t29 (AJ 18 g5)
(cOp t30 (AE 252 [g29])
(cOp t31 (Ak g30)
(cOp t28 (oMove g31)
(AF g28
(cOp t32 (AJ 7 g9)
(cOp t33 (AZ BW.zero [])
(cDo (AD 7 g6 g32)
(cDo (AD 11 g7 g33)
(cOp t8 (oMove (kV (.int .i64 2)))
AL)))))
cNorm)))))))))))
(cOp t34 (AB 0 g5)
(cOp t35 (AC g34)
(AY (AM 1 (cOp t37 (AH iEq .i64 g35 (kV (.int .i64 2)))
(cOp t36 (oMove g37)
(AF g36
(cOp t38 (AJ 7 g3)
(cOp t40 (AB 2 g5)
(cOp t41 (AJ 12 g40)
(cOp t42 (AB 14 g5)
(cOp t43 (AC g42)
(cOp t44 (AB 15 g5)
(cOp t45 (AC g44)
(cOp t46 (AE 253 [g38,g1,g41,g43,g45])
(cOp t47 (AG 0 g46)
(cOp t48 (AG 1 g46)
(cOp t49 (AG 2 g46)
(cDo (AD 7 g6 g47)
(cDo (AD 11 g7 g48)
(cOp t8 (oMove g49)
AL))))))))))))))
(cOp t51 (AH iEq .i64 g35 (kV (.int .i64 3)))
(cOp t50 (oMove g51)
(AF g50
(cOp t53 (AJ 7 g3)
(cOp t54 (AB 16 g5)
(cOp t55 (AC g54)
(cOp t56 (AB 17 g5)
(cOp t57 (AC g56)
(cOp t58 (AE 57 [g53,g55,g57])
(cOp t59 (AG 0 g58)
(cOp t60 (AG 1 g58)
(cOp t61 (AG 2 g58)
(cOp t12 (AV 7 G0)
(cDo (AD 7 g12 g59)
(cOp t13 (oMove g60)
(cOp t14 (oMove g61)
(cOp t62 (AJ 7 g12)
(cOp t63 (AZ BW.zero [])
(cDo (AD 7 g6 g62)
(cDo (AD 11 g7 g63)
(cOp t8 (oMove g14)
AL))))))))))))))))))
(cOp t66 (AH iEq .i64 g35 (kV (.int .i64 4)))
(cOp t65 (oMove g66)
(AF g65
(cOp t67 (AJ 7 g3)
(cOp t68 (AB 1 g5)
(cOp t69 (AC g68)
(cOp t70 (AE 254 [g67,g69])
(cOp t71 (AZ BW.zero [])
(cDo (AD 7 g6 g70)
(cDo (AD 11 g7 g71)
(cOp t8 (oMove (kV (.int .i64 0)))
AL))))))))
cNorm))))))))))
(cOp t72 (AB 1 g5)
(cOp t73 (AC g72)
(cOp t74 (AB 0 g3)
(cOp t75 (AC g74)
(cOp t76 (Ad .i64 (AW .i64) g75 (kV (.int .i64 1)))
(cOp t77 (AH iNe .i64 g73 g76)
(AF g77
(cOp t78 (AJ 7 g9)
(cOp t79 (AZ BW.zero [])
(cDo (AD 7 g6 g78)
(cDo (AD 11 g7 g79)
(cOp t8 (oMove (kV (.int .i64 80)))
AL)))))
(cOp t80 (AB 1 g5)
(cOp t81 (AC g80)
(cOp t82 (AB 0 g9)
(cDo (AD 1 g82 g81)
(cOp t83 (AJ 7 g9)
(cOp t84 (AZ BW.zero [])
(cDo (AD 7 g6 g83)
(cDo (AD 11 g7 g84)
(cOp t8 (oMove (kV (.int .i64 0)))
AL))))))))))))))))))))))))))))))))))
def Wb:Body:=⟨[.cN g6 7,.cN g7 11,.t g8],u7⟩
theorem ACm:AX Tryz.prog ty 140 Wb:=oFn [15,23,39,52,64] Tryz.func140 (by kernel_rfl) (by kernel_rfl)
end
end Go.Proofs.YtglkncnkbofgfaaGreat

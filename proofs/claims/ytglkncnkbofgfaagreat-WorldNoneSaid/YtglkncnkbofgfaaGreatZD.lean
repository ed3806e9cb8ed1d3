/-
  Part ZD of what Lawwn stands on: printed by program, names and spaces cut.
-/
import Derived.Test.YtglkncnkbofgfaaGreatZC
import Derived.Test.YtglkncnkbofgfaaGreatProg
namespace Go.Proofs.YtglkncnkbofgfaaGreat
noncomputable section
open Go
def ty0:TI:=⟨.other,1,0,[],[]⟩
def ty1:TI:=⟨.func,1,8,[.nilFunc],[]⟩
def ty2:TI:=⟨.int .i64,1,8,[.int .i64 0],[]⟩
def ty3:TI:=⟨.int .i64,1,8,[.int .i64 0],[]⟩
def ty4:TI:=⟨.bool,1,1,[.bool false],[]⟩
def ty5:TI:=⟨.int .u8,1,1,[.int .u8 0],[]⟩
def ty6:TI:=⟨.int .u8,1,1,[.int .u8 0],[]⟩
def ty7:TI:=⟨.struct [(0,1,2),(1,1,3),(2,1,4),(3,1,6)],4,24,[.int .i64 0,.int .i64 0,.bool false,.int .u8 0],[]⟩
def ty9:TI:=⟨.string,1,16,[.string .empty],[]⟩
def AGh:TI:=⟨.string,1,16,[.string .empty],[("Error",666),("RuntimeError",667)]⟩
def AGi:TI:=⟨.string,1,16,[.string .empty],[("Error",668),("RuntimeError",669)]⟩
def AGj:TI:=⟨.int .u64,1,8,[.int .u64 0],[]⟩
def AGk:TI:=⟨.ptr 742,1,8,[.pointer none],[("Error",672),("RuntimeError",673)]⟩
def AGl:TI:=⟨.ptr 745,1,8,[.pointer none],[("Error",674),("RuntimeError",675)]⟩
def AGm:TI:=⟨.ptr 753,1,8,[.pointer none],[("Align",676)]⟩
def AGn:TI:=⟨.iface,1,16,[.nilIface],[]⟩
def AGo:TI:=⟨.int .i32,1,4,[.int .i32 0],[]⟩
def Hx:TI:=⟨.slice 5,1,24,[.slice none 0 0],[]⟩
def AGp:TI:=⟨.func,1,8,[.nilFunc],[]⟩
def MM:TI:=⟨.ptr 48,1,8,[.pointer none],[("Busy",14),("Move",11),("Over",15),("Send",10),("State",12),("Step",6),("Stripes",13),("Take",9),("Tend",8),("Tick",7),("cooperage/gate.all",124),("cooperage/gate.answer",113),("cooperage/gate.begin",43),("cooperage/gate.change",54),("cooperage/gate.dead",225),("cooperage/gate.dropped",217),("cooperage/gate.ends",118),("cooperage/gate.fails",116),("cooperage/gate.goes",44),("cooperage/gate.joined",368),("cooperage/gate.made",219),("cooperage/gate.mended",122),("cooperage/gate.read",66),("cooperage/gate.read0",114),("cooperage/gate.readOn",115),("cooperage/gate.readOne",216),("cooperage/gate.right",42),("cooperage/gate.shards",221),("cooperage/gate.swept",45),("cooperage/gate.tells",117),("cooperage/gate.tended",46),("cooperage/gate.version",126),("cooperage/gate.writeOn",119),("cooperage/gate.yields",222)]⟩
def AGq:TI:=⟨.struct [(0,1,3),(1,1,3),(2,1,3),(3,1,3),(4,1,3),(5,1,3),(6,1,3),(7,1,3),(8,1,3)],9,72,Ao [.int .i64 0] 9,[]⟩
def nD:TI:=⟨.struct [(0,1,3),(1,1,3),(2,1,3),(3,1,3),(4,1,3),(5,1,3),(6,1,3),(7,1,3),(8,1,3)],9,72,Ao [.int .i64 0] 9,[]⟩
def P2:TI:=⟨.ptr 62,1,8,[.pointer none],[]⟩
def nW:TI:=⟨.ptr 284,1,8,[.pointer none],[("Append",142),("Base",164),("Checkpoint",144),("Over",145),("Records",169),("Room",260),("cooperage/journal.may",258),("cooperage/journal.right",264),("cooperage/journal.write",162)]⟩
def hR:TI:=⟨.ptr 223,1,8,[.pointer none],[("Data",486),("Fenced",60),("Free",121),("Give",369),("Jobs",134),("Look",120),("Mend",125),("Move",55),("Publish",218),("Read",367),("Send",52),("Take",48),("Tick",47),("Write",220),("cooperage/keep.hinders",379),("cooperage/keep.more",232),("cooperage/keep.node",135),("cooperage/keep.none",127),("cooperage/keep.turned",370),("cooperage/keep.under",136)]⟩
def nv:TI:=⟨.slice 139,1,24,[.slice none 0 0],[]⟩
def AGr:TI:=⟨.struct [(0,1,30),(1,1,3)],2,32,[.slice none 0 0,.int .i64 0],[]⟩
def oO:TI:=⟨.struct [(0,1,30),(1,1,3)],2,32,[.slice none 0 0,.int .i64 0],[]⟩
def oZ:TI:=⟨.slice 416,1,24,[.slice none 0 0],[]⟩
def AGs:TI:=⟨.struct [(0,1,3),(1,1,33)],2,32,[.int .i64 0,.slice none 0 0],[]⟩
def hU:TI:=⟨.struct [(0,1,3),(1,1,33)],2,32,[.int .i64 0,.slice none 0 0],[]⟩
def pG:TI:=⟨.slice 267,1,24,[.slice none 0 0],[]⟩
def pS:TI:=⟨.slice 141,1,24,[.slice none 0 0],[]⟩
def AGt:TI:=⟨.struct [(0,1,3),(1,2,32),(3,2,35),(5,1,36),(6,1,37)],7,120,[.int .i64 0,.slice none 0 0,.int .i64 0,.int .i64 0,.slice none 0 0,.slice none 0 0,.slice none 0 0],[]⟩
def OJ:TI:=⟨.struct [(0,1,3),(1,2,32),(3,2,35),(5,1,36),(6,1,37)],7,120,[.int .i64 0,.slice none 0 0,.int .i64 0,.int .i64 0,.slice none 0 0,.slice none 0 0,.slice none 0 0],[]⟩
def AGu:TI:=⟨.slice 72,1,24,[.slice none 0 0],[]⟩
def Vl:TI:=⟨.ptr 124,1,8,[.pointer none],[("cooperage/gate.old",372)]⟩
def qS:TI:=⟨.slice 202,1,24,[.slice none 0 0],[]⟩
def qe:TI:=⟨.slice 3,1,24,[.slice none 0 0],[]⟩
def AGv:TI:=⟨.struct [(0,1,3),(1,1,4),(2,1,43),(3,1,43)],4,64,[.int .i64 0,.bool false,.slice none 0 0,.slice none 0 0],[]⟩
def q8:TI:=⟨.struct [(0,1,3),(1,1,4),(2,1,43),(3,1,43)],4,64,[.int .i64 0,.bool false,.slice none 0 0,.slice none 0 0],[]⟩
def rJ:TI:=⟨.map 3 3,1,8,[.map none],[]⟩
def AGw:TI:=⟨.struct [(0,9,26),(9,1,3),(10,1,3),(11,1,27),(12,1,28),(13,1,29),(14,7,39),(21,1,40),(22,1,3),(23,1,3),(24,1,41),(25,1,42),(26,1,43),(27,1,3),(28,4,45),(32,1,4),(33,1,46),(34,1,4)],35,424,[.int .i64 0,.int .i64 0,.int .i64 0,.int .i64 0,.int .i64 0,.int .i64 0,.int .i64 0,.int .i64 0,.int .i64 0,.int .i64 0,.int .i64 0,.pointer none,.pointer none,.pointer none,.int .i64 0,.slice none 0 0,.int .i64 0,.int .i64 0,.slice none 0 0,.slice none 0 0,.slice none 0 0,.slice none 0 0,.int .i64 0,.int .i64 0,.pointer none,.slice none 0 0,.slice none 0 0,.int .i64 0,.int .i64 0,.bool false,.slice none 0 0,.slice none 0 0,.bool false,.map none,.bool false],[]⟩
def re:TI:=⟨.struct [(0,9,26),(9,1,3),(10,1,3),(11,1,27),(12,1,28),(13,1,29),(14,7,39),(21,1,40),(22,1,3),(23,1,3),(24,1,41),(25,1,42),(26,1,43),(27,1,3),(28,4,45),(32,1,4),(33,1,46),(34,1,4)],35,424,[.int .i64 0,.int .i64 0,.int .i64 0,.int .i64 0,.int .i64 0,.int .i64 0,.int .i64 0,.int .i64 0,.int .i64 0,.int .i64 0,.int .i64 0,.pointer none,.pointer none,.pointer none,.int .i64 0,.slice none 0 0,.int .i64 0,.int .i64 0,.slice none 0 0,.slice none 0 0,.slice none 0 0,.slice none 0 0,.int .i64 0,.int .i64 0,.pointer none,.slice none 0 0,.slice none 0 0,.int .i64 0,.int .i64 0,.bool false,.slice none 0 0,.slice none 0 0,.bool false,.map none,.bool false],[]⟩
def AGx:TI:=⟨.arr 2 24,2,16,[.pointer none,.pointer none],[]⟩
def AGy:TI:=⟨.func,1,8,[.nilFunc],[]⟩
def AGz:TI:=⟨.int .i64,1,8,[.int .i64 0],[]⟩
def AG0:TI:=⟨.func,1,8,[.nilFunc],[]⟩
def AG1:TI:=⟨.func,1,8,[.nilFunc],[]⟩
def AG2:TI:=⟨.func,1,8,[.nilFunc],[]⟩
def AG3:TI:=⟨.func,1,8,[.nilFunc],[]⟩
def AG4:TI:=⟨.func,1,8,[.nilFunc],[]⟩
def MN:TI:=⟨.ptr 149,1,8,[.pointer none],[("Arm",88),("Cached",325),("Crash",196),("Down",174),("Flush",280),("Read",421),("Size",90),("Spoil",94),("Write",279),("cooperage/disk.none",195),("cooperage/disk.operation",423),("cooperage/disk.there",422)]⟩
def AG5:TI:=⟨.other,1,0,[],[]⟩
def AG6:TI:=⟨.func,1,8,[.nilFunc],[]⟩
def AG7:TI:=⟨.int .u32,1,4,[.int .u32 0],[]⟩
def AG8:TI:=⟨.arr 256 60,256,1024,Ao [.int .u32 0] 256,[]⟩
def AG9:TI:=⟨.arr 256 60,256,1024,Ao [.int .u32 0] 256,[]⟩
def AHA:TI:=⟨.func,1,8,[.nilFunc],[]⟩
def AHB:TI:=⟨.other,1,0,[],[]⟩
def AHC:TI:=⟨.func,1,8,[.nilFunc],[]⟩
def AHD:TI:=⟨.func,1,8,[.nilFunc],[]⟩
def AHE:TI:=⟨.slice 4,1,24,[.slice none 0 0],[]⟩
def AHF:TI:=⟨.int .u8,1,1,[.int .u8 0],[]⟩
def AHG:TI:=⟨.struct [(0,1,3),(1,1,3)],2,16,[.int .i64 0,.int .i64 0],[]⟩
def D5:TI:=⟨.struct [(0,1,3),(1,1,3)],2,16,[.int .i64 0,.int .i64 0],[]⟩
def AHH:TI:=⟨.struct [(0,1,3),(1,1,3),(2,1,68),(3,2,70),(5,1,9),(6,2,70),(8,1,9),(9,1,3),(10,1,3),(11,1,22)],12,128,[.int .i64 0,.int .i64 0,.int .u8 0,.int .i64 0,.int .i64 0,.string .empty,.int .i64 0,.int .i64 0,.string .empty,.int .i64 0,.int .i64 0,.slice none 0 0],[]⟩
def P6:TI:=⟨.struct [(0,1,3),(1,1,3),(2,1,68),(3,2,70),(5,1,9),(6,2,70),(8,1,9),(9,1,3),(10,1,3),(11,1,22)],12,128,[.int .i64 0,.int .i64 0,.int .u8 0,.int .i64 0,.int .i64 0,.string .empty,.int .i64 0,.int .i64 0,.string .empty,.int .i64 0,.int .i64 0,.slice none 0 0],[]⟩
def AHI:TI:=⟨.struct [(0,1,3),(1,1,3),(2,1,3),(3,1,3),(4,1,5),(5,1,67),(6,12,72)],18,192,[.int .i64 0,.int .i64 0,.int .i64 0,.int .i64 0,.int .u8 0,.slice none 0 0,.int .i64 0,.int .i64 0,.int .u8 0,.int .i64 0,.int .i64 0,.string .empty,.int .i64 0,.int .i64 0,.string .empty,.int .i64 0,.int .i64 0,.slice none 0 0],[]⟩
def AHJ:TI:=⟨.struct [(0,1,3),(1,1,3),(2,1,3),(3,1,3),(4,1,5),(5,1,67),(6,12,72)],18,192,[.int .i64 0,.int .i64 0,.int .i64 0,.int .i64 0,.int .u8 0,.slice none 0 0,.int .i64 0,.int .i64 0,.int .u8 0,.int .i64 0,.int .i64 0,.string .empty,.int .i64 0,.int .i64 0,.string .empty,.int .i64 0,.int .i64 0,.slice none 0 0],[]⟩
def xK:TI:=⟨.ptr 88,1,8,[.pointer none],[("Again",23),("Arm",30),("Ask",22),("Calm",20),("Come",26),("Crash",31),("Double",27),("Flying",25),("Judge",21),("Lose",28),("Over",38),("Past",35),("Rates",36),("Replace",33),("Spoil",32),("State",37),("Tick",19),("Turn",29),("Waits",24),("Whole",34),("cooperage/world.again",73),("cooperage/world.begins",69),("cooperage/world.comes",77),("cooperage/world.crash",89),("cooperage/world.disk",87),("cooperage/world.flies",84),("cooperage/world.holds",92),("cooperage/world.looks",78),("cooperage/world.none",68),("cooperage/world.open",197),("cooperage/world.over",74),("cooperage/world.parts",179),("cooperage/world.placed",93),("cooperage/world.quiet",71),("cooperage/world.rests",91),("cooperage/world.rises",72),("cooperage/world.send",83),("cooperage/world.there",101),("cooperage/world.tick",70),("cooperage/world.told",178),("cooperage/world.turn",75),("cooperage/world.whole",98)]⟩
def AHK:TI:=⟨.struct [(0,1,3),(1,1,3),(2,1,3),(3,1,3),(4,1,3),(5,1,3),(6,1,3),(7,1,3),(8,1,3),(9,1,3),(10,1,3)],11,88,Ao [.int .i64 0] 11,[]⟩
def xd:TI:=⟨.struct [(0,1,3),(1,1,3),(2,1,3),(3,1,3),(4,1,3),(5,1,3),(6,1,3),(7,1,3),(8,1,3),(9,1,3),(10,1,3)],11,88,Ao [.int .i64 0] 11,[]⟩
def P7:TI:=⟨.ptr 279,1,8,[.pointer none],[("All",160),("Decode",603),("Encode",374),("Need",62),("Rebuild",691),("cooperage/code.made",159),("cooperage/code.row",492),("cooperage/code.rows",491),("cooperage/code.told",633)]⟩
def xx:TI:=⟨.ptr 299,1,8,[.pointer none],[("Copy",85),("Drop",86),("Flying",76),("Look",303),("Send",191),("Take",176),("cooperage/net.full",323),("cooperage/net.lay",193),("cooperage/net.made",175),("cooperage/net.there",192)]⟩
def AHL:TI:=⟨.slice 57,1,24,[.slice none 0 0],[]⟩
def AHM:TI:=⟨.slice 197,1,24,[.slice none 0 0],[]⟩
def xy:TI:=⟨.slice 167,1,24,[.slice none 0 0],[]⟩
def AHN:TI:=⟨.arr 16 3,16,128,Ao [.int .i64 0] 16,[]⟩
def AHO:TI:=⟨.map 3 4,1,8,[.map none],[]⟩
def AHP:TI:=⟨.map 171 4,1,8,[.map none],[]⟩
def AHQ:TI:=⟨.map 141 3,1,8,[.map none],[]⟩
def AHR:TI:=⟨.struct [(0,11,77),(11,1,27),(12,1,78),(13,1,79),(14,1,80),(15,1,81),(16,1,57),(17,1,24),(18,1,3),(19,1,82),(20,16,83),(36,16,83),(52,1,46),(53,1,84),(54,1,85),(55,1,86),(56,1,3),(57,1,3),(58,1,3),(59,1,3),(60,1,3)],61,536,[.int .i64 0,.int .i64 0,.int .i64 0,.int .i64 0,.int .i64 0,.int .i64 0,.int .i64 0,.int .i64 0,.int .i64 0,.int .i64 0,.int .i64 0,.pointer none,.pointer none,.pointer none,.slice none 0 0,.slice none 0 0,.pointer none,.pointer none,.int .i64 0,.slice none 0 0,.int .i64 0,.int .i64 0,.int .i64 0,.int .i64 0,.int .i64 0,.int .i64 0,.int .i64 0,.int .i64 0,.int .i64 0,.int .i64 0,.int .i64 0,.int .i64 0,.int .i64 0,.int .i64 0,.int .i64 0,.int .i64 0,.int .i64 0,.int .i64 0,.int .i64 0,.int .i64 0,.int .i64 0,.int .i64 0,.int .i64 0,.int .i64 0,.int .i64 0,.int .i64 0,.int .i64 0,.int .i64 0,.int .i64 0,.int .i64 0,.int .i64 0,.int .i64 0,.map none,.map none,.map none,.map none,.int .i64 0,.int .i64 0,.int .i64 0,.int .i64 0,.int .i64 0],[]⟩
def h8:TI:=⟨.struct [(0,11,77),(11,1,27),(12,1,78),(13,1,79),(14,1,80),(15,1,81),(16,1,57),(17,1,24),(18,1,3),(19,1,82),(20,16,83),(36,16,83),(52,1,46),(53,1,84),(54,1,85),(55,1,86),(56,1,3),(57,1,3),(58,1,3),(59,1,3),(60,1,3)],61,536,[.int .i64 0,.int .i64 0,.int .i64 0,.int .i64 0,.int .i64 0,.int .i64 0,.int .i64 0,.int .i64 0,.int .i64 0,.int .i64 0,.int .i64 0,.pointer none,.pointer none,.pointer none,.slice none 0 0,.slice none 0 0,.pointer none,.pointer none,.int .i64 0,.slice none 0 0,.int .i64 0,.int .i64 0,.int .i64 0,.int .i64 0,.int .i64 0,.int .i64 0,.int .i64 0,.int .i64 0,.int .i64 0,.int .i64 0,.int .i64 0,.int .i64 0,.int .i64 0,.int .i64 0,.int .i64 0,.int .i64 0,.int .i64 0,.int .i64 0,.int .i64 0,.int .i64 0,.int .i64 0,.int .i64 0,.int .i64 0,.int .i64 0,.int .i64 0,.int .i64 0,.int .i64 0,.int .i64 0,.int .i64 0,.int .i64 0,.int .i64 0,.int .i64 0,.map none,.map none,.map none,.map none,.int .i64 0,.int .i64 0,.int .i64 0,.int .i64 0,.int .i64 0],[]⟩
def xz:TI:=⟨.arr 2 75,2,16,[.pointer none,.pointer none],[]⟩
def AHS:TI:=⟨.other,1,0,[],[]⟩
def AHT:TI:=⟨.func,1,8,[.nilFunc],[]⟩
def AHU:TI:=⟨.other,1,0,[],[]⟩
def AHV:TI:=⟨.func,1,8,[.nilFunc],[]⟩
def AHW:TI:=⟨.func,1,8,[.nilFunc],[]⟩
def AHX:TI:=⟨.func,1,8,[.nilFunc],[]⟩
def AHY:TI:=⟨.func,1,8,[.nilFunc],[]⟩
def AHZ:TI:=⟨.func,1,8,[.nilFunc],[]⟩
def h9:TI:=⟨.func,1,8,[.nilFunc],[]⟩
def AHa:TI:=⟨.func,1,8,[.nilFunc],[]⟩
def kK:TI:=⟨.func,1,8,[.nilFunc],[]⟩
def kL:TI:=⟨.func,1,8,[.nilFunc],[]⟩
def kM:TI:=⟨.int .u64,1,8,[.int .u64 0],[]⟩
def Iv:TI:=⟨.arr 4 102,4,32,[.int .u64 0,.int .u64 0,.int .u64 0,.int .u64 0],[]⟩
def kN:TI:=⟨.func,1,8,[.nilFunc],[]⟩
def kO:TI:=⟨.func,1,8,[.nilFunc],[]⟩
def kP:TI:=⟨.ptr 192,1,8,[.pointer none],[("Ask",41),("Begin",109),("Round",111),("cooperage/cooperagelaw27.carry",110),("cooperage/cooperagelaw27.comes",207),("cooperage/cooperagelaw27.fate",206)]⟩
def kQ:TI:=⟨.other,1,0,[],[]⟩
def kR:TI:=⟨.func,1,8,[.nilFunc],[]⟩
def ZP:TI:=⟨.slice 180,1,24,[.slice none 0 0],[]⟩
def kS:TI:=⟨.struct [(0,1,3),(1,1,3),(2,1,51),(3,2,70),(5,1,4),(6,1,3),(7,1,22),(8,1,109),(9,1,4),(10,1,3)],11,120,[.int .i64 0,.int .i64 0,.int .i64 0,.int .i64 0,.int .i64 0,.bool false,.int .i64 0,.slice none 0 0,.slice none 0 0,.bool false,.int .i64 0],[]⟩
def Bf:TI:=⟨.struct [(0,1,3),(1,1,3),(2,1,51),(3,2,70),(5,1,4),(6,1,3),(7,1,22),(8,1,109),(9,1,4),(10,1,3)],11,120,[.int .i64 0,.int .i64 0,.int .i64 0,.int .i64 0,.int .i64 0,.bool false,.int .i64 0,.slice none 0 0,.slice none 0 0,.bool false,.int .i64 0],[]⟩
def kT:TI:=⟨.other,1,0,[],[]⟩
def kU:TI:=⟨.func,1,8,[.nilFunc],[]⟩
def kW:TI:=⟨.other,1,0,[],[]⟩
def kX:TI:=⟨.func,1,8,[.nilFunc],[]⟩
def kY:TI:=⟨.func,1,8,[.nilFunc],[]⟩
def kZ:TI:=⟨.func,1,8,[.nilFunc],[]⟩
def kh:TI:=⟨.slice 363,1,24,[.slice none 0 0],[]⟩
def kj:TI:=⟨.struct [(0,1,3),(1,11,111),(12,1,118),(13,1,118)],14,176,[.int .i64 0,.int .i64 0,.int .i64 0,.int .i64 0,.int .i64 0,.int .i64 0,.bool false,.int .i64 0,.slice none 0 0,.slice none 0 0,.bool false,.int .i64 0,.slice none 0 0,.slice none 0 0],[]⟩
def Hw:TI:=⟨.struct [(0,1,3),(1,11,111),(12,1,118),(13,1,118)],14,176,[.int .i64 0,.int .i64 0,.int .i64 0,.int .i64 0,.int .i64 0,.int .i64 0,.bool false,.int .i64 0,.slice none 0 0,.slice none 0 0,.bool false,.int .i64 0,.slice none 0 0,.slice none 0 0],[]⟩
def kl:TI:=⟨.map 3 22,1,8,[.map none],[]⟩
def km:TI:=⟨.slice 22,1,24,[.slice none 0 0],[]⟩
def kn:TI:=⟨.struct [(0,12,72),(12,14,120),(26,1,3),(27,1,46),(28,1,121),(29,1,46),(30,1,43),(31,1,122)],32,384,[.int .i64 0,.int .i64 0,.int .u8 0,.int .i64 0,.int .i64 0,.string .empty,.int .i64 0,.int .i64 0,.string .empty,.int .i64 0,.int .i64 0,.slice none 0 0,.int .i64 0,.int .i64 0,.int .i64 0,.int .i64 0,.int .i64 0,.int .i64 0,.bool false,.int .i64 0,.slice none 0 0,.slice none 0 0,.bool false,.int .i64 0,.slice none 0 0,.slice none 0 0,.int .i64 0,.map none,.map none,.map none,.slice none 0 0,.slice none 0 0],[]⟩
def ZQ:TI:=⟨.struct [(0,12,72),(12,14,120),(26,1,3),(27,1,46),(28,1,121),(29,1,46),(30,1,43),(31,1,122)],32,384,[.int .i64 0,.int .i64 0,.int .u8 0,.int .i64 0,.int .i64 0,.string .empty,.int .i64 0,.int .i64 0,.string .empty,.int .i64 0,.int .i64 0,.slice none 0 0,.int .i64 0,.int .i64 0,.int .i64 0,.int .i64 0,.int .i64 0,.int .i64 0,.bool false,.int .i64 0,.slice none 0 0,.slice none 0 0,.bool false,.int .i64 0,.slice none 0 0,.slice none 0 0,.int .i64 0,.map none,.map none,.map none,.slice none 0 0,.slice none 0 0],[]⟩
def ko:TI:=⟨.struct [(0,1,3),(1,1,3),(2,1,43)],3,40,[.int .i64 0,.int .i64 0,.slice none 0 0],[]⟩
def kp:TI:=⟨.struct [(0,1,3),(1,1,3),(2,1,43)],3,40,[.int .i64 0,.int .i64 0,.slice none 0 0],[]⟩
def kq:TI:=⟨.other,1,0,[],[]⟩
def kr:TI:=⟨.func,1,8,[.nilFunc],[]⟩
def ku:TI:=⟨.other,1,0,[],[]⟩
def kv:TI:=⟨.func,1,8,[.nilFunc],[]⟩
def kz:TI:=⟨.struct [(0,1,3),(1,1,3),(2,12,72),(14,1,43),(15,1,51),(16,1,3),(17,1,3)],18,192,[.int .i64 0,.int .i64 0,.int .i64 0,.int .i64 0,.int .u8 0,.int .i64 0,.int .i64 0,.string .empty,.int .i64 0,.int .i64 0,.string .empty,.int .i64 0,.int .i64 0,.slice none 0 0,.slice none 0 0,.int .i64 0,.int .i64 0,.int .i64 0],[]⟩
def ND:TI:=⟨.struct [(0,1,3),(1,1,3),(2,12,72),(14,1,43),(15,1,51),(16,1,3),(17,1,3)],18,192,[.int .i64 0,.int .i64 0,.int .i64 0,.int .i64 0,.int .u8 0,.int .i64 0,.int .i64 0,.string .empty,.int .i64 0,.int .i64 0,.string .empty,.int .i64 0,.int .i64 0,.slice none 0 0,.slice none 0 0,.int .i64 0,.int .i64 0,.int .i64 0],[]⟩
def lA:TI:=⟨.func,1,8,[.nilFunc],[]⟩
def lB:TI:=⟨.other,1,0,[],[]⟩
def lC:TI:=⟨.func,1,8,[.nilFunc],[]⟩
def lD:TI:=⟨.other,1,0,[],[]⟩
def lE:TI:=⟨.func,1,8,[.nilFunc],[]⟩
def lF:TI:=⟨.struct [(0,1,3),(1,1,3),(2,1,4),(3,1,4),(4,1,3),(5,1,37),(6,1,3),(7,1,109)],8,88,[.int .i64 0,.int .i64 0,.bool false,.bool false,.int .i64 0,.slice none 0 0,.int .i64 0,.slice none 0 0],[]⟩
def En:TI:=⟨.struct [(0,1,3),(1,1,3),(2,1,4),(3,1,4),(4,1,3),(5,1,37),(6,1,3),(7,1,109)],8,88,[.int .i64 0,.int .i64 0,.bool false,.bool false,.int .i64 0,.slice none 0 0,.int .i64 0,.slice none 0 0],[]⟩
def lG:TI:=⟨.struct [(0,1,3),(1,1,3)],2,16,[.int .i64 0,.int .i64 0],[]⟩
def Iw:TI:=⟨.struct [(0,1,3),(1,1,3)],2,16,[.int .i64 0,.int .i64 0],[]⟩
def lH:TI:=⟨.func,1,8,[.nilFunc],[]⟩
def lI:TI:=⟨.func,1,8,[.nilFunc],[]⟩
def lJ:TI:=⟨.func,1,8,[.nilFunc],[]⟩
def lK:TI:=⟨.func,1,8,[.nilFunc],[]⟩
def lL:TI:=⟨.slice 326,1,24,[.slice none 0 0],[]⟩
def ZR:TI:=⟨.map 3 326,1,8,[.map none],[]⟩
def lM:TI:=⟨.struct [(0,1,146),(1,1,147),(2,1,3),(3,1,4)],4,48,[.slice none 0 0,.map none,.int .i64 0,.bool false],[]⟩
def ZS:TI:=⟨.struct [(0,1,146),(1,1,147),(2,1,3),(3,1,4)],4,48,[.slice none 0 0,.map none,.int .i64 0,.bool false],[]⟩
def lN:TI:=⟨.func,1,8,[.nilFunc],[]⟩
def lO:TI:=⟨.func,1,8,[.nilFunc],[]⟩
def lP:TI:=⟨.other,1,0,[],[]⟩
def lQ:TI:=⟨.func,1,8,[.nilFunc],[]⟩
def lR:TI:=⟨.func,1,8,[.nilFunc],[]⟩
def lS:TI:=⟨.other,1,0,[],[]⟩
def lT:TI:=⟨.func,1,8,[.nilFunc],[]⟩
def lU:TI:=⟨.other,1,0,[],[]⟩
def lV:TI:=⟨.func,1,8,[.nilFunc],[]⟩
def lW:TI:=⟨.struct [(0,1,3),(1,1,3),(2,1,3),(3,1,3)],4,32,[.int .i64 0,.int .i64 0,.int .i64 0,.int .i64 0],[]⟩
def ZT:TI:=⟨.struct [(0,1,3),(1,1,3),(2,1,3),(3,1,3)],4,32,[.int .i64 0,.int .i64 0,.int .i64 0,.int .i64 0],[]⟩
def lX:TI:=⟨.func,1,8,[.nilFunc],[]⟩
def lY:TI:=⟨.func,1,8,[.nilFunc],[]⟩
def lZ:TI:=⟨.other,1,0,[],[]⟩
def la:TI:=⟨.func,1,8,[.nilFunc],[]⟩
def lb:TI:=⟨.func,1,8,[.nilFunc],[]⟩
def lc:TI:=⟨.struct [(0,12,72),(12,11,111),(23,1,3),(24,1,3)],25,264,[.int .i64 0,.int .i64 0,.int .u8 0,.int .i64 0,.int .i64 0,.string .empty,.int .i64 0,.int .i64 0,.string .empty,.int .i64 0,.int .i64 0,.slice none 0 0,.int .i64 0,.int .i64 0,.int .i64 0,.int .i64 0,.int .i64 0,.bool false,.int .i64 0,.slice none 0 0,.slice none 0 0,.bool false,.int .i64 0,.int .i64 0,.int .i64 0],[]⟩
def NE:TI:=⟨.struct [(0,12,72),(12,11,111),(23,1,3),(24,1,3)],25,264,[.int .i64 0,.int .i64 0,.int .u8 0,.int .i64 0,.int .i64 0,.string .empty,.int .i64 0,.int .i64 0,.string .empty,.int .i64 0,.int .i64 0,.slice none 0 0,.int .i64 0,.int .i64 0,.int .i64 0,.int .i64 0,.int .i64 0,.bool false,.int .i64 0,.slice none 0 0,.slice none 0 0,.bool false,.int .i64 0,.int .i64 0,.int .i64 0],[]⟩
def ld:TI:=⟨.func,1,8,[.nilFunc],[]⟩
def lf:TI:=⟨.func,1,8,[.nilFunc],[]⟩
def lg:TI:=⟨.struct [(0,1,3),(1,1,3)],2,16,[.int .i64 0,.int .i64 0],[]⟩
def Py:TI:=⟨.struct [(0,1,3),(1,1,3)],2,16,[.int .i64 0,.int .i64 0],[]⟩
def lh:TI:=⟨.func,1,8,[.nilFunc],[]⟩
def ll:TI:=⟨.func,1,8,[.nilFunc],[]⟩
def lm:TI:=⟨.func,1,8,[.nilFunc],[]⟩
def ln:TI:=⟨.func,1,8,[.nilFunc],[]⟩
def lp:TI:=⟨.func,1,8,[.nilFunc],[]⟩
def lq:TI:=⟨.ptr 167,1,8,[.pointer none],[]⟩
def lr:TI:=⟨.func,1,8,[.nilFunc],[]⟩
def lu:TI:=⟨.struct [(0,1,9),(1,1,3)],2,24,[.string .empty,.int .i64 0],[]⟩
def Ix:TI:=⟨.struct [(0,1,9),(1,1,3)],2,24,[.string .empty,.int .i64 0],[]⟩
def lw:TI:=⟨.other,1,0,[],[]⟩
def lx:TI:=⟨.func,1,8,[.nilFunc],[]⟩
def ly:TI:=⟨.flt,1,8,[.float .f64 0],[]⟩
def lz:TI:=⟨.func,1,8,[.nilFunc],[]⟩
def l0:TI:=⟨.other,1,0,[],[]⟩
def l3:TI:=⟨.func,1,8,[.nilFunc],[]⟩
def l4:TI:=⟨.func,1,8,[.nilFunc],[]⟩
def l5:TI:=⟨.other,1,0,[],[]⟩
def l6:TI:=⟨.func,1,8,[.nilFunc],[]⟩
def l7:TI:=⟨.map 203 111,1,8,[.map none],[]⟩
def l8:TI:=⟨.struct [(0,256,62),(256,1,78),(257,9,26),(266,1,3),(267,1,81),(268,1,80),(269,1,24),(270,1,57),(271,1,190),(272,1,22),(273,1,3),(274,1,42)],275,1240,[.int .u32 0,.int .u32 0,.int .u32 0,.int .u32 0,.int .u32 0,.int .u32 0,.int .u32 0,.int .u32 0,.int .u32 0,.int .u32 0,.int .u32 0,.int .u32 0,.int .u32 0,.int .u32 0,.int .u32 0,.int .u32 0,.int .u32 0,.int .u32 0,.int .u32 0,.int .u32 0,.int .u32 0,.int .u32 0,.int .u32 0,.int .u32 0,.int .u32 0,.int .u32 0,.int .u32 0,.int .u32 0,.int .u32 0,.int .u32 0,.int .u32 0,.int .u32 0,.int .u32 0,.int .u32 0,.int .u32 0,.int .u32 0,.int .u32 0,.int .u32 0,.int .u32 0,.int .u32 0,.int .u32 0,.int .u32 0,.int .u32 0,.int .u32 0,.int .u32 0,.int .u32 0,.int .u32 0,.int .u32 0,.int .u32 0,.int .u32 0,.int .u32 0,.int .u32 0,.int .u32 0,.int .u32 0,.int .u32 0,.int .u32 0,.int .u32 0,.int .u32 0,.int .u32 0,.int .u32 0,.int .u32 0,.int .u32 0,.int .u32 0,.int .u32 0,.int .u32 0,.int .u32 0,.int .u32 0,.int .u32 0,.int .u32 0,.int .u32 0,.int .u32 0,.int .u32 0,.int .u32 0,.int .u32 0,.int .u32 0,.int .u32 0,.int .u32 0,.int .u32 0,.int .u32 0,.int .u32 0,.int .u32 0,.int .u32 0,.int .u32 0,.int .u32 0,.int .u32 0,.int .u32 0,.int .u32 0,.int .u32 0,.int .u32 0,.int .u32 0,.int .u32 0,.int .u32 0,.int .u32 0,.int .u32 0,.int .u32 0,.int .u32 0,.int .u32 0,.int .u32 0,.int .u32 0,.int .u32 0,.int .u32 0,.int .u32 0,.int .u32 0,.int .u32 0,.int .u32 0,.int .u32 0,.int .u32 0,.int .u32 0,.int .u32 0,.int .u32 0,.int .u32 0,.int .u32 0,.int .u32 0,.int .u32 0,.int .u32 0,.int .u32 0,.int .u32 0,.int .u32 0,.int .u32 0,.int .u32 0,.int .u32 0,.int .u32 0,.int .u32 0,.int .u32 0,.int .u32 0,.int .u32 0,.int .u32 0,.int .u32 0,.int .u32 0,.int .u32 0,.int .u32 0,.int .u32 0,.int .u32 0,.int .u32 0,.int .u32 0,.int .u32 0,.int .u32 0,.int .u32 0,.int .u32 0,.int .u32 0,.int .u32 0,.int .u32 0,.int .u32 0,.int .u32 0,.int .u32 0,.int .u32 0,.int .u32 0,.int .u32 0,.int .u32 0,.int .u32 0,.int .u32 0,.int .u32 0,.int .u32 0,.int .u32 0,.int .u32 0,.int .u32 0,.int .u32 0,.int .u32 0,.int .u32 0,.int .u32 0,.int .u32 0,.int .u32 0,.int .u32 0,.int .u32 0,.int .u32 0,.int .u32 0,.int .u32 0,.int .u32 0,.int .u32 0,.int .u32 0,.int .u32 0,.int .u32 0,.int .u32 0,.int .u32 0,.int .u32 0,.int .u32 0,.int .u32 0,.int .u32 0,.int .u32 0,.int .u32 0,.int .u32 0,.int .u32 0,.int .u32 0,.int .u32 0,.int .u32 0,.int .u32 0,.int .u32 0,.int .u32 0,.int .u32 0,.int .u32 0,.int .u32 0,.int .u32 0,.int .u32 0,.int .u32 0,.int .u32 0,.int .u32 0,.int .u32 0,.int .u32 0,.int .u32 0,.int .u32 0,.int .u32 0,.int .u32 0,.int .u32 0,.int .u32 0,.int .u32 0,.int .u32 0,.int .u32 0,.int .u32 0,.int .u32 0,.int .u32 0,.int .u32 0,.int .u32 0,.int .u32 0,.int .u32 0,.int .u32 0,.int .u32 0,.int .u32 0,.int .u32 0,.int .u32 0,.int .u32 0,.int .u32 0,.int .u32 0,.int .u32 0,.int .u32 0,.int .u32 0,.int .u32 0,.int .u32 0,.int .u32 0,.int .u32 0,.int .u32 0,.int .u32 0,.int .u32 0,.int .u32 0,.int .u32 0,.int .u32 0,.int .u32 0,.int .u32 0,.int .u32 0,.int .u32 0,.int .u32 0,.int .u32 0,.int .u32 0,.int .u32 0,.int .u32 0,.int .u32 0,.int .u32 0,.int .u32 0,.int .u32 0,.int .u32 0,.int .u32 0,.int .u32 0,.int .u32 0,.int .u32 0,.int .u32 0,.int .u32 0,.int .u32 0,.pointer none,.int .i64 0,.int .i64 0,.int .i64 0,.int .i64 0,.int .i64 0,.int .i64 0,.int .i64 0,.int .i64 0,.int .i64 0,.int .i64 0,.slice none 0 0,.slice none 0 0,.pointer none,.pointer none,.map none,.slice none 0 0,.int .i64 0,.slice none 0 0],[]⟩
def l9:TI:=⟨.struct [(0,256,62),(256,1,78),(257,9,26),(266,1,3),(267,1,81),(268,1,80),(269,1,24),(270,1,57),(271,1,190),(272,1,22),(273,1,3),(274,1,42)],275,1240,[.int .u32 0,.int .u32 0,.int .u32 0,.int .u32 0,.int .u32 0,.int .u32 0,.int .u32 0,.int .u32 0,.int .u32 0,.int .u32 0,.int .u32 0,.int .u32 0,.int .u32 0,.int .u32 0,.int .u32 0,.int .u32 0,.int .u32 0,.int .u32 0,.int .u32 0,.int .u32 0,.int .u32 0,.int .u32 0,.int .u32 0,.int .u32 0,.int .u32 0,.int .u32 0,.int .u32 0,.int .u32 0,.int .u32 0,.int .u32 0,.int .u32 0,.int .u32 0,.int .u32 0,.int .u32 0,.int .u32 0,.int .u32 0,.int .u32 0,.int .u32 0,.int .u32 0,.int .u32 0,.int .u32 0,.int .u32 0,.int .u32 0,.int .u32 0,.int .u32 0,.int .u32 0,.int .u32 0,.int .u32 0,.int .u32 0,.int .u32 0,.int .u32 0,.int .u32 0,.int .u32 0,.int .u32 0,.int .u32 0,.int .u32 0,.int .u32 0,.int .u32 0,.int .u32 0,.int .u32 0,.int .u32 0,.int .u32 0,.int .u32 0,.int .u32 0,.int .u32 0,.int .u32 0,.int .u32 0,.int .u32 0,.int .u32 0,.int .u32 0,.int .u32 0,.int .u32 0,.int .u32 0,.int .u32 0,.int .u32 0,.int .u32 0,.int .u32 0,.int .u32 0,.int .u32 0,.int .u32 0,.int .u32 0,.int .u32 0,.int .u32 0,.int .u32 0,.int .u32 0,.int .u32 0,.int .u32 0,.int .u32 0,.int .u32 0,.int .u32 0,.int .u32 0,.int .u32 0,.int .u32 0,.int .u32 0,.int .u32 0,.int .u32 0,.int .u32 0,.int .u32 0,.int .u32 0,.int .u32 0,.int .u32 0,.int .u32 0,.int .u32 0,.int .u32 0,.int .u32 0,.int .u32 0,.int .u32 0,.int .u32 0,.int .u32 0,.int .u32 0,.int .u32 0,.int .u32 0,.int .u32 0,.int .u32 0,.int .u32 0,.int .u32 0,.int .u32 0,.int .u32 0,.int .u32 0,.int .u32 0,.int .u32 0,.int .u32 0,.int .u32 0,.int .u32 0,.int .u32 0,.int .u32 0,.int .u32 0,.int .u32 0,.int .u32 0,.int .u32 0,.int .u32 0,.int .u32 0,.int .u32 0,.int .u32 0,.int .u32 0,.int .u32 0,.int .u32 0,.int .u32 0,.int .u32 0,.int .u32 0,.int .u32 0,.int .u32 0,.int .u32 0,.int .u32 0,.int .u32 0,.int .u32 0,.int .u32 0,.int .u32 0,.int .u32 0,.int .u32 0,.int .u32 0,.int .u32 0,.int .u32 0,.int .u32 0,.int .u32 0,.int .u32 0,.int .u32 0,.int .u32 0,.int .u32 0,.int .u32 0,.int .u32 0,.int .u32 0,.int .u32 0,.int .u32 0,.int .u32 0,.int .u32 0,.int .u32 0,.int .u32 0,.int .u32 0,.int .u32 0,.int .u32 0,.int .u32 0,.int .u32 0,.int .u32 0,.int .u32 0,.int .u32 0,.int .u32 0,.int .u32 0,.int .u32 0,.int .u32 0,.int .u32 0,.int .u32 0,.int .u32 0,.int .u32 0,.int .u32 0,.int .u32 0,.int .u32 0,.int .u32 0,.int .u32 0,.int .u32 0,.int .u32 0,.int .u32 0,.int .u32 0,.int .u32 0,.int .u32 0,.int .u32 0,.int .u32 0,.int .u32 0,.int .u32 0,.int .u32 0,.int .u32 0,.int .u32 0,.int .u32 0,.int .u32 0,.int .u32 0,.int .u32 0,.int .u32 0,.int .u32 0,.int .u32 0,.int .u32 0,.int .u32 0,.int .u32 0,.int .u32 0,.int .u32 0,.int .u32 0,.int .u32 0,.int .u32 0,.int .u32 0,.int .u32 0,.int .u32 0,.int .u32 0,.int .u32 0,.int .u32 0,.int .u32 0,.int .u32 0,.int .u32 0,.int .u32 0,.int .u32 0,.int .u32 0,.int .u32 0,.int .u32 0,.int .u32 0,.int .u32 0,.int .u32 0,.int .u32 0,.int .u32 0,.int .u32 0,.int .u32 0,.int .u32 0,.int .u32 0,.int .u32 0,.int .u32 0,.int .u32 0,.int .u32 0,.int .u32 0,.int .u32 0,.int .u32 0,.int .u32 0,.int .u32 0,.int .u32 0,.int .u32 0,.int .u32 0,.int .u32 0,.int .u32 0,.int .u32 0,.int .u32 0,.pointer none,.int .i64 0,.int .i64 0,.int .i64 0,.int .i64 0,.int .i64 0,.int .i64 0,.int .i64 0,.int .i64 0,.int .i64 0,.int .i64 0,.slice none 0 0,.slice none 0 0,.pointer none,.pointer none,.map none,.slice none 0 0,.int .i64 0,.slice none 0 0],[]⟩
def mA:TI:=⟨.other,1,0,[],[]⟩
def mB:TI:=⟨.func,1,8,[.nilFunc],[]⟩
def Pz:TI:=⟨.ptr 345,1,8,[.pointer none],[("Add",202),("Div",457),("Inv",331),("Lay",563),("Mul",605),("cooperage/field.is",328)]⟩
def mC:TI:=⟨.func,1,8,[.nilFunc],[]⟩
def P0:TI:=⟨.ptr 350,1,8,[.pointer none],[("All",198),("Do",306),("Handle",177),("Life",679),("Over",173),("cooperage/node.abort",444),("cooperage/node.commit",443),("cooperage/node.drop",447),("cooperage/node.infos",527),("cooperage/node.list",446),("cooperage/node.prepare",442),("cooperage/node.read",445),("cooperage/node.told",441),("cooperage/node.up",304)]⟩
def mD:TI:=⟨.other,1,0,[],[]⟩
def mE:TI:=⟨.func,1,8,[.nilFunc],[]⟩
def mF:TI:=⟨.func,1,8,[.nilFunc],[]⟩
def mG:TI:=⟨.struct [(0,1,3),(1,1,3),(2,1,22)],3,40,[.int .i64 0,.int .i64 0,.slice none 0 0],[]⟩
def Eo:TI:=⟨.struct [(0,1,3),(1,1,3),(2,1,22)],3,40,[.int .i64 0,.int .i64 0,.slice none 0 0],[]⟩
def ZU:TI:=⟨.arr 2 3,2,16,[.int .i64 0,.int .i64 0],[]⟩
def mH:TI:=⟨.other,1,0,[],[]⟩
def mI:TI:=⟨.func,1,8,[.nilFunc],[]⟩
def mJ:TI:=⟨.func,1,8,[.nilFunc],[]⟩
def mK:TI:=⟨.func,1,8,[.nilFunc],[]⟩
def mL:TI:=⟨.other,1,0,[],[]⟩
def mM:TI:=⟨.func,1,8,[.nilFunc],[]⟩
def mN:TI:=⟨.func,1,8,[.nilFunc],[]⟩
def mO:TI:=⟨.struct [(0,1,3),(1,1,3),(2,1,3),(3,1,3),(4,1,43)],5,56,[.int .i64 0,.int .i64 0,.int .i64 0,.int .i64 0,.slice none 0 0],[]⟩
def mP:TI:=⟨.struct [(0,1,3),(1,1,3),(2,1,3),(3,1,3),(4,1,43)],5,56,[.int .i64 0,.int .i64 0,.int .i64 0,.int .i64 0,.slice none 0 0],[]⟩
def mQ:TI:=⟨.other,1,0,[],[]⟩
def mR:TI:=⟨.func,1,8,[.nilFunc],[]⟩
def mS:TI:=⟨.other,1,0,[],[]⟩
def mT:TI:=⟨.func,1,8,[.nilFunc],[]⟩
def mU:TI:=⟨.other,1,0,[],[]⟩
def mV:TI:=⟨.func,1,8,[.nilFunc],[]⟩
def mW:TI:=⟨.func,1,8,[.nilFunc],[]⟩
def mX:TI:=⟨.map 3 236,1,8,[.map none],[]⟩
def mY:TI:=⟨.map 3 233,1,8,[.map none],[]⟩
def mZ:TI:=⟨.struct [(0,1,78),(1,1,27),(2,1,36),(3,4,160),(7,1,2),(8,1,3),(9,1,3),(10,1,220),(11,1,221),(12,1,4)],13,120,[.pointer none,.pointer none,.slice none 0 0,.int .i64 0,.int .i64 0,.int .i64 0,.int .i64 0,.int .i64 0,.int .i64 0,.int .i64 0,.map none,.map none,.bool false],[]⟩
def ZV:TI:=⟨.struct [(0,1,78),(1,1,27),(2,1,36),(3,4,160),(7,1,2),(8,1,3),(9,1,3),(10,1,220),(11,1,221),(12,1,4)],13,120,[.pointer none,.pointer none,.slice none 0 0,.int .i64 0,.int .i64 0,.int .i64 0,.int .i64 0,.int .i64 0,.int .i64 0,.int .i64 0,.map none,.map none,.bool false],[]⟩
def ma:TI:=⟨.int .u8,1,1,[.int .u8 0],[]⟩
def mc:TI:=⟨.slice 382,1,24,[.slice none 0 0],[]⟩
def md:TI:=⟨.struct [(0,1,3),(1,1,3),(2,1,224),(3,1,51),(4,1,225),(5,1,22),(6,1,3)],7,88,[.int .i64 0,.int .i64 0,.int .u8 0,.int .i64 0,.slice none 0 0,.slice none 0 0,.int .i64 0],[]⟩
def me:TI:=⟨.struct [(0,1,3),(1,1,3),(2,1,224),(3,1,51),(4,1,225),(5,1,22),(6,1,3)],7,88,[.int .i64 0,.int .i64 0,.int .u8 0,.int .i64 0,.slice none 0 0,.slice none 0 0,.int .i64 0],[]⟩
def mf:TI:=⟨.other,1,0,[],[]⟩
def mg:TI:=⟨.func,1,8,[.nilFunc],[]⟩
def mh:TI:=⟨.struct [(0,1,3),(1,1,224),(2,1,3)],3,24,[.int .i64 0,.int .u8 0,.int .i64 0],[]⟩
def mi:TI:=⟨.struct [(0,1,3),(1,1,224),(2,1,3)],3,24,[.int .i64 0,.int .u8 0,.int .i64 0],[]⟩
def mj:TI:=⟨.struct [(0,1,3),(1,3,231),(4,1,3),(5,1,2)],6,48,[.int .i64 0,.int .i64 0,.int .u8 0,.int .i64 0,.int .i64 0,.int .i64 0],[]⟩
def P1:TI:=⟨.struct [(0,1,3),(1,3,231),(4,1,3),(5,1,2)],6,48,[.int .i64 0,.int .i64 0,.int .u8 0,.int .i64 0,.int .i64 0,.int .i64 0],[]⟩
def ml:TI:=⟨.other,1,0,[],[]⟩
def mm:TI:=⟨.iface,1,16,[.nilIface],[]⟩
def mn:TI:=⟨.iface,1,16,[.nilIface],[]⟩
def mo:TI:=⟨.func,1,8,[.nilFunc],[]⟩
def mp:TI:=⟨.ptr 245,1,8,[.pointer none],[("cooperage/call.blob",131),("cooperage/call.flag",430),("cooperage/call.number",236),("cooperage/call.numbers",130)]⟩
def mq:TI:=⟨.other,1,0,[],[]⟩
def mr:TI:=⟨.func,1,8,[.nilFunc],[]⟩
def mu:TI:=⟨.func,1,8,[.nilFunc],[]⟩
def LE:TI:=⟨.ptr 3,1,8,[.pointer none],[]⟩
def mv:TI:=⟨.func,1,8,[.nilFunc],[]⟩
def mw:TI:=⟨.struct [(0,1,22),(1,1,3),(2,1,4)],3,40,[.slice none 0 0,.int .i64 0,.bool false],[]⟩
def ZW:TI:=⟨.struct [(0,1,22),(1,1,3),(2,1,4)],3,40,[.slice none 0 0,.int .i64 0,.bool false],[]⟩
def my:TI:=⟨.func,1,8,[.nilFunc],[]⟩
def mz:TI:=⟨.func,1,8,[.nilFunc],[]⟩
def m0:TI:=⟨.slice 231,1,24,[.slice none 0 0],[]⟩
def m3:TI:=⟨.func,1,8,[.nilFunc],[]⟩
def m4:TI:=⟨.func,1,8,[.nilFunc],[]⟩
def m5:TI:=⟨.func,1,8,[.nilFunc],[]⟩
def m6:TI:=⟨.func,1,8,[.nilFunc],[]⟩
def m7:TI:=⟨.func,1,8,[.nilFunc],[]⟩
def m8:TI:=⟨.struct [(0,1,3),(1,1,3),(2,1,224),(3,1,3),(4,1,3),(5,1,3),(6,1,22)],7,72,[.int .i64 0,.int .i64 0,.int .u8 0,.int .i64 0,.int .i64 0,.int .i64 0,.slice none 0 0],[]⟩
def ZX:TI:=⟨.struct [(0,1,3),(1,1,3),(2,1,224),(3,1,3),(4,1,3),(5,1,3),(6,1,22)],7,72,[.int .i64 0,.int .i64 0,.int .u8 0,.int .i64 0,.int .i64 0,.int .i64 0,.slice none 0 0],[]⟩
def m9:TI:=⟨.other,1,0,[],[]⟩
def nA:TI:=⟨.func,1,8,[.nilFunc],[]⟩
def nB:TI:=⟨.func,1,8,[.nilFunc],[]⟩
def nC:TI:=⟨.other,1,0,[],[]⟩
def nE:TI:=⟨.func,1,8,[.nilFunc],[]⟩
def nF:TI:=⟨.func,1,8,[.nilFunc],[]⟩
def nG:TI:=⟨.func,1,8,[.nilFunc],[]⟩
def nH:TI:=⟨.func,1,8,[.nilFunc],[]⟩
def nI:TI:=⟨.func,1,8,[.nilFunc],[]⟩
def nJ:TI:=⟨.func,1,8,[.nilFunc],[]⟩
def nK:TI:=⟨.struct [(0,1,3),(1,1,43)],2,32,[.int .i64 0,.slice none 0 0],[]⟩
def LF:TI:=⟨.struct [(0,1,3),(1,1,43)],2,32,[.int .i64 0,.slice none 0 0],[]⟩
def nL:TI:=⟨.other,1,0,[],[]⟩
def nM:TI:=⟨.func,1,8,[.nilFunc],[]⟩
def nN:TI:=⟨.func,1,8,[.nilFunc],[]⟩
def nO:TI:=⟨.func,1,8,[.nilFunc],[]⟩
def nP:TI:=⟨.func,1,8,[.nilFunc],[]⟩
def nQ:TI:=⟨.func,1,8,[.nilFunc],[]⟩
def nR:TI:=⟨.func,1,8,[.nilFunc],[]⟩
def nS:TI:=⟨.func,1,8,[.nilFunc],[]⟩
def nT:TI:=⟨.int .u64,1,8,[.int .u64 0],[]⟩
def nU:TI:=⟨.slice 22,1,24,[.slice none 0 0],[]⟩
def nV:TI:=⟨.struct [(0,1,195),(1,1,3),(2,1,277)],3,40,[.pointer none,.int .i64 0,.slice none 0 0],[]⟩
def ZY:TI:=⟨.struct [(0,1,195),(1,1,3),(2,1,277)],3,40,[.pointer none,.int .i64 0,.slice none 0 0],[]⟩
def nX:TI:=⟨.ptr 282,1,8,[.pointer none],[("cooperage/journal.bytes",277),("cooperage/journal.halved",161),("cooperage/journal.sector",276)]⟩
def nY:TI:=⟨.struct [(0,1,57),(1,1,51)],2,16,[.pointer none,.int .i64 0],[]⟩
def ZZ:TI:=⟨.struct [(0,1,57),(1,1,51)],2,16,[.pointer none,.int .i64 0],[]⟩
def nZ:TI:=⟨.struct [(0,1,57),(1,1,3),(2,1,3),(3,1,3),(4,1,3),(5,1,22),(6,1,122),(7,1,4)],8,96,[.pointer none,.int .i64 0,.int .i64 0,.int .i64 0,.int .i64 0,.slice none 0 0,.slice none 0 0,.bool false],[]⟩
def P3:TI:=⟨.struct [(0,1,57),(1,1,3),(2,1,3),(3,1,3),(4,1,3),(5,1,22),(6,1,122),(7,1,4)],8,96,[.pointer none,.int .i64 0,.int .i64 0,.int .i64 0,.int .i64 0,.slice none 0 0,.slice none 0 0,.bool false],[]⟩
def na:TI:=⟨.func,1,8,[.nilFunc],[]⟩
def nb:TI:=⟨.func,1,8,[.nilFunc],[]⟩
def nc:TI:=⟨.func,1,8,[.nilFunc],[]⟩
def nf:TI:=⟨.func,1,8,[.nilFunc],[]⟩
def ng:TI:=⟨.other,1,0,[],[]⟩
def nh:TI:=⟨.func,1,8,[.nilFunc],[]⟩
def nk:TI:=⟨.func,1,8,[.nilFunc],[]⟩
def nl:TI:=⟨.func,1,8,[.nilFunc],[]⟩
def nn:TI:=⟨.func,1,8,[.nilFunc],[]⟩
def np:TI:=⟨.func,1,8,[.nilFunc],[]⟩
def nq:TI:=⟨.other,1,0,[],[]⟩
def nr:TI:=⟨.func,1,8,[.nilFunc],[]⟩
def nt:TI:=⟨.func,1,8,[.nilFunc],[]⟩
def nu:TI:=⟨.struct [(0,1,3),(1,1,3),(2,1,42),(3,1,46)],4,48,[.int .i64 0,.int .i64 0,.slice none 0 0,.map none],[]⟩
def Za:TI:=⟨.struct [(0,1,3),(1,1,3),(2,1,42),(3,1,46)],4,48,[.int .i64 0,.int .i64 0,.slice none 0 0,.map none],[]⟩
def nw:TI:=⟨.other,1,0,[],[]⟩
def ny:TI:=⟨.func,1,8,[.nilFunc],[]⟩
def nz:TI:=⟨.func,1,8,[.nilFunc],[]⟩
def n3:TI:=⟨.func,1,8,[.nilFunc],[]⟩
def n8:TI:=⟨.func,1,8,[.nilFunc],[]⟩
def n9:TI:=⟨.func,1,8,[.nilFunc],[]⟩
def oB:TI:=⟨.struct [(0,2,32),(2,1,122)],3,56,[.slice none 0 0,.int .i64 0,.slice none 0 0],[]⟩
def LG:TI:=⟨.struct [(0,2,32),(2,1,122)],3,56,[.slice none 0 0,.int .i64 0,.slice none 0 0],[]⟩
def oC:TI:=⟨.func,1,8,[.nilFunc],[]⟩
def oE:TI:=⟨.struct [(0,1,67),(1,3,307)],4,80,[.slice none 0 0,.slice none 0 0,.int .i64 0,.slice none 0 0],[]⟩
def oF:TI:=⟨.struct [(0,1,67),(1,3,307)],4,80,[.slice none 0 0,.slice none 0 0,.int .i64 0,.slice none 0 0],[("cooperage/linear.next",185),("cooperage/linear.whole",183)]⟩
def oG:TI:=⟨.slice 310,1,24,[.slice none 0 0],[]⟩
def oH:TI:=⟨.func,1,8,[.nilFunc],[]⟩
def oI:TI:=⟨.func,1,8,[.nilFunc],[]⟩
def oJ:TI:=⟨.other,1,0,[],[]⟩
def oK:TI:=⟨.func,1,8,[.nilFunc],[]⟩
def oL:TI:=⟨.func,1,8,[.nilFunc],[]⟩
def oM:TI:=⟨.func,1,8,[.nilFunc],[]⟩
def Zb:TI:=⟨.arr 3 22,3,72,[.slice none 0 0,.slice none 0 0,.slice none 0 0],[]⟩
def oN:TI:=⟨.func,1,8,[.nilFunc],[]⟩
def oP:TI:=⟨.func,1,8,[.nilFunc],[]⟩
def oQ:TI:=⟨.func,1,8,[.nilFunc],[]⟩
def oR:TI:=⟨.func,1,8,[.nilFunc],[]⟩
def oT:TI:=⟨.func,1,8,[.nilFunc],[]⟩
def oU:TI:=⟨.func,1,8,[.nilFunc],[]⟩
def oV:TI:=⟨.arr 64 5,64,64,Ao [.int .u8 0] 64,[]⟩
def P4:TI:=⟨.arr 64 5,64,64,Ao [.int .u8 0] 64,[]⟩
def oW:TI:=⟨.slice 331,1,24,[.slice none 0 0],[]⟩
def oX:TI:=⟨.func,1,8,[.nilFunc],[]⟩
def oY:TI:=⟨.int .u8,1,1,[.int .u8 0],[]⟩
def oa:TI:=⟨.struct [(0,1,3),(1,1,3),(2,1,3),(3,1,329),(4,1,22)],5,56,[.int .i64 0,.int .i64 0,.int .i64 0,.int .u8 0,.slice none 0 0],[]⟩
def Iy:TI:=⟨.struct [(0,1,3),(1,1,3),(2,1,3),(3,1,329),(4,1,22)],5,56,[.int .i64 0,.int .i64 0,.int .i64 0,.int .u8 0,.slice none 0 0],[]⟩
def oc:TI:=⟨.func,1,8,[.nilFunc],[]⟩
def od:TI:=⟨.func,1,8,[.nilFunc],[]⟩
def oe:TI:=⟨.other,1,0,[],[]⟩
def oh:TI:=⟨.func,1,8,[.nilFunc],[]⟩
def ol:TI:=⟨.arr 3 3,3,24,[.int .i64 0,.int .i64 0,.int .i64 0],[]⟩
def oo:TI:=⟨.arr 4 336,12,96,Ao [.int .i64 0] 12,[]⟩
def oq:TI:=⟨.func,1,8,[.nilFunc],[]⟩
def ot:TI:=⟨.other,1,0,[],[]⟩
def ou:TI:=⟨.func,1,8,[.nilFunc],[]⟩
def ov:TI:=⟨.func,1,8,[.nilFunc],[]⟩
def ow:TI:=⟨.arr 510 5,510,510,Ao [.int .u8 0] 510,[]⟩
def ox:TI:=⟨.arr 256 3,256,2048,Ao [.int .i64 0] 256,[]⟩
def oy:TI:=⟨.struct [(0,1,4),(1,510,342),(511,256,343)],767,2560,[.bool false,.int .u8 0,.int .u8 0,.int .u8 0,.int .u8 0,.int .u8 0,.int .u8 0,.int .u8 0,.int .u8 0,.int .u8 0,.int .u8 0,.int .u8 0,.int .u8 0,.int .u8 0,.int .u8 0,.int .u8 0,.int .u8 0,.int .u8 0,.int .u8 0,.int .u8 0,.int .u8 0,.int .u8 0,.int .u8 0,.int .u8 0,.int .u8 0,.int .u8 0,.int .u8 0,.int .u8 0,.int .u8 0,.int .u8 0,.int .u8 0,.int .u8 0,.int .u8 0,.int .u8 0,.int .u8 0,.int .u8 0,.int .u8 0,.int .u8 0,.int .u8 0,.int .u8 0,.int .u8 0,.int .u8 0,.int .u8 0,.int .u8 0,.int .u8 0,.int .u8 0,.int .u8 0,.int .u8 0,.int .u8 0,.int .u8 0,.int .u8 0,.int .u8 0,.int .u8 0,.int .u8 0,.int .u8 0,.int .u8 0,.int .u8 0,.int .u8 0,.int .u8 0,.int .u8 0,.int .u8 0,.int .u8 0,.int .u8 0,.int .u8 0,.int .u8 0,.int .u8 0,.int .u8 0,.int .u8 0,.int .u8 0,.int .u8 0,.int .u8 0,.int .u8 0,.int .u8 0,.int .u8 0,.int .u8 0,.int .u8 0,.int .u8 0,.int .u8 0,.int .u8 0,.int .u8 0,.int .u8 0,.int .u8 0,.int .u8 0,.int .u8 0,.int .u8 0,.int .u8 0,.int .u8 0,.int .u8 0,.int .u8 0,.int .u8 0,.int .u8 0,.int .u8 0,.int .u8 0,.int .u8 0,.int .u8 0,.int .u8 0,.int .u8 0,.int .u8 0,.int .u8 0,.int .u8 0,.int .u8 0,.int .u8 0,.int .u8 0,.int .u8 0,.int .u8 0,.int .u8 0,.int .u8 0,.int .u8 0,.int .u8 0,.int .u8 0,.int .u8 0,.int .u8 0,.int .u8 0,.int .u8 0,.int .u8 0,.int .u8 0,.int .u8 0,.int .u8 0,.int .u8 0,.int .u8 0,.int .u8 0,.int .u8 0,.int .u8 0,.int .u8 0,.int .u8 0,.int .u8 0,.int .u8 0,.int .u8 0,.int .u8 0,.int .u8 0,.int .u8 0,.int .u8 0,.int .u8 0,.int .u8 0,.int .u8 0,.int .u8 0,.int .u8 0,.int .u8 0,.int .u8 0,.int .u8 0,.int .u8 0,.int .u8 0,.int .u8 0,.int .u8 0,.int .u8 0,.int .u8 0,.int .u8 0,.int .u8 0,.int .u8 0,.int .u8 0,.int .u8 0,.int .u8 0,.int .u8 0,.int .u8 0,.int .u8 0,.int .u8 0,.int .u8 0,.int .u8 0,.int .u8 0,.int .u8 0,.int .u8 0,.int .u8 0,.int .u8 0,.int .u8 0,.int .u8 0,.int .u8 0,.int .u8 0,.int .u8 0,.int .u8 0,.int .u8 0,.int .u8 0,.int .u8 0,.int .u8 0,.int .u8 0,.int .u8 0,.int .u8 0,.int .u8 0,.int .u8 0,.int .u8 0,.int .u8 0,.int .u8 0,.int .u8 0,.int .u8 0,.int .u8 0,.int .u8 0,.int .u8 0,.int .u8 0,.int .u8 0,.int .u8 0,.int .u8 0,.int .u8 0,.int .u8 0,.int .u8 0,.int .u8 0,.int .u8 0,.int .u8 0,.int .u8 0,.int .u8 0,.int .u8 0,.int .u8 0,.int .u8 0,.int .u8 0,.int .u8 0,.int .u8 0,.int .u8 0,.int .u8 0,.int .u8 0,.int .u8 0,.int .u8 0,.int .u8 0,.int .u8 0,.int .u8 0,.int .u8 0,.int .u8 0,.int .u8 0,.int .u8 0,.int .u8 0,.int .u8 0,.int .u8 0,.int .u8 0,.int .u8 0,.int .u8 0,.int .u8 0,.int .u8 0,.int .u8 0,.int .u8 0,.int .u8 0,.int .u8 0,.int .u8 0,.int .u8 0,.int .u8 0,.int .u8 0,.int .u8 0,.int .u8 0,.int .u8 0,.int .u8 0,.int .u8 0,.int .u8 0,.int .u8 0,.int .u8 0,.int .u8 0,.int .u8 0,.int .u8 0,.int .u8 0,.int .u8 0,.int .u8 0,.int .u8 0,.int .u8 0,.int .u8 0,.int .u8 0,.int .u8 0,.int .u8 0,.int .u8 0,.int .u8 0,.int .u8 0,.int .u8 0,.int .u8 0,.int .u8 0,.int .u8 0,.int .u8 0,.int .u8 0,.int .u8 0,.int .u8 0,.int .u8 0,.int .u8 0,.int .u8 0,.int .u8 0,.int .u8 0,.int .u8 0,.int .u8 0,.int .u8 0,.int .u8 0,.int .u8 0,.int .u8 0,.int .u8 0,.int .u8 0,.int .u8 0,.int .u8 0,.int .u8 0,.int .u8 0,.int .u8 0,.int .u8 0,.int .u8 0,.int .u8 0,.int .u8 0,.int .u8 0,.int .u8 0,.int .u8 0,.int .u8 0,.int .u8 0,.int .u8 0,.int .u8 0,.int .u8 0,.int .u8 0,.int .u8 0,.int .u8 0,.int .u8 0,.int .u8 0,.int .u8 0,.int .u8 0,.int .u8 0,.int .u8 0,.int .u8 0,.int .u8 0,.int .u8 0,.int .u8 0,.int .u8 0,.int .u8 0,.int .u8 0,.int .u8 0,.int .u8 0,.int .u8 0,.int .u8 0,.int .u8 0,.int .u8 0,.int .u8 0,.int .u8 0,.int .u8 0,.int .u8 0,.int .u8 0,.int .u8 0,.int .u8 0,.int .u8 0,.int .u8 0,.int .u8 0,.int .u8 0,.int .u8 0,.int .u8 0,.int .u8 0,.int .u8 0,.int .u8 0,.int .u8 0,.int .u8 0,.int .u8 0,.int .u8 0,.int .u8 0,.int .u8 0,.int .u8 0,.int .u8 0,.int .u8 0,.int .u8 0,.int .u8 0,.int .u8 0,.int .u8 0,.int .u8 0,.int .u8 0,.int .u8 0,.int .u8 0,.int .u8 0,.int .u8 0,.int .u8 0,.int .u8 0,.int .u8 0,.int .u8 0,.int .u8 0,.int .u8 0,.int .u8 0,.int .u8 0,.int .u8 0,.int .u8 0,.int .u8 0,.int .u8 0,.int .u8 0,.int .u8 0,.int .u8 0,.int .u8 0,.int .u8 0,.int .u8 0,.int .u8 0,.int .u8 0,.int .u8 0,.int .u8 0,.int .u8 0,.int .u8 0,.int .u8 0,.int .u8 0,.int .u8 0,.int .u8 0,.int .u8 0,.int .u8 0,.int .u8 0,.int .u8 0,.int .u8 0,.int .u8 0,.int .u8 0,.int .u8 0,.int .u8 0,.int .u8 0,.int .u8 0,.int .u8 0,.int .u8 0,.int .u8 0,.int .u8 0,.int .u8 0,.int .u8 0,.int .u8 0,.int .u8 0,.int .u8 0,.int .u8 0,.int .u8 0,.int .u8 0,.int .u8 0,.int .u8 0,.int .u8 0,.int .u8 0,.int .u8 0,.int .u8 0,.int .u8 0,.int .u8 0,.int .u8 0,.int .u8 0,.int .u8 0,.int .u8 0,.int .u8 0,.int .u8 0,.int .u8 0,.int .u8 0,.int .u8 0,.int .u8 0,.int .u8 0,.int .u8 0,.int .u8 0,.int .u8 0,.int .u8 0,.int .u8 0,.int .u8 0,.int .u8 0,.int .u8 0,.int .u8 0,.int .u8 0,.int .u8 0,.int .u8 0,.int .u8 0,.int .u8 0,.int .u8 0,.int .u8 0,.int .u8 0,.int .u8 0,.int .u8 0,.int .u8 0,.int .u8 0,.int .u8 0,.int .u8 0,.int .u8 0,.int .u8 0,.int .u8 0,.int .u8 0,.int .u8 0,.int .u8 0,.int .u8 0,.int .u8 0,.int .u8 0,.int .u8 0,.int .u8 0,.int .u8 0,.int .u8 0,.int .u8 0,.int .u8 0,.int .u8 0,.int .u8 0,.int .u8 0,.int .u8 0,.int .u8 0,.int .u8 0,.int .u8 0,.int .u8 0,.int .u8 0,.int .u8 0,.int .u8 0,.int .u8 0,.int .u8 0,.int .u8 0,.int .u8 0,.int .u8 0,.int .u8 0,.int .u8 0,.int .u8 0,.int .u8 0,.int .u8 0,.int .u8 0,.int .u8 0,.int .u8 0,.int .u8 0,.int .u8 0,.int .u8 0,.int .u8 0,.int .u8 0,.int .u8 0,.int .u8 0,.int .u8 0,.int .u8 0,.int .u8 0,.int .u8 0,.int .u8 0,.int .u8 0,.int .u8 0,.int .u8 0,.int .u8 0,.int .u8 0,.int .u8 0,.int .u8 0,.int .u8 0,.int .u8 0,.int .u8 0,.int .u8 0,.int .u8 0,.int .u8 0,.int .u8 0,.int .u8 0,.int .u8 0,.int .u8 0,.int .i64 0,.int .i64 0,.int .i64 0,.int .i64 0,.int .i64 0,.int .i64 0,.int .i64 0,.int .i64 0,.int .i64 0,.int .i64 0,.int .i64 0,.int .i64 0,.int .i64 0,.int .i64 0,.int .i64 0,.int .i64 0,.int .i64 0,.int .i64 0,.int .i64 0,.int .i64 0,.int .i64 0,.int .i64 0,.int .i64 0,.int .i64 0,.int .i64 0,.int .i64 0,.int .i64 0,.int .i64 0,.int .i64 0,.int .i64 0,.int .i64 0,.int .i64 0,.int .i64 0,.int .i64 0,.int .i64 0,.int .i64 0,.int .i64 0,.int .i64 0,.int .i64 0,.int .i64 0,.int .i64 0,.int .i64 0,.int .i64 0,.int .i64 0,.int .i64 0,.int .i64 0,.int .i64 0,.int .i64 0,.int .i64 0,.int .i64 0,.int .i64 0,.int .i64 0,.int .i64 0,.int .i64 0,.int .i64 0,.int .i64 0,.int .i64 0,.int .i64 0,.int .i64 0,.int .i64 0,.int .i64 0,.int .i64 0,.int .i64 0,.int .i64 0,.int .i64 0,.int .i64 0,.int .i64 0,.int .i64 0,.int .i64 0,.int .i64 0,.int .i64 0,.int .i64 0,.int .i64 0,.int .i64 0,.int .i64 0,.int .i64 0,.int .i64 0,.int .i64 0,.int .i64 0,.int .i64 0,.int .i64 0,.int .i64 0,.int .i64 0,.int .i64 0,.int .i64 0,.int .i64 0,.int .i64 0,.int .i64 0,.int .i64 0,.int .i64 0,.int .i64 0,.int .i64 0,.int .i64 0,.int .i64 0,.int .i64 0,.int .i64 0,.int .i64 0,.int .i64 0,.int .i64 0,.int .i64 0,.int .i64 0,.int .i64 0,.int .i64 0,.int .i64 0,.int .i64 0,.int .i64 0,.int .i64 0,.int .i64 0,.int .i64 0,.int .i64 0,.int .i64 0,.int .i64 0,.int .i64 0,.int .i64 0,.int .i64 0,.int .i64 0,.int .i64 0,.int .i64 0,.int .i64 0,.int .i64 0,.int .i64 0,.int .i64 0,.int .i64 0,.int .i64 0,.int .i64 0,.int .i64 0,.int .i64 0,.int .i64 0,.int .i64 0,.int .i64 0,.int .i64 0,.int .i64 0,.int .i64 0,.int .i64 0,.int .i64 0,.int .i64 0,.int .i64 0,.int .i64 0,.int .i64 0,.int .i64 0,.int .i64 0,.int .i64 0,.int .i64 0,.int .i64 0,.int .i64 0,.int .i64 0,.int .i64 0,.int .i64 0,.int .i64 0,.int .i64 0,.int .i64 0,.int .i64 0,.int .i64 0,.int .i64 0,.int .i64 0,.int .i64 0,.int .i64 0,.int .i64 0,.int .i64 0,.int .i64 0,.int .i64 0,.int .i64 0,.int .i64 0,.int .i64 0,.int .i64 0,.int .i64 0,.int .i64 0,.int .i64 0,.int .i64 0,.int .i64 0,.int .i64 0,.int .i64 0,.int .i64 0,.int .i64 0,.int .i64 0,.int .i64 0,.int .i64 0,.int .i64 0,.int .i64 0,.int .i64 0,.int .i64 0,.int .i64 0,.int .i64 0,.int .i64 0,.int .i64 0,.int .i64 0,.int .i64 0,.int .i64 0,.int .i64 0,.int .i64 0,.int .i64 0,.int .i64 0,.int .i64 0,.int .i64 0,.int .i64 0,.int .i64 0,.int .i64 0,.int .i64 0,.int .i64 0,.int .i64 0,.int .i64 0,.int .i64 0,.int .i64 0,.int .i64 0,.int .i64 0,.int .i64 0,.int .i64 0,.int .i64 0,.int .i64 0,.int .i64 0,.int .i64 0,.int .i64 0,.int .i64 0,.int .i64 0,.int .i64 0,.int .i64 0,.int .i64 0,.int .i64 0,.int .i64 0,.int .i64 0,.int .i64 0,.int .i64 0,.int .i64 0,.int .i64 0,.int .i64 0,.int .i64 0,.int .i64 0,.int .i64 0,.int .i64 0,.int .i64 0,.int .i64 0,.int .i64 0,.int .i64 0,.int .i64 0,.int .i64 0,.int .i64 0,.int .i64 0,.int .i64 0,.int .i64 0,.int .i64 0,.int .i64 0,.int .i64 0,.int .i64 0,.int .i64 0,.int .i64 0,.int .i64 0,.int .i64 0,.int .i64 0,.int .i64 0,.int .i64 0,.int .i64 0,.int .i64 0,.int .i64 0,.int .i64 0,.int .i64 0,.int .i64 0],[]⟩
def Zc:TI:=⟨.struct [(0,1,4),(1,510,342),(511,256,343)],767,2560,[.bool false,.int .u8 0,.int .u8 0,.int .u8 0,.int .u8 0,.int .u8 0,.int .u8 0,.int .u8 0,.int .u8 0,.int .u8 0,.int .u8 0,.int .u8 0,.int .u8 0,.int .u8 0,.int .u8 0,.int .u8 0,.int .u8 0,.int .u8 0,.int .u8 0,.int .u8 0,.int .u8 0,.int .u8 0,.int .u8 0,.int .u8 0,.int .u8 0,.int .u8 0,.int .u8 0,.int .u8 0,.int .u8 0,.int .u8 0,.int .u8 0,.int .u8 0,.int .u8 0,.int .u8 0,.int .u8 0,.int .u8 0,.int .u8 0,.int .u8 0,.int .u8 0,.int .u8 0,.int .u8 0,.int .u8 0,.int .u8 0,.int .u8 0,.int .u8 0,.int .u8 0,.int .u8 0,.int .u8 0,.int .u8 0,.int .u8 0,.int .u8 0,.int .u8 0,.int .u8 0,.int .u8 0,.int .u8 0,.int .u8 0,.int .u8 0,.int .u8 0,.int .u8 0,.int .u8 0,.int .u8 0,.int .u8 0,.int .u8 0,.int .u8 0,.int .u8 0,.int .u8 0,.int .u8 0,.int .u8 0,.int .u8 0,.int .u8 0,.int .u8 0,.int .u8 0,.int .u8 0,.int .u8 0,.int .u8 0,.int .u8 0,.int .u8 0,.int .u8 0,.int .u8 0,.int .u8 0,.int .u8 0,.int .u8 0,.int .u8 0,.int .u8 0,.int .u8 0,.int .u8 0,.int .u8 0,.int .u8 0,.int .u8 0,.int .u8 0,.int .u8 0,.int .u8 0,.int .u8 0,.int .u8 0,.int .u8 0,.int .u8 0,.int .u8 0,.int .u8 0,.int .u8 0,.int .u8 0,.int .u8 0,.int .u8 0,.int .u8 0,.int .u8 0,.int .u8 0,.int .u8 0,.int .u8 0,.int .u8 0,.int .u8 0,.int .u8 0,.int .u8 0,.int .u8 0,.int .u8 0,.int .u8 0,.int .u8 0,.int .u8 0,.int .u8 0,.int .u8 0,.int .u8 0,.int .u8 0,.int .u8 0,.int .u8 0,.int .u8 0,.int .u8 0,.int .u8 0,.int .u8 0,.int .u8 0,.int .u8 0,.int .u8 0,.int .u8 0,.int .u8 0,.int .u8 0,.int .u8 0,.int .u8 0,.int .u8 0,.int .u8 0,.int .u8 0,.int .u8 0,.int .u8 0,.int .u8 0,.int .u8 0,.int .u8 0,.int .u8 0,.int .u8 0,.int .u8 0,.int .u8 0,.int .u8 0,.int .u8 0,.int .u8 0,.int .u8 0,.int .u8 0,.int .u8 0,.int .u8 0,.int .u8 0,.int .u8 0,.int .u8 0,.int .u8 0,.int .u8 0,.int .u8 0,.int .u8 0,.int .u8 0,.int .u8 0,.int .u8 0,.int .u8 0,.int .u8 0,.int .u8 0,.int .u8 0,.int .u8 0,.int .u8 0,.int .u8 0,.int .u8 0,.int .u8 0,.int .u8 0,.int .u8 0,.int .u8 0,.int .u8 0,.int .u8 0,.int .u8 0,.int .u8 0,.int .u8 0,.int .u8 0,.int .u8 0,.int .u8 0,.int .u8 0,.int .u8 0,.int .u8 0,.int .u8 0,.int .u8 0,.int .u8 0,.int .u8 0,.int .u8 0,.int .u8 0,.int .u8 0,.int .u8 0,.int .u8 0,.int .u8 0,.int .u8 0,.int .u8 0,.int .u8 0,.int .u8 0,.int .u8 0,.int .u8 0,.int .u8 0,.int .u8 0,.int .u8 0,.int .u8 0,.int .u8 0,.int .u8 0,.int .u8 0,.int .u8 0,.int .u8 0,.int .u8 0,.int .u8 0,.int .u8 0,.int .u8 0,.int .u8 0,.int .u8 0,.int .u8 0,.int .u8 0,.int .u8 0,.int .u8 0,.int .u8 0,.int .u8 0,.int .u8 0,.int .u8 0,.int .u8 0,.int .u8 0,.int .u8 0,.int .u8 0,.int .u8 0,.int .u8 0,.int .u8 0,.int .u8 0,.int .u8 0,.int .u8 0,.int .u8 0,.int .u8 0,.int .u8 0,.int .u8 0,.int .u8 0,.int .u8 0,.int .u8 0,.int .u8 0,.int .u8 0,.int .u8 0,.int .u8 0,.int .u8 0,.int .u8 0,.int .u8 0,.int .u8 0,.int .u8 0,.int .u8 0,.int .u8 0,.int .u8 0,.int .u8 0,.int .u8 0,.int .u8 0,.int .u8 0,.int .u8 0,.int .u8 0,.int .u8 0,.int .u8 0,.int .u8 0,.int .u8 0,.int .u8 0,.int .u8 0,.int .u8 0,.int .u8 0,.int .u8 0,.int .u8 0,.int .u8 0,.int .u8 0,.int .u8 0,.int .u8 0,.int .u8 0,.int .u8 0,.int .u8 0,.int .u8 0,.int .u8 0,.int .u8 0,.int .u8 0,.int .u8 0,.int .u8 0,.int .u8 0,.int .u8 0,.int .u8 0,.int .u8 0,.int .u8 0,.int .u8 0,.int .u8 0,.int .u8 0,.int .u8 0,.int .u8 0,.int .u8 0,.int .u8 0,.int .u8 0,.int .u8 0,.int .u8 0,.int .u8 0,.int .u8 0,.int .u8 0,.int .u8 0,.int .u8 0,.int .u8 0,.int .u8 0,.int .u8 0,.int .u8 0,.int .u8 0,.int .u8 0,.int .u8 0,.int .u8 0,.int .u8 0,.int .u8 0,.int .u8 0,.int .u8 0,.int .u8 0,.int .u8 0,.int .u8 0,.int .u8 0,.int .u8 0,.int .u8 0,.int .u8 0,.int .u8 0,.int .u8 0,.int .u8 0,.int .u8 0,.int .u8 0,.int .u8 0,.int .u8 0,.int .u8 0,.int .u8 0,.int .u8 0,.int .u8 0,.int .u8 0,.int .u8 0,.int .u8 0,.int .u8 0,.int .u8 0,.int .u8 0,.int .u8 0,.int .u8 0,.int .u8 0,.int .u8 0,.int .u8 0,.int .u8 0,.int .u8 0,.int .u8 0,.int .u8 0,.int .u8 0,.int .u8 0,.int .u8 0,.int .u8 0,.int .u8 0,.int .u8 0,.int .u8 0,.int .u8 0,.int .u8 0,.int .u8 0,.int .u8 0,.int .u8 0,.int .u8 0,.int .u8 0,.int .u8 0,.int .u8 0,.int .u8 0,.int .u8 0,.int .u8 0,.int .u8 0,.int .u8 0,.int .u8 0,.int .u8 0,.int .u8 0,.int .u8 0,.int .u8 0,.int .u8 0,.int .u8 0,.int .u8 0,.int .u8 0,.int .u8 0,.int .u8 0,.int .u8 0,.int .u8 0,.int .u8 0,.int .u8 0,.int .u8 0,.int .u8 0,.int .u8 0,.int .u8 0,.int .u8 0,.int .u8 0,.int .u8 0,.int .u8 0,.int .u8 0,.int .u8 0,.int .u8 0,.int .u8 0,.int .u8 0,.int .u8 0,.int .u8 0,.int .u8 0,.int .u8 0,.int .u8 0,.int .u8 0,.int .u8 0,.int .u8 0,.int .u8 0,.int .u8 0,.int .u8 0,.int .u8 0,.int .u8 0,.int .u8 0,.int .u8 0,.int .u8 0,.int .u8 0,.int .u8 0,.int .u8 0,.int .u8 0,.int .u8 0,.int .u8 0,.int .u8 0,.int .u8 0,.int .u8 0,.int .u8 0,.int .u8 0,.int .u8 0,.int .u8 0,.int .u8 0,.int .u8 0,.int .u8 0,.int .u8 0,.int .u8 0,.int .u8 0,.int .u8 0,.int .u8 0,.int .u8 0,.int .u8 0,.int .u8 0,.int .u8 0,.int .u8 0,.int .u8 0,.int .u8 0,.int .u8 0,.int .u8 0,.int .u8 0,.int .u8 0,.int .u8 0,.int .u8 0,.int .u8 0,.int .u8 0,.int .u8 0,.int .u8 0,.int .u8 0,.int .u8 0,.int .u8 0,.int .u8 0,.int .u8 0,.int .u8 0,.int .u8 0,.int .u8 0,.int .u8 0,.int .u8 0,.int .u8 0,.int .u8 0,.int .u8 0,.int .u8 0,.int .u8 0,.int .u8 0,.int .u8 0,.int .u8 0,.int .u8 0,.int .u8 0,.int .u8 0,.int .u8 0,.int .u8 0,.int .u8 0,.int .u8 0,.int .u8 0,.int .u8 0,.int .u8 0,.int .u8 0,.int .u8 0,.int .u8 0,.int .u8 0,.int .u8 0,.int .u8 0,.int .u8 0,.int .u8 0,.int .u8 0,.int .u8 0,.int .u8 0,.int .u8 0,.int .u8 0,.int .u8 0,.int .u8 0,.int .u8 0,.int .u8 0,.int .u8 0,.int .u8 0,.int .u8 0,.int .u8 0,.int .u8 0,.int .u8 0,.int .u8 0,.int .u8 0,.int .u8 0,.int .u8 0,.int .u8 0,.int .u8 0,.int .u8 0,.int .u8 0,.int .u8 0,.int .i64 0,.int .i64 0,.int .i64 0,.int .i64 0,.int .i64 0,.int .i64 0,.int .i64 0,.int .i64 0,.int .i64 0,.int .i64 0,.int .i64 0,.int .i64 0,.int .i64 0,.int .i64 0,.int .i64 0,.int .i64 0,.int .i64 0,.int .i64 0,.int .i64 0,.int .i64 0,.int .i64 0,.int .i64 0,.int .i64 0,.int .i64 0,.int .i64 0,.int .i64 0,.int .i64 0,.int .i64 0,.int .i64 0,.int .i64 0,.int .i64 0,.int .i64 0,.int .i64 0,.int .i64 0,.int .i64 0,.int .i64 0,.int .i64 0,.int .i64 0,.int .i64 0,.int .i64 0,.int .i64 0,.int .i64 0,.int .i64 0,.int .i64 0,.int .i64 0,.int .i64 0,.int .i64 0,.int .i64 0,.int .i64 0,.int .i64 0,.int .i64 0,.int .i64 0,.int .i64 0,.int .i64 0,.int .i64 0,.int .i64 0,.int .i64 0,.int .i64 0,.int .i64 0,.int .i64 0,.int .i64 0,.int .i64 0,.int .i64 0,.int .i64 0,.int .i64 0,.int .i64 0,.int .i64 0,.int .i64 0,.int .i64 0,.int .i64 0,.int .i64 0,.int .i64 0,.int .i64 0,.int .i64 0,.int .i64 0,.int .i64 0,.int .i64 0,.int .i64 0,.int .i64 0,.int .i64 0,.int .i64 0,.int .i64 0,.int .i64 0,.int .i64 0,.int .i64 0,.int .i64 0,.int .i64 0,.int .i64 0,.int .i64 0,.int .i64 0,.int .i64 0,.int .i64 0,.int .i64 0,.int .i64 0,.int .i64 0,.int .i64 0,.int .i64 0,.int .i64 0,.int .i64 0,.int .i64 0,.int .i64 0,.int .i64 0,.int .i64 0,.int .i64 0,.int .i64 0,.int .i64 0,.int .i64 0,.int .i64 0,.int .i64 0,.int .i64 0,.int .i64 0,.int .i64 0,.int .i64 0,.int .i64 0,.int .i64 0,.int .i64 0,.int .i64 0,.int .i64 0,.int .i64 0,.int .i64 0,.int .i64 0,.int .i64 0,.int .i64 0,.int .i64 0,.int .i64 0,.int .i64 0,.int .i64 0,.int .i64 0,.int .i64 0,.int .i64 0,.int .i64 0,.int .i64 0,.int .i64 0,.int .i64 0,.int .i64 0,.int .i64 0,.int .i64 0,.int .i64 0,.int .i64 0,.int .i64 0,.int .i64 0,.int .i64 0,.int .i64 0,.int .i64 0,.int .i64 0,.int .i64 0,.int .i64 0,.int .i64 0,.int .i64 0,.int .i64 0,.int .i64 0,.int .i64 0,.int .i64 0,.int .i64 0,.int .i64 0,.int .i64 0,.int .i64 0,.int .i64 0,.int .i64 0,.int .i64 0,.int .i64 0,.int .i64 0,.int .i64 0,.int .i64 0,.int .i64 0,.int .i64 0,.int .i64 0,.int .i64 0,.int .i64 0,.int .i64 0,.int .i64 0,.int .i64 0,.int .i64 0,.int .i64 0,.int .i64 0,.int .i64 0,.int .i64 0,.int .i64 0,.int .i64 0,.int .i64 0,.int .i64 0,.int .i64 0,.int .i64 0,.int .i64 0,.int .i64 0,.int .i64 0,.int .i64 0,.int .i64 0,.int .i64 0,.int .i64 0,.int .i64 0,.int .i64 0,.int .i64 0,.int .i64 0,.int .i64 0,.int .i64 0,.int .i64 0,.int .i64 0,.int .i64 0,.int .i64 0,.int .i64 0,.int .i64 0,.int .i64 0,.int .i64 0,.int .i64 0,.int .i64 0,.int .i64 0,.int .i64 0,.int .i64 0,.int .i64 0,.int .i64 0,.int .i64 0,.int .i64 0,.int .i64 0,.int .i64 0,.int .i64 0,.int .i64 0,.int .i64 0,.int .i64 0,.int .i64 0,.int .i64 0,.int .i64 0,.int .i64 0,.int .i64 0,.int .i64 0,.int .i64 0,.int .i64 0,.int .i64 0,.int .i64 0,.int .i64 0,.int .i64 0,.int .i64 0,.int .i64 0,.int .i64 0,.int .i64 0,.int .i64 0,.int .i64 0,.int .i64 0,.int .i64 0,.int .i64 0,.int .i64 0,.int .i64 0,.int .i64 0,.int .i64 0,.int .i64 0,.int .i64 0,.int .i64 0,.int .i64 0,.int .i64 0,.int .i64 0,.int .i64 0,.int .i64 0,.int .i64 0,.int .i64 0,.int .i64 0,.int .i64 0],[]⟩
def Zd:TI:=⟨.ptr 479,1,8,[.pointer none],[("Abort",526),("All",326),("Bad",680),("Commit",525),("Drop",533),("Get",529),("Over",302),("Prepare",524),("Room",523),("Sound",530),("cooperage/slots.all",470),("cooperage/slots.at",458),("cooperage/slots.find",579),("cooperage/slots.gone",585),("cooperage/slots.look",333),("cooperage/slots.now",621),("cooperage/slots.out",586),("cooperage/slots.read",462),("cooperage/slots.stale",581),("cooperage/slots.strike",340),("cooperage/slots.up",578),("cooperage/slots.write",583)]⟩
def oz:TI:=⟨.other,1,0,[],[]⟩
def o0:TI:=⟨.func,1,8,[.nilFunc],[]⟩
def o3:TI:=⟨.struct [(0,1,57),(1,1,27),(2,1,346),(3,1,3)],4,32,[.pointer none,.pointer none,.pointer none,.int .i64 0],[]⟩
def Ze:TI:=⟨.struct [(0,1,57),(1,1,27),(2,1,346),(3,1,3)],4,32,[.pointer none,.pointer none,.pointer none,.int .i64 0],[]⟩
def o5:TI:=⟨.other,1,0,[],[]⟩
def o7:TI:=⟨.func,1,8,[.nilFunc],[]⟩
def o8:TI:=⟨.func,1,8,[.nilFunc],[]⟩
def pA:TI:=⟨.func,1,8,[.nilFunc],[]⟩
def pB:TI:=⟨.func,1,8,[.nilFunc],[]⟩
def pC:TI:=⟨.other,1,0,[],[]⟩
def pD:TI:=⟨.func,1,8,[.nilFunc],[]⟩
def pE:TI:=⟨.other,1,0,[],[]⟩
def pF:TI:=⟨.func,1,8,[.nilFunc],[]⟩
def pH:TI:=⟨.func,1,8,[.nilFunc],[]⟩
def pJ:TI:=⟨.func,1,8,[.nilFunc],[]⟩
def pK:TI:=⟨.struct [(0,1,3),(1,2,141),(3,1,3)],4,32,[.int .i64 0,.int .i64 0,.int .i64 0,.int .i64 0],[]⟩
def pL:TI:=⟨.struct [(0,1,3),(1,2,141),(3,1,3)],4,32,[.int .i64 0,.int .i64 0,.int .i64 0,.int .i64 0],[]⟩
def pM:TI:=⟨.func,1,8,[.nilFunc],[]⟩
def pN:TI:=⟨.func,1,8,[.nilFunc],[]⟩
def pO:TI:=⟨.func,1,8,[.nilFunc],[]⟩
def pP:TI:=⟨.func,1,8,[.nilFunc],[]⟩
def pQ:TI:=⟨.func,1,8,[.nilFunc],[]⟩
def pR:TI:=⟨.slice 621,1,24,[.slice none 0 0],[]⟩
def pT:TI:=⟨.struct [(0,1,3),(1,1,3),(2,1,3),(3,1,3),(4,1,369),(5,1,43),(6,1,122)],7,104,[.int .i64 0,.int .i64 0,.int .i64 0,.int .i64 0,.slice none 0 0,.slice none 0 0,.slice none 0 0],[]⟩
def pU:TI:=⟨.struct [(0,1,3),(1,1,3),(2,1,3),(3,1,3),(4,1,369),(5,1,43),(6,1,122)],7,104,[.int .i64 0,.int .i64 0,.int .i64 0,.int .i64 0,.slice none 0 0,.slice none 0 0,.slice none 0 0],[]⟩
def pV:TI:=⟨.other,1,0,[],[]⟩
def pW:TI:=⟨.func,1,8,[.nilFunc],[]⟩
def pX:TI:=⟨.func,1,8,[.nilFunc],[]⟩
def pY:TI:=⟨.ptr 377,1,8,[.pointer none],[("cooperage/keep.bytes",681),("cooperage/keep.going",682),("cooperage/keep.look",683),("cooperage/keep.lose",684),("cooperage/keep.told",685),("cooperage/keep.wants",686)]⟩
def pZ:TI:=⟨.struct [(0,7,371)],7,104,[.int .i64 0,.int .i64 0,.int .i64 0,.int .i64 0,.slice none 0 0,.slice none 0 0,.slice none 0 0],[]⟩
def pd:TI:=⟨.struct [(0,7,371)],7,104,[.int .i64 0,.int .i64 0,.int .i64 0,.int .i64 0,.slice none 0 0,.slice none 0 0,.slice none 0 0],[]⟩
def pf:TI:=⟨.func,1,8,[.nilFunc],[]⟩
def pg:TI:=⟨.other,1,0,[],[]⟩
def ph:TI:=⟨.func,1,8,[.nilFunc],[]⟩
def pi:TI:=⟨.struct [(0,1,3),(1,1,3),(2,1,3),(3,1,329)],4,32,[.int .i64 0,.int .i64 0,.int .i64 0,.int .u8 0],[]⟩
def pj:TI:=⟨.struct [(0,1,3),(1,1,3),(2,1,3),(3,1,329)],4,32,[.int .i64 0,.int .i64 0,.int .i64 0,.int .u8 0],[]⟩
def pk:TI:=⟨.other,1,0,[],[]⟩
def pm:TI:=⟨.func,1,8,[.nilFunc],[]⟩
def pn:TI:=⟨.func,1,8,[.nilFunc],[]⟩
def po:TI:=⟨.slice 242,1,24,[.slice none 0 0],[]⟩
def pp:TI:=⟨.other,1,0,[],[]⟩
def pq:TI:=⟨.func,1,8,[.nilFunc],[]⟩
def pr:TI:=⟨.struct [(0,1,4),(1,1,4),(2,1,4),(3,1,4),(4,1,3),(5,1,4)],6,24,[.bool false,.bool false,.bool false,.bool false,.int .i64 0,.bool false],[]⟩
def P5:TI:=⟨.struct [(0,1,4),(1,1,4),(2,1,4),(3,1,4),(4,1,3),(5,1,4)],6,24,[.bool false,.bool false,.bool false,.bool false,.int .i64 0,.bool false],[]⟩
def pt:TI:=⟨.other,1,0,[],[]⟩
def pu:TI:=⟨.func,1,8,[.nilFunc],[]⟩
def pw:TI:=⟨.func,1,8,[.nilFunc],[]⟩
def px:TI:=⟨.func,1,8,[.nilFunc],[]⟩
def py:TI:=⟨.func,1,8,[.nilFunc],[]⟩
def pz:TI:=⟨.func,1,8,[.nilFunc],[]⟩
def p8:TI:=⟨.func,1,8,[.nilFunc],[]⟩
def p9:TI:=⟨.func,1,8,[.nilFunc],[]⟩
def qA:TI:=⟨.func,1,8,[.nilFunc],[]⟩
def qB:TI:=⟨.func,1,8,[.nilFunc],[]⟩
def qC:TI:=⟨.func,1,8,[.nilFunc],[]⟩
def qD:TI:=⟨.func,1,8,[.nilFunc],[]⟩
def qE:TI:=⟨.func,1,8,[.nilFunc],[]⟩
def qF:TI:=⟨.func,1,8,[.nilFunc],[]⟩
def qG:TI:=⟨.func,1,8,[.nilFunc],[]⟩
def qH:TI:=⟨.func,1,8,[.nilFunc],[]⟩
def qI:TI:=⟨.ptr 409,1,8,[.pointer none],[("cooperage/save.blob",256),("cooperage/save.done",257),("cooperage/save.inode",261),("cooperage/save.parts",263),("cooperage/save.uints",255)]⟩
def qJ:TI:=⟨.struct [(0,1,27),(1,1,22),(2,1,4)],3,40,[.pointer none,.slice none 0 0,.bool false],[]⟩
def Zf:TI:=⟨.struct [(0,1,27),(1,1,22),(2,1,4)],3,40,[.pointer none,.slice none 0 0,.bool false],[]⟩
def qK:TI:=⟨.func,1,8,[.nilFunc],[]⟩
def qL:TI:=⟨.func,1,8,[.nilFunc],[]⟩
def qM:TI:=⟨.func,1,8,[.nilFunc],[]⟩
def qN:TI:=⟨.func,1,8,[.nilFunc],[]⟩
def Zg:TI:=⟨.slice 111,1,24,[.slice none 0 0],[]⟩
def qO:TI:=⟨.struct [(0,1,3),(1,1,3),(2,1,414)],3,40,[.int .i64 0,.int .i64 0,.slice none 0 0],[]⟩
def LH:TI:=⟨.struct [(0,1,3),(1,1,3),(2,1,414)],3,40,[.int .i64 0,.int .i64 0,.slice none 0 0],[]⟩
def qP:TI:=⟨.func,1,8,[.nilFunc],[]⟩
def qQ:TI:=⟨.func,1,8,[.nilFunc],[]⟩
def qR:TI:=⟨.func,1,8,[.nilFunc],[]⟩
def qT:TI:=⟨.func,1,8,[.nilFunc],[]⟩
def qU:TI:=⟨.func,1,8,[.nilFunc],[]⟩
def qV:TI:=⟨.ptr 416,1,8,[.pointer none],[]⟩
def qW:TI:=⟨.func,1,8,[.nilFunc],[]⟩
def qX:TI:=⟨.func,1,8,[.nilFunc],[]⟩
def qY:TI:=⟨.func,1,8,[.nilFunc],[]⟩
def qZ:TI:=⟨.func,1,8,[.nilFunc],[]⟩
def qa:TI:=⟨.func,1,8,[.nilFunc],[]⟩
def qc:TI:=⟨.other,1,0,[],[]⟩
def qd:TI:=⟨.func,1,8,[.nilFunc],[]⟩
def qf:TI:=⟨.func,1,8,[.nilFunc],[]⟩
def qg:TI:=⟨.func,1,8,[.nilFunc],[]⟩
def qh:TI:=⟨.other,1,0,[],[]⟩
def qi:TI:=⟨.func,1,8,[.nilFunc],[]⟩
def qj:TI:=⟨.ptr 436,1,8,[.pointer none],[("cooperage/save.blob",291),("cooperage/save.inodes",285),("cooperage/save.number",425),("cooperage/save.numbers",284),("cooperage/save.parts",293)]⟩
def qk:TI:=⟨.struct [(0,1,27),(1,1,22),(2,1,3),(3,1,4)],4,48,[.pointer none,.slice none 0 0,.int .i64 0,.bool false],[]⟩
def ql:TI:=⟨.struct [(0,1,27),(1,1,22),(2,1,3),(3,1,4)],4,48,[.pointer none,.slice none 0 0,.int .i64 0,.bool false],[]⟩
def qm:TI:=⟨.func,1,8,[.nilFunc],[]⟩
def qn:TI:=⟨.func,1,8,[.nilFunc],[]⟩
def qo:TI:=⟨.func,1,8,[.nilFunc],[]⟩
def qp:TI:=⟨.ptr 111,1,8,[.pointer none],[]⟩
def qq:TI:=⟨.func,1,8,[.nilFunc],[]⟩
def qr:TI:=⟨.func,1,8,[.nilFunc],[]⟩
def qs:TI:=⟨.func,1,8,[.nilFunc],[]⟩
def qt:TI:=⟨.func,1,8,[.nilFunc],[]⟩
def qu:TI:=⟨.func,1,8,[.nilFunc],[]⟩
def qv:TI:=⟨.func,1,8,[.nilFunc],[]⟩
def qx:TI:=⟨.func,1,8,[.nilFunc],[]⟩
def qy:TI:=⟨.func,1,8,[.nilFunc],[]⟩
def qz:TI:=⟨.func,1,8,[.nilFunc],[]⟩
def q9:TI:=⟨.other,1,0,[],[]⟩
def rA:TI:=⟨.func,1,8,[.nilFunc],[]⟩
def rB:TI:=⟨.func,1,8,[.nilFunc],[]⟩
def rC:TI:=⟨.func,1,8,[.nilFunc],[]⟩
def rD:TI:=⟨.arr 16 177,16,128,Ao [.pointer none] 16,[]⟩
def rE:TI:=⟨.func,1,8,[.nilFunc],[]⟩
def rF:TI:=⟨.func,1,8,[.nilFunc],[]⟩
def rG:TI:=⟨.func,1,8,[.nilFunc],[]⟩
def rH:TI:=⟨.func,1,8,[.nilFunc],[]⟩
def rI:TI:=⟨.func,1,8,[.nilFunc],[]⟩
def rK:TI:=⟨.func,1,8,[.nilFunc],[]⟩
def rL:TI:=⟨.func,1,8,[.nilFunc],[]⟩
def rM:TI:=⟨.func,1,8,[.nilFunc],[]⟩
def rN:TI:=⟨.func,1,8,[.nilFunc],[]⟩
def rO:TI:=⟨.func,1,8,[.nilFunc],[]⟩
def rP:TI:=⟨.func,1,8,[.nilFunc],[]⟩
def rQ:TI:=⟨.func,1,8,[.nilFunc],[]⟩
def rR:TI:=⟨.func,1,8,[.nilFunc],[]⟩
def rS:TI:=⟨.func,1,8,[.nilFunc],[]⟩
def rT:TI:=⟨.slice 42,1,24,[.slice none 0 0],[]⟩
def rU:TI:=⟨.func,1,8,[.nilFunc],[]⟩
def rV:TI:=⟨.other,1,0,[],[]⟩
def rW:TI:=⟨.func,1,8,[.nilFunc],[]⟩
def rX:TI:=⟨.func,1,8,[.nilFunc],[]⟩
def rY:TI:=⟨.func,1,8,[.nilFunc],[]⟩
def rZ:TI:=⟨.other,1,0,[],[]⟩
def ra:TI:=⟨.func,1,8,[.nilFunc],[]⟩
def rb:TI:=⟨.slice 481,1,24,[.slice none 0 0],[]⟩
def rc:TI:=⟨.struct [(0,1,57),(1,1,27),(2,1,3),(3,1,477),(4,1,43),(5,1,3),(6,1,4)],7,88,[.pointer none,.pointer none,.int .i64 0,.slice none 0 0,.slice none 0 0,.int .i64 0,.bool false],[]⟩
def Zh:TI:=⟨.struct [(0,1,57),(1,1,27),(2,1,3),(3,1,477),(4,1,43),(5,1,3),(6,1,4)],7,88,[.pointer none,.pointer none,.int .i64 0,.slice none 0 0,.slice none 0 0,.int .i64 0,.bool false],[]⟩
def rf:TI:=⟨.struct [(0,5,331),(5,1,3)],6,64,[.int .i64 0,.int .i64 0,.int .i64 0,.int .u8 0,.slice none 0 0,.int .i64 0],[]⟩
def GK:TI:=⟨.struct [(0,5,331),(5,1,3)],6,64,[.int .i64 0,.int .i64 0,.int .i64 0,.int .u8 0,.slice none 0 0,.int .i64 0],[]⟩
def rh:TI:=⟨.other,1,0,[],[]⟩
def ri:TI:=⟨.func,1,8,[.nilFunc],[]⟩
def rj:TI:=⟨.func,1,8,[.nilFunc],[]⟩
def rk:TI:=⟨.func,1,8,[.nilFunc],[]⟩
def rl:TI:=⟨.func,1,8,[.nilFunc],[]⟩
def rm:TI:=⟨.func,1,8,[.nilFunc],[]⟩
def rn:TI:=⟨.func,1,8,[.nilFunc],[]⟩
def ro:TI:=⟨.func,1,8,[.nilFunc],[]⟩
def rp:TI:=⟨.ptr 492,1,8,[.pointer none],[("cooperage/model.file",473),("cooperage/model.get",349),("cooperage/model.list",348),("cooperage/model.lookup",341),("cooperage/model.made",353),("cooperage/model.make",342),("cooperage/model.read",343),("cooperage/model.remove",346),("cooperage/model.rename",347),("cooperage/model.size",345),("cooperage/model.sized",474),("cooperage/model.stat",350),("cooperage/model.write",344)]⟩
def rq:TI:=⟨.struct [(0,2,32),(2,1,122),(3,12,72),(15,11,111)],26,304,[.slice none 0 0,.int .i64 0,.slice none 0 0,.int .i64 0,.int .i64 0,.int .u8 0,.int .i64 0,.int .i64 0,.string .empty,.int .i64 0,.int .i64 0,.string .empty,.int .i64 0,.int .i64 0,.slice none 0 0,.int .i64 0,.int .i64 0,.int .i64 0,.int .i64 0,.int .i64 0,.bool false,.int .i64 0,.slice none 0 0,.slice none 0 0,.bool false,.int .i64 0],[]⟩
def Zi:TI:=⟨.struct [(0,2,32),(2,1,122),(3,12,72),(15,11,111)],26,304,[.slice none 0 0,.int .i64 0,.slice none 0 0,.int .i64 0,.int .i64 0,.int .u8 0,.int .i64 0,.int .i64 0,.string .empty,.int .i64 0,.int .i64 0,.string .empty,.int .i64 0,.int .i64 0,.slice none 0 0,.int .i64 0,.int .i64 0,.int .i64 0,.int .i64 0,.int .i64 0,.bool false,.int .i64 0,.slice none 0 0,.slice none 0 0,.bool false,.int .i64 0],[]⟩
def rr:TI:=⟨.map 68 98,1,8,[.map none],[]⟩
def rt:TI:=⟨.func,1,8,[.nilFunc],[]⟩
def ru:TI:=⟨.func,1,8,[.nilFunc],[]⟩
def rv:TI:=⟨.func,1,8,[.nilFunc],[]⟩
def rx:TI:=⟨.func,1,8,[.nilFunc],[]⟩
def ry:TI:=⟨.func,1,8,[.nilFunc],[]⟩
def rz:TI:=⟨.func,1,8,[.nilFunc],[]⟩
def r6:TI:=⟨.func,1,8,[.nilFunc],[]⟩
def r7:TI:=⟨.func,1,8,[.nilFunc],[]⟩
def r8:TI:=⟨.func,1,8,[.nilFunc],[]⟩
def r9:TI:=⟨.func,1,8,[.nilFunc],[]⟩
def sA:TI:=⟨.func,1,8,[.nilFunc],[]⟩
def sB:TI:=⟨.func,1,8,[.nilFunc],[]⟩
def sC:TI:=⟨.func,1,8,[.nilFunc],[]⟩
def sD:TI:=⟨.func,1,8,[.nilFunc],[]⟩
def sE:TI:=⟨.other,1,0,[],[]⟩
def sF:TI:=⟨.func,1,8,[.nilFunc],[]⟩
def sG:TI:=⟨.func,1,8,[.nilFunc],[]⟩
def sH:TI:=⟨.struct [(0,1,3),(1,1,3),(2,1,3),(3,1,3),(4,1,43)],5,56,[.int .i64 0,.int .i64 0,.int .i64 0,.int .i64 0,.slice none 0 0],[]⟩
def sI:TI:=⟨.struct [(0,1,3),(1,1,3),(2,1,3),(3,1,3),(4,1,43)],5,56,[.int .i64 0,.int .i64 0,.int .i64 0,.int .i64 0,.slice none 0 0],[]⟩
def sJ:TI:=⟨.other,1,0,[],[]⟩
def sK:TI:=⟨.func,1,8,[.nilFunc],[]⟩
def sL:TI:=⟨.ptr 517,1,8,[.pointer none],[("cooperage/keep.bytes",699),("cooperage/keep.going",700),("cooperage/keep.look",701),("cooperage/keep.lose",702),("cooperage/keep.told",703),("cooperage/keep.wants",704)]⟩
def sM:TI:=⟨.struct [(0,5,512),(5,1,122)],6,80,[.int .i64 0,.int .i64 0,.int .i64 0,.int .i64 0,.slice none 0 0,.slice none 0 0],[]⟩
def sN:TI:=⟨.struct [(0,5,512),(5,1,122)],6,80,[.int .i64 0,.int .i64 0,.int .i64 0,.int .i64 0,.slice none 0 0,.slice none 0 0],[]⟩
def sO:TI:=⟨.func,1,8,[.nilFunc],[]⟩
def sP:TI:=⟨.func,1,8,[.nilFunc],[]⟩
def sQ:TI:=⟨.func,1,8,[.nilFunc],[]⟩
def sR:TI:=⟨.func,1,8,[.nilFunc],[]⟩
def sS:TI:=⟨.other,1,0,[],[]⟩
def sT:TI:=⟨.func,1,8,[.nilFunc],[]⟩
def sU:TI:=⟨.func,1,8,[.nilFunc],[]⟩
def sV:TI:=⟨.func,1,8,[.nilFunc],[]⟩
def sW:TI:=⟨.func,1,8,[.nilFunc],[]⟩
def sX:TI:=⟨.func,1,8,[.nilFunc],[]⟩
def sY:TI:=⟨.func,1,8,[.nilFunc],[]⟩
def sZ:TI:=⟨.map 68 528,1,8,[.map none],[]⟩
def sd:TI:=⟨.other,1,0,[],[]⟩
def se:TI:=⟨.func,1,8,[.nilFunc],[]⟩
def sk:TI:=⟨.func,1,8,[.nilFunc],[]⟩
def sm:TI:=⟨.func,1,8,[.nilFunc],[]⟩
def so:TI:=⟨.ptr 536,1,8,[.pointer none],[("cooperage/state.buried",406),("cooperage/state.taken",404),("cooperage/state.written",405)]⟩
def sq:TI:=⟨.struct [(0,7,39),(7,1,3),(8,1,37)],9,152,[.int .i64 0,.slice none 0 0,.int .i64 0,.int .i64 0,.slice none 0 0,.slice none 0 0,.slice none 0 0,.int .i64 0,.slice none 0 0],[]⟩
def Zj:TI:=⟨.struct [(0,7,39),(7,1,3),(8,1,37)],9,152,[.int .i64 0,.slice none 0 0,.int .i64 0,.int .i64 0,.slice none 0 0,.slice none 0 0,.slice none 0 0,.int .i64 0,.slice none 0 0],[]⟩
def su:TI:=⟨.func,1,8,[.nilFunc],[]⟩
def sv:TI:=⟨.func,1,8,[.nilFunc],[]⟩
def sw:TI:=⟨.func,1,8,[.nilFunc],[]⟩
def sx:TI:=⟨.func,1,8,[.nilFunc],[]⟩
def sy:TI:=⟨.func,1,8,[.nilFunc],[]⟩
def tA:TI:=⟨.func,1,8,[.nilFunc],[]⟩
def tB:TI:=⟨.int .i64,1,8,[.int .i64 0],[]⟩
def tC:TI:=⟨.other,1,0,[],[]⟩
def tD:TI:=⟨.func,1,8,[.nilFunc],[]⟩
def tE:TI:=⟨.func,1,8,[.nilFunc],[]⟩
def tF:TI:=⟨.func,1,8,[.nilFunc],[]⟩
def tG:TI:=⟨.func,1,8,[.nilFunc],[]⟩
def tH:TI:=⟨.func,1,8,[.nilFunc],[]⟩
def tI:TI:=⟨.func,1,8,[.nilFunc],[]⟩
def tJ:TI:=⟨.func,1,8,[.nilFunc],[]⟩
def tK:TI:=⟨.func,1,8,[.nilFunc],[]⟩
def tL:TI:=⟨.ptr 139,1,8,[.pointer none],[]⟩
def tM:TI:=⟨.func,1,8,[.nilFunc],[]⟩
def tN:TI:=⟨.ptr 180,1,8,[.pointer none],[]⟩
def tO:TI:=⟨.func,1,8,[.nilFunc],[]⟩
def tP:TI:=⟨.func,1,8,[.nilFunc],[]⟩
def tQ:TI:=⟨.func,1,8,[.nilFunc],[]⟩
def tR:TI:=⟨.ptr 141,1,8,[.pointer none],[]⟩
def tS:TI:=⟨.func,1,8,[.nilFunc],[]⟩
def tT:TI:=⟨.func,1,8,[.nilFunc],[]⟩
def tU:TI:=⟨.func,1,8,[.nilFunc],[]⟩
def tV:TI:=⟨.func,1,8,[.nilFunc],[]⟩
def tW:TI:=⟨.func,1,8,[.nilFunc],[]⟩
def tX:TI:=⟨.func,1,8,[.nilFunc],[]⟩
def tY:TI:=⟨.func,1,8,[.nilFunc],[]⟩
def tZ:TI:=⟨.func,1,8,[.nilFunc],[]⟩
def ta:TI:=⟨.func,1,8,[.nilFunc],[]⟩
def tb:TI:=⟨.func,1,8,[.nilFunc],[]⟩
def tc:TI:=⟨.func,1,8,[.nilFunc],[]⟩
def td:TI:=⟨.func,1,8,[.nilFunc],[]⟩
def te:TI:=⟨.func,1,8,[.nilFunc],[]⟩
def tf:TI:=⟨.func,1,8,[.nilFunc],[]⟩
def tg:TI:=⟨.func,1,8,[.nilFunc],[]⟩
def th:TI:=⟨.func,1,8,[.nilFunc],[]⟩
def tj:TI:=⟨.func,1,8,[.nilFunc],[]⟩
def tk:TI:=⟨.other,1,0,[],[]⟩
def tm:TI:=⟨.func,1,8,[.nilFunc],[]⟩
def tq:TI:=⟨.func,1,8,[.nilFunc],[]⟩
def tu:TI:=⟨.func,1,8,[.nilFunc],[]⟩
def tv:TI:=⟨.func,1,8,[.nilFunc],[]⟩
def tw:TI:=⟨.func,1,8,[.nilFunc],[]⟩
def tx:TI:=⟨.slice 98,1,24,[.slice none 0 0],[]⟩
def tz:TI:=⟨.func,1,8,[.nilFunc],[]⟩
def uA:TI:=⟨.other,1,0,[],[]⟩
def uB:TI:=⟨.func,1,8,[.nilFunc],[]⟩
def uC:TI:=⟨.other,1,0,[],[]⟩
def uD:TI:=⟨.func,1,8,[.nilFunc],[]⟩
def uE:TI:=⟨.other,1,0,[],[]⟩
def uF:TI:=⟨.func,1,8,[.nilFunc],[]⟩
def uG:TI:=⟨.other,1,0,[],[]⟩
def uH:TI:=⟨.func,1,8,[.nilFunc],[]⟩
def uI:TI:=⟨.func,1,8,[.nilFunc],[]⟩
def uJ:TI:=⟨.other,1,0,[],[]⟩
def uK:TI:=⟨.func,1,8,[.nilFunc],[]⟩
def uM:TI:=⟨.other,1,0,[],[]⟩
def uN:TI:=⟨.func,1,8,[.nilFunc],[]⟩
def uO:TI:=⟨.func,1,8,[.nilFunc],[]⟩
def uP:TI:=⟨.func,1,8,[.nilFunc],[]⟩
def uQ:TI:=⟨.func,1,8,[.nilFunc],[]⟩
def uR:TI:=⟨.func,1,8,[.nilFunc],[]⟩
def uS:TI:=⟨.func,1,8,[.nilFunc],[]⟩
def uT:TI:=⟨.func,1,8,[.nilFunc],[]⟩
def uU:TI:=⟨.struct [(0,1,3),(1,1,3),(2,1,3),(3,1,3),(4,1,43),(5,1,43),(6,1,122)],7,104,[.int .i64 0,.int .i64 0,.int .i64 0,.int .i64 0,.slice none 0 0,.slice none 0 0,.slice none 0 0],[]⟩
def uV:TI:=⟨.struct [(0,1,3),(1,1,3),(2,1,3),(3,1,3),(4,1,43),(5,1,43),(6,1,122)],7,104,[.int .i64 0,.int .i64 0,.int .i64 0,.int .i64 0,.slice none 0 0,.slice none 0 0,.slice none 0 0],[]⟩
def uW:TI:=⟨.other,1,0,[],[]⟩
def uX:TI:=⟨.func,1,8,[.nilFunc],[]⟩
def uY:TI:=⟨.ptr 610,1,8,[.pointer none],[("cooperage/keep.bytes",711),("cooperage/keep.going",712),("cooperage/keep.look",713),("cooperage/keep.lose",714),("cooperage/keep.told",715),("cooperage/keep.wants",716)]⟩
def uZ:TI:=⟨.struct [(0,7,605)],7,104,[.int .i64 0,.int .i64 0,.int .i64 0,.int .i64 0,.slice none 0 0,.slice none 0 0,.slice none 0 0],[]⟩
def ua:TI:=⟨.struct [(0,7,605)],7,104,[.int .i64 0,.int .i64 0,.int .i64 0,.int .i64 0,.slice none 0 0,.slice none 0 0,.slice none 0 0],[]⟩
def ub:TI:=⟨.func,1,8,[.nilFunc],[]⟩
def uc:TI:=⟨.other,1,0,[],[]⟩
def ud:TI:=⟨.func,1,8,[.nilFunc],[]⟩
def ue:TI:=⟨.func,1,8,[.nilFunc],[]⟩
def uf:TI:=⟨.func,1,8,[.nilFunc],[]⟩
def ug:TI:=⟨.func,1,8,[.nilFunc],[]⟩
def uh:TI:=⟨.func,1,8,[.nilFunc],[]⟩
def ui:TI:=⟨.func,1,8,[.nilFunc],[]⟩
def uj:TI:=⟨.func,1,8,[.nilFunc],[]⟩
def uk:TI:=⟨.struct [(0,1,3),(1,1,4),(2,1,43)],3,40,[.int .i64 0,.bool false,.slice none 0 0],[]⟩
def ul:TI:=⟨.struct [(0,1,3),(1,1,4),(2,1,43)],3,40,[.int .i64 0,.bool false,.slice none 0 0],[]⟩
def um:TI:=⟨.func,1,8,[.nilFunc],[]⟩
def un:TI:=⟨.func,1,8,[.nilFunc],[]⟩
def uo:TI:=⟨.func,1,8,[.nilFunc],[]⟩
def uq:TI:=⟨.func,1,8,[.nilFunc],[]⟩
def ur:TI:=⟨.func,1,8,[.nilFunc],[]⟩
def ut:TI:=⟨.func,1,8,[.nilFunc],[]⟩
def uu:TI:=⟨.func,1,8,[.nilFunc],[]⟩
def uv:TI:=⟨.func,1,8,[.nilFunc],[]⟩
def uw:TI:=⟨.func,1,8,[.nilFunc],[]⟩
def ux:TI:=⟨.func,1,8,[.nilFunc],[]⟩
def uy:TI:=⟨.func,1,8,[.nilFunc],[]⟩
def uz:TI:=⟨.int .u64,1,8,[.int .u64 0],[]⟩
def u0:TI:=⟨.func,1,8,[.nilFunc],[]⟩
def u1:TI:=⟨.func,1,8,[.nilFunc],[]⟩
def u3:TI:=⟨.func,1,8,[.nilFunc],[]⟩
def u4:TI:=⟨.func,1,8,[.nilFunc],[]⟩
def u5:TI:=⟨.other,1,0,[],[]⟩
def u6:TI:=⟨.func,1,8,[.nilFunc],[]⟩
def u7:TI:=⟨.func,1,8,[.nilFunc],[]⟩
def u9:TI:=⟨.func,1,8,[.nilFunc],[]⟩
def vA:TI:=⟨.func,1,8,[.nilFunc],[]⟩
def vB:TI:=⟨.func,1,8,[.nilFunc],[]⟩
def vC:TI:=⟨.func,1,8,[.nilFunc],[]⟩
def vD:TI:=⟨.func,1,8,[.nilFunc],[]⟩
def vE:TI:=⟨.func,1,8,[.nilFunc],[]⟩
def vF:TI:=⟨.func,1,8,[.nilFunc],[]⟩
def vG:TI:=⟨.func,1,8,[.nilFunc],[]⟩
def vH:TI:=⟨.other,1,0,[],[]⟩
def vI:TI:=⟨.func,1,8,[.nilFunc],[]⟩
def vJ:TI:=⟨.func,1,8,[.nilFunc],[]⟩
def vK:TI:=⟨.func,1,8,[.nilFunc],[]⟩
def vL:TI:=⟨.arr 6 102,6,48,Ao [.int .u64 0] 6,[]⟩
def vM:TI:=⟨.func,1,8,[.nilFunc],[]⟩
def vN:TI:=⟨.func,1,8,[.nilFunc],[]⟩
def vO:TI:=⟨.func,1,8,[.nilFunc],[]⟩
def vP:TI:=⟨.func,1,8,[.nilFunc],[]⟩
def vQ:TI:=⟨.func,1,8,[.nilFunc],[]⟩
def vR:TI:=⟨.other,1,0,[],[]⟩
def vS:TI:=⟨.func,1,8,[.nilFunc],[]⟩
def vU:TI:=⟨.func,1,8,[.nilFunc],[]⟩
def vV:TI:=⟨.func,1,8,[.nilFunc],[]⟩
def vW:TI:=⟨.func,1,8,[.nilFunc],[]⟩
def vX:TI:=⟨.ptr 32,1,8,[.pointer none],[]⟩
def vY:TI:=⟨.func,1,8,[.nilFunc],[]⟩
def vZ:TI:=⟨.func,1,8,[.nilFunc],[]⟩
def va:TI:=⟨.func,1,8,[.nilFunc],[]⟩
def vb:TI:=⟨.func,1,8,[.nilFunc],[]⟩
def vc:TI:=⟨.func,1,8,[.nilFunc],[]⟩
def vd:TI:=⟨.func,1,8,[.nilFunc],[]⟩
def ve:TI:=⟨.func,1,8,[.nilFunc],[]⟩
def vf:TI:=⟨.func,1,8,[.nilFunc],[]⟩
def vg:TI:=⟨.other,1,0,[],[]⟩
def vh:TI:=⟨.func,1,8,[.nilFunc],[]⟩
def vi:TI:=⟨.func,1,8,[.nilFunc],[]⟩
def vj:TI:=⟨.func,1,8,[.nilFunc],[]⟩
def vk:TI:=⟨.func,1,8,[.nilFunc],[]⟩
def vl:TI:=⟨.func,1,8,[.nilFunc],[]⟩
def vm:TI:=⟨.func,1,8,[.nilFunc],[]⟩
def vn:TI:=⟨.func,1,8,[.nilFunc],[]⟩
def vo:TI:=⟨.func,1,8,[.nilFunc],[]⟩
def vp:TI:=⟨.func,1,8,[.nilFunc],[]⟩
def vq:TI:=⟨.ptr 633,1,8,[.pointer none],[("Next",512)]⟩
def vr:TI:=⟨.other,1,0,[],[]⟩
def vu:TI:=⟨.func,1,8,[.nilFunc],[]⟩
def vw:TI:=⟨.func,1,8,[.nilFunc],[]⟩
def vx:TI:=⟨.func,1,8,[.nilFunc],[]⟩
def vy:TI:=⟨.func,1,8,[.nilFunc],[]⟩
def vz:TI:=⟨.func,1,8,[.nilFunc],[]⟩
def wA:TI:=⟨.func,1,8,[.nilFunc],[]⟩
def wB:TI:=⟨.func,1,8,[.nilFunc],[]⟩
def wC:TI:=⟨.func,1,8,[.nilFunc],[]⟩
def wD:TI:=⟨.slice 70,1,24,[.slice none 0 0],[]⟩
def wE:TI:=⟨.func,1,8,[.nilFunc],[]⟩
def wF:TI:=⟨.func,1,8,[.nilFunc],[]⟩
def wG:TI:=⟨.func,1,8,[.nilFunc],[]⟩
def wH:TI:=⟨.func,1,8,[.nilFunc],[]⟩
def wI:TI:=⟨.func,1,8,[.nilFunc],[]⟩
def wJ:TI:=⟨.func,1,8,[.nilFunc],[]⟩
def wK:TI:=⟨.func,1,8,[.nilFunc],[]⟩
def wL:TI:=⟨.func,1,8,[.nilFunc],[]⟩
def wM:TI:=⟨.func,1,8,[.nilFunc],[]⟩
def wN:TI:=⟨.func,1,8,[.nilFunc],[]⟩
def wO:TI:=⟨.func,1,8,[.nilFunc],[]⟩
def wP:TI:=⟨.func,1,8,[.nilFunc],[]⟩
def wQ:TI:=⟨.func,1,8,[.nilFunc],[]⟩
def wR:TI:=⟨.func,1,8,[.nilFunc],[]⟩
def wS:TI:=⟨.func,1,8,[.nilFunc],[]⟩
def wT:TI:=⟨.func,1,8,[.nilFunc],[]⟩
def wU:TI:=⟨.arr 256 4,256,256,Ao [.bool false] 256,[]⟩
def wV:TI:=⟨.arr 256 4,256,256,Ao [.bool false] 256,[]⟩
def wW:TI:=⟨.other,1,0,[],[]⟩
def wX:TI:=⟨.func,1,8,[.nilFunc],[]⟩
def wY:TI:=⟨.slice 102,1,24,[.slice none 0 0],[]⟩
def wa:TI:=⟨.func,1,8,[.nilFunc],[]⟩
def wb:TI:=⟨.func,1,8,[.nilFunc],[]⟩
def wc:TI:=⟨.func,1,8,[.nilFunc],[]⟩
def wd:TI:=⟨.func,1,8,[.nilFunc],[]⟩
def we:TI:=⟨.func,1,8,[.nilFunc],[]⟩
def wg:TI:=⟨.func,1,8,[.nilFunc],[]⟩
def wh:TI:=⟨.func,1,8,[.nilFunc],[]⟩
def wi:TI:=⟨.func,1,8,[.nilFunc],[]⟩
def wj:TI:=⟨.func,1,8,[.nilFunc],[]⟩
def wl:TI:=⟨.func,1,8,[.nilFunc],[]⟩
def wm:TI:=⟨.func,1,8,[.nilFunc],[]⟩
def wo:TI:=⟨.func,1,8,[.nilFunc],[]⟩
def wu:TI:=⟨.func,1,8,[.nilFunc],[]⟩
def wv:TI:=⟨.func,1,8,[.nilFunc],[]⟩
def wx:TI:=⟨.func,1,8,[.nilFunc],[]⟩
def wy:TI:=⟨.ptr 711,1,8,[.pointer none],[("strings.contains",619)]⟩
def wz:TI:=⟨.func,1,8,[.nilFunc],[]⟩
def w6:TI:=⟨.func,1,8,[.nilFunc],[]⟩
def w7:TI:=⟨.func,1,8,[.nilFunc],[]⟩
def w8:TI:=⟨.func,1,8,[.nilFunc],[]⟩
def w9:TI:=⟨.func,1,8,[.nilFunc],[]⟩
def xA:TI:=⟨.func,1,8,[.nilFunc],[]⟩
def xB:TI:=⟨.func,1,8,[.nilFunc],[]⟩
def xC:TI:=⟨.func,1,8,[.nilFunc],[]⟩
def xD:TI:=⟨.func,1,8,[.nilFunc],[]⟩
def xE:TI:=⟨.func,1,8,[.nilFunc],[]⟩
def xF:TI:=⟨.arr 0 16,0,0,[],[]⟩
def xG:TI:=⟨.int .u8,1,1,[.int .u8 0],[]⟩
def xH:TI:=⟨.int .u8,1,1,[.int .u8 0],[("String",721)]⟩
def xI:TI:=⟨.func,1,8,[.nilFunc],[]⟩
def xJ:TI:=⟨.ptr 5,1,8,[.pointer none],[]⟩
def xL:TI:=⟨.int .i32,1,4,[.int .i32 0],[]⟩
def xM:TI:=⟨.int .i32,1,4,[.int .i32 0],[]⟩
def xN:TI:=⟨.func,1,8,[.nilFunc],[]⟩
def xO:TI:=⟨.func,1,8,[.nilFunc],[]⟩
def xP:TI:=⟨.func,1,8,[.nilFunc],[]⟩
def xQ:TI:=⟨.func,1,8,[.nilFunc],[]⟩
def xR:TI:=⟨.func,1,8,[.nilFunc],[]⟩
def xS:TI:=⟨.func,1,8,[.nilFunc],[]⟩
def xT:TI:=⟨.other,1,0,[],[]⟩
def xU:TI:=⟨.func,1,8,[.nilFunc],[]⟩
def xV:TI:=⟨.func,1,8,[.nilFunc],[]⟩
def xW:TI:=⟨.func,1,8,[.nilFunc],[]⟩
def xX:TI:=⟨.arr 5 224,5,5,Ao [.int .u8 0] 5,[]⟩
def xY:TI:=⟨.ptr 621,1,8,[.pointer none],[]⟩
def xZ:TI:=⟨.func,1,8,[.nilFunc],[]⟩
def xa:TI:=⟨.func,1,8,[.nilFunc],[]⟩
def xb:TI:=⟨.func,1,8,[.nilFunc],[]⟩
def xc:TI:=⟨.func,1,8,[.nilFunc],[]⟩
def xe:TI:=⟨.func,1,8,[.nilFunc],[]⟩
def xf:TI:=⟨.slice 775,1,24,[.slice none 0 0],[]⟩
def xg:TI:=⟨.func,1,8,[.nilFunc],[]⟩
def xh:TI:=⟨.func,1,8,[.nilFunc],[]⟩
def xk:TI:=⟨.struct [(0,1,3),(1,1,224)],2,16,[.int .i64 0,.int .u8 0],[]⟩
def xm:TI:=⟨.struct [(0,1,3),(1,1,224)],2,16,[.int .i64 0,.int .u8 0],[]⟩
def xn:TI:=⟨.func,1,8,[.nilFunc],[]⟩
def xp:TI:=⟨.func,1,8,[.nilFunc],[]⟩
def xq:TI:=⟨.func,1,8,[.nilFunc],[]⟩
def xr:TI:=⟨.func,1,8,[.nilFunc],[]⟩
def xu:TI:=⟨.func,1,8,[.nilFunc],[]⟩
def xw:TI:=⟨.other,1,8,[.pointer none],[]⟩
set_option maxRecDepth 100000 in
def ty:TTy:=(.nd (some ty0) (.nd (some ty1) (.nd (some ty3) (.nd (some ty7) (.nd (some AGk) (.nd (some AGr) (.nd (some AHA) (.nd (some kq) (.nd (some ZX) (.nd (some sH) .mt .mt) (.nd (some xa) .mt .mt)) (.nd (some pk) (.nd (some u6) .mt .mt) .mt)) (.nd (some l8) (.nd (some oN) (.nd (some th) .mt .mt) .mt) (.nd (some qx) (.nd (some wN) .mt .mt) .mt))) (.nd (some AHX) (.nd (some lW) (.nd (some nc) (.nd (some tB) .mt .mt) .mt) (.nd (some qO) (.nd (some ve) .mt .mt) .mt)) (.nd (some ZV) (.nd (some o5) (.nd (some uX) .mt .mt) .mt) (.nd (some Zh) (.nd (some w9) .mt .mt) .mt)))) (.nd (some AGw) (.nd (some xx) (.nd (some lI) (.nd (some nO) (.nd (some sX) .mt .mt) .mt) (.nd (some qA) (.nd (some vN) .mt .mt) .mt)) (.nd (some mK) (.nd (some oh) (.nd (some uG) .mt .mt) .mt) (.nd (some rN) (.nd (some we) .mt .mt) .mt))) (.nd (some Bf) (.nd (some ln) (.nd (some n3) (.nd (some tR) .mt .mt) .mt) (.nd (some qg) (.nd (some vx) .mt .mt) .mt)) (.nd (some mq) (.nd (some pP) (.nd (some un) .mt .mt) .mt) (.nd (some ru) (.nd (some xM) .mt .mt) .mt))))) (.nd (some AGp) (.nd (some OJ) (.nd (some AHH) (.nd (some lC) (.nd (some nH) (.nd (some sP) .mt .mt) (.nd (some xm) .mt .mt)) (.nd (some pt) (.nd (some vF) .mt .mt) .mt)) (.nd (some mE) (.nd (some oW) (.nd (some tx) .mt .mt) .mt) (.nd (some rE) (.nd (some wV) .mt .mt) .mt))) (.nd (some Iv) (.nd (some NE) (.nd (some nq) (.nd (some tJ) .mt .mt) .mt) (.nd (some qW) (.nd (some vm) .mt .mt) .mt)) (.nd (some mi) (.nd (some pF) (.nd (some uf) .mt .mt) .mt) (.nd (some rm) (.nd (some xF) .mt .mt) .mt)))) (.nd (some AG3) (.nd (some AHR) (.nd (some lO) (.nd (some ZY) (.nd (some sq) .mt .mt) .mt) (.nd (some qI) (.nd (some vW) .mt .mt) .mt)) (.nd (some mS) (.nd (some ox) (.nd (some uP) .mt .mt) .mt) (.nd (some rV) (.nd (some wu) .mt .mt) .mt))) (.nd (some kj) (.nd (some ly) (.nd (some oG) (.nd (some tZ) .mt .mt) .mt) (.nd (some qo) (.nd (some wF) .mt .mt) .mt)) (.nd (some mz) (.nd (some pY) (.nd (some ux) .mt .mt) .mt) (.nd (some r9) (.nd (some xS) .mt .mt) .mt)))))) (.nd (some AGi) (.nd none (.nd (some hU) (.nd (some AHE) (.nd (some kz) (.nd (some nC) (.nd (some sL) .mt .mt) (.nd (some xf) .mt .mt)) (.nd (some pp) (.nd (some vB) .mt .mt) .mt)) (.nd (some Pz) (.nd (some oT) (.nd (some tq) .mt .mt) .mt) (.nd (some rA) (.nd (some wR) .mt .mt) .mt))) (.nd (some AHa) (.nd (some lZ) (.nd (some nk) (.nd (some tF) .mt .mt) .mt) (.nd (some qR) (.nd (some vi) .mt .mt) .mt)) (.nd (some me) (.nd (some pB) (.nd (some ub) .mt .mt) .mt) (.nd (some ri) (.nd (some xD) .mt .mt) .mt)))) (.nd (some AGz) (.nd (some AHN) (.nd (some ZR) (.nd (some nS) (.nd (some se) .mt .mt) .mt) (.nd (some qE) (.nd (some vR) .mt .mt) .mt)) (.nd (some mO) (.nd (some ot) (.nd (some uK) .mt .mt) .mt) (.nd (some rR) (.nd (some wj) .mt .mt) .mt))) (.nd (some kX) (.nd (some lu) (.nd (some LG) (.nd (some tV) .mt .mt) .mt) (.nd (some qk) (.nd (some wB) .mt .mt) .mt)) (.nd (some mv) (.nd (some pU) (.nd (some ut) .mt .mt) .mt) (.nd (some rz) (.nd (some xO) .mt .mt) .mt))))) (.nd (some P2) (.nd (some qe) (.nd (some xK) (.nd (some En) (.nd (some LF) (.nd (some sT) .mt .mt) (.nd (some xr) .mt .mt)) (.nd (some py) (.nd (some vJ) .mt .mt) .mt)) (.nd (some ZU) (.nd (some Iy) (.nd (some uC) .mt .mt) .mt) (.nd (some rI) (.nd (some wa) .mt .mt) .mt))) (.nd (some kQ) (.nd (some Py) (.nd (some Za) (.nd (some tN) .mt .mt) .mt) (.nd (some qa) (.nd (some vq) .mt .mt) .mt)) (.nd (some mm) (.nd (some pL) (.nd (some uj) .mt .mt) .mt) (.nd (some rq) (.nd (some xH) .mt .mt) .mt)))) (.nd (some AG6) (.nd (some AHT) (.nd (some lS) (.nd (some nZ) (.nd (some sw) .mt .mt) .mt) (.nd (some qL) (.nd (some va) .mt .mt) .mt)) (.nd (some mW) (.nd (some oz) (.nd (some uT) .mt .mt) .mt) (.nd (some rZ) (.nd (some wz) .mt .mt) .mt))) (.nd (some kn) (.nd (some l4) (.nd (some oK) (.nd (some td) .mt .mt) .mt) (.nd (some qs) (.nd (some wJ) .mt .mt) .mt)) (.nd (some m5) (.nd (some pg) (.nd (some u1) .mt .mt) .mt) (.nd (some sD) (.nd (some xW) .mt .mt) .mt))))))) (.nd (some ty5) (.nd (some ty9) (.nd (some AGm) (.nd (some oZ) (.nd (some AHC) (.nd (some ku) (.nd (some nA) (.nd (some sJ) .mt .mt) (.nd (some xc) .mt .mt)) (.nd (some pn) (.nd (some u9) .mt .mt) .mt)) (.nd (some mA) (.nd (some oQ) (.nd (some tk) .mt .mt) .mt) (.nd (some qz) (.nd (some wP) .mt .mt) .mt))) (.nd (some AHZ) (.nd (some lX) (.nd (some ng) (.nd (some tD) .mt .mt) .mt) (.nd (some qP) (.nd (some vg) .mt .mt) .mt)) (.nd (some mc) (.nd (some o8) (.nd (some uZ) .mt .mt) .mt) (.nd (some GK) (.nd (some xB) .mt .mt) .mt)))) (.nd (some AGx) (.nd (some AHM) (.nd (some lK) (.nd (some nQ) (.nd (some sZ) .mt .mt) .mt) (.nd (some qC) (.nd (some vP) .mt .mt) .mt)) (.nd (some mM) (.nd (some oo) (.nd (some uI) .mt .mt) .mt) (.nd (some rP) (.nd (some wh) .mt .mt) .mt))) (.nd (some kU) (.nd (some lq) (.nd (some n9) (.nd (some tT) .mt .mt) .mt) (.nd (some qi) (.nd (some vz) .mt .mt) .mt)) (.nd (some mu) (.nd (some pR) (.nd (some uq) .mt .mt) .mt) (.nd (some rx) (.nd none .mt .mt) .mt))))) (.nd (some AGq) (.nd (some Vl) (.nd (some AHI) (.nd (some lE) (.nd (some nJ) (.nd (some sR) .mt .mt) (.nd (some xp) .mt .mt)) (.nd (some pw) (.nd (some vH) .mt .mt) .mt)) (.nd (some mG) (.nd (some oY) (.nd (some uA) .mt .mt) .mt) (.nd (some rG) (.nd (some wX) .mt .mt) .mt))) (.nd (some kO) (.nd (some lf) (.nd (some nt) (.nd (some tL) .mt .mt) .mt) (.nd (some qY) (.nd (some vo) .mt .mt) .mt)) (.nd (some P1) (.nd (some pJ) (.nd (some uh) .mt .mt) .mt) (.nd (some ro) (.nd none .mt .mt) .mt)))) (.nd (some MN) (.nd (some xz) (.nd (some lQ) (.nd (some nY) (.nd (some su) .mt .mt) .mt) (.nd (some Zf) (.nd (some vY) .mt .mt) .mt)) (.nd (some mU) (.nd (some Zc) (.nd (some uR) .mt .mt) .mt) (.nd (some rX) (.nd (some wx) .mt .mt) .mt))) (.nd (some kl) (.nd (some l0) (.nd (some oI) (.nd (some tb) .mt .mt) .mt) (.nd (some qq) (.nd (some wH) .mt .mt) .mt)) (.nd (some m3) (.nd (some pd) (.nd (some uz) .mt .mt) .mt) (.nd (some sB) (.nd (some xU) .mt .mt) .mt)))))) (.nd none (.nd (some AGo) (.nd (some pS) (.nd (some AHG) (.nd (some lA) (.nd (some nF) (.nd (some sN) .mt .mt) (.nd (some xh) .mt .mt)) (.nd (some pr) (.nd (some vD) .mt .mt) .mt)) (.nd (some P0) (.nd (some oV) (.nd (some tv) .mt .mt) .mt) (.nd (some rC) (.nd (some wT) .mt .mt) .mt))) (.nd (some kL) (.nd (some lb) (.nd (some nn) (.nd (some tH) .mt .mt) .mt) (.nd (some qU) (.nd (some vk) .mt .mt) .mt)) (.nd (some mg) (.nd (some pD) (.nd (some ud) .mt .mt) .mt) (.nd (some rk) (.nd none .mt .mt) .mt)))) (.nd (some AG1) (.nd (some AHP) (.nd (some ZS) (.nd (some nU) (.nd (some sm) .mt .mt) .mt) (.nd (some qG) (.nd (some vU) .mt .mt) .mt)) (.nd (some mQ) (.nd (some ov) (.nd (some uN) .mt .mt) .mt) (.nd (some rT) (.nd (some wm) .mt .mt) .mt))) (.nd (some kZ) (.nd (some lw) (.nd (some oE) (.nd (some tX) .mt .mt) .mt) (.nd (some qm) (.nd (some wD) .mt .mt) .mt)) (.nd (some ZW) (.nd (some pW) (.nd (some uv) .mt .mt) .mt) (.nd (some r7) (.nd (some xQ) .mt .mt) .mt))))) (.nd (some hR) (.nd (some q8) (.nd (some xd) (.nd (some Iw) (.nd (some nM) (.nd (some sV) .mt .mt) (.nd (some xw) .mt .mt)) (.nd (some p8) (.nd (some vL) .mt .mt) .mt)) (.nd (some mI) (.nd (some od) (.nd (some uE) .mt .mt) .mt) (.nd (some rL) (.nd (some wc) .mt .mt) .mt))) (.nd (some ZP) (.nd (some ll) (.nd (some ny) (.nd (some tP) .mt .mt) .mt) (.nd (some qd) (.nd (some vu) .mt .mt) .mt)) (.nd (some mo) (.nd (some pN) (.nd (some ul) .mt .mt) .mt) (.nd (some rr) (.nd (some xJ) .mt .mt) .mt)))) (.nd (some AG8) (.nd (some AHV) (.nd (some lU) (.nd (some na) (.nd (some sy) .mt .mt) .mt) (.nd (some qN) (.nd (some vc) .mt .mt) .mt)) (.nd (some mY) (.nd (some o3) (.nd (some uV) .mt .mt) .mt) (.nd (some rb) (.nd (some w7) .mt .mt) .mt))) (.nd (some ko) (.nd (some l6) (.nd (some oM) (.nd (some tf) .mt .mt) .mt) (.nd (some qu) (.nd (some wL) .mt .mt) .mt)) (.nd (some m7) (.nd (some pi) (.nd (some u4) .mt .mt) .mt) (.nd (some sF) (.nd (some xY) .mt .mt) .mt)))))))) (.nd (some ty2) (.nd (some ty4) (.nd none (.nd (some AGl) (.nd (some oO) (.nd (some AHB) (.nd (some kr) (.nd (some m9) (.nd (some sI) .mt .mt) (.nd (some xb) .mt .mt)) (.nd (some pm) (.nd (some u7) .mt .mt) .mt)) (.nd (some l9) (.nd (some oP) (.nd (some tj) .mt .mt) .mt) (.nd (some qy) (.nd (some wO) .mt .mt) .mt))) (.nd (some AHY) (.nd (some ZT) (.nd (some nf) (.nd (some tC) .mt .mt) .mt) (.nd (some LH) (.nd (some vf) .mt .mt) .mt)) (.nd (some ma) (.nd (some o7) (.nd (some uY) .mt .mt) .mt) (.nd (some rf) (.nd (some xA) .mt .mt) .mt)))) (.nd (some re) (.nd (some AHL) (.nd (some lJ) (.nd (some nP) (.nd (some sY) .mt .mt) .mt) (.nd (some qB) (.nd (some vO) .mt .mt) .mt)) (.nd (some mL) (.nd (some ol) (.nd (some uH) .mt .mt) .mt) (.nd (some rO) (.nd (some wg) .mt .mt) .mt))) (.nd (some kT) (.nd (some lp) (.nd (some n8) (.nd (some tS) .mt .mt) .mt) (.nd (some qh) (.nd (some vy) .mt .mt) .mt)) (.nd (some mr) (.nd (some pQ) (.nd (some uo) .mt .mt) .mt) (.nd (some rv) (.nd none .mt .mt) .mt))))) (.nd (some MM) (.nd (some AGu) (.nd (some P6) (.nd (some lD) (.nd (some nI) (.nd (some sQ) .mt .mt) (.nd (some xn) .mt .mt)) (.nd (some pu) (.nd (some vG) .mt .mt) .mt)) (.nd (some mF) (.nd (some oX) (.nd (some tz) .mt .mt) .mt) (.nd (some rF) (.nd (some wW) .mt .mt) .mt))) (.nd (some kN) (.nd (some ld) (.nd (some nr) (.nd (some tK) .mt .mt) .mt) (.nd (some qX) (.nd (some vn) .mt .mt) .mt)) (.nd (some mj) (.nd (some pH) (.nd (some ug) .mt .mt) .mt) (.nd (some rn) (.nd none .mt .mt) .mt)))) (.nd (some AG4) (.nd (some h8) (.nd (some lP) (.nd (some nX) (.nd (some Zj) .mt .mt) .mt) (.nd (some qJ) (.nd (some vX) .mt .mt) .mt)) (.nd (some mT) (.nd (some oy) (.nd (some uQ) .mt .mt) .mt) (.nd (some rW) (.nd (some wv) .mt .mt) .mt))) (.nd (some Hw) (.nd (some lz) (.nd (some oH) (.nd (some ta) .mt .mt) .mt) (.nd (some qp) (.nd (some wG) .mt .mt) .mt)) (.nd (some m0) (.nd (some pZ) (.nd (some uy) .mt .mt) .mt) (.nd (some sA) (.nd (some xT) .mt .mt) .mt)))))) (.nd (some AGj) (.nd (some AGn) (.nd (some pG) (.nd (some AHF) (.nd (some ND) (.nd (some nE) (.nd (some sM) .mt .mt) (.nd (some xg) .mt .mt)) (.nd (some pq) (.nd (some vC) .mt .mt) .mt)) (.nd (some mC) (.nd (some oU) (.nd (some tu) .mt .mt) .mt) (.nd (some rB) (.nd (some wS) .mt .mt) .mt))) (.nd (some kK) (.nd (some la) (.nd (some nl) (.nd (some tG) .mt .mt) .mt) (.nd (some qT) (.nd (some vj) .mt .mt) .mt)) (.nd (some mf) (.nd (some pC) (.nd (some uc) .mt .mt) .mt) (.nd (some rj) (.nd (some xE) .mt .mt) .mt)))) (.nd (some AG0) (.nd (some AHO) (.nd (some lM) (.nd (some nT) (.nd (some sk) .mt .mt) .mt) (.nd (some qF) (.nd (some vS) .mt .mt) .mt)) (.nd (some mP) (.nd (some ou) (.nd (some uM) .mt .mt) .mt) (.nd (some rS) (.nd (some wl) .mt .mt) .mt))) (.nd (some kY) (.nd (some Ix) (.nd (some oC) (.nd (some tW) .mt .mt) .mt) (.nd (some ql) (.nd (some wC) .mt .mt) .mt)) (.nd (some mw) (.nd (some pV) (.nd (some uu) .mt .mt) .mt) (.nd (some r6) (.nd (some xP) .mt .mt) .mt))))) (.nd (some nW) (.nd (some AGv) (.nd (some AHK) (.nd (some lG) (.nd (some nL) (.nd (some sU) .mt .mt) (.nd (some xu) .mt .mt)) (.nd (some pz) (.nd (some vK) .mt .mt) .mt)) (.nd (some mH) (.nd (some oc) (.nd (some uD) .mt .mt) .mt) (.nd (some rK) (.nd (some wb) .mt .mt) .mt))) (.nd (some kR) (.nd (some lh) (.nd (some nw) (.nd (some tO) .mt .mt) .mt) (.nd (some qc) (.nd (some vr) .mt .mt) .mt)) (.nd (some mn) (.nd (some pM) (.nd (some uk) .mt .mt) .mt) (.nd (some Zi) (.nd (some xI) .mt .mt) .mt)))) (.nd (some AG7) (.nd (some AHU) (.nd (some lT) (.nd (some P3) (.nd (some sx) .mt .mt) .mt) (.nd (some qM) (.nd (some vb) .mt .mt) .mt)) (.nd (some mX) (.nd (some o0) (.nd (some uU) .mt .mt) .mt) (.nd (some ra) (.nd (some w6) .mt .mt) .mt))) (.nd (some ZQ) (.nd (some l5) (.nd (some oL) (.nd (some te) .mt .mt) .mt) (.nd (some qt) (.nd (some wK) .mt .mt) .mt)) (.nd (some m6) (.nd (some ph) (.nd (some u3) .mt .mt) .mt) (.nd (some sE) (.nd (some xX) .mt .mt) .mt))))))) (.nd (some ty6) (.nd (some AGh) (.nd none (.nd (some AGs) (.nd (some AHD) (.nd (some kv) (.nd (some nB) (.nd (some sK) .mt .mt) (.nd (some xe) .mt .mt)) (.nd (some po) (.nd (some vA) .mt .mt) .mt)) (.nd (some mB) (.nd (some oR) (.nd (some tm) .mt .mt) .mt) (.nd (some q9) (.nd (some wQ) .mt .mt) .mt))) (.nd (some h9) (.nd (some lY) (.nd (some nh) (.nd (some tE) .mt .mt) .mt) (.nd (some qQ) (.nd (some vh) .mt .mt) .mt)) (.nd (some md) (.nd (some pA) (.nd (some ua) .mt .mt) .mt) (.nd (some rh) (.nd (some xC) .mt .mt) .mt)))) (.nd (some AGy) (.nd (some xy) (.nd (some lL) (.nd (some nR) (.nd (some sd) .mt .mt) .mt) (.nd (some qD) (.nd (some vQ) .mt .mt) .mt)) (.nd (some mN) (.nd (some oq) (.nd (some uJ) .mt .mt) .mt) (.nd (some rQ) (.nd (some wi) .mt .mt) .mt))) (.nd (some kW) (.nd (some lr) (.nd (some oB) (.nd (some tU) .mt .mt) .mt) (.nd (some qj) (.nd (some wA) .mt .mt) .mt)) (.nd (some LE) (.nd (some pT) (.nd (some ur) .mt .mt) .mt) (.nd (some ry) (.nd (some xN) .mt .mt) .mt))))) (.nd (some nD) (.nd (some qS) (.nd (some AHJ) (.nd (some lF) (.nd (some nK) (.nd (some sS) .mt .mt) (.nd (some xq) .mt .mt)) (.nd (some px) (.nd (some vI) .mt .mt) .mt)) (.nd (some Eo) (.nd (some oa) (.nd (some uB) .mt .mt) .mt) (.nd (some rH) (.nd (some wY) .mt .mt) .mt))) (.nd (some kP) (.nd (some lg) (.nd (some nu) (.nd (some tM) .mt .mt) .mt) (.nd (some qZ) (.nd (some vp) .mt .mt) .mt)) (.nd (some ml) (.nd (some pK) (.nd (some ui) .mt .mt) .mt) (.nd (some rp) (.nd (some xG) .mt .mt) .mt)))) (.nd (some AG5) (.nd (some AHS) (.nd (some lR) (.nd (some ZZ) (.nd (some sv) .mt .mt) .mt) (.nd (some qK) (.nd (some vZ) .mt .mt) .mt)) (.nd (some mV) (.nd (some Zd) (.nd (some uS) .mt .mt) .mt) (.nd (some rY) (.nd (some wy) .mt .mt) .mt))) (.nd (some km) (.nd (some l3) (.nd (some oJ) (.nd (some tc) .mt .mt) .mt) (.nd (some qr) (.nd (some wI) .mt .mt) .mt)) (.nd (some m4) (.nd (some pf) (.nd (some u0) .mt .mt) .mt) (.nd (some sC) (.nd (some xV) .mt .mt) .mt)))))) (.nd none (.nd (some Hx) (.nd (some AGt) (.nd (some D5) (.nd (some lB) (.nd (some nG) (.nd (some sO) .mt .mt) (.nd (some xk) .mt .mt)) (.nd (some P5) (.nd (some vE) .mt .mt) .mt)) (.nd (some mD) (.nd (some P4) (.nd (some tw) .mt .mt) .mt) (.nd (some rD) (.nd (some wU) .mt .mt) .mt))) (.nd (some kM) (.nd (some lc) (.nd (some np) (.nd (some tI) .mt .mt) .mt) (.nd (some qV) (.nd (some vl) .mt .mt) .mt)) (.nd (some mh) (.nd (some pE) (.nd (some ue) .mt .mt) .mt) (.nd (some rl) (.nd none .mt .mt) .mt)))) (.nd (some AG2) (.nd (some AHQ) (.nd (some lN) (.nd (some nV) (.nd (some so) .mt .mt) .mt) (.nd (some qH) (.nd (some vV) .mt .mt) .mt)) (.nd (some mR) (.nd (some ow) (.nd (some uO) .mt .mt) .mt) (.nd (some rU) (.nd (some wo) .mt .mt) .mt))) (.nd (some kh) (.nd (some lx) (.nd (some oF) (.nd (some tY) .mt .mt) .mt) (.nd (some qn) (.nd (some wE) .mt .mt) .mt)) (.nd (some my) (.nd (some pX) (.nd (some uw) .mt .mt) .mt) (.nd (some r8) (.nd (some xR) .mt .mt) .mt))))) (.nd (some nv) (.nd (some rJ) (.nd (some P7) (.nd (some lH) (.nd (some nN) (.nd (some sW) .mt .mt) .mt) (.nd (some p9) (.nd (some vM) .mt .mt) .mt)) (.nd (some mJ) (.nd (some oe) (.nd (some uF) .mt .mt) .mt) (.nd (some rM) (.nd (some wd) .mt .mt) .mt))) (.nd (some kS) (.nd (some lm) (.nd (some nz) (.nd (some tQ) .mt .mt) .mt) (.nd (some qf) (.nd (some vw) .mt .mt) .mt)) (.nd (some mp) (.nd (some pO) (.nd (some um) .mt .mt) .mt) (.nd (some rt) (.nd (some xL) .mt .mt) .mt)))) (.nd (some AG9) (.nd (some AHW) (.nd (some lV) (.nd (some nb) (.nd (some tA) .mt .mt) .mt) (.nd (some Zg) (.nd (some vd) .mt .mt) .mt)) (.nd (some mZ) (.nd (some Ze) (.nd (some uW) .mt .mt) .mt) (.nd (some rc) (.nd (some w8) .mt .mt) .mt))) (.nd (some kp) (.nd (some l7) (.nd (some Zb) (.nd (some tg) .mt .mt) .mt) (.nd (some qv) (.nd (some wM) .mt .mt) .mt)) (.nd (some m8) (.nd (some pj) (.nd (some u5) .mt .mt) .mt) (.nd (some sG) (.nd (some xZ) .mt .mt) .mt)))))))))
end
noncomputable section
open Go
set_option maxRecDepth 100000 in
def zt3:VT:=(.nd (.int .i64 0) .mt .mt)
set_option maxRecDepth 100000 in
def zt9:VT:=(.nd (.string .empty) .mt .mt)
set_option maxRecDepth 100000 in
def AHb:VT:=(.nd (.int .i64 0) (.nd (.int .i64 0) (.nd (.int .i64 0) (.nd (.int .i64 0) .mt .mt) .mt) (.nd (.int .i64 0) .mt .mt)) (.nd (.int .i64 0) (.nd (.int .i64 0) (.nd (.int .i64 0) .mt .mt) .mt) (.nd (.int .i64 0) .mt .mt)))
set_option maxRecDepth 100000 in
def Jk:VT:=(.nd (.slice none 0 0) (.nd (.int .i64 0) .mt .mt) .mt)
set_option maxRecDepth 100000 in
def QF:VT:=(.nd (.int .i64 0) (.nd (.slice none 0 0) .mt .mt) .mt)
set_option maxRecDepth 100000 in
def Fh:VT:=(.nd (.int .i64 0) (.nd (.slice none 0 0) (.nd (.int .i64 0) .mt .mt) (.nd (.slice none 0 0) .mt .mt)) (.nd (.int .i64 0) (.nd (.slice none 0 0) .mt .mt) (.nd (.slice none 0 0) .mt .mt)))
set_option maxRecDepth 100000 in
def AHc:VT:=(.nd (.slice none 0 0) .mt .mt)
set_option maxRecDepth 100000 in
def iC:VT:=(.nd (.int .i64 0) (.nd (.bool false) (.nd (.slice none 0 0) .mt .mt) .mt) (.nd (.slice none 0 0) .mt .mt))
set_option maxRecDepth 100000 in
def AHd:VT:=(.nd (.int .i64 0) .mt .mt)
def Jr:VT:=(.nd (.int .u32 0) .mt .mt)
def MO:VT:=(.nd (.int .u32 0) Jr Jr)
def MP:VT:=(.nd (.int .u32 0) MO MO)
def MQ:VT:=(.nd (.int .u32 0) MP MP)
def MR:VT:=(.nd (.int .u32 0) MQ MQ)
def MS:VT:=(.nd (.int .u32 0) MR MR)
def iD:VT:=(.nd (.int .u32 0) (.nd (.int .u32 0) (.nd (.int .u32 0) (.nd (.int .u32 0) (.nd (.int .u32 0) (.nd (.int .u32 0) (.nd (.int .u32 0) (.nd (.int .u32 0) Jr .mt) Jr) MO) MP) MQ) MR) MS) (.nd (.int .u32 0) MS MS))
set_option maxRecDepth 100000 in
def OK:VT:=(.nd (.int .i64 0) (.nd (.int .i64 0) .mt .mt) .mt)
set_option maxRecDepth 100000 in
def Vm:VT:=(.nd (.int .i64 0) (.nd (.int .i64 0) (.nd (.int .i64 0) (.nd (.int .i64 0) .mt .mt) (.nd (.slice none 0 0) .mt .mt)) (.nd (.string .empty) (.nd (.int .i64 0) .mt .mt) .mt)) (.nd (.int .u8 0) (.nd (.int .i64 0) (.nd (.string .empty) .mt .mt) .mt) (.nd (.int .i64 0) (.nd (.int .i64 0) .mt .mt) .mt)))
set_option maxRecDepth 100000 in
def AHe:VT:=(.nd (.nilFunc) .mt .mt)
set_option maxRecDepth 100000 in
def yC:VT:=(.nd (.int .u64 0) (.nd (.int .u64 0) (.nd (.int .u64 0) .mt .mt) .mt) (.nd (.int .u64 0) .mt .mt))
set_option maxRecDepth 100000 in
def Cx:VT:=(.nd (.int .i64 0) (.nd (.int .i64 0) (.nd (.int .i64 0) (.nd (.slice none 0 0) .mt .mt) .mt) (.nd (.bool false) (.nd (.bool false) .mt .mt) .mt)) (.nd (.int .i64 0) (.nd (.int .i64 0) (.nd (.slice none 0 0) .mt .mt) .mt) (.nd (.int .i64 0) (.nd (.int .i64 0) .mt .mt) .mt)))
set_option maxRecDepth 100000 in
def LJ:VT:=(.nd (.int .i64 0) (.nd (.int .i64 0) (.nd (.int .i64 0) (.nd (.int .i64 0) .mt .mt) (.nd (.int .i64 0) .mt .mt)) (.nd (.int .i64 0) (.nd (.slice none 0 0) .mt .mt) (.nd (.slice none 0 0) .mt .mt))) (.nd (.int .i64 0) (.nd (.int .i64 0) (.nd (.slice none 0 0) .mt .mt) (.nd (.slice none 0 0) .mt .mt)) (.nd (.bool false) (.nd (.bool false) .mt .mt) .mt)))
set_option maxRecDepth 100000 in
def yD:VT:=(.nd (.int .i64 0) (.nd (.int .i64 0) (.nd (.int .i64 0) (.nd (.string .empty) (.nd (.int .i64 0) .mt .mt) .mt) (.nd (.int .i64 0) .mt .mt)) (.nd (.int .i64 0) (.nd (.int .i64 0) (.nd (.int .i64 0) .mt .mt) .mt) (.nd (.slice none 0 0) .mt .mt))) (.nd (.int .i64 0) (.nd (.int .u8 0) (.nd (.int .i64 0) (.nd (.int .i64 0) .mt .mt) .mt) (.nd (.int .i64 0) .mt .mt)) (.nd (.int .i64 0) (.nd (.string .empty) .mt .mt) (.nd (.slice none 0 0) .mt .mt))))
set_option maxRecDepth 100000 in
def CY:VT:=(.nd (.int .i64 0) (.nd (.int .i64 0) (.nd (.bool false) (.nd (.slice none 0 0) .mt .mt) .mt) (.nd (.slice none 0 0) .mt .mt)) (.nd (.bool false) (.nd (.int .i64 0) .mt .mt) (.nd (.int .i64 0) .mt .mt)))
set_option maxRecDepth 100000 in
def H4:VT:=(.nd (.int .i64 0) (.nd (.int .i64 0) .mt .mt) .mt)
set_option maxRecDepth 100000 in
def QD:VT:=(.nd (.string .empty) (.nd (.int .i64 0) .mt .mt) .mt)
set_option maxRecDepth 100000 in
def I0:VT:=(.nd (.int .i64 0) (.nd (.int .i64 0) .mt .mt) (.nd (.slice none 0 0) .mt .mt))
set_option maxRecDepth 100000 in
def QE:VT:=(.nd (.int .i64 0) (.nd (.int .i64 0) (.nd (.int .i64 0) .mt .mt) .mt) (.nd (.int .i64 0) (.nd (.slice none 0 0) .mt .mt) .mt))
set_option maxRecDepth 100000 in
def yE:VT:=(.nd (.int .i64 0) (.nd (.int .u8 0) .mt .mt) (.nd (.int .i64 0) .mt .mt))
set_option maxRecDepth 100000 in
def Zk:VT:=(.nd (.int .i64 0) (.nd (.slice none 0 0) .mt .mt) .mt)
set_option maxRecDepth 100000 in
def NK:VT:=(.nd (.pointer none) (.nd (.int .i64 0) (.nd (.int .i64 0) (.nd (.bool false) .mt .mt) .mt) (.nd (.slice none 0 0) .mt .mt)) (.nd (.int .i64 0) (.nd (.int .i64 0) .mt .mt) (.nd (.slice none 0 0) .mt .mt)))
set_option maxRecDepth 100000 in
def Fg:VT:=(.nd (.slice none 0 0) (.nd (.int .i64 0) .mt .mt) (.nd (.slice none 0 0) .mt .mt))
def Gn:VT:=(.nd (.int .u8 0) .mt .mt)
def Jl:VT:=(.nd (.int .u8 0) Gn Gn)
def Jm:VT:=(.nd (.int .u8 0) Jl Jl)
def Jn:VT:=(.nd (.int .u8 0) Jm Jm)
def yF:VT:=(.nd (.int .u8 0) (.nd (.int .u8 0) (.nd (.int .u8 0) (.nd (.int .u8 0) (.nd (.int .u8 0) (.nd (.int .u8 0) Gn .mt) Gn) Jl) Jm) Jn) (.nd (.int .u8 0) Jn Jn))
def Gp:VT:=(.nd (.int .u8 0) .mt .mt)
def Jo:VT:=(.nd (.int .u8 0) Gp Gp)
def Jp:VT:=(.nd (.int .u8 0) Jo Jo)
def Jq:VT:=(.nd (.int .u8 0) Jp Jp)
def Zl:VT:=(.nd (.int .u8 0) (.nd (.int .u8 0) (.nd (.int .u8 0) (.nd (.int .u8 0) (.nd (.int .u8 0) (.nd (.int .u8 0) Gp .mt) Gp) Jo) Jp) Jq) (.nd (.int .u8 0) Jq Jq))
set_option maxRecDepth 100000 in
def NL:VT:=(.nd (.int .i64 0) (.nd (.int .i64 0) (.nd (.int .u8 0) .mt .mt) .mt) (.nd (.int .i64 0) (.nd (.slice none 0 0) .mt .mt) .mt))
set_option maxRecDepth 100000 in
def yG:VT:=(.nd (.pointer none) .mt .mt)
set_option maxRecDepth 100000 in
def Zm:VT:=(.nd (.int .i64 0) (.nd (.int .i64 0) (.nd (.int .i64 0) .mt .mt) .mt) (.nd (.int .i64 0) .mt .mt))
set_option maxRecDepth 100000 in
def QG:VT:=(.nd (.bool false) (.nd (.bool false) (.nd (.bool false) .mt .mt) (.nd (.bool false) .mt .mt)) (.nd (.bool false) (.nd (.int .i64 0) .mt .mt) .mt))
set_option maxRecDepth 100000 in
def Zn:VT:=(.nd (.int .i64 0) (.nd (.int .i64 0) .mt .mt) (.nd (.slice none 0 0) .mt .mt))
set_option maxRecDepth 100000 in
def NM:VT:=(.nd (.int .i64 0) (.nd (.int .i64 0) (.nd (.int .u8 0) .mt .mt) (.nd (.int .i64 0) .mt .mt)) (.nd (.int .i64 0) (.nd (.slice none 0 0) .mt .mt) .mt))
set_option maxRecDepth 100000 in
def yH:VT:=(.nd (.int .u64 0) (.nd (.int .u64 0) (.nd (.int .u64 0) .mt .mt) (.nd (.int .u64 0) .mt .mt)) (.nd (.int .u64 0) (.nd (.int .u64 0) .mt .mt) .mt))
def c4:C:=
(cOp t1 (Av g0)
(cOp t2 (oMove (kV (.bool false)))
(cOp t3 (oMove (kV (.pointer none)))
(cOp t11 (Ac h8.zero [])
(cOp t12 (Av g11)
(cOp t13 (Ac xz.zero [(0,1,g3),(1,1,g12)])
(cOp t14 (oMove (kV (.int .i64 0)))
(AZ (AP 0 (Aj (cOp t15 (AM iLt .i64 g14 (kV (.int .i64 2)))
(AH g15
(AZ (AP 1 (cOp t16 (oAt false 2 1 g13 g14)
(cOp t5 (oMove g16)
(cOp t18 (AD 19 [g5])
(cOp t21 (AD 20 [g5,(kV (.int .i64 5))])
(cOp t22 (AK 0 g21)
(cOp t23 (AK 1 g21)
(cOp t6 (oMove g22)
(cOp t7 (oMove g23)
(cOp t26 (AD 21 [g5,(kV (.int .i64 5))])
(cOp t27 (AK 0 g26)
(cOp t28 (AK 1 g26)
(cOp t8 (oMove g27)
(cOp t9 (oMove g28)
(cOp t30 (AB 1 g1)
(cOp t31 (AC g30)
(cOp t32 (AB 6 g1)
(cOp t33 (AN 12 g32)
(cOp t34 (AD 22 [g5,g31,g33])
(cOp t35 (AM iNe .i64 g34 (kV (.int .i64 1)))
(cG g35 false t37 (oMove g5)
(cG g35 false t38 (AB 1 g1)
(cG g35 false t39 (AC g38)
(cG g35 false t40 (AD 23 [g37,g39])
(cG g35 false t41 (AM iNe .i64 g40 (kV (.int .i64 1)))
(cOp t42 (AO g35 (kV (.bool true)) g41)
(cG g42 false t44 (oMove g5)
(cG g42 false t45 (AB 1 g1)
(cG g42 false t46 (AC g45)
(cG g42 false t47 (AD 24 [g44,g46])
(cOp t48 (AO g42 (kV (.bool true)) g47)
(cG g48 false t50 (oMove g5)
(cG g48 false t51 (AD 25 [g50])
(cG g48 false t52 (AM iNe .i64 g51 (kV (.int .i64 0)))
(cOp t53 (AO g48 (kV (.bool true)) g52)
(cG g53 false t55 (oMove g5)
(cG g53 false t56 (AB 2 g1)
(cG g53 false t57 (AC g56)
(cG g53 false t58 (AD 26 [g55,g57])
(cG g53 false t59 (AM iNe .i64 g58 (kV (.int .i64 1)))
(cOp t60 (AO g53 (kV (.bool true)) g59)
(cG g60 false t62 (oMove g5)
(cG g60 false t63 (AB 2 g1)
(cG g60 false t64 (AC g63)
(cG g60 false t65 (AD 27 [g62,g64])
(cG g60 false t66 (AM iNe .i64 g65 (kV (.int .i64 1)))
(cOp t67 (AO g60 (kV (.bool true)) g66)
(cG g67 false t69 (oMove g5)
(cG g67 false t70 (AB 2 g1)
(cG g67 false t71 (AC g70)
(cG g67 false t72 (AD 28 [g69,g71])
(cG g67 false t73 (AM iNe .i64 g72 (kV (.int .i64 1)))
(cOp t74 (AO g67 (kV (.bool true)) g73)
(cG g74 false t76 (oMove g5)
(cG g74 false t77 (AD 29 [g76])
(cG g74 false t78 (AM iNe .i64 g77 (kV (.int .i64 1)))
(cOp t79 (AO g74 (kV (.bool true)) g78)
(cG g79 false t81 (oMove g5)
(cG g79 false t82 (AB 1 g1)
(cG g79 false t83 (AC g82)
(cG g79 false t84 (AB 2 g1)
(cG g79 false t85 (AC g84)
(cG g79 false t86 (AD 30 [g81,g83,g85])
(cG g79 false t87 (AM iNe .i64 g86 (kV (.int .i64 1)))
(cOp t88 (AO g79 (kV (.bool true)) g87)
(cG g88 false t90 (oMove g5)
(cG g88 false t91 (AB 1 g1)
(cG g88 false t92 (AC g91)
(cG g88 false t93 (AD 31 [g90,g92,(kV (.slice none 0 0))])
(cG g88 false t94 (AM iNe .i64 g93 (kV (.int .i64 1)))
(cOp t95 (AO g88 (kV (.bool true)) g94)
(cG g95 false t97 (oMove g5)
(cG g95 false t98 (AB 1 g1)
(cG g95 false t99 (AC g98)
(cG g95 false EN (AB 2 g1)
(cG g95 false Dp (AC DI)
(cG g95 false EO (AB 3 g1)
(cG g95 false D4 (AC ED)
(cG g95 false EP (AB 4 g1)
(cG g95 false F8 (AC CZ)
(cG g95 false Fc (AD 32 [g97,g99,CJ,Da,D1])
(cG g95 false GR (AM iNe .i64 Ef (kV (.int .i64 1)))
(cOp Ht (AO g95 (kV (.bool true)) EE)
(cG D2 false F9 (oMove g5)
(cG D2 false GT (AB 1 g1)
(cG D2 false GA (AC Ev)
(cG D2 false Hu (AB 3 g1)
(cG D2 false GU (AC GO)
(cG D2 false IC (AD 33 [Fw,CL,FM])
(cG D2 false Jd (AM iNe .i64 HG (kV (.int .i64 1)))
(cOp Je (AO D2 (kV (.bool true)) JH)
(cG HI false MF (oMove g6)
(cG HI false Jf (AM iNe .i64 LZ (kV (.int .i64 0)))
(cOp MG (AO HI (kV (.bool true)) H5)
(cG La false Pt (oMove g7)
(cOp MH (AO La (kV (.bool true)) Oh)
(cG J8 false Jh (oMove g8)
(cOp MI (AO J8 (kV (.bool true)) JI)
(cG JJ false Pu (oMove g9)
(cG JJ false Pv (AM iNe .i64 Oi (kV (.int .i64 1)))
(cOp VZ (AO JJ (kV (.bool true)) Ew)
(cG NZ false Va (oMove g5)
(cG NZ false MK (AD 34 [UM])
(cOp gn (AO NZ (kV (.bool true)) Oj)
(cG Lb false Vc (oMove g5)
(cG Lb false Vd (AD 35 [UO])
(cG Lb false OE (Aa UP)
(cG Lb false Ve (AM iNe .i64 Nb (kV (.int .i64 0)))
(cOp gp (AO Lb (kV (.bool true)) UQ)
(cG Lc false Vg (oMove g5)
(cG Lc false Vh (AD 36 [Ok])
(cG Lc false gq (Ac Iv.zero [])
(cG Lc false OG (D3 ⟨true,[.i .u64,.i .u64,.i .u64,.i .u64]⟩ true US gB)
(cOp Vi (AO Lc (kV (.bool true)) UT)
(cG H6 false kD (oMove g5)
(cG H6 false gt (AD 37 [jh])
(cG H6 false gu (Co true 2 1 gC)
(cG H6 false gv (Co false 1 0 gD)
(cG H6 false gx (Aa gE)
(cG H6 false gy (AM iNe .i64 gF (kV (.int .i64 0)))
(cOp gz (AO H6 (kV (.bool true)) gG)
(cG Ol false hI (oMove g5)
(cG Ol false kF (AD 38 [gI])
(cOp hJ (AO Ol (kV (.bool true)) ji)
(AH gJ
(cOp t2 (oMove (kV (.bool false)))
AQ)
cNorm)))))))))))))))))))))))))))))))))))))))))))))))))))))))))))))))))))))))))))))))))))))))))))))))))))))))))))))))))))))))))))))
(cOp hM (Ae .i64 (AW .i64) g14 (kV (.int .i64 1)))
(cOp t14 (oMove gK)
cNorm)))
(Ah 0)))))
(cOp hO (AD 39 [])
(cOp t2 (oMove gL)
AQ))))))))))
def b4:Body:=⟨[.t g2],c4⟩
def al4:List Nat:=[10,17,19,20,24,25,29,36,43,49,54,61,68,75,80,89,96,109,118,122,125,128,132,136,142,148,156]
theorem jX:AV ty al4 Tryz.f4=some b4:=by kernel_rfl
def c6:C:=
(cOp t3 (AD 42 [g0])
(cOp t4 (Ak g3)
(AH g4
AQ
(AZ (AP 0 (Aj (cOp t6 (AD 15 [g0])
(cOp t7 (Ak g6)
(AH g7
(AP 1 (cOp t9 (AU g0)
(cOp t10 (AB 24 g9)
(cOp t11 (AC g10)
(cOp t12 (oEq Vl.k false g11 (kV (.pointer none)))
(cG g12 true t14 (oMove g0)
(cG g12 true t15 (AD 43 [g14])
(cG g12 true t16 (Ak g15)
(cOp t17 (AO g12 g16 (kV (.bool false)))
(AH g17
(Ah 0)
(cOp t19 (AU g0)
(cOp t20 (AB 24 g19)
(cOp t21 (AC g20)
(cOp t22 (oEq Vl.k true g21 (kV (.pointer none)))
(cG g22 true t24 (oMove g0)
(cG g22 true t25 (AD 44 [g24])
(cG g22 true t26 (Ak g25)
(cOp t27 (AO g22 g26 (kV (.bool false)))
(AH g27
(Ah 0)
cNorm)))))))))))))))))))
(Ah 0))))))
(cOp t29 (AD 15 [g0])
(cOp t30 (Ak g29)
(AH g30
(cOp t32 (AD 45 [g0])
(cOp t34 (AD 46 [g0])
cNorm))
cNorm)))))))
def b6:Body:=⟨[],c6⟩
def al6:List Nat:=[2,5,8,13,18,23,28,31,33]
theorem jY:AV ty al6 Tryz.f6=some b6:=by kernel_rfl
def c9:C:=
(cOp t6 (oMove (kV (.int .i64 0)))
(cOp t11 (AD 42 [g0])
(cOp t12 (Ak g11)
(AH g12
(cOp t6 (oMove (kV (.int .i64 1)))
AQ)
(cOp t15 (AU g0)
(cOp t16 (AB 0 g15)
(cOp t17 (AB 1 g16)
(cOp t18 (AC g17)
(cOp t19 (AM iLt .i64 g1 g18)
(cG g19 false t21 (oMove g1)
(cG g19 false t22 (oMove g0)
(cG g19 false t23 (AU g22)
(cG g19 false t24 (AB 0 g23)
(cG g19 false t25 (AB 1 g24)
(cG g19 false t26 (AC g25)
(cG g19 false t27 (Ae .i64 (AW .i64) g26 (kV (.int .i64 16)))
(cG g19 false t28 (AM iGe .i64 g21 g27)
(cOp t29 (AO g19 (kV (.bool true)) g28)
(AH g29
(cOp t31 (AU g0)
(cOp t32 (AB 13 g31)
(cOp t33 (AC g32)
(cOp t36 (AD 48 [g33,g1,g2])
(cOp t6 (oMove g36)
AQ)))))
(cOp t39 (AU g0)
(cOp t40 (AB 11 g39)
(cOp t41 (AC g40)
(cOp t43 (AD 49 [g41,g2])
(cOp t44 (AK 0 g43)
(cOp t45 (AK 1 g43)
(cOp t7 (AY 12 Vm)
(cDo (AE 12 g7 g44)
(cOp t8 (oMove g45)
(cOp t47 (AM iNe .i64 g8 (kV (.int .i64 0)))
(AH g47
(cOp t6 (oMove g8)
AQ)
(cOp t49 (BE (.func 50) [] [g7])
(cOp t9 (oMove g49)
(AZ (AP 0 (Ad (cOp t51 (AB 0 g7)
(cOp t52 (AC g51)
(cOp t55 (AU g0)
(cOp t56 (AB 0 g55)
(cOp t57 (AB 1 g56)
(cOp t58 (AC g57)
(cOp t59 (Ax Int.sub .i64 g1 g58)
(cOp t60 (AM iNe .i64 g52 g59)
(cOp t50 (oMove g60)
(AH g50
(cOp t6 (oMove (kV (.int .i64 179)))
AQ)
(cOp t63 (AU g0)
(cOp t64 (AB 21 g63)
(cOp t65 (AC g64)
(cOp t67 (AD 51 [g65,g9])
(cG g67 false t69 (oMove g0)
(cG g67 false t70 (AU g69)
(cG g67 false t71 (AB 24 g70)
(cG g67 false t72 (AC g71)
(cG g67 false t73 (oEq Vl.k true g72 (kV (.pointer none)))
(cG g67 false t74 (oMove g73)
(cG g74 true t75 (oMove g9)
(cG g74 true t76 (oMove g0)
(cG g74 true t77 (AU g76)
(cG g74 true t78 (AB 24 g77)
(cG g74 true t79 (AC g78)
(cG g74 true t80 (AU g79)
(cG g74 true t81 (AB 0 g80)
(cG g74 true t82 (AN 12 g81)
(cG g74 true t83 (A1 g75 [g82])
(cG g67 false t84 (AO g74 g83 (kV (.bool false)))
(cOp t85 (AO g67 (kV (.bool true)) g84)
(cOp t61 (oMove g85)
(AH g61
(cOp t6 (oMove (kV (.int .i64 0)))
AQ)
(cOp t88 (AU g0)
(cOp t89 (AB 21 g88)
(cOp t90 (AC g89)
(cOp t91 (Aa g90)
(cOp t92 (AM iGe .i64 g91 (kV (.int .i64 64)))
(cOp t86 (oMove g92)
(AH g86
(cOp t6 (oMove (kV (.int .i64 5)))
AQ)
cNorm))))))))))))))))))))))))))))))))))))))))))
(Ad (cOp t95 (AU g0)
(cOp t96 (AB 21 g95)
(cOp t97 (AC g96)
(cOp t98 (AN 12 g7)
(cOp t99 (AS .strong (AX 1 (Ao P6.zero 1) [(0,12,g98)]))
(cOp EN (AS .free (Am 12 128 72 g97 g99))
(cOp Dp (AU g0)
(cOp EO (AB 21 CJ)
(cDo (AS .free (AE 1 ED DI))
(cOp t6 (oMove (kV (.int .i64 0)))
AQ))))))))))))))))))))))))))))))))))))))))))))
def b9:Body:=⟨[.t g6],c9⟩
def al9:List Nat:=[10,13,14,20,30,34,35,37,38,42,46,48,53,54,62,66,68,87,93,94]
theorem jZ:AV ty al9 Tryz.f9=some b9:=by kernel_rfl
def c10:C:=
(cOp t2 (oMove (kV (.slice none 0 0)))
(cOp t5 (AD 42 [g0])
(cOp t6 (Ak g5)
(AH g6
(cOp t2 (oMove (kV (.slice none 0 0)))
AQ)
(Ad (cOp t8 (AU g0)
(cOp t9 (AB 25 g8)
(cOp t10 (AC g9)
(cOp t12 (AU g0)
(cOp t13 (AB 13 g12)
(cOp t14 (AC g13)
(cOp t15 (As [g9] (AD 52 [g14]))
(cOp t16 (AS .free (Am 3 40 202 g10 g15))
(cOp t3 (oMove g16)
(cOp t18 (AU g0)
(cOp t19 (AB 25 g18)
(cDo (AE 1 g19 (kV (.slice none 0 0)))
(cOp t2 (oMove g3)
AQ))))))))))))))))))
def b10:Body:=⟨[.t g2],c10⟩
def iG:List Nat:=[4,7,11,17,20]
theorem Zy:AV ty iG Tryz.f10=some b10:=by kernel_rfl
def c12:C:=
(cOp t2 (AY 7 Fh)
(cOp t7 (AD 42 [g0])
(cOp t8 (Ak g7)
(AH g8
(cOp t9 (Ac OJ.zero [])
(cDo (AE 7 g2 g9)
AQ))
(cOp t12 (AU g0)
(cOp t13 (AB 14 g12)
(cOp t14 (AN 7 g13)
(cOp t15 (AD 57 [g14,(kV (.int .i64 (-1))),(kV (.int .i64 (-1)))])
(cOp t16 (AK 0 g15)
(cOp t17 (AK 1 g15)
(cOp t18 (AK 2 g15)
(cOp t3 (AY 7 Fh)
(cDo (AE 7 g3 g16)
(cOp t4 (oMove g17)
(cOp t5 (oMove g18)
(cOp t19 (AN 7 g3)
(cDo (AE 7 g2 g19)
AQ)))))))))))))))))
def b12:Body:=⟨[.cN g2 7],c12⟩
def iH:List Nat:=[6,10,11]
theorem Z8:AV ty iH Tryz.f12=some b12:=by kernel_rfl
def c13:C:=
(cOp t2 (oMove (kV (.slice none 0 0)))
(cOp t11 (AD 42 [g0])
(cOp t12 (Ak g11)
(AH g12
(cOp t2 (oMove (kV (.slice none 0 0)))
AQ)
(cOp t13 C8
(cOp t3 (oMove g13)
(cOp t15 (AU g0)
(cOp t16 (AB 14 g15)
(cOp t17 (AB 1 g16)
(cOp t18 (AB 0 g17)
(cOp t19 (AC g18)
(cOp t20 (Aa g19)
(cOp t21 (oMove (kV (.int .i64 0)))
(AZ (AP 0 (Aj (cOp t22 (AM iLt .i64 g21 g20)
(AH g22
(AZ (AP 1 (cOp t23 (Ai 8 g19 g21)
(cOp t24 (AN 8 g23)
(cOp t5 (AY 8 CY)
(cDo (AE 8 g5 g24)
(cOp t25 (AB 5 g5)
(cOp t26 (AC g25)
(cOp t27 (Aa g26)
(cOp t28 (oMove (kV (.int .i64 0)))
(AP 2 (Aj (cOp t29 (AM iLt .i64 g28 g27)
(AH g29
(AZ (AP 3 (cOp t30 (Ai 2 g26 g28)
(cOp t31 (AN 2 g30)
(cOp t7 (AY 2 H4)
(cDo (AE 2 g7 g31)
(cOp t33 (AB 0 g7)
(cOp t34 (AC g33)
(cDo (Ar ⟨false,[.i .i64]⟩ g3 g34 (kV (.int .i64 1)))
cNorm))))))))
(cOp t35 (Ae .i64 (AW .i64) g28 (kV (.int .i64 1)))
(cOp t28 (oMove g35)
cNorm)))
(Ah 2))))))))))))))
(cOp t36 (Ae .i64 (AW .i64) g21 (kV (.int .i64 1)))
(cOp t21 (oMove g36)
cNorm)))
(Ah 0)))))
(cOp t38 (AU g0)
(cOp t39 (AB 14 g38)
(cOp t40 (AB 6 g39)
(cOp t41 (AC g40)
(cOp t42 (Aa g41)
(cOp t43 (oMove (kV (.int .i64 0)))
(AZ (AP 4 (Aj (cOp t44 (AM iLt .i64 g43 g42)
(AH g44
(AZ (AP 5 (cOp t45 (Ai 2 g41 g43)
(cOp t46 (AN 2 g45)
(cOp t9 (AY 2 H4)
(cDo (AE 2 g9 g46)
(cOp t48 (AB 0 g9)
(cOp t49 (AC g48)
(cDo (Ar ⟨false,[.i .i64]⟩ g3 g49 (kV (.int .i64 1)))
cNorm))))))))
(cOp t50 (Ae .i64 (AW .i64) g43 (kV (.int .i64 1)))
(cOp t43 (oMove g50)
cNorm)))
(Ah 4)))))
(cDo (oDelete ⟨false,[.i .i64]⟩ g3 (kV (.int .i64 0)))
(cOp t53 (AD 59 [g3])
(cOp t54 (AD 58 [g53])
(cOp t2 (oMove g54)
AQ)))))))))))))))))))))))))
def b13:Body:=⟨[.t g2],c13⟩
def iI:List Nat:=[10,14,32,37,47,51,52]
theorem aF:AV ty iI Tryz.f13=some b13:=by kernel_rfl
def c15:C:=
(cOp t2 (oMove (kV (.bool false)))
(cOp t4 (AD 42 [g0])
(cG g4 true t6 (oMove g0)
(cG g4 true t7 (AU g6)
(cG g4 true t8 (AB 34 g7)
(cG g4 true t9 (AC g8)
(cG g4 true t10 (oMove g9)
(cG g10 false t11 (oMove g0)
(cG g10 false t12 (AU g11)
(cG g10 false t13 (AB 13 g12)
(cG g10 false t14 (AC g13)
(cG g10 false t15 (AD 60 [g14])
(cG g4 true t16 (AO g10 (kV (.bool true)) g15)
(cOp t17 (AO g4 g16 (kV (.bool false)))
(cOp t2 (oMove g17)
AQ)))))))))))))))
def b15:Body:=⟨[.t g2],c15⟩
def iJ:List Nat:=[3,5]
theorem aR:AV ty iJ Tryz.f15=some b15:=by kernel_rfl
def c16:C:=
(cOp t2 (oMove (kV (.pointer none)))
(cOp t3 (oMove (kV (.int .i64 0)))
(cOp t5 (AM iLt .i64 g0 (kV (.int .i64 1)))
(cG g5 false t7 (oMove g0)
(cG g5 false t8 (AM iGt .i64 g7 (kV (.int .i64 65536)))
(cOp t9 (AO g5 (kV (.bool true)) g8)
(AH g9
(cOp t2 (oMove (kV (.pointer none)))
(cOp t3 (oMove (kV (.int .i64 2)))
AQ))
(cOp t11 (Dz 64 P4.zero g0 g0)
(cOp t12 C8
(cOp t13 (Ac ZS.zero [(0,1,g11),(1,1,g12),(2,1,(kV (.int .i64 (-1))))])
(cOp t14 (Av g13)
(cOp t2 (oMove g14)
(cOp t3 (oMove (kV (.int .i64 0)))
AQ)))))))))))))
def b16:Body:=⟨[.t g2,.t g3],c16⟩
def iK:List Nat:=[4,6,10]
theorem ac:AV ty iK Tryz.f16=some b16:=by kernel_rfl
def c17:C:=
(cOp t0 (AY 256 iD)
(cOp t1 (AY 256 iD)
(cOp t2 (oMove (kV (.int .u32 2197175160)))
(cOp t6 (oMove (kV (.int .i64 0)))
(AZ (AP 0 (Aj (cOp t7 (AM iLt .i64 g6 (kV (.int .i64 8)))
(AH g7
(AZ (AP 1 (cOp t3 (oMove g6)
(cOp t10 (E0 .i64 (kV (.int .i64 128)) g3)
(cOp t12 (Aw 256 1 g1 g10)
(cDo (AE 1 g12 g2)
(cOp t14 (AD 61 [g2])
(cOp t2 (oMove g14)
cNorm)))))))
(cOp t15 (Ae .i64 (AW .i64) g6 (kV (.int .i64 1)))
(cOp t6 (oMove g15)
cNorm)))
(Ah 0)))))
(cOp t16 (oMove (kV (.int .i64 0)))
(AZ (AP 2 (Aj (cOp t17 (AM iLt .i64 g16 (kV (.int .i64 8)))
(AH g17
(AZ (AP 3 (cOp t4 (oMove g16)
(cOp t20 (IA .i64 (kV (.int .i64 1)) g4)
(cOp t21 (oMove (kV (.int .i64 0)))
(AP 4 (Aj (cOp t22 (AM iLt .i64 g21 g20)
(AH g22
(AZ (AP 5 (cOp t5 (oMove g21)
(Ad (cOp t25 (IA .i64 (kV (.int .i64 1)) g4)
(cOp t27 (Ez Nat.lor .i64 g25 g5)
(cOp t29 (IA .i64 (kV (.int .i64 1)) g4)
(cOp t30 (Aw 256 1 g1 g29)
(cOp t31 (AC g30)
(cOp t33 (Aw 256 1 g1 g5)
(cOp t34 (AC g33)
(cOp t35 (Ez Nat.xor .u32 g31 g34)
(cOp t36 (Aw 256 1 g1 g27)
(cDo (AS .free (AE 1 g36 g35))
cNorm)))))))))))))
(cOp t37 (Ae .i64 (AW .i64) g21 (kV (.int .i64 1)))
(cOp t21 (oMove g37)
cNorm)))
(Ah 4)))))))))
(cOp t38 (Ae .i64 (AW .i64) g16 (kV (.int .i64 1)))
(cOp t16 (oMove g38)
cNorm)))
(Ah 2)))))
(cOp t39 (AN 256 g1)
(cDo (AE 256 g0 g39)
AQ)))))))))
def b17:Body:=⟨[.cN g0 256],c17⟩
def iM:List Nat:=[8,9,11,13,18,19,23,24,26,28,32]
theorem am:AV ty iM Tryz.f17=some b17:=by kernel_rfl
def c18:C:=
(cOp t7 (Av g3)
(cOp t8 (oMove (kV (.pointer none)))
(cOp t9 (oMove (kV (.int .i64 0)))
(cOp t14 (oEq P7.k false g1 (kV (.pointer none)))
(cG g14 false t16 (oMove g1)
(cG g14 false t17 (AD 62 [g16])
(cG g14 false t18 (AM iEq .i64 g17 (kV (.int .i64 0)))
(cOp t19 (AO g14 (kV (.bool true)) g18)
(cG g19 false t21 (oMove g2)
(cG g19 false t22 (oEq P2.k false g21 (kV (.pointer none)))
(cOp t23 (AO g19 (kV (.bool true)) g22)
(AH g23
(cOp t8 (oMove (kV (.pointer none)))
(cOp t9 (oMove (kV (.int .i64 1)))
AQ))
(cOp t25 (AN 9 g7)
(cOp t26 (AD 63 [g1,g25])
(cOp t27 (Ak g26)
(AH g27
(cOp t8 (oMove (kV (.pointer none)))
(cOp t9 (oMove (kV (.int .i64 2)))
AQ))
(cOp t30 (AD 64 [g0])
(cOp t31 (AK 0 g30)
(cOp t32 (AK 1 g30)
(cOp t10 (oMove g31)
(cOp t11 (oMove g32)
(cOp t34 (AM iNe .i64 g11 (kV (.int .i64 0)))
(AH g34
(cOp t8 (oMove (kV (.pointer none)))
(cOp t9 (oMove g11)
AQ))
(Ad (cOp t36 (AN 9 g7)
(cOp t38 (As [g7,g7] (AD 62 [g1]))
(cOp t39 (AB 3 g7)
(cOp t40 (AC g39)
(cOp t41 (Ax Int.mul .i64 g38 g40)
(cOp t43 (As [g7,g39] (AD 62 [g1]))
(cOp t46 (As [g7,g39] (AD 65 []))
(cOp t47 (AS .strong C8)
(cOp t48 (Ac re.zero [(0,9,g36),(9,1,g41),(10,1,g43),(11,1,g2),(12,1,g10),(28,4,g46),(32,1,(kV (.bool true))),(33,1,g47)])
(cOp t49 (AS .strong (Av g48))
(cOp t12 (oMove g49)
(cOp t54 (AD 66 [g12,g1])
(cOp t55 (AK 0 g54)
(cOp t56 (AK 1 g54)
(cOp t57 (AU g12)
(cOp t58 (AB 14 g57)
(cDo (AE 7 g58 g55)
(cOp t11 (oMove g56)
(cOp t60 (AM iNe .i64 g11 (kV (.int .i64 0)))
(AH g60
(cOp t8 (oMove (kV (.pointer none)))
(cOp t9 (oMove g11)
AQ))
(cOp t65 (AU g12)
(cOp t66 (AB 14 g65)
(cOp t67 (AB 0 g66)
(cOp t68 (AC g67)
(cOp t69 (Ae .i64 (AW .i64) g68 (kV (.int .i64 1)))
(cOp t70 (Ac ND.zero [(0,1,(kV (.int .i64 1))),(1,1,g69)])
(cOp t71 (AD 54 [g12,g70])
(cOp t72 (AK 0 g71)
(cOp t73 (AK 1 g71)
(cOp t11 (oMove g73)
(cOp t75 (AM iNe .i64 g11 (kV (.int .i64 0)))
(AH g75
(cOp t8 (oMove (kV (.pointer none)))
(cOp t9 (oMove g11)
AQ))
(Ad (cOp t82 (AU g12)
(cOp t83 (AB 14 g82)
(cOp t84 (AB 5 g83)
(cOp t85 (AC g84)
(cOp t86 (AB 0 g7)
(cOp t87 (AC g86)
(cOp t89 (AU g12)
(cOp t90 (AB 14 g89)
(cOp t91 (AB 0 g90)
(cOp t92 (AC g91)
(cOp t93 (AB 2 g7)
(cOp t94 (AC g93)
(cOp t95 (AB 4 g7)
(cOp t96 (AC g95)
(cOp t97 (Ac ZT.zero [(0,1,g87),(1,1,g92),(2,1,g94),(3,1,g96)])
(cOp t98 (AS .free (AD 67 [g1,g2,g85,g97]))
(cOp t99 (AK 0 g98)
(cOp EN (AK 1 g98)
(cOp Dp (AU g12)
(cOp EO (AB 13 CJ)
(cDo (AS .free (AE 1 ED g99))
(cOp t11 (oMove DI)
(cOp EP (AM iNe .i64 g11 (kV (.int .i64 0)))
(AH CZ
(cOp t8 (oMove (kV (.pointer none)))
(cOp t9 (oMove g11)
AQ))
(cOp GR (AU g12)
(cOp Ht (AB 14 EE)
(cOp GS (AB 0 D2)
(cOp F9 (AC Fv)
(cOp GT (AM iGt .i64 Fw (kV (.int .i64 1)))
(AZ (AH Ev
(Ad (cOp GU (AU g12)
(cOp IC (AB 14 FM)
(cOp Jd (AB 1 HG)
(cOp Je (AB 1 JH)
(cOp ME (AC HI)
(cOp Jf (AU g12)
(cOp MG (AB 9 H5)
(cOp Jg (AC La)
(cOp Pt (FV .i64 (kV (.int .i64 4096)) DJ)
(cOp MH (Ae .i64 (AW .i64) LY Oh)
(cOp LB (Ae .i64 (AW .i64) J8 (kV (.int .i64 2)))
(cOp Jh (AU g12)
(cOp MI (AB 27 JI)
(cDo (AS .free (AE 1 JJ J9))
cNorm)))))))))))))))
cNorm)
(cOp t8 (oMove g12)
(cOp t9 (oMove (kV (.int .i64 0)))
AQ)))))))))))))))))))))))))))))))))))))))))))))))))))))))))))))))))))))))))))))))))))))))))
def b18:Body:=⟨[.t g8,.t g9],c18⟩
def iN:List Nat:=[13,15,20,24,28,29,33,35,37,42,44,45,50,51,52,53,59,61,62,63,64,74,76,77,78,79,80,81,88,103,105,106,112,113,119,128]
theorem au:AV ty iN Tryz.f18=some b18:=by kernel_rfl
def c19:C:=
(cOp t3 (AD 68 [g0])
(AH g3
AQ
(cOp t5 (AD 69 [g0])
(cOp t7 (AD 70 [g0])
cNorm))))
def b19:Body:=⟨[],c19⟩
def iO:List Nat:=[2,4,6]
theorem bF:AV ty iO Tryz.f19=some b19:=by kernel_rfl
def c20:C:=
(cOp t4 (oMove (kV (.int .i64 0)))
(cOp t5 (oMove (kV (.bool false)))
(cOp t10 (AD 68 [g0])
(AH g10
(cOp t4 (oMove (kV (.int .i64 0)))
(cOp t5 (oMove (kV (.bool false)))
AQ))
(cOp t12 (AD 69 [g0])
(cOp t6 (oMove (kV (.int .i64 0)))
(AZ (AP 0 (Aj (cOp t15 (AM iLt .i64 g6 g1)
(cG g15 true t17 (oMove g0)
(cG g15 true t18 (AD 71 [g17])
(cG g15 true t19 (Ak g18)
(cOp t20 (AO g15 g19 (kV (.bool false)))
(AH g20
(AZ (AP 1 (cOp t24 (AD 72 [g0])
(cOp t25 (oMove (kV (.int .i64 0)))
(AZ (AP 2 (Aj (cOp t26 (AM iLt .i64 g25 (kV (.int .i64 16)))
(AH g26
(AZ (AP 3 (cOp t7 (oMove g25)
(cOp t29 (Ke .i64 g6 (kV (.int .i64 6)))
(cOp t30 (AM iEq .i64 g29 (kV (.int .i64 0)))
(cG g30 true t32 (oMove g0)
(cG g30 true t33 (oMove g7)
(cG g30 true t34 (AU g32)
(cG g30 true t35 (AB 20 g34)
(cG g30 true t36 (Aw 16 1 g35 g33)
(cG g30 true t37 (AC g36)
(cG g30 true t38 (AM iGt .i64 g37 (kV (.int .i64 0)))
(cOp t39 (AO g30 g38 (kV (.bool false)))
(AH g39
(cOp t42 (AD 73 [g0,g7])
cNorm)
cNorm)))))))))))))
(cOp t43 (Ae .i64 (AW .i64) g25 (kV (.int .i64 1)))
(cOp t25 (oMove g43)
cNorm)))
(Ah 2)))))
(cOp t45 (AD 74 [g0])
(cOp t46 (Ak g45)
(AZ (AH g46
(cOp t48 (AD 75 [g0])
cNorm)
cNorm)
(cOp t8 (oMove (kV (.int .i64 0)))
(AZ (AP 4 (Aj (cOp t50 (AM iLt .i64 g8 (kV (.int .i64 2000)))
(cG g50 true t52 (oMove g0)
(cG g50 true t53 (AU g52)
(cG g50 true t54 (AB 13 g53)
(cG g50 true t55 (AC g54)
(cG g50 true t56 (AD 76 [g55])
(cG g50 true t57 (AM iGt .i64 g56 (kV (.int .i64 0)))
(cOp t58 (AO g50 g57 (kV (.bool false)))
(AH g58
(AZ (AP 5 (cOp t62 (AD 77 [g0,(kV (.int .i64 0))])
cNorm))
(cOp t60 (Ae .i64 (AW .i64) g8 (kV (.int .i64 1)))
(cOp t8 (oMove g60)
cNorm)))
(Ah 4))))))))))))
(cOp t64 (AD 70 [g0])
(cOp t66 (AD 78 [g0])
cNorm)))))))))))
(cOp t22 (Ae .i64 (AW .i64) g6 (kV (.int .i64 1)))
(cOp t6 (oMove g22)
cNorm)))
(Ah 0)))))))))
(cOp t69 (AD 71 [g0])
(cOp t4 (oMove g6)
(cOp t5 (oMove g69)
AQ))))))))))
def b20:Body:=⟨[.t g4,.t g5],c20⟩
def iP:List Nat:=[9,11,13,14,16,21,23,27,28,31,40,41,44,47,49,51,59,61,63,65,67,68]
theorem bN:AV ty iP Tryz.f20=some b20:=by kernel_rfl
def c21:C:=
(cOp t4 (oMove (kV (.bool false)))
(cOp t5 (oMove (kV (.int .i64 0)))
(cOp t7 (AD 68 [g0])
(AH g7
(cOp t4 (oMove (kV (.bool false)))
(cOp t5 (oMove (kV (.int .i64 1)))
AQ))
(cOp t9 (AU g0)
(cOp t10 (AB 19 g9)
(cOp t11 (AC g10)
(cOp t13 (AD 79 [g11,g1])
(cOp t14 (AK 0 g13)
(cOp t15 (AK 1 g13)
(cOp t4 (oMove g14)
(cOp t5 (oMove g15)
AQ))))))))))))
def b21:Body:=⟨[.t g4,.t g5],c21⟩
def iQ:List Nat:=[6,8,12]
theorem bT:AV ty iQ Tryz.f21=some b21:=by kernel_rfl
def c22:C:=
(cOp t5 (Av g2)
(cOp t6 (oMove (kV (.int .i64 0)))
(cOp t10 (AD 68 [g0])
(AH g10
(cOp t6 (oMove (kV (.int .i64 1)))
AQ)
(cOp t12 (AD 80 [g1])
(cOp t13 (Ak g12)
(AH g13
(cOp t6 (oMove (kV (.int .i64 2)))
AQ)
(Ad (cOp t17 (AU g0)
(cOp t18 (AB 36 g17)
(cOp t19 (Aw 16 1 g18 g1)
(cOp t20 (AC g19)
(cOp t21 (Ae .i64 (AW .i64) g20 (kV (.int .i64 1)))
(cOp t22 (AB 0 g5)
(BS g22 [g19]
(cDo (EJ g22 (AE 1 g22 g1))
(cOp t23 (AB 1 g5)
(cDo (AS .free (AE 1 g23 g21))
(Ad (cOp t26 (AU g0)
(cOp t27 (AB 11 g26)
(cOp t28 (AC g27)
(cOp t29 (AN 12 g5)
(cOp t30 (AS .free (AD 81 [g28,g29]))
(cOp t31 (AK 0 g30)
(cOp t32 (AK 1 g30)
(cOp t7 (oMove g31)
(cOp t8 (oMove g32)
(AZ (AP 0 (cOp t35 (AM iNe .i64 g8 (kV (.int .i64 0)))
(cOp t33 (oMove g35)
(AH g33
(cOp t6 (oMove (kV (.int .i64 2)))
AQ)
(cOp t39 (AU g0)
(cOp t40 (AB 20 g39)
(cOp t41 (Aw 16 1 g40 g1)
(cOp t42 (AC g41)
(cOp t43 (AM iGt .i64 g42 (kV (.int .i64 0)))
(cOp t36 (oMove g43)
(AH g36
(cOp t6 (oMove (kV (.int .i64 80)))
AQ)
(cOp t46 (AU g0)
(cOp t47 (AB 19 g46)
(cOp t48 (AC g47)
(cOp t49 (Aa g48)
(cOp t50 (AM iGe .i64 g49 (kV (.int .i64 200)))
(cOp t44 (oMove g50)
(AH g44
(cOp t6 (oMove (kV (.int .i64 5)))
AQ)
cNorm))))))))))))))))))
(cOp t52 (AD 69 [g0])
(cOp t53 (AB 11 g5)
(cOp t54 (AC g53)
(cOp t55 (AD 82 [g54])
(cOp t56 (AB 11 g5)
(cDo (AE 1 g56 g55)
(Ad (cOp t59 (AU g0)
(cOp t60 (AB 19 g59)
(cOp t61 (AC g60)
(cOp t62 (AN 12 g5)
(cOp t64 (AU g0)
(cOp t65 (AB 18 g64)
(cOp t66 (AC g65)
(cOp t67 (Ac NE.zero [(0,12,g62),(23,1,g66)])
(cOp t68 (AS .strong (AX 1 (Ao NE.zero 1) [(0,25,g67)]))
(cOp t69 (AS .free (Am 25 264 167 g61 g68))
(cOp t70 (AU g0)
(cOp t71 (AB 19 g70)
(cDo (AS .free (AE 1 g71 g69))
(Ad (cOp t77 (AU g0)
(cOp t78 (AB 19 g77)
(cOp t79 (AC g78)
(cOp t80 (Aa g79)
(cOp t81 (AB 1 g5)
(cOp t82 (AC g81)
(cOp t83 (AU g0)
(cOp t84 (AB 20 g83)
(cOp t85 (Aw 16 1 g84 g1)
(BS g85 [g81]
(cDo (EJ g85 (AE 1 g85 g80))
(cOp t86 (AU g0)
(cOp t87 (AB 36 g86)
(cOp t88 (Aw 16 1 g87 g1)
(cDo (AS .free (AE 1 g88 g82))
(cOp t91 (Ae .i64 (AW .i64) (kV (.int .i64 260)) g1)
(cOp t93 (AD 83 [g0,g91,(kV (.int .i64 290)),g7])
(cOp t6 (oMove (kV (.int .i64 0)))
AQ))))))))))))))))))))))))))))))))))))))))))))))))))))))))))))))))))))
def b22:Body:=⟨[.t g6],c22⟩
def iR:List Nat:=[9,11,14,15,16,24,25,34,37,38,45,51,57,58,63,72,73,74,75,76,89,90,92]
theorem bW:AV ty iR Tryz.f22=some b22:=by kernel_rfl
def c23:C:=
(cOp t4 (oMove (kV (.int .i64 0)))
(AZ (AP 0 (cOp t7 (AD 68 [g0])
(cOp t5 (oMove g7)
(AH g5
(cOp t4 (oMove (kV (.int .i64 1)))
AQ)
(cOp t10 (AD 80 [g1])
(cOp t11 (Ak g10)
(cOp t8 (oMove g11)
(AH g8
(cOp t4 (oMove (kV (.int .i64 2)))
AQ)
(cOp t15 (AU g0)
(cOp t16 (AB 20 g15)
(cOp t17 (Aw 16 1 g16 g1)
(cOp t18 (AC g17)
(cOp t19 (AM iEq .i64 g18 (kV (.int .i64 0)))
(cOp t12 (oMove g19)
(AH g12
(cOp t4 (oMove (kV (.int .i64 80)))
AQ)
cNorm)))))))))))))))
(cOp t21 (AD 69 [g0])
(cOp t24 (AD 73 [g0,g1])
(cOp t4 (oMove (kV (.int .i64 0)))
AQ)))))
def b23:Body:=⟨[.t g4],c23⟩
def iS:List Nat:=[6,9,13,14,20,22,23]
theorem bc:AV ty iS Tryz.f23=some b23:=by kernel_rfl
def c24:C:=
(cOp t4 (oMove (kV (.bool false)))
(cOp t6 (AD 68 [g0])
(cOp t7 (Ak g6)
(cG g7 true t9 (oMove g1)
(cG g7 true t10 (AD 80 [g9])
(cOp t11 (AO g7 g10 (kV (.bool false)))
(cG g11 true t13 (oMove g0)
(cG g11 true t14 (oMove g1)
(cG g11 true t15 (AU g13)
(cG g11 true t16 (AB 20 g15)
(cG g11 true t17 (Aw 16 1 g16 g14)
(cG g11 true t18 (AC g17)
(cG g11 true t19 (AM iGt .i64 g18 (kV (.int .i64 0)))
(cOp t20 (AO g11 g19 (kV (.bool false)))
(cOp t4 (oMove g20)
AQ)))))))))))))))
def b24:Body:=⟨[.t g4],c24⟩
def iT:List Nat:=[5,8,12]
theorem bj:AV ty iT Tryz.f24=some b24:=by kernel_rfl
def c25:C:=
(cOp t2 (oMove (kV (.int .i64 0)))
(cOp t4 (AD 68 [g0])
(AH g4
(cOp t2 (oMove (kV (.int .i64 0)))
AQ)
(cOp t6 (AU g0)
(cOp t7 (AB 13 g6)
(cOp t8 (AC g7)
(cOp t9 (AD 76 [g8])
(cOp t2 (oMove g9)
AQ))))))))
def b25:Body:=⟨[.t g2],c25⟩
def iU:List Nat:=[3,5]
theorem bw:AV ty iU Tryz.f25=some b25:=by kernel_rfl
def c26:C:=
(cOp t4 (oMove (kV (.int .i64 0)))
(cOp t8 (AD 84 [g0,g1])
(cOp t5 (oMove g8)
(cOp t10 (AM iNe .i64 g5 (kV (.int .i64 0)))
(AH g10
(cOp t4 (oMove g5)
AQ)
(cOp t13 (AD 69 [g0])
(cOp t16 (AD 77 [g0,g1])
(cOp t18 (AD 78 [g0])
(cOp t4 (oMove (kV (.int .i64 0)))
AQ)))))))))
def b26:Body:=⟨[.t g4],c26⟩
def iV:List Nat:=[6,7,9,11,12,14,15,17]
theorem cF:AV ty iV Tryz.f26=some b26:=by kernel_rfl
def c27:C:=
(cOp t4 (oMove (kV (.int .i64 0)))
(cOp t9 (AD 84 [g0,g1])
(cOp t5 (oMove g9)
(cOp t11 (AM iNe .i64 g5 (kV (.int .i64 0)))
(AH g11
(cOp t4 (oMove g5)
AQ)
(cOp t14 (AU g0)
(cOp t15 (AB 13 g14)
(cOp t16 (AC g15)
(cOp t18 (AD 85 [g16,g1])
(cOp t6 (oMove g18)
(cOp t20 (AM iNe .i64 g6 (kV (.int .i64 0)))
(AH g20
(cOp t4 (oMove g6)
AQ)
(cOp t23 (AD 69 [g0])
(cOp t25 (AU g0)
(cOp t26 (AB 56 g25)
(cOp t27 (AC g26)
(cOp t28 (Ae .i64 (AW .i64) g27 (kV (.int .i64 1)))
(cOp t29 (AU g0)
(cOp t30 (AB 56 g29)
(cDo (AE 1 g30 g28)
(cOp t4 (oMove (kV (.int .i64 0)))
AQ)))))))))))))))))))))
def b27:Body:=⟨[.t g4],c27⟩
def iW:List Nat:=[7,8,10,12,13,17,19,21,22,24]
theorem cR:AV ty iW Tryz.f27=some b27:=by kernel_rfl
def c28:C:=
(cOp t4 (oMove (kV (.int .i64 0)))
(cOp t8 (AD 84 [g0,g1])
(cOp t5 (oMove g8)
(cOp t10 (AM iNe .i64 g5 (kV (.int .i64 0)))
(AH g10
(cOp t4 (oMove g5)
AQ)
(cOp t13 (AD 69 [g0])
(cOp t15 (AU g0)
(cOp t16 (AB 13 g15)
(cOp t17 (AC g16)
(cOp t19 (AD 86 [g17,g1])
(cOp t21 (AU g0)
(cOp t22 (AB 58 g21)
(cOp t23 (AC g22)
(cOp t24 (Ae .i64 (AW .i64) g23 (kV (.int .i64 1)))
(cOp t25 (AU g0)
(cOp t26 (AB 58 g25)
(cDo (AE 1 g26 g24)
(cOp t4 (oMove (kV (.int .i64 0)))
AQ))))))))))))))))))
def b28:Body:=⟨[.t g4],c28⟩
def iX:List Nat:=[6,7,9,11,12,14,18,20]
theorem cX:AV ty iX Tryz.f28=some b28:=by kernel_rfl
def c29:C:=
(cOp t2 (oMove (kV (.int .i64 0)))
(AZ (AP 0 (cOp t5 (AD 68 [g0])
(cOp t3 (oMove g5)
(AH g3
(cOp t2 (oMove (kV (.int .i64 1)))
AQ)
(cOp t8 (AD 74 [g0])
(cOp t6 (oMove g8)
(AH g6
(cOp t2 (oMove (kV (.int .i64 15)))
AQ)
cNorm)))))))
(cOp t10 (AD 69 [g0])
(cOp t12 (AD 75 [g0])
(cOp t2 (oMove (kV (.int .i64 0)))
AQ)))))
def b29:Body:=⟨[.t g2],c29⟩
def iY:List Nat:=[4,7,9,11]
theorem ce:AV ty iY Tryz.f29=some b29:=by kernel_rfl
def c30:C:=
(cOp t6 (oMove (kV (.int .i64 0)))
(cOp t9 (AD 68 [g0])
(AH g9
(cOp t6 (oMove (kV (.int .i64 1)))
AQ)
(cOp t12 (AD 87 [g0,g1])
(cOp t7 (oMove g12)
(cOp t14 (oEq MN.k false g7 (kV (.pointer none)))
(AH g14
(cOp t6 (oMove (kV (.int .i64 2)))
AQ)
(cOp t16 (AD 69 [g0])
(cOp t19 (AD 88 [g7,g2])
(cOp t6 (oMove (kV (.int .i64 0)))
AQ))))))))))
def b30:Body:=⟨[.t g6],c30⟩
def iZ:List Nat:=[8,10,11,13,15,17,18]
theorem ci:AV ty iZ Tryz.f30=some b30:=by kernel_rfl
def c31:C:=
(cOp t6 (oMove (kV (.int .i64 0)))
(cOp t9 (AD 68 [g0])
(AH g9
(cOp t6 (oMove (kV (.int .i64 1)))
AQ)
(cOp t12 (AD 87 [g0,g1])
(cOp t13 (oEq MN.k false g12 (kV (.pointer none)))
(AH g13
(cOp t6 (oMove (kV (.int .i64 2)))
AQ)
(cOp t15 (AD 69 [g0])
(cOp t19 (AD 89 [g0,g1,g2])
(cOp t7 (oMove g19)
(cOp t21 (AD 78 [g0])
(cOp t6 (oMove g7)
AQ)))))))))))
def b31:Body:=⟨[.t g6],c31⟩
def ia:List Nat:=[8,10,11,14,16,17,18,20,22]
theorem cj:AV ty ia Tryz.f31=some b31:=by kernel_rfl
def c32:C:=
(cOp t10 (oMove (kV (.int .i64 0)))
(AZ (AP 0 (cOp t13 (AD 68 [g0])
(cOp t11 (oMove g13)
(AH g11
(cOp t10 (oMove (kV (.int .i64 1)))
AQ)
(cOp t16 (AM iLt .i64 g1 (kV (.int .i64 0)))
(cG g16 false t18 (oMove g1)
(cG g16 false t19 (oMove g0)
(cG g16 false t20 (AU g19)
(cG g16 false t21 (AB 15 g20)
(cG g16 false t22 (AC g21)
(cG g16 false t23 (Aa g22)
(cG g16 false t24 (AM iGe .i64 g18 g23)
(cOp t25 (AO g16 (kV (.bool true)) g24)
(cG g25 false t27 (oMove g2)
(cG g25 false t28 (AM iLt .i64 g27 (kV (.int .i64 0)))
(cOp t29 (AO g25 (kV (.bool true)) g28)
(cG g29 false t31 (oMove g2)
(cG g29 false t32 (oMove g0)
(cG g29 false t33 (AU g32)
(cG g29 false t34 (AB 14 g33)
(cG g29 false t35 (AC g34)
(cG g29 false t36 (oMove g1)
(cG g29 false t37 (Ai 1 g35 g36)
(cG g29 false t38 (AC g37)
(cG g29 false t39 (AD 90 [g38])
(cG g29 false t40 (AM iGe .i64 g31 g39)
(cOp t41 (AO g29 (kV (.bool true)) g40)
(cG g41 false t43 (oMove g3)
(cG g41 false t44 (AM iLt .i64 g43 (kV (.int .i64 0)))
(cOp t45 (AO g41 (kV (.bool true)) g44)
(cG g45 false t47 (oMove g3)
(cG g45 false t48 (AM iGe .i64 g47 (kV (.int .i64 64)))
(cOp t49 (AO g45 (kV (.bool true)) g48)
(cG g49 false t51 (oMove g4)
(cG g49 false t52 (AM iEq .u8 g51 (kV (.int .u8 0)))
(cOp t53 (AO g49 (kV (.bool true)) g52)
(cOp t14 (oMove g53)
(AH g14
(cOp t10 (oMove (kV (.int .i64 2)))
AQ)
(cOp t56 (AD 91 [g0])
(cOp t57 (Ak g56)
(cG g57 false t59 (oMove g0)
(cG g57 false t60 (AU g59)
(cG g57 false t61 (AB 54 g60)
(cG g57 false t62 (AC g61)
(cG g57 false t63 (oMove g1)
(cG g57 false t64 (oMove g2)
(cG g57 false t65 (Ac Py.zero [(0,1,g63),(1,1,g64)])
(cG g57 false t66 (BN ⟨true,[.i .i64,.i .i64]⟩ (.bool false) false g62 g65)
(cOp t67 (AO g57 (kV (.bool true)) g66)
(cG g67 false t69 (oMove g0)
(cG g67 false t70 (oMove g1)
(cG g67 false t71 (oMove g0)
(cG g67 false t72 (BE (.func 93) [g71] [])
(cG g67 false t73 (AD 92 [g69,g70,g72])
(cG g67 false t74 (Ak g73)
(cOp t75 (AO g67 (kV (.bool true)) g74)
(cOp t54 (oMove g75)
(AH g54
(cOp t10 (oMove (kV (.int .i64 80)))
AQ)
cNorm))))))))))))))))))))))))))))))))))))))))))))))))))))))))))
(cOp t77 (AD 69 [g0])
(cOp t79 (AU g0)
(cOp t80 (AB 14 g79)
(cOp t81 (AC g80)
(cOp t83 (Ai 1 g81 g1)
(cOp t84 (AC g83)
(cOp t88 (AD 94 [g84,g2,g3,g4])
(cOp t90 (AU g0)
(cOp t91 (AB 54 g90)
(cOp t92 (AC g91)
(cOp t95 (Ac Py.zero [(0,1,g1),(1,1,g2)])
(cDo (Ar ⟨true,[.i .i64,.i .i64]⟩ g92 g95 (kV (.bool true)))
(Ad (cOp t97 (AU g0)
(cOp t98 (AB 52 g97)
(cOp t99 (AC g98)
(cOp EO (AU g0)
(cOp D4 (AB 18 ED)
(cOp EP (AC Da)
(cDo (AS .free (Ar ⟨false,[.i .i64]⟩ g99 g1 CZ))
(cOp t10 (oMove (kV (.int .i64 0)))
AQ)))))))))))))))))))))))
def b32:Body:=⟨[.t g10],c32⟩
def ic:List Nat:=[12,15,17,26,30,42,46,50,55,58,68,76,78,82,85,86,87,89,93,94,96,100,101]
theorem cy:AV ty ic Tryz.f32=some b32:=by kernel_rfl
def c33:C:=
(cOp t3 (Av g0)
(cOp t4 (Av g1)
(cOp t5 (Av g2)
(cOp t6 (oMove (kV (.int .i64 0)))
(cOp t10 (BE (.func 95) [] [g3])
(cOp t7 (oMove g10)
(cOp t11 (BE (.func 96) [] [g3,g4,g5])
(cOp t8 (oMove g11)
(AZ (AP 0 (cOp t13 (AC g3)
(cOp t14 (AD 68 [g13])
(cOp t12 (oMove g14)
(AH g12
(cOp t6 (oMove (kV (.int .i64 1)))
AQ)
(Ad (cOp t16 (AC g4)
(cOp t17 (AM iLt .i64 g16 (kV (.int .i64 0)))
(cG g17 false t19 (AC g4)
(cG g17 false t20 (AC g3)
(cG g17 false t21 (AU g20)
(cG g17 false t22 (AB 15 g21)
(cG g17 false t23 (AC g22)
(cG g17 false t24 (Aa g23)
(cG g17 false t25 (AM iGe .i64 g19 g24)
(cOp t26 (AO g17 (kV (.bool true)) g25)
(cG g26 false t28 (oMove g7)
(cG g26 false t29 (AC g5)
(cG g26 false t30 (AS .free (A1 g28 [g29]))
(cG g26 false t31 (Ak g30)
(cOp t32 (AO g26 (kV (.bool true)) g31)
(cG g32 false t34 (AC g4)
(cG g32 false t35 (AC g5)
(cG g32 false t36 (AM iEq .i64 g34 g35)
(cOp t37 (AO g32 (kV (.bool true)) g36)
(cOp t15 (oMove g37)
(AH g15
(cOp t6 (oMove (kV (.int .i64 2)))
AQ)
(cOp t39 (AC g3)
(cOp t40 (AD 91 [g39])
(cOp t41 (Ak g40)
(cG g41 false t43 (AC g3)
(cG g41 false t44 (AC g5)
(cG g41 false t45 (oMove g8)
(cG g41 false t46 (AD 92 [g43,g44,g45])
(cG g41 false t47 (Ak g46)
(cOp t48 (AO g41 (kV (.bool true)) g47)
(cOp t38 (oMove g48)
(AH g38
(cOp t6 (oMove (kV (.int .i64 80)))
AQ)
cNorm))))))))))))))))))))))))))))))))))))))
(Ad (cOp t49 (AC g3)
(cOp t50 (AU g49)
(cOp t51 (AB 17 g50)
(cOp t52 (AC g51)
(cOp t53 (AC g4)
(cOp t54 (AC g5)
(cOp t55 (AS .free (AD 11 [g52,g53,g54]))
(cOp t9 (oMove g55)
(cOp t57 (AM iNe .i64 g9 (kV (.int .i64 0)))
(AH g57
(cOp t6 (oMove g9)
AQ)
(cOp t59 (AC g3)
(cOp t60 (AD 69 [g59])
(Ad (cOp t61 (AC g3)
(cOp t62 (AU g61)
(cOp t63 (AB 53 g62)
(cOp t64 (AC g63)
(cOp t65 (AC g5)
(cDo (AS .free (Ar ⟨false,[.i .i64]⟩ g64 g65 (kV (.bool true))))
(Ad (cOp t66 (AC g3)
(cOp t67 (AU g66)
(cOp t68 (AB 52 g67)
(cOp t69 (AC g68)
(cOp t70 (AC g5)
(cOp t71 (AC g3)
(cOp t72 (AU g71)
(cOp t73 (AB 18 g72)
(cOp t74 (AC g73)
(cDo (AS .free (Ar ⟨false,[.i .i64]⟩ g69 g70 g74))
(cOp t75 (AC g3)
(cOp t76 (AD 78 [g75])
(cOp t6 (oMove (kV (.int .i64 0)))
AQ)))))))))))))))))))))))))))))))))))))))))))
def b33:Body:=⟨[.t g6],c33⟩
def ie:List Nat:=[18,27,33,42,56,58]
theorem dG:AV ty ie Tryz.f33=some b33:=by kernel_rfl
def c34:C:=
(cOp t2 (oMove (kV (.bool false)))
(cOp t4 (AD 68 [g0])
(cOp t5 (Ak g4)
(cG g5 true t7 (oMove g0)
(cG g5 true t8 (AD 98 [g7])
(cOp t9 (AO g5 g8 (kV (.bool false)))
(cOp t2 (oMove g9)
AQ)))))))
def b34:Body:=⟨[.t g2],c34⟩
def ig:List Nat:=[3,6]
theorem dJ:AV ty ig Tryz.f34=some b34:=by kernel_rfl
def c35:C:=
(cOp t2 (oMove (kV (.slice none 0 0)))
(cOp t7 (AD 68 [g0])
(AH g7
(cOp t2 (oMove (kV (.slice none 0 0)))
AQ)
(cOp t9 (AU g0)
(cOp t10 (AB 19 g9)
(cOp t11 (AC g10)
(cOp t12 (AD 99 [g11])
(cOp t3 (oMove g12)
(cOp t14 (Aa g3)
(cOp t15 (oMove (kV (.int .i64 0)))
(AZ (AP 0 (Aj (cOp t16 (AM iLt .i64 g15 g14)
(AH g16
(AZ (AP 1 (cOp t4 (oMove g15)
(cOp t20 (Ai 25 g3 g4)
(cOp t5 (oMove g20)
(Ad (cOp t25 (AU g5)
(cOp t26 (AB 0 g25)
(cOp t27 (AB 11 g26)
(cOp t28 (AC g27)
(cOp t29 (AS .weak (AD 82 [g28]))
(cOp t31 (AU g5)
(cOp t32 (AB 12 g31)
(cOp t33 (AB 7 g32)
(CU g33 (BS g33 []
(cOp t34 (AC g33)
(cOp t35 (AS .weak (AD 82 [g34]))
(cOp t37 (AU g5)
(cOp t38 (AB 12 g37)
(cOp t39 (AB 8 g38)
(CU g39 (BS g39 []
(cOp t40 (AC g39)
(cOp t41 (AS .free (AD 100 [g40]))
(cOp t42 (AU g5)
(cOp t43 (AB 0 g42)
(cOp t44 (AB 11 g43)
(cDo (AS .free (AE 1 g44 g29))
(cOp t45 (AU g5)
(cOp t46 (AB 12 g45)
(cOp t47 (AB 7 g46)
(cDo (AS .free (AE 1 g47 g35))
(cOp t48 (AU g5)
(cOp t49 (AB 12 g48)
(cOp t50 (AB 8 g49)
(cDo (AS .free (AE 1 g50 g41))
cNorm))))))))))))))))))))))))))))))))))))
(cOp t51 (Ae .i64 (AW .i64) g15 (kV (.int .i64 1)))
(cOp t15 (oMove g51)
cNorm)))
(Ah 0)))))
(cOp t2 (oMove g3)
AQ))))))))))))
def b35:Body:=⟨[.t g2],c35⟩
def ii:List Nat:=[6,8,13,17,18,19,21,22,23,24,30,36,52]
theorem dQ:AV ty ii Tryz.f35=some b35:=by kernel_rfl
def c36:C:=
(cOp t2 (AY 4 yC)
(cOp t7 (AD 68 [g0])
(AH g7
(cOp t8 (Ac Iv.zero [])
(cDo (AE 4 g2 g8)
AQ))
(cOp t3 (oMove (kV (.int .i64 0)))
(cOp t4 (oMove (kV (.int .i64 0)))
(cOp t10 (AU g0)
(cOp t11 (AB 17 g10)
(cOp t12 (AC g11)
(cOp t13 (oEq MM.k true g12 (kV (.pointer none)))
(AZ (AH g13
(cOp t16 (AD 101 [g0])
(cOp t17 (AK 0 g16)
(cOp t18 (AK 1 g16)
(cOp t19 (AK 2 g16)
(cOp t3 (oMove g17)
(cOp t4 (oMove g18)
cNorm))))))
cNorm)
(cOp t21 (AU g0)
(cOp t22 (AB 56 g21)
(cOp t23 (AC g22)
(cOp t24 (GP g23)
(cOp t5 (oMove g24)
(Ad (cOp t26 (AU g0)
(cOp t27 (AB 57 g26)
(cOp t28 (AC g27)
(cOp t29 (GP g28)
(cOp t31 (AS .weak (AD 102 [g29,g5]))
(cOp t33 (AU g0)
(cOp t34 (AB 58 g33)
(CU g34 (BS g34 []
(cOp t35 (AC g34)
(cOp t36 (GP g35)
(cOp t37 (In g36)
(cOp t39 (AS .weak (AD 102 [g37,g5]))
(cOp t41 (GP g3)
(cOp t43 (GP g4)
(cOp t44 (AS .weak (AD 102 [g41,g43]))
(cOp t46 (AU g0)
(cOp t47 (AB 59 g46)
(CU g47 (BS g47 []
(cOp t48 (AC g47)
(cOp t49 (GP g48)
(cOp t51 (AU g0)
(cOp t52 (AB 60 g51)
(CU g52 (BS g52 []
(cOp t53 (AC g52)
(cOp t54 (GP g53)
(cOp t55 (AS .free (AD 102 [g49,g54]))
(cOp t56 (Ac Iv.zero [(0,1,g31),(1,1,g39),(2,1,g44),(3,1,g55)])
(cDo (AS .free (AE 4 g2 g56))
AQ)))))))))))))))))))))))))))))))))))))))))))))))
def b36:Body:=⟨[.cN g2 4],c36⟩
def ij:List Nat:=[6,9,14,15,20,25,30,32,38,40,42,45,50]
theorem dT:AV ty ij Tryz.f36=some b36:=by kernel_rfl
def c37:C:=
(cOp t2 (AY 7 Fh)
(cOp t4 (AD 68 [g0])
(AH g4
(cOp t5 (Ac OJ.zero [])
(cDo (AE 7 g2 g5)
AQ))
(cOp t7 (AU g0)
(cOp t8 (AB 17 g7)
(cOp t9 (AC g8)
(cOp t10 (AD 12 [g9])
(cDo (AE 7 g2 g10)
AQ))))))))
def b37:Body:=⟨[.cN g2 7],c37⟩
def ik:List Nat:=[3,6]
theorem dV:AV ty ik Tryz.f37=some b37:=by kernel_rfl
def c38:C:=
(cOp t2 (oMove (kV (.bool false)))
(cOp t4 (AD 68 [g0])
(cOp t5 (Ak g4)
(cG g5 true t7 (oMove g0)
(cG g5 true t8 (AD 74 [g7])
(cOp t9 (AO g5 g8 (kV (.bool false)))
(cOp t2 (oMove g9)
AQ)))))))
def b38:Body:=⟨[.t g2],c38⟩
def il:List Nat:=[3,6]
theorem dY:AV ty il Tryz.f38=some b38:=by kernel_rfl
def c39:C:=
(cOp t0 (oMove (kV (.bool false)))
(cOp t5 (AD 103 [])
(cOp t6 (AK 0 g5)
(cOp t7 (AK 1 g5)
(cOp t1 (oMove g6)
(cOp t2 (oMove g7)
(cOp t9 (Ak g2)
(cG g9 false t11 (oMove g1)
(cG g9 false t12 (AD 36 [g11])
(cG g9 false t13 (Ac Iv.zero [(0,1,(kV (.int .u64 9221120237041090561))),(1,1,(kV (.int .u64 9221120237041090561))),(2,1,(kV (.int .u64 9221120237041090561))),(3,1,(kV (.int .u64 9221120237041090561)))])
(cG g9 false t14 (D3 ⟨true,[.i .u64,.i .u64,.i .u64,.i .u64]⟩ true g12 g13)
(cOp t15 (AO g9 (kV (.bool true)) g14)
(cG g15 false t17 (oMove g1)
(cG g15 false t18 (AD 104 [])
(cG g15 false t19 (Ac P6.zero [(2,1,(kV (.int .u8 2))),(3,2,g18),(5,1,(kV (.string ⟨#[102]⟩)))])
(cG g15 false t20 (AD 22 [g17,(kV (.int .i64 0)),g19])
(cG g15 false t21 (AM iNe .i64 g20 (kV (.int .i64 0)))
(cOp t22 (AO g15 (kV (.bool true)) g21)
(cG g22 false t24 (oMove g1)
(cG g22 false t25 (AD 25 [g24])
(cG g22 false t26 (AM iNe .i64 g25 (kV (.int .i64 1)))
(cOp t27 (AO g22 (kV (.bool true)) g26)
(cG g27 false t29 (oMove g1)
(cG g27 false t30 (AD 24 [g29,(kV (.int .i64 0))])
(cG g27 false t31 (Ak g30)
(cOp t32 (AO g27 (kV (.bool true)) g31)
(AH g32
(cOp t0 (oMove (kV (.bool false)))
AQ)
(cOp t34 (AD 26 [g1,(kV (.int .i64 0))])
(cOp t35 (AM iNe .i64 g34 (kV (.int .i64 0)))
(cG g35 false t37 (oMove g1)
(cG g35 false t38 (AD 29 [g37])
(cG g35 false t39 (AM iNe .i64 g38 (kV (.int .i64 0)))
(cOp t40 (AO g35 (kV (.bool true)) g39)
(cG g40 false t42 (oMove g1)
(cG g40 false t43 (AD 25 [g42])
(cG g40 false t44 (AM iNe .i64 g43 (kV (.int .i64 1)))
(cOp t45 (AO g40 (kV (.bool true)) g44)
(cG g45 false t47 (oMove g1)
(cG g45 false t48 (AD 26 [g47,(kV (.int .i64 0))])
(cG g45 false t49 (AM iNe .i64 g48 (kV (.int .i64 0)))
(cOp t50 (AO g45 (kV (.bool true)) g49)
(cG g50 false t52 (oMove g1)
(cG g50 false t53 (AD 24 [g52,(kV (.int .i64 0))])
(cOp t54 (AO g50 (kV (.bool true)) g53)
(AH g54
(cOp t0 (oMove (kV (.bool false)))
AQ)
(cOp t56 (AD 35 [g1])
(cOp t3 (oMove g56)
(cOp t58 (Aa g3)
(cOp t59 (AM iEq .i64 g58 (kV (.int .i64 1)))
(cG g59 true t61 (oMove g3)
(cG g59 true t62 (Ai 25 g61 (kV (.int .i64 0)))
(cG g59 true t63 (AB 12 g62)
(cG g59 true t64 (AB 3 g63)
(cG g59 true t65 (AN 2 g64)
(cG g59 true t66 (Ac D5.zero [(0,1,(kV (.int .i64 2))),(1,1,(kV (.int .i64 1)))])
(cG g59 true t67 (D3 ⟨true,[.i .i64,.i .i64]⟩ false g65 g66)
(cOp t68 (AO g59 g67 (kV (.bool false)))
(cG g68 true t70 (oMove g3)
(cG g68 true t71 (Ai 25 g70 (kV (.int .i64 0)))
(cG g68 true t72 (AB 23 g71)
(cG g68 true t73 (AC g72)
(cG g68 true t74 (AM iEq .i64 g73 (kV (.int .i64 1)))
(cOp t75 (AO g68 g74 (kV (.bool false)))
(cG g75 true t77 (oMove g3)
(cG g75 true t78 (Ai 25 g77 (kV (.int .i64 0)))
(cG g75 true t79 (AB 24 g78)
(cG g75 true t80 (AC g79)
(cG g75 true t81 (AM iEq .i64 g80 (kV (.int .i64 4)))
(cOp t82 (AO g75 g81 (kV (.bool false)))
(cG g82 true t84 (oMove g1)
(cG g82 true t85 (AD 36 [g84])
(cG g82 true t86 (Ac Iv.zero [(0,1,(kV (.int .u64 4607182418800017408))),(1,1,(kV (.int .u64 9223372036854775808))),(2,1,(kV (.int .u64 9221120237041090561))),(3,1,(kV (.int .u64 0)))])
(cG g82 true t87 (D3 ⟨true,[.i .u64,.i .u64,.i .u64,.i .u64]⟩ false g85 g86)
(cOp t88 (AO g82 g87 (kV (.bool false)))
(cOp t0 (oMove g88)
AQ)))))))))))))))))))))))))))))))))))))))))))))))))))))))))))))))))))))))))))
def b39:Body:=⟨[.t g0],c39⟩
def im:List Nat:=[4,8,10,16,23,28,33,36,41,46,51,55,57,60,69,76,83]
theorem de:AV ty im Tryz.f39=some b39:=by kernel_rfl
def c42:C:=
(cOp t2 (oMove (kV (.bool false)))
(cOp t4 (oEq MM.k true g0 (kV (.pointer none)))
(cG g4 true t6 (oMove g0)
(cG g4 true t7 (AU g6)
(cG g4 true t8 (AB 13 g7)
(cG g4 true t9 (AC g8)
(cG g4 true t10 (oEq hR.k true g9 (kV (.pointer none)))
(cOp t11 (AO g4 g10 (kV (.bool false)))
(cOp t2 (oMove g11)
AQ)))))))))
def b42:Body:=⟨[.t g2],c42⟩
def io:List Nat:=[3,5]
theorem dw:AV ty io Tryz.f42=some b42:=by kernel_rfl
def c43:C:=
(cOp t2 (oMove (kV (.bool false)))
(cOp t7 (AU g0)
(cOp t8 (AB 21 g7)
(cOp t9 (AC g8)
(cOp t10 (Aa g9)
(cOp t11 (AM iEq .i64 g10 (kV (.int .i64 0)))
(AH g11
(cOp t2 (oMove (kV (.bool false)))
AQ)
(cOp t13 (AU g0)
(cOp t14 (AB 21 g13)
(cOp t15 (AC g14)
(cOp t16 (Ai 12 g15 (kV (.int .i64 0)))
(cOp t17 (AN 12 g16)
(cOp t3 (AY 12 Vm)
(cDo (AE 12 g3 g17)
(cOp t20 (AU g0)
(cOp t21 (AB 21 g20)
(cOp t22 (AC g21)
(cOp t23 (BF 72 12 g22 (some (kV (.int .i64 1))) none none)
(cOp t24 (AU g0)
(cOp t25 (AB 21 g24)
(cDo (AE 1 g25 g23)
(Ad (cOp t28 (AU g0)
(cOp t29 (AB 14 g28)
(cOp t30 (AN 7 g29)
(cOp t32 (AU g0)
(cOp t33 (AB 9 g32)
(cOp t34 (AC g33)
(cOp t35 (AN 12 g3)
(cOp t36 (As [] (AD 112 [g30,g34,g35]))
(cOp t37 (AK 0 g36)
(cOp t38 (AK 1 g36)
(cOp t4 (AS .strong (AY 14 LJ))
(cDo (AS .free (AE 14 g4 g37))
(cOp t5 (oMove g38)
(AZ (AP 0 (cOp t41 (AM iNe .i64 g5 (kV (.int .i64 0)))
(cG g41 false t43 (AB 0 g4)
(cG g41 false t44 (AC g43)
(cG g41 false t45 (AM iEq .i64 g44 (kV (.int .i64 4)))
(cOp t46 (AO g41 (kV (.bool true)) g45)
(cOp t39 (oMove g46)
(AH g39
(cOp t2 (oMove (kV (.bool true)))
AQ)
(cOp t48 (AB 0 g4)
(cOp t49 (AC g48)
(cOp t50 (AM iEq .i64 g49 (kV (.int .i64 3)))
(cG g50 false t52 (AB 0 g4)
(cG g50 false t53 (AC g52)
(cG g50 false t54 (AM iEq .i64 g53 (kV (.int .i64 1)))
(cG g50 false t55 (oMove g54)
(cG g55 true t56 (AB 12 g4)
(cG g55 true t57 (AC g56)
(cG g55 true t58 (Aa g57)
(cG g55 true t59 (AM iEq .i64 g58 (kV (.int .i64 0)))
(cG g50 false t60 (AO g55 g59 (kV (.bool false)))
(cOp t61 (AO g50 (kV (.bool true)) g60)
(cOp t47 (oMove g61)
(AH g47
(cOp t64 (AN 12 g3)
(cOp t65 (AN 14 g4)
(cOp t66 (AD 114 [g0,g64,g65])
(cOp t67 (AD 113 [g0,g66])
(cOp t2 (oMove (kV (.bool true)))
AQ)))))
cNorm)))))))))))))))))))))))
(Ad (cOp t69 (AN 12 g3)
(cOp t70 (AN 14 g4)
(cOp t72 (AU g0)
(cOp t73 (AB 22 g72)
(cOp t74 (AC g73)
(cOp t76 (AU g0)
(cOp t77 (AB 0 g76)
(cOp t78 (AB 5 g77)
(cOp t79 (AC g78)
(cOp t80 (Ae .i64 (AW .i64) g74 g79)
(cOp t81 (AS .strong C8)
(cOp t82 (AS .strong C8)
(cOp t83 (AS .strong C8)
(cOp t84 (Ac ZQ.zero [(0,12,g69),(12,14,g70),(26,1,g80),(27,1,g81),(28,1,g82),(29,1,g83)])
(cOp t85 (AS .strong (Av g84))
(cOp t86 (AU g0)
(cOp t87 (AB 24 g86)
(cDo (AS .free (AE 1 g87 g85))
(cOp t2 (oMove (kV (.bool true)))
AQ))))))))))))))))))))))))))))))))))))))))))))))))))))))))
def b43:Body:=⟨[.t g2],c43⟩
def ip:List Nat:=[6,12,18,19,26,27,31,40,42,51,62,63,68,71,75]
theorem d7:AV ty ip Tryz.f43=some b43:=by kernel_rfl
def c44:C:=
(cOp t2 (oMove (kV (.bool false)))
(cOp t9 (AU g0)
(cOp t10 (AB 24 g9)
(cOp t11 (AC g10)
(cOp t3 (oMove g11)
(cOp t14 (AD 115 [g0])
(cOp t15 (AK 0 g14)
(cOp t16 (AK 1 g14)
(cOp t4 (oMove g15)
(cOp t5 (oMove g16)
(AZ (AP 0 (Ad (cG g5 false t20 (oMove g4)
(cG g5 false t21 (Ak g20)
(cG g5 false t22 (oMove g21)
(cG g22 true t23 (oMove g0)
(cG g22 true t24 (AU g23)
(cG g22 true t25 (AB 22 g24)
(cG g22 true t26 (AC g25)
(cG g22 true t27 (oMove g3)
(cG g22 true t28 (AU g27)
(cG g22 true t29 (AB 26 g28)
(cG g22 true t30 (AC g29)
(cG g22 true t31 (AM iGe .i64 g26 g30)
(cG g5 false t32 (AO g22 g31 (kV (.bool false)))
(cOp t33 (AO g5 (kV (.bool true)) g32)
(cOp t17 (oMove g33)
(AH g17
(cOp t35 (AD 116 [g0])
(cOp t2 (oMove (kV (.bool true)))
AQ))
(cOp t38 (Ak g4)
(cOp t36 (oMove g38)
(AH g36
(cOp t2 (oMove (kV (.bool false)))
AQ)
(cOp t41 (AU g3)
(cOp t42 (AB 12 g41)
(cOp t43 (AB 0 g42)
(cOp t44 (AC g43)
(cOp t45 (AM iEq .i64 g44 (kV (.int .i64 1)))
(cOp t39 (oMove g45)
(AH g39
(cOp t47 (AD 117 [g0])
(cOp t2 (oMove (kV (.bool true)))
AQ))
(cOp t50 (AU g3)
(cOp t51 (AB 12 g50)
(cOp t52 (AB 13 g51)
(cOp t53 (AC g52)
(cOp t54 (Aa g53)
(cOp t55 (AM iEq .i64 g54 (kV (.int .i64 0)))
(cOp t48 (oMove g55)
(AH g48
(cOp t57 (AD 118 [g0,(kV (.slice none 0 0))])
(cOp t2 (oMove (kV (.bool true)))
AQ))
cNorm))))))))))))))))))))))))))))))))))))
(cOp t60 (AD 119 [g0])
(cOp t61 (AK 0 g60)
(cOp t62 (AK 1 g60)
(cOp t6 (oMove g61)
(cOp t7 (oMove g62)
(AZ (AP 1 (Ad (cG g7 false t66 (oMove g6)
(cG g7 false t67 (Ak g66)
(cG g7 false t68 (oMove g67)
(cG g68 true t69 (oMove g0)
(cG g68 true t70 (AU g69)
(cG g68 true t71 (AB 22 g70)
(cG g68 true t72 (AC g71)
(cG g68 true t73 (oMove g3)
(cG g68 true t74 (AU g73)
(cG g68 true t75 (AB 26 g74)
(cG g68 true t76 (AC g75)
(cG g68 true t77 (AM iGe .i64 g72 g76)
(cG g7 false t78 (AO g68 g77 (kV (.bool false)))
(cOp t79 (AO g7 (kV (.bool true)) g78)
(cOp t63 (oMove g79)
(AH g63
(cOp t81 (AD 116 [g0])
(cOp t2 (oMove (kV (.bool true)))
AQ))
(cOp t84 (Ak g6)
(cOp t82 (oMove g84)
(AH g82
(cOp t2 (oMove (kV (.bool false)))
AQ)
cNorm)))))))))))))))))))))
(cOp t87 (AU g3)
(cOp t88 (AB 30 g87)
(cOp t89 (AC g88)
(cOp t90 (AD 118 [g0,g89])
(cOp t2 (oMove (kV (.bool true)))
AQ))))))))))))))))))))))
def b44:Body:=⟨[.t g2],c44⟩
def iq:List Nat:=[8,12,13,18,19,34,37,40,46,49,56,58,59,64,65,80,83,85,86]
theorem d8:AV ty iq Tryz.f44=some b44:=by kernel_rfl
def c45:C:=
(cOp t2 (oMove (kV (.slice none 0 0)))
(cOp t9 (AU g0)
(cOp t10 (AB 26 g9)
(cOp t11 (AC g10)
(cOp t12 (Aa g11)
(cOp t13 (oMove (kV (.int .i64 0)))
(AZ (AP 0 (Aj (cOp t14 (AM iLt .i64 g13 g12)
(AH g14
(AZ (AP 1 (cOp t16 (Ai 1 g11 g13)
(cOp t17 (AC g16)
(cOp t3 (oMove g13)
(cOp t4 (oMove g17)
(cOp t20 (AU g0)
(cOp t21 (AB 13 g20)
(cOp t22 (AC g21)
(cOp t24 (AD 120 [g22,g4])
(cOp t25 (AK 0 g24)
(cOp t26 (AK 1 g24)
(cOp t5 (AY 5 QE)
(cDo (AE 5 g5 g25)
(cOp t6 (oMove g26)
(cOp t28 (Ak g6)
(cG g28 false t30 (AB 3 g5)
(cG g28 false t31 (AC g30)
(cG g28 false t32 (AM iEq .i64 g31 (kV (.int .i64 4)))
(cOp t33 (AO g28 (kV (.bool true)) g32)
(cG g33 false t35 (AB 3 g5)
(cG g33 false t36 (AC g35)
(cG g33 false t37 (AM iEq .i64 g36 (kV (.int .i64 6)))
(cOp t38 (AO g33 (kV (.bool true)) g37)
(cG g38 false t40 (oMove g0)
(cG g38 false t41 (AU g40)
(cG g38 false t42 (AB 26 g41)
(cG g38 false t43 (AC g42)
(cG g38 false t44 (Aa g43)
(cG g38 false t45 (oMove g3)
(cG g38 false t46 (Ax Int.sub .i64 g44 g45)
(cG g38 false t47 (AM iGt .i64 g46 (kV (.int .i64 100)))
(cOp t48 (AO g38 (kV (.bool true)) g47)
(cOp t7 (oMove g48)
(AH g7
(cOp t51 (AU g0)
(cOp t52 (AB 13 g51)
(cOp t53 (AC g52)
(cOp t55 (AD 121 [g53,g4])
(Ah 1)))))
(cOp t58 (AX 1 (Ao ty3.zero 1) [(0,1,g4)])
(cOp t59 (Am 1 8 3 g2 g58)
(cOp t2 (oMove g59)
cNorm)))))))))))))))))))))))))))))))))))))
(cOp t60 (Ae .i64 (AW .i64) g13 (kV (.int .i64 1)))
(cOp t13 (oMove g60)
cNorm)))
(Ah 0)))))
(cOp t63 (AU g0)
(cOp t64 (AB 26 g63)
(cDo (AE 1 g64 g2)
cNorm))))))))))
def b45:Body:=⟨[],c45⟩
def ir:List Nat:=[8,15,18,19,23,27,29,34,39,49,50,54,56,57,61,62]
theorem eE:AV ty ir Tryz.f45=some b45:=by kernel_rfl
def c46:C:=
(cOp t7 (AD 122 [g0])
(AP 0 (Aj (cOp t9 (AU g0)
(cOp t10 (AB 32 g9)
(cOp t11 (AC g10)
(cG g11 true t13 (oMove g0)
(cG g11 true t14 (AU g13)
(cG g11 true t15 (AB 33 g14)
(cG g11 true t16 (AC g15)
(cG g11 true t17 (Im g16)
(cG g11 true t18 (AM iLt .i64 g17 (kV (.int .i64 8)))
(cOp t19 (AO g11 g18 (kV (.bool false)))
(cG g19 true t21 (oMove g0)
(cG g19 true t22 (AU g21)
(cG g19 true t23 (AB 34 g22)
(cG g19 true t24 (AC g23)
(cG g19 true t25 (Ak g24)
(cOp t26 (AO g19 g25 (kV (.bool false)))
(AH g26
(AP 1 (Ad (cOp t29 (AU g0)
(cOp t30 (AB 28 g29)
(cOp t31 (AN 4 g30)
(cOp t33 (As [g30] (AD 124 [g0]))
(cOp t34 (As [] (AD 123 [g31,g33]))
(cOp t35 (AK 0 g34)
(cOp t36 (AK 1 g34)
(cOp t37 (AK 2 g34)
(cOp t2 (AS .strong (AY 4 iC))
(cDo (AS .free (AE 4 g2 g35))
(cOp t3 (oMove g36)
(cOp t4 (oMove g37)
(cOp t39 (AM iNe .i64 g4 (kV (.int .i64 0)))
(AH g39
AQ
(Ad (cOp t42 (AU g0)
(cOp t43 (AB 13 g42)
(cOp t44 (AC g43)
(cOp t48 (As [g43] (AD 126 [g0,g3]))
(cOp t49 (AS .free (AD 125 [g44,g3,g48]))
(cOp t50 (AK 0 g49)
(cOp t51 (AK 1 g49)
(cOp t5 (oMove g50)
(cOp t4 (oMove g51)
(cOp t53 (AM iNe .i64 g4 (kV (.int .i64 0)))
(AH g53
AQ
(cOp t55 (AN 4 g2)
(cOp t56 (AU g0)
(cOp t57 (AB 28 g56)
(cDo (AE 4 g57 g55)
(cOp t59 (AU g0)
(cOp t60 (AB 33 g59)
(cOp t61 (AC g60)
(cDo (Ar ⟨false,[.i .i64]⟩ g61 g5 g3)
cNorm))))))))))))))))))))))))))))))))))))
(Ah 0)))))))))))))))))))))
def b46:Body:=⟨[],c46⟩
def iu:List Nat:=[6,8,12,20,27,28,32,38,40,41,45,46,47,52,54,58,62,63]
theorem eJ:AV ty iu Tryz.f46=some b46:=by kernel_rfl
def c49:C:=
(cOp t4 (AY 12 Vm)
(cOp t5 (oMove (kV (.int .i64 0)))
(cOp t13 (AD 129 [g0,g1,(kV (.int .u8 3))])
(cOp t14 (AK 0 g13)
(cOp t15 (AK 1 g13)
(cOp t6 (oMove g14)
(cOp t7 (oMove g15)
(cOp t17 (AM iNe .i64 g7 (kV (.int .i64 0)))
(AH g17
(cOp t18 (Ac P6.zero [])
(cDo (AE 12 g4 g18)
(cOp t5 (oMove g7)
AQ)))
(cOp t8 (AY 12 Vm)
(cOp t9 (AY 1 zt3)
(cOp t21 (AB 0 g8)
(cOp t22 (AB 1 g8)
(cOp t23 (AB 3 g8)
(cOp t24 (AB 0 g23)
(cOp t25 (AB 3 g8)
(cOp t26 (AB 1 g25)
(cOp t27 (AB 6 g8)
(cOp t28 (AB 0 g27)
(cOp t29 (AB 6 g8)
(cOp t30 (AB 1 g29)
(cOp t31 (AB 9 g8)
(cOp t32 (AB 10 g8)
(cOp t33 (AX 9 (Ao LE.zero 9) [(0,1,g21),(1,1,g22),(2,1,g9),(3,1,g24),(4,1,g26),(5,1,g28),(6,1,g30),(7,1,g31),(8,1,g32)])
(cOp t34 (AD 130 [g6,g33])
(Ad (cOp t36 (AS .free (AD 131 [g6,(kV (.int .i64 100))]))
(cOp t37 (C9 g36)
(cOp t39 (As [g36] (AD 131 [g6,(kV (.int .i64 100))]))
(cOp t40 (C9 g39)
(cOp t41 (AB 5 g8)
(cDo (AS .free (AE 1 g41 g37))
(cOp t42 (AB 8 g8)
(cDo (AS .free (AE 1 g42 g40))
(cOp t44 (AD 131 [g6,(kV (.int .i64 4096))])
(cOp t45 (AB 11 g8)
(cDo (AE 1 g45 g44)
(cOp t46 (AC g9)
(cOp t47 (A5 .u8 g46)
(cOp t48 (AB 2 g8)
(cDo (AE 1 g48 g47)
(Ad (cOp t50 (AU g6)
(cOp t51 (AB 2 g50)
(cOp t52 (AC g51)
(cG g52 false t54 (AC g9)
(cG g52 false t55 (AM iGt .i64 g54 (kV (.int .i64 255)))
(cOp t56 (AO g52 (kV (.bool true)) g55)
(cG g56 false t58 (oMove g6)
(cG g56 false t59 (AU g58)
(cG g56 false t60 (AB 1 g59)
(cG g56 false t61 (AC g60)
(cG g56 false t62 (oMove g6)
(cG g56 false t63 (AU g62)
(cG g56 false t64 (AB 0 g63)
(cG g56 false t65 (AC g64)
(cG g56 false t66 (Aa g65)
(cG g56 false t67 (AM iNe .i64 g61 g66)
(cOp t68 (AO g56 (kV (.bool true)) g67)
(cG g68 false t70 (AN 12 g8)
(cG g68 false t71 (AS .free (AD 132 [g70]))
(cG g68 false t72 (Ak g71)
(cOp t73 (AO g68 (kV (.bool true)) g72)
(AH g73
(cOp t74 (Ac P6.zero [])
(cDo (AE 12 g4 g74)
(cOp t5 (oMove (kV (.int .i64 179)))
AQ)))
(cOp t75 (AN 12 g8)
(cDo (AE 12 g4 g75)
(cOp t5 (oMove (kV (.int .i64 0)))
AQ)))))))))))))))))))))))))))))))))))))))))))))))))))))))))))))))))))
def b49:Body:=⟨[.cN g4 12,.t g5],c49⟩
def iv:List Nat:=[10,11,12,16,19,20,35,38,43,49,53,57,69]
theorem eO:AV ty iv Tryz.f49=some b49:=by kernel_rfl
def c51:C:=
(cOp t4 (oMove (kV (.bool false)))
(cOp t7 (AD 133 [g0,g1])
(cOp t8 (AM iGe .i64 g7 (kV (.int .i64 0)))
(cOp t4 (oMove g8)
AQ))))
def b51:Body:=⟨[.t g4],c51⟩
def iw:List Nat:=[5,6]
theorem eY:AV ty iw Tryz.f51=some b51:=by kernel_rfl
def c52:C:=
(cOp t2 (oMove (kV (.slice none 0 0)))
(cOp t3 (oMove (kV (.slice none 0 0)))
(cOp t14 (AD 134 [g0])
(cOp t15 (Aa g14)
(cOp t16 (oMove (kV (.int .i64 0)))
(AZ (AP 0 (Aj (cOp t17 (AM iLt .i64 g16 g15)
(AH g17
(AZ (AP 1 (cOp t18 (Ai 1 g14 g16)
(cOp t19 (AC g18)
(cOp t5 (oMove g19)
(cOp t21 (AU g0)
(cOp t22 (AB 10 g21)
(cOp t23 (AC g22)
(cOp t25 (BN ⟨false,[.i .i64]⟩ .nilIface false g23 g5)
(cOp t26 (Dg [(375,683),(515,701),(608,713)] g25 [])
(cOp t6 (AY 5 QE)
(cDo (AE 5 g6 g26)
(cOp t28 (AU g0)
(cOp t29 (AB 10 g28)
(cOp t30 (AC g29)
(cOp t32 (BN ⟨false,[.i .i64]⟩ .nilIface false g30 g5)
(cOp t33 (Dg [(375,686),(515,704),(608,716)] g32 [])
(cOp t34 (Aa g33)
(cOp t35 (oMove (kV (.int .i64 0)))
(AP 2 (Aj (cOp t36 (AM iLt .i64 g35 g34)
(AH g36
(AZ (AP 3 (cOp t37 (Ai 3 g33 g35)
(cOp t38 (AN 3 g37)
(cOp t8 (AY 3 yE)
(cDo (AE 3 g8 g38)
(cOp t40 (AB 1 g6)
(cOp t41 (AC g40)
(cOp t42 (AB 0 g8)
(cOp t43 (AC g42)
(cOp t44 (AD 135 [g0,g41,g43])
(cOp t9 (oMove g44)
(cOp t47 (AN 3 g8)
(cOp t49 (AD 136 [g0,g5,g47,g9])
(cOp t10 (oMove g49)
(Ad (cOp t51 (AM iGt .i64 g10 (kV (.int .i64 0)))
(cG g51 true t53 (oMove g0)
(cG g51 true t54 (AU g53)
(cG g51 true t55 (AB 7 g54)
(cG g51 true t56 (AC g55)
(cG g51 true t57 (oMove g0)
(cG g51 true t58 (AU g57)
(cG g51 true t59 (AB 11 g58)
(cG g51 true t60 (AC g59)
(cG g51 true t61 (oMove g10)
(cG g51 true t62 (BN ⟨false,[.i .i64]⟩ (.agg ⟨P1.zero⟩) false g60 g61)
(cG g51 true t63 (Co false 1 5 g62)
(cG g51 true t64 (Ax Int.sub .i64 g56 g63)
(cG g51 true t65 (oMove g0)
(cG g51 true t66 (AU g65)
(cG g51 true t67 (AB 3 g66)
(cG g51 true t68 (AB 3 g67)
(cG g51 true t69 (AC g68)
(cG g51 true t70 (AM iLt .i64 g64 g69)
(cOp t71 (AO g51 g70 (kV (.bool false)))
(AH g71
(Ah 3)
(cOp t73 (AM iEq .i64 g10 (kV (.int .i64 0)))
(AZ (AH g73
(cOp t75 (AU g0)
(cOp t76 (AB 9 g75)
(cOp t77 (AC g76)
(cOp t78 (Ae .i64 (AW .i64) g77 (kV (.int .i64 1)))
(cOp t79 (AU g0)
(cOp t80 (AB 9 g79)
(cDo (AE 1 g80 g78)
(cOp t82 (AU g0)
(cOp t83 (AB 9 g82)
(cOp t84 (AC g83)
(cOp t10 (oMove g84)
cNorm)))))))))))
cNorm)
(Ad (cOp t86 (AU g0)
(cOp t87 (AB 11 g86)
(cOp t88 (AC g87)
(cOp t91 (AN 3 g8)
(cOp t94 (AU g0)
(cOp t95 (AB 7 g94)
(cOp t96 (AC g95)
(cOp t97 (Ac P1.zero [(0,1,g5),(1,3,g91),(4,1,g9),(5,1,g96)])
(cDo (AS .free (Ar ⟨false,[.i .i64]⟩ g88 g10 g97))
(Ad (cOp EN (AU g0)
(cOp Dp (AB 1 DI)
(cOp EO (AC CJ)
(cOp EP (AU g0)
(cOp F8 (AB 3 CZ)
(cOp Fc (AB 1 D1)
(cOp GR (AC Ef)
(cOp GS (AB 1 g8)
(cOp F9 (AC Fv)
(cOp GT (AB 1 g6)
(cOp GA (AC Ev)
(cOp Hu (AB 0 g8)
(cOp GU (AC GO)
(cOp IC (AB 2 g8)
(cOp Jd (AC HG)
(cOp ME (AU g0)
(cOp MF (AB 10 LY)
(cOp Jf (AC LZ)
(cOp Jg (BN ⟨false,[.i .i64]⟩ .nilIface false H5 g5)
(cOp MH (AU g0)
(cOp LB (AB 0 J8)
(cOp Jh (AC J9)
(cOp MI (AN 3 g8)
(cOp MJ (AU DJ)
(cOp Pv (As [CJ,Ef,Fv,Ev,GO,HG] (Dg [(375,681),(515,699),(608,711)] DJ [JI,JJ]))
(cOp VZ (Ac ZX.zero [(0,1,EE),(1,1,g10),(2,1,Fw),(3,1,CL),(4,1,FM),(5,1,JH),(6,1,Ew)])
(cOp Pw (AS .free (AD 137 [ED,NZ]))
(cOp Va (AK 0 Na)
(cOp MK (AK 1 Na)
(cOp t11 (oMove UM)
(cOp t12 (oMove Oj)
(cOp Vc (AU g0)
(cOp Vd (AB 3 UO)
(cOp OE (AB 0 UP)
(cOp Ve (AC Nb)
(cOp Vg (Ac Eo.zero [(0,1,UQ),(1,1,g9),(2,1,g11)])
(cOp Vh (AX 1 (Ao Eo.zero 1) [(0,3,Ok)])
(cOp gq (Am 3 40 202 g3 US)
(cOp t3 (oMove gB)
cNorm))))))))))))))))))))))))))))))))))))))))))))))))))))))))))))))))))))))))))))))))))))))))
(cOp OG (Ae .i64 (AW .i64) g35 (kV (.int .i64 1)))
(cOp t35 (oMove UT)
cNorm)))
(Ah 2)))))))))))))))))))))))
(cOp Vi (Ae .i64 (AW .i64) g16 (kV (.int .i64 1)))
(cOp t16 (oMove H6)
cNorm)))
(Ah 0)))))
(cOp t2 (oMove g3)
AQ)))))))
def b52:Body:=⟨[.t g2],c52⟩
def iy:List Nat:=[13,20,24,27,31,39,45,46,48,50,52,72,74,81,85,89,90,92,93,98,99,103,108,117,121,123,129,135,136,141,142,148]
theorem ed:AV ty iy Tryz.f52=some b52:=by kernel_rfl
def c54:C:=
(cOp t3 (Av g1)
(cOp t4 (AY 11 Cx)
(cOp t5 (oMove (kV (.int .i64 0)))
(Ad (cOp t13 (AU g0)
(cOp t14 (AB 14 g13)
(cOp t15 (AN 7 g14)
(cOp t17 (AU g0)
(cOp t18 (AB 9 g17)
(cOp t19 (AC g18)
(cOp t20 (AN 18 g3)
(cOp t21 (As [] (AD 140 [g15,g19,g20]))
(cOp t22 (AK 0 g21)
(cOp t23 (AK 1 g21)
(cOp t24 (AK 2 g21)
(cOp t6 (AS .strong (AY 7 Fh))
(cOp t7 (AS .strong (AY 11 Cx))
(cDo (AS .free (AE 7 g6 g22))
(cDo (AS .free (AE 11 g7 g23))
(cOp t8 (oMove g24)
(cOp t26 (AM iNe .i64 g8 (kV (.int .i64 0)))
(AH g26
(cOp t27 (Ac Bf.zero [])
(cDo (AE 11 g4 g27)
(cOp t5 (oMove g8)
AQ)))
(Ad (cOp t31 (AU g0)
(cOp t32 (AB 11 g31)
(cOp t33 (AC g32)
(cOp t34 (AN 18 g3)
(cOp t35 (AS .free (AD 141 [g33,g34]))
(cOp t36 (AK 0 g35)
(cOp t37 (AK 1 g35)
(cOp t9 (oMove g36)
(cOp t8 (oMove g37)
(cOp t39 (AM iNe .i64 g8 (kV (.int .i64 0)))
(AH g39
(cOp t40 (Ac Bf.zero [])
(cDo (AE 11 g4 g40)
(cOp t5 (oMove g8)
AQ)))
(cOp t43 (AU g0)
(cOp t44 (AB 12 g43)
(cOp t45 (AC g44)
(cOp t47 (AD 142 [g45,g9])
(cOp t8 (oMove g47)
(cOp t49 (AM iEq .i64 g8 (kV (.int .i64 5)))
(AZ (AH g49
(cOp t10 (oMove (kV (.slice none 0 0)))
(Ad (cOp t52 (AU g0)
(cOp t53 (AB 11 g52)
(cOp t54 (AC g53)
(cOp t56 (AU g0)
(cOp t57 (AB 14 g56)
(cOp t58 (AN 7 g57)
(cOp t59 (AS .free (AD 143 [g54,g58]))
(cOp t60 (AK 0 g59)
(cOp t61 (AK 1 g59)
(cOp t10 (oMove g60)
(cOp t8 (oMove g61)
(cOp t63 (AM iEq .i64 g8 (kV (.int .i64 0)))
(AZ (AH g63
(cOp t65 (AU g0)
(cOp t66 (AB 12 g65)
(cOp t67 (AC g66)
(cOp t69 (AD 144 [g67,g10])
(cOp t8 (oMove g69)
cNorm)))))
cNorm)
(cOp t71 (AM iEq .i64 g8 (kV (.int .i64 0)))
(AH g71
(cOp t73 (AU g0)
(cOp t74 (AB 12 g73)
(cOp t75 (AC g74)
(cOp t77 (AD 142 [g75,g9])
(cOp t8 (oMove g77)
cNorm)))))
cNorm)))))))))))))))))
cNorm)
(cOp t80 (AU g0)
(cOp t81 (AB 34 g80)
(cOp t82 (AC g81)
(cG g82 false t84 (oMove g0)
(cG g82 false t85 (AU g84)
(cG g82 false t86 (AB 12 g85)
(cG g82 false t87 (AC g86)
(cG g82 false t88 (AD 145 [g87])
(cOp t89 (AO g82 (kV (.bool true)) g88)
(cOp t90 (AU g0)
(cOp t91 (AB 34 g90)
(cDo (AE 1 g91 g89)
(cOp t93 (AM iNe .i64 g8 (kV (.int .i64 0)))
(AH g93
(cOp t94 (Ac Bf.zero [])
(cDo (AE 11 g4 g94)
(cOp t5 (oMove g8)
AQ)))
(cOp t97 (AN 7 g6)
(cOp t98 (AU g0)
(cOp t99 (AB 14 g98)
(cDo (AE 7 g99 g97)
(cOp EN (AN 11 g7)
(cDo (AE 11 g4 DI)
(cOp t5 (oMove (kV (.int .i64 0)))
AQ))))))))))))))))))))))))))))))))))))))))))))))))))))))))))))))
def b54:Body:=⟨[.cN g4 11,.t g5],c54⟩
def iz:List Nat:=[11,12,16,25,28,29,30,38,41,42,46,48,50,51,55,62,64,68,70,72,76,78,79,83,92,95,96]
theorem et:AV ty iz Tryz.f54=some b54:=by kernel_rfl
def c57:C:=
(cOp t3 (Av g0)
(cOp t6 (AY 7 Fh)
(cOp t7 (oMove (kV (.slice none 0 0)))
(cOp t8 (oMove (kV (.int .i64 0)))
(cOp t13 (AN 7 g3)
(cOp t14 (AD 155 [g13])
(cOp t9 (AY 7 Fh)
(cDo (AE 7 g9 g14)
(cOp t16 (AB 5 g3)
(cOp t17 (AC g16)
(cOp t20 (AD 138 [g17,g1,g2])
(cOp t21 (AK 0 g20)
(cOp t22 (AK 1 g20)
(cOp t23 (AK 2 g20)
(cOp t10 (oMove g21)
(cOp t11 (oMove g22)
(cOp t12 (oMove g23)
(cOp t25 (AM iEq .i64 g12 (kV (.int .i64 0)))
(AZ (AH g25
(cOp t27 (AB 5 g9)
(cDo (AE 1 g27 g10)
cNorm))
cNorm)
(cOp t28 (AN 7 g9)
(cDo (AE 7 g6 g28)
(cOp t7 (oMove g11)
(cOp t8 (oMove g12)
AQ)))))))))))))))))))))))
def b57:Body:=⟨[.cN g6 7,.t g7,.t g8],c57⟩
def i5:List Nat:=[15,18,19,24,26,29,30]
theorem ey:AV ty i5 Tryz.f57=some b57:=by kernel_rfl
def c59:C:=
(cOp t1 (Av g0)
(cOp t2 (oMove (kV .nilFunc))
(cOp t3 (BE (.func 158) [] [g1])
(cOp t2 (oMove g3)
AQ))))
def b59:Body:=⟨[.t g2],c59⟩
def i6:List Nat:=[]
theorem fG:AV ty i6 Tryz.f59=some b59:=by kernel_rfl
def c60:C:=
(cOp t2 (oMove (kV (.bool false)))
(cOp t4 (AD 127 [g0])
(cOp t5 (Ak g4)
(cG g5 true t7 (oMove g0)
(cG g5 true t8 (AU g7)
(cG g5 true t9 (AB 12 g8)
(cG g5 true t10 (AC g9)
(cOp t11 (AO g5 g10 (kV (.bool false)))
(cOp t2 (oMove g11)
AQ)))))))))
def b60:Body:=⟨[.t g2],c60⟩
def i7:List Nat:=[3,6]
theorem fI:AV ty i7 Tryz.f60=some b60:=by kernel_rfl
def c61:C:=
(cOp t2 (oMove (kV (.int .u32 0)))
(cOp t4 (E0 .u32 g0 (kV (.int .u64 1)))
(cOp t6 (Ez Nat.land .u32 g0 (kV (.int .u32 1)))
(cOp t7 (Ax Int.mul .u32 (kV (.int .u32 2197175160)) g6)
(cOp t8 (Ez Nat.xor .u32 g4 g7)
(cOp t2 (oMove g8)
AQ))))))
def b61:Body:=⟨[.t g2],c61⟩
def i9:List Nat:=[3,5]
theorem fJ:AV ty i9 Tryz.f61=some b61:=by kernel_rfl
def c62:C:=
(cOp t2 (oMove (kV (.int .i64 0)))
(cOp t4 (AD 159 [g0])
(cOp t5 (Ak g4)
(AH g5
(cOp t2 (oMove (kV (.int .i64 0)))
AQ)
(cOp t7 (AU g0)
(cOp t8 (AB 1 g7)
(cOp t9 (AC g8)
(cOp t2 (oMove g9)
AQ))))))))
def b62:Body:=⟨[.t g2],c62⟩
def jA:List Nat:=[3,6]
theorem fK:AV ty jA Tryz.f62=some b62:=by kernel_rfl
def c63:C:=
(cOp t3 (Av g1)
(cOp t4 (oMove (kV (.bool false)))
(cOp t7 (AB 0 g3)
(cOp t8 (AC g7)
(cOp t9 (AM iGe .i64 g8 (kV (.int .i64 256)))
(cG g9 true t11 (AB 0 g3)
(cG g9 true t12 (AC g11)
(cG g9 true t13 (AM iLt .i64 g12 (kV (.int .i64 300)))
(cOp t14 (AO g9 g13 (kV (.bool false)))
(cG g14 true t16 (AB 1 g3)
(cG g14 true t17 (AC g16)
(cG g14 true t18 (AM iGe .i64 g17 (kV (.int .i64 256)))
(cOp t19 (AO g14 g18 (kV (.bool false)))
(cG g19 true t21 (AB 1 g3)
(cG g19 true t22 (AC g21)
(cG g19 true t23 (Ae .i64 (AW .i64) g22 (kV (.int .i64 16)))
(cG g19 true t24 (AM iLe .i64 g23 (kV (.int .i64 300)))
(cOp t25 (AO g19 g24 (kV (.bool false)))
(cG g25 true t27 (AB 0 g3)
(cG g25 true t28 (AC g27)
(cG g25 true t29 (AB 1 g3)
(cG g25 true t30 (AC g29)
(cG g25 true t31 (AM iLt .i64 g28 g30)
(cG g25 true t32 (oMove g31)
(cG g32 false t33 (AB 0 g3)
(cG g32 false t34 (AC g33)
(cG g32 false t35 (AB 1 g3)
(cG g32 false t36 (AC g35)
(cG g32 false t37 (Ae .i64 (AW .i64) g36 (kV (.int .i64 16)))
(cG g32 false t38 (AM iGe .i64 g34 g37)
(cG g25 true t39 (AO g32 (kV (.bool true)) g38)
(cOp t40 (AO g25 g39 (kV (.bool false)))
(cOp t5 (oMove g40)
(Ad (cOp t42 (As [g3] (AD 62 [g0]))
(cOp t43 (AB 3 g3)
(cOp t44 (AC g43)
(cOp t45 (Ax Int.mul .i64 g42 g44)
(cOp t6 (oMove g45)
(Ad (cG g5 true t48 (AB 3 g3)
(cG g5 true t49 (AC g48)
(cG g5 true t50 (AM iGe .i64 g49 (kV (.int .i64 1)))
(cOp t51 (AO g5 g50 (kV (.bool false)))
(cG g51 true t53 (AB 3 g3)
(cG g51 true t54 (AC g53)
(cG g51 true t55 (AM iLe .i64 g54 (kV (.int .i64 65536)))
(cOp t56 (AO g51 g55 (kV (.bool false)))
(cG g56 true t58 (oMove g6)
(cG g56 true t59 (AM iGe .i64 g58 (kV (.int .i64 16)))
(cOp t60 (AO g56 g59 (kV (.bool false)))
(cG g60 true t62 (oMove g6)
(cG g60 true t63 (AM iLe .i64 g62 (kV (.int .i64 65536)))
(cOp t64 (AO g60 g63 (kV (.bool false)))
(cG g64 true t66 (AB 5 g3)
(cG g64 true t67 (AC g66)
(cG g64 true t68 (AM iGe .i64 g67 (kV (.int .i64 1)))
(cOp t69 (AO g64 g68 (kV (.bool false)))
(cG g69 true t71 (AB 5 g3)
(cG g69 true t72 (AC g71)
(cG g69 true t73 (AM iLe .i64 g72 (kV (.int .i64 1099511627776)))
(cOp t74 (AO g69 g73 (kV (.bool false)))
(cG g74 true t76 (AB 2 g3)
(cG g74 true t77 (AC g76)
(cG g74 true t78 (oMove g0)
(cG g74 true t79 (As [g76] (AD 62 [g78]))
(cG g74 true t80 (AM iGe .i64 g77 g79)
(cOp t81 (AO g74 g80 (kV (.bool false)))
(cG g81 true t83 (AB 2 g3)
(cG g81 true t84 (AC g83)
(cG g81 true t85 (oMove g0)
(cG g81 true t86 (As [g83] (AD 160 [g85]))
(cG g81 true t87 (AM iLe .i64 g84 g86)
(cOp t88 (AO g81 g87 (kV (.bool false)))
(cG g88 true t90 (AB 2 g3)
(cG g88 true t91 (AC g90)
(cG g88 true t92 (Ax Int.mul .i64 (kV (.int .i64 2)) g91)
(cG g88 true t93 (oMove g0)
(cG g88 true t94 (As [g90] (AD 160 [g93]))
(cG g88 true t95 (oMove g0)
(cG g88 true t96 (As [g90] (AD 62 [g95]))
(cG g88 true t97 (Ae .i64 (AW .i64) g94 g96)
(cG g88 true t98 (AM iGe .i64 g92 g97)
(cOp t99 (AO g88 g98 (kV (.bool false)))
(cG g99 true Dp (AB 4 g3)
(cG g99 true EO (AC CJ)
(cG g99 true D4 (AM iGe .i64 ED (kV (.int .i64 1)))
(cOp EP (AO g99 Da (kV (.bool false)))
(cG CZ true Fc (AB 4 g3)
(cG CZ true GR (AC Ef)
(cG CZ true Ht (AM iLe .i64 EE (kV (.int .i64 1048576)))
(cOp GS (AO CZ D2 (kV (.bool false)))
(cOp t4 (oMove Fv)
AQ)))))))))))))))))))))))))))))))))))))))))))))))))))))))))))))))))))))))))))))))))))))))))))))
def b63:Body:=⟨[.t g4],c63⟩
def jB:List Nat:=[10,15,20,26,41,46,47,52,57,61,65,70,75,82,89,100,105]
theorem fL:AV ty jB Tryz.f63=some b63:=by kernel_rfl
def c64:C:=
(cOp t2 (oMove (kV (.pointer none)))
(cOp t3 (oMove (kV (.int .i64 0)))
(cOp t10 (oEq MN.k false g0 (kV (.pointer none)))
(cG g10 false t12 (oMove g0)
(cG g10 false t13 (AD 90 [g12])
(cG g10 false t14 (AM iEq .i64 g13 (kV (.int .i64 0)))
(cOp t15 (AO g10 (kV (.bool true)) g14)
(AH g15
(cOp t2 (oMove (kV (.pointer none)))
(cOp t3 (oMove (kV (.int .i64 1)))
AQ))
(cOp t17 (AD 90 [g0])
(cOp t18 (AM iLt .i64 g17 (kV (.int .i64 8)))
(AH g18
(cOp t2 (oMove (kV (.pointer none)))
(cOp t3 (oMove (kV (.int .i64 2)))
AQ))
(cOp t20 (Ac ZZ.zero [(0,1,g0)])
(cOp t21 (Av g20)
(cOp t4 (oMove g21)
(cOp t23 (AD 90 [g0])
(cOp t24 (FV .i64 g23 (kV (.int .i64 2)))
(cOp t5 (oMove g24)
(cOp t27 (AD 161 [g4,(kV (.int .i64 0)),g5])
(cOp t31 (AD 161 [g4,g5,g5])
(cOp t6 (AY 8 NK)
(cOp t7 (AY 8 NK)
(cDo (AE 8 g6 g27)
(cDo (AE 8 g7 g31)
(cOp t33 (AU g4)
(cOp t34 (AB 1 g33)
(cOp t35 (AC g34)
(cOp t36 (AM iNe .i64 g35 (kV (.int .i64 0)))
(AH g36
(Ad (cOp t38 (AU g4)
(cOp t39 (AB 1 g38)
(cOp t40 (AC g39)
(cOp t2 (oMove (kV (.pointer none)))
(cOp t3 (oMove g40)
AQ))))))
(cOp t41 (AB 4 g7)
(cOp t42 (AC g41)
(cOp t43 (AB 4 g6)
(cOp t44 (AC g43)
(cOp t45 (AM iGt .i64 g42 g44)
(AZ (AH g45
(cOp t46 (AN 8 g7)
(cDo (AE 8 g6 g46)
cNorm))
cNorm)
(cOp t47 (AB 4 g6)
(cOp t48 (AC g47)
(cOp t49 (AM iEq .i64 g48 (kV (.int .i64 0)))
(AZ (AH g49
(cOp t52 (Ac P3.zero [(0,1,g0),(1,1,g5),(3,1,(kV (.int .i64 1))),(4,1,(kV (.int .i64 1)))])
(cDo (AE 8 g6 g52)
(cOp t53 (AX 2 (Ao ty3.zero 2) [(0,1,(kV (.int .i64 1))),(1,1,(kV (.int .i64 0)))])
(cOp t54 (AD 163 [(kV (.int .u8 1)),g53])
(cOp t55 (AD 162 [g6,(kV (.int .i64 0)),(kV (.slice none 0 0)),g54])
(cOp t8 (oMove g55)
(cOp t57 (AM iNe .i64 g8 (kV (.int .i64 0)))
(AH g57
(cOp t2 (oMove (kV (.pointer none)))
(cOp t3 (oMove g8)
AQ))
cNorm))))))))
cNorm)
(cOp t2 (oMove g6)
(cOp t3 (oMove (kV (.int .i64 0)))
AQ))))))))))))))))))))))))))))))))))))))))
def b64:Body:=⟨[.t g2,.t g3],c64⟩
def jC:List Nat:=[9,11,16,19,22,25,26,28,29,30,32,37,50,51,56,58]
theorem fM:AV ty jC Tryz.f64=some b64:=by kernel_rfl
def c65:C:=
(cOp t0 (AY 4 iC)
(cOp t1 (Ac q8.zero [(0,1,(kV (.int .i64 (-1)))),(1,1,(kV (.bool true)))])
(cDo (AE 4 g0 g1)
AQ)))
def b65:Body:=⟨[.cN g0 4],c65⟩
def jD:List Nat:=[]
theorem fN:AV ty jD Tryz.f65=some b65:=by kernel_rfl
def c66:C:=
(cOp t4 (AY 7 Fh)
(cOp t5 (oMove (kV (.int .i64 0)))
(cOp t16 (AU g0)
(cOp t17 (AB 12 g16)
(cOp t18 (AC g17)
(cOp t19 (AD 164 [g18])
(cOp t6 (oMove g19)
(cOp t7 (AY 7 Fh)
(cOp t21 (Aa g6)
(cOp t22 (AM iEq .i64 g21 (kV (.int .i64 0)))
(AZ (AH g22
(Ad (cOp t25 (AU g0)
(cOp t26 (AB 0 g25)
(cOp t27 (AB 7 g26)
(CU g27 (BS g27 []
(cOp t28 (AC g27)
(cOp t30 (AS .weak (AD 160 [g1]))
(cOp t32 (AU g0)
(cOp t33 (AB 0 g32)
(cOp t34 (AB 8 g33)
(CU g34 (BS g34 []
(cOp t35 (AC g34)
(cOp t36 (AS .free (AD 165 [g28,g30,g35]))
(cOp t37 (AK 0 g36)
(cOp t38 (AK 1 g36)
(cOp t8 (oMove g37)
(cOp t9 (oMove g38)
(cOp t40 (AM iNe .i64 g9 (kV (.int .i64 0)))
(AH g40
(cOp t41 (AN 7 g7)
(cDo (AE 7 g4 g41)
(cOp t5 (oMove g9)
AQ)))
(cOp t45 (AU g0)
(cOp t46 (AB 0 g45)
(cOp t47 (AB 6 g46)
(cOp t48 (AC g47)
(cOp t50 (AD 166 [g48,g8])
(cOp t51 (AK 0 g50)
(cOp t52 (AK 1 g50)
(cDo (AE 7 g7 g51)
(cOp t9 (oMove g52)
(cOp t54 (AM iNe .i64 g9 (kV (.int .i64 0)))
(AH g54
(cOp t55 (AN 7 g7)
(cDo (AE 7 g4 g55)
(cOp t5 (oMove g9)
AQ)))
cNorm))))))))))))))))))))))))))))))))
(cOp t10 (oMove (kV (.int .i64 0)))
(cOp t59 (AU g0)
(cOp t60 (AB 11 g59)
(cOp t61 (AC g60)
(cOp t63 (AD 167 [g61,g6])
(cOp t64 (AK 0 g63)
(cOp t65 (AK 1 g63)
(cDo (AE 7 g7 g64)
(cOp t10 (oMove g65)
(Ad (cOp t67 (AM iNe .i64 g10 (kV (.int .i64 0)))
(cG g67 false t69 (AN 7 g7)
(cG g67 false t70 (oMove g0)
(cG g67 false t71 (AU g70)
(cG g67 false t72 (AB 9 g71)
(cG g67 false t73 (AC g72)
(cG g67 false t74 (AS .free (AD 168 [g69,g73]))
(cG g67 false t75 (Ak g74)
(cOp t76 (AO g67 (kV (.bool true)) g75)
(AH g76
(cOp t77 (AN 7 g7)
(cDo (AE 7 g4 g77)
(cOp t5 (oMove (kV (.int .i64 180)))
AQ)))
cNorm)))))))))))))))))))))
(cOp t79 (AU g0)
(cOp t80 (AB 12 g79)
(cOp t81 (AC g80)
(cOp t82 (AD 169 [g81])
(cOp t83 (Aa g82)
(cOp t84 (oMove (kV (.int .i64 0)))
(AZ (AP 0 (Aj (cOp t85 (AM iLt .i64 g84 g83)
(AH g85
(AZ (AP 1 (cOp t86 (Ai 1 g82 g84)
(cOp t87 (AC g86)
(cOp t12 (oMove g87)
(cOp t90 (AU g0)
(cOp t91 (AB 11 g90)
(cOp t92 (AC g91)
(cOp t94 (AD 170 [g92,g12])
(cOp t95 (AK 0 g94)
(cOp t96 (AK 1 g94)
(cOp t13 (AY 18 yD)
(cDo (AE 18 g13 g95)
(cOp t14 (oMove g96)
(cOp t98 (AM iNe .i64 g14 (kV (.int .i64 0)))
(AH g98
(cOp t99 (AN 7 g7)
(cDo (AE 7 g4 g99)
(cOp t5 (oMove (kV (.int .i64 180)))
AQ)))
(Ad (cOp Dp (AN 7 g7)
(cOp D4 (AU g0)
(cOp EP (AB 9 Da)
(cOp F8 (AC CZ)
(cOp Fc (AN 18 g13)
(cOp GR (AS .free (AD 140 [CJ,D1,Ef]))
(cOp Ht (AK 0 EE)
(cOp GS (AK 1 EE)
(cOp F9 (AK 2 EE)
(cDo (AS .free (AE 7 g7 D2))
(cOp t14 (oMove Fw)
(cOp GA (AM iNe .i64 g14 (kV (.int .i64 0)))
(AH CL
(cOp Hu (AN 7 g7)
(cDo (AE 7 g4 GO)
(cOp t5 (oMove (kV (.int .i64 180)))
AQ)))
cNorm)))))))))))))))))))))))))))))
(cOp GU (Ae .i64 (AW .i64) g84 (kV (.int .i64 1)))
(cOp t84 (oMove FM)
cNorm)))
(Ah 0)))))
(cOp IC (AN 7 g7)
(cDo (AE 7 g4 HG)
(cOp t5 (oMove (kV (.int .i64 0)))
AQ)))))))))))))))))))))
def b66:Body:=⟨[.cN g4 7,.t g5],c66⟩
def jE:List Nat:=[15,20,23,24,29,31,39,42,43,44,49,53,56,57,58,62,66,68,78,88,89,93,97,100,102,111]
theorem fO:AV ty jE Tryz.f66=some b66:=by kernel_rfl
def c67:C:=
(cOp t7 (Av g3)
(cOp t8 (oMove (kV (.pointer none)))
(cOp t9 (oMove (kV (.int .i64 0)))
(cOp t13 (AD 62 [g0])
(cOp t15 (AD 160 [g0])
(cOp t10 (oMove g13)
(cOp t11 (oMove g15)
(AZ (AP 0 (cOp t18 (AM iEq .i64 g11 (kV (.int .i64 0)))
(cG g18 false t20 (oMove g1)
(cG g18 false t21 (oEq P2.k false g20 (kV (.pointer none)))
(cOp t22 (AO g18 (kV (.bool true)) g21)
(cOp t16 (oMove g22)
(AH g16
(cOp t8 (oMove (kV (.pointer none)))
(cOp t9 (oMove (kV (.int .i64 1)))
AQ))
(cOp t26 (AD 146 [g0,g2])
(cOp t27 (Ak g26)
(cG g27 false t29 (AB 0 g7)
(cG g27 false t30 (AC g29)
(cG g27 false t31 (AM iLt .i64 g30 (kV (.int .i64 0)))
(cOp t32 (AO g27 (kV (.bool true)) g31)
(cG g32 false t34 (AB 0 g7)
(cG g32 false t35 (AC g34)
(cG g32 false t36 (AM iGe .i64 g35 (kV (.int .i64 300)))
(cOp t37 (AO g32 (kV (.bool true)) g36)
(cG g37 false t39 (AB 1 g7)
(cG g37 false t40 (AC g39)
(cG g37 false t41 (AM iLt .i64 g40 (kV (.int .i64 1)))
(cOp t42 (AO g37 (kV (.bool true)) g41)
(cG g42 false t44 (AB 1 g7)
(cG g42 false t45 (AC g44)
(cG g42 false t46 (AM iGt .i64 g45 (kV (.int .i64 1099511627776)))
(cOp t47 (AO g42 (kV (.bool true)) g46)
(cG g47 false t49 (AB 2 g7)
(cG g47 false t50 (AC g49)
(cG g47 false t51 (oMove g10)
(cG g47 false t52 (AM iLt .i64 g50 g51)
(cOp t53 (AO g47 (kV (.bool true)) g52)
(cG g53 false t55 (AB 2 g7)
(cG g53 false t56 (AC g55)
(cG g53 false t57 (oMove g11)
(cG g53 false t58 (AM iGt .i64 g56 g57)
(cOp t59 (AO g53 (kV (.bool true)) g58)
(cG g59 false t61 (AB 2 g7)
(cG g59 false t62 (AC g61)
(cG g59 false t63 (Ax Int.mul .i64 (kV (.int .i64 2)) g62)
(cG g59 false t64 (oMove g11)
(cG g59 false t65 (oMove g10)
(cG g59 false t66 (Ae .i64 (AW .i64) g64 g65)
(cG g59 false t67 (AM iLt .i64 g63 g66)
(cOp t68 (AO g59 (kV (.bool true)) g67)
(cG g68 false t70 (AB 3 g7)
(cG g68 false t71 (AC g70)
(cG g68 false t72 (AM iLt .i64 g71 (kV (.int .i64 1)))
(cOp t73 (AO g68 (kV (.bool true)) g72)
(cG g73 false t75 (AB 3 g7)
(cG g73 false t76 (AC g75)
(cG g73 false t77 (AM iGt .i64 g76 (kV (.int .i64 1048576)))
(cOp t78 (AO g73 (kV (.bool true)) g77)
(cOp t23 (oMove g78)
(AH g23
(cOp t8 (oMove (kV (.pointer none)))
(cOp t9 (oMove (kV (.int .i64 2)))
AQ))
cNorm)))))))))))))))))))))))))))))))))))))))))))))))))))))
(Ad (cOp t82 (As [g7] (AD 147 [g2]))
(cOp t83 (AN 4 g7)
(cOp t84 (AS .strong C8)
(cOp t85 (AS .strong C8)
(cOp t86 (Ac ZV.zero [(0,1,g0),(1,1,g1),(2,1,g82),(3,4,g83),(10,1,g84),(11,1,g85)])
(cOp t87 (AS .strong (Av g86))
(cOp t8 (oMove g87)
(cOp t9 (oMove (kV (.int .i64 0)))
AQ)))))))))))))))))
def b67:Body:=⟨[.t g8,.t g9],c67⟩
def jF:List Nat:=[12,14,17,19,24,25,28,33,38,43,48,54,60,69,74,79,80,81]
theorem fP:AV ty jF Tryz.f67=some b67:=by kernel_rfl
def c68:C:=
(cOp t2 (oMove (kV (.bool false)))
(cOp t4 (oEq xK.k false g0 (kV (.pointer none)))
(cG g4 false t6 (oMove g0)
(cG g4 false t7 (AU g6)
(cG g4 false t8 (AB 12 g7)
(cG g4 false t9 (AC g8)
(cG g4 false t10 (oEq P7.k false g9 (kV (.pointer none)))
(cOp t11 (AO g4 (kV (.bool true)) g10)
(cOp t2 (oMove g11)
AQ)))))))))
def b68:Body:=⟨[.t g2],c68⟩
def jG:List Nat:=[3,5]
theorem fQ:AV ty jG Tryz.f68=some b68:=by kernel_rfl
def c69:C:=
(cOp t3 (AU g0)
(cOp t4 (AB 18 g3)
(cOp t5 (AC g4)
(cOp t6 (Ae .i64 (AW .i64) g5 (kV (.int .i64 1)))
(cOp t7 (AU g0)
(cOp t8 (AB 18 g7)
(cDo (AE 1 g8 g6)
cNorm)))))))
def b69:Body:=⟨[],c69⟩
def jH:List Nat:=[2]
theorem fR:AV ty jH Tryz.f69=some b69:=by kernel_rfl
def c74:C:=
(cOp t2 (oMove (kV (.bool false)))
(cOp t4 (AU g0)
(cOp t5 (AB 17 g4)
(cOp t6 (AC g5)
(cOp t7 (oEq MM.k false g6 (kV (.pointer none)))
(cG g7 false t9 (oMove g0)
(cG g7 false t10 (AU g9)
(cG g7 false t11 (AB 17 g10)
(cG g7 false t12 (AC g11)
(cG g7 false t13 (AD 15 [g12])
(cOp t14 (AO g7 (kV (.bool true)) g13)
(cOp t2 (oMove g14)
AQ))))))))))))
def b74:Body:=⟨[.t g2],c74⟩
def jI:List Nat:=[3,8]
theorem fS:AV ty jI Tryz.f74=some b74:=by kernel_rfl
def c75:C:=
(cOp t5 (AU g0)
(cOp t6 (AB 17 g5)
(cOp t7 (AC g6)
(cOp t8 (AD 6 [g7])
(cOp t10 (AU g0)
(cOp t11 (AB 17 g10)
(cOp t12 (AC g11)
(cOp t13 (AD 10 [g12])
(cOp t14 (Aa g13)
(cOp t15 (oMove (kV (.int .i64 0)))
(AZ (AP 0 (Aj (cOp t16 (AM iLt .i64 g15 g14)
(AH g16
(AZ (AP 1 (cOp t17 (Ai 3 g13 g15)
(cOp t18 (AN 3 g17)
(cOp t3 (AY 3 I0)
(cDo (AE 3 g3 g18)
(cOp t20 (AB 0 g3)
(cOp t21 (AC g20)
(cOp t22 (AB 1 g3)
(cOp t23 (AC g22)
(cOp t24 (AB 2 g3)
(cOp t25 (AC g24)
(cOp t26 (AD 83 [g0,g21,g23,g25])
cNorm))))))))))))
(cOp t27 (Ae .i64 (AW .i64) g15 (kV (.int .i64 1)))
(cOp t15 (oMove g27)
cNorm)))
(Ah 0)))))
(cOp t29 (AD 78 [g0])
cNorm))))))))))))
def b75:Body:=⟨[],c75⟩
def jJ:List Nat:=[4,9,19,28]
theorem fT:AV ty jJ Tryz.f75=some b75:=by kernel_rfl
def c76:C:=
(cOp t2 (oMove (kV (.int .i64 0)))
(cOp t4 (AD 175 [g0])
(cOp t5 (Ak g4)
(AH g5
(cOp t2 (oMove (kV (.int .i64 0)))
AQ)
(cOp t7 (AU g0)
(cOp t8 (AB 2 g7)
(cOp t9 (AC g8)
(cOp t10 (Aa g9)
(cOp t2 (oMove g10)
AQ)))))))))
def b76:Body:=⟨[.t g2],c76⟩
def jK:List Nat:=[3,6]
theorem fU:AV ty jK Tryz.f76=some b76:=by kernel_rfl
def c77:C:=
(cOp t10 (AU g0)
(cOp t11 (AB 13 g10)
(cOp t12 (AC g11)
(cOp t14 (AD 176 [g12,g1])
(cOp t15 (AK 0 g14)
(cOp t16 (AK 1 g14)
(cOp t4 (AY 3 I0)
(cDo (AE 3 g4 g15)
(cOp t5 (oMove g16)
(cOp t18 (AU g0)
(cOp t19 (AB 57 g18)
(cOp t20 (AC g19)
(cOp t21 (Ae .i64 (AW .i64) g20 (kV (.int .i64 1)))
(cOp t22 (AU g0)
(cOp t23 (AB 57 g22)
(cDo (AE 1 g23 g21)
(AP 0 (cOp t25 (AB 1 g4)
(cOp t26 (AC g25)
(cOp t27 (AM iEq .i64 g26 (kV (.int .i64 290)))
(cOp t24 (oMove g27)
(AH g24
(cOp t29 (AU g0)
(cOp t30 (AB 17 g29)
(cOp t31 (AC g30)
(cOp t32 (oEq MM.k true g31 (kV (.pointer none)))
(AH g32
(Ad (cOp t34 (AU g0)
(cOp t35 (AB 17 g34)
(cOp t36 (AC g35)
(cOp t37 (AB 0 g4)
(cOp t38 (AC g37)
(cOp t39 (AB 2 g4)
(cOp t40 (AC g39)
(cOp t41 (AS .free (AD 9 [g36,g38,g40]))
cNorm)))))))))
cNorm)))))
(Ad (cOp t43 (AB 1 g4)
(cOp t44 (AC g43)
(cOp t46 (AU g0)
(cOp t47 (AB 15 g46)
(cOp t48 (AC g47)
(cOp t49 (Aa g48)
(cOp t50 (AM iLt .i64 g44 g49)
(cOp t42 (oMove g50)
(AH g42
(Ad (cOp t53 (AU g0)
(cOp t54 (AB 15 g53)
(cOp t55 (AC g54)
(cOp t56 (AB 1 g4)
(cOp t57 (AC g56)
(cOp t58 (Ai 1 g55 g57)
(cOp t59 (AC g58)
(cOp t60 (AB 2 g4)
(cOp t61 (AC g60)
(cOp t62 (AS .free (AD 177 [g59,g61]))
(cOp t63 (AK 0 g62)
(cOp t64 (AK 1 g62)
(cOp t6 (oMove g63)
(cOp t7 (oMove g64)
(cOp t66 (AM iEq .i64 g7 (kV (.int .i64 0)))
(AH g66
(cOp t68 (AB 1 g4)
(cOp t69 (AC g68)
(cOp t70 (AB 0 g4)
(cOp t71 (AC g70)
(cOp t73 (AD 83 [g0,g69,g71,g6])
cNorm)))))
cNorm)))))))))))))))))
(cOp t75 (AB 1 g4)
(cOp t76 (AC g75)
(cOp t77 (Ax Int.sub .i64 g76 (kV (.int .i64 260)))
(cOp t78 (AD 80 [g77])
(cOp t74 (oMove g78)
(AH g74
(cOp t80 (AB 1 g4)
(cOp t81 (AC g80)
(cOp t82 (Ax Int.sub .i64 g81 (kV (.int .i64 260)))
(cOp t83 (AB 2 g4)
(cOp t84 (AC g83)
(cOp t85 (AD 178 [g0,g82,g84])
cNorm))))))
cNorm))))))))))))))))))))))))))))))))))))))
def b77:Body:=⟨[],c77⟩
def jL:List Nat:=[8,9,13,17,28,33,45,51,52,65,67,72,79]
theorem fV:AV ty jL Tryz.f77=some b77:=by kernel_rfl
def c78:C:=
(cOp t5 (AU g0)
(cOp t6 (AB 17 g5)
(cOp t7 (AC g6)
(cOp t8 (oEq MM.k false g7 (kV (.pointer none)))
(AH g8
AQ
(cOp t10 (AD 179 [g0])
(cOp t11 (Aa g10)
(cOp t12 (oMove (kV (.int .i64 0)))
(AP 0 (Aj (cOp t13 (AM iLt .i64 g12 g11)
(AH g13
(AZ (AP 1 (cOp t14 (Ai 2 g10 g12)
(cOp t15 (AN 2 g14)
(cOp t3 (AY 2 H4)
(cDo (AE 2 g3 g15)
(Ad (cOp t17 (AU g0)
(cOp t18 (AB 55 g17)
(cOp t19 (AC g18)
(cOp t20 (AN 2 g3)
(cOp t21 (BN ⟨true,[.i .i64,.i .i64]⟩ (.int .i64 0) false g19 g20)
(cOp t22 (AM iEq .i64 g21 (kV (.int .i64 0)))
(AH g22
(Ad (cOp t24 (AU g0)
(cOp t25 (AB 55 g24)
(cOp t26 (AC g25)
(cOp t27 (AN 2 g3)
(cOp t29 (AU g0)
(cOp t30 (AB 18 g29)
(cOp t31 (AC g30)
(cDo (AS .free (Ar ⟨true,[.i .i64,.i .i64]⟩ g26 g27 g31))
cNorm)))))))))
cNorm)))))))))))))
(cOp t32 (Ae .i64 (AW .i64) g12 (kV (.int .i64 1)))
(cOp t12 (oMove g32)
cNorm)))
(Ah 0)))))))))))))
def b78:Body:=⟨[],c78⟩
def jM:List Nat:=[4,9,16,23,28]
theorem fW:AV ty jM Tryz.f78=some b78:=by kernel_rfl
def c80:C:=
(cOp t2 (oMove (kV (.bool false)))
(cOp t4 (AM iGe .i64 g0 (kV (.int .i64 0)))
(cG g4 true t6 (oMove g0)
(cG g4 true t7 (AM iLt .i64 g6 (kV (.int .i64 16)))
(cOp t8 (AO g4 g7 (kV (.bool false)))
(cOp t2 (oMove g8)
AQ))))))
def b80:Body:=⟨[.t g2],c80⟩
def jN:List Nat:=[3,5]
theorem fX:AV ty jN Tryz.f80=some b80:=by kernel_rfl
def c81:C:=
(cOp t3 (Av g1)
(cOp t4 (oMove (kV (.slice none 0 0)))
(cOp t5 (oMove (kV (.int .i64 0)))
(cOp t9 (AN 12 g3)
(cOp t10 (AD 132 [g9])
(cOp t11 (Ak g10)
(AH g11
(cOp t4 (oMove (kV (.slice none 0 0)))
(cOp t5 (oMove (kV (.int .i64 179)))
AQ))
(cOp t12 (AX 1 (Ao ty5.zero 1) [(0,1,(kV (.int .u8 3)))])
(cOp t13 (AB 0 g3)
(cOp t14 (AC g13)
(cOp t15 (AB 1 g3)
(cOp t16 (AC g15)
(cOp t17 (AB 2 g3)
(cOp t18 (AC g17)
(cOp t19 (A5 .i64 g18)
(cOp t20 (AB 3 g3)
(cOp t21 (AB 0 g20)
(cOp t22 (AC g21)
(cOp t23 (AB 3 g3)
(cOp t24 (AB 1 g23)
(cOp t25 (AC g24)
(cOp t26 (AB 6 g3)
(cOp t27 (AB 0 g26)
(cOp t28 (AC g27)
(cOp t29 (AB 6 g3)
(cOp t30 (AB 1 g29)
(cOp t31 (AC g30)
(cOp t32 (AB 9 g3)
(cOp t33 (AC g32)
(cOp t34 (AB 10 g3)
(cOp t35 (AC g34)
(cOp t36 (AX 9 (Ao ty3.zero 9) [(0,1,g14),(1,1,g16),(2,1,g19),(3,1,g22),(4,1,g25),(5,1,g28),(6,1,g31),(7,1,g33),(8,1,g35)])
(cOp t37 (AD 188 [g12,g36])
(cOp t6 (oMove g37)
(cOp t38 (AB 5 g3)
(cOp t39 (AC g38)
(cOp t40 (DO 5 g39)
(cOp t41 (AB 8 g3)
(cOp t42 (AC g41)
(cOp t43 (DO 5 g42)
(cOp t44 (AB 11 g3)
(cOp t45 (AC g44)
(cOp t46 (Ac Zb.zero [(0,1,g40),(1,1,g43),(2,1,g45)])
(cOp t47 (oMove (kV (.int .i64 0)))
(AZ (AP 0 (Aj (cOp t48 (AM iLt .i64 g47 (kV (.int .i64 3)))
(AH g48
(AZ (AP 1 (cOp t49 (oAt false 3 1 g46 g47)
(cOp t8 (oMove g49)
(cOp t52 (AD 189 [g6,g8])
(cOp t6 (oMove g52)
cNorm)))))
(cOp t53 (Ae .i64 (AW .i64) g47 (kV (.int .i64 1)))
(cOp t47 (oMove g53)
cNorm)))
(Ah 0)))))
(cOp t56 (AD 190 [g0,g6])
(cOp t4 (oMove g56)
(cOp t5 (oMove (kV (.int .i64 0)))
AQ))))))))))))))))))))))))))))))))))))))))))))))))
def b81:Body:=⟨[.t g4,.t g5],c81⟩
def jO:List Nat:=[50,51,54,55]
theorem fY:AV ty jO Tryz.f81=some b81:=by kernel_rfl
def c82:C:=
(cOp t2 (oMove (kV (.slice none 0 0)))
(cOp t4 (oEq Hx.k false g0 (kV (.slice none 0 0)))
(AH g4
(cOp t2 (oMove (kV (.slice none 0 0)))
AQ)
(cOp t5 (AX 0 (Ao ty5.zero 0) [])
(cOp t7 (Am 1 1 5 g5 g0)
(cOp t2 (oMove g7)
AQ))))))
def b82:Body:=⟨[.t g2],c82⟩
def jP:List Nat:=[3,6]
theorem fZ:AV ty jP Tryz.f82=some b82:=by kernel_rfl
def c83:C:=
(cOp t9 (AU g0)
(cOp t10 (AB 56 g9)
(cOp t11 (AC g10)
(cOp t12 (Ae .i64 (AW .i64) g11 (kV (.int .i64 1)))
(cOp t13 (AU g0)
(cOp t14 (AB 56 g13)
(cDo (AE 1 g14 g12)
(cOp t16 (AU g0)
(cOp t17 (AB 13 g16)
(cOp t18 (AC g17)
(cOp t22 (AD 191 [g18,g1,g2,g3])
(cOp t23 (AM iNe .i64 g22 (kV (.int .i64 0)))
(AH g23
(cOp t25 (AU g0)
(cOp t26 (AB 58 g25)
(cOp t27 (AC g26)
(cOp t28 (Ae .i64 (AW .i64) g27 (kV (.int .i64 1)))
(cOp t29 (AU g0)
(cOp t30 (AB 58 g29)
(cDo (AE 1 g30 g28)
cNorm)))))))
cNorm)))))))))))))
def b83:Body:=⟨[],c83⟩
def jQ:List Nat:=[8,15,19,20,21,24]
theorem fa:AV ty jQ Tryz.f83=some b83:=by kernel_rfl
def c84:C:=
(cOp t4 (oMove (kV (.int .i64 0)))
(AZ (AP 0 (cOp t7 (AD 68 [g0])
(cOp t5 (oMove g7)
(AH g5
(cOp t4 (oMove (kV (.int .i64 1)))
AQ)
(cOp t10 (AM iLt .i64 g1 (kV (.int .i64 0)))
(cG g10 false t12 (oMove g1)
(cG g10 false t13 (oMove g0)
(cG g10 false t14 (AU g13)
(cG g10 false t15 (AB 13 g14)
(cG g10 false t16 (AC g15)
(cG g10 false t17 (AD 76 [g16])
(cG g10 false t18 (AM iGe .i64 g12 g17)
(cOp t19 (AO g10 (kV (.bool true)) g18)
(cOp t8 (oMove g19)
(AH g8
(cOp t4 (oMove (kV (.int .i64 2)))
AQ)
cNorm)))))))))))))))
(cOp t4 (oMove (kV (.int .i64 0)))
AQ)))
def b84:Body:=⟨[.t g4],c84⟩
def jR:List Nat:=[6,9,11]
theorem fb:AV ty jR Tryz.f84=some b84:=by kernel_rfl
def c86:C:=
(cOp t4 (oMove (kV (.bool false)))
(cOp t7 (AD 192 [g0,g1])
(cOp t8 (Ak g7)
(AH g8
(cOp t4 (oMove (kV (.bool false)))
AQ)
(Ad (cOp t10 (AU g0)
(cOp t11 (AB 3 g10)
(cOp t12 (AC g11)
(cOp t14 (AU g0)
(cOp t15 (AB 2 g14)
(cOp t16 (AC g15)
(cOp t18 (Ai 3 g16 g1)
(cOp t19 (AB 1 g18)
(cOp t20 (AC g19)
(cOp t21 (BN ⟨false,[.i .i64]⟩ (.int .i64 0) false g12 g20)
(cOp t22 (Ax Int.sub .i64 g21 (kV (.int .i64 1)))
(cDo (AS .free (Ar ⟨false,[.i .i64]⟩ g12 g20 g22))
(Ad (cOp t25 (AU g0)
(cOp t26 (AB 2 g25)
(cOp t27 (AC g26)
(cOp t29 (BF 202 3 g27 none (some g1) none)
(cOp t31 (AU g0)
(cOp t32 (AB 2 g31)
(cOp t33 (AC g32)
(cOp t35 (Ae .i64 (AW .i64) g1 (kV (.int .i64 1)))
(cOp t36 (BF 202 3 g33 (some g35) none none)
(cOp t37 (AS .strong (AX 2 (Ao qS.zero 2) [(0,1,g29),(1,1,g36)]))
(cOp t38 (AS .free (AD 194 [g37]))
(cOp t39 (AU g0)
(cOp t40 (AB 2 g39)
(cDo (AS .free (AE 1 g40 g38))
(cOp t4 (oMove (kV (.bool true)))
AQ)))))))))))))))))))))))))))))))))
def b86:Body:=⟨[.t g4],c86⟩
def jS:List Nat:=[5,6,9,13,17,23,24,28,30,34]
theorem fc:AV ty jS Tryz.f86=some b86:=by kernel_rfl
def c90:C:=
(cOp t2 (oMove (kV (.int .i64 0)))
(cOp t4 (AD 195 [g0])
(AH g4
(cOp t2 (oMove (kV (.int .i64 0)))
AQ)
(cOp t6 (AU g0)
(cOp t7 (AB 0 g6)
(cOp t8 (AC g7)
(cOp t9 (Aa g8)
(cOp t2 (oMove g9)
AQ))))))))
def b90:Body:=⟨[.t g2],c90⟩
def jT:List Nat:=[3,5]
theorem fd:AV ty jT Tryz.f90=some b90:=by kernel_rfl
def c97:C:=
(cOp t2 (oMove (kV (.slice none 0 0)))
(cOp t4 (oEq qe.k false g0 (kV (.slice none 0 0)))
(AH g4
(cOp t2 (oMove (kV (.slice none 0 0)))
AQ)
(cOp t5 (AX 0 (Ao ty3.zero 0) [])
(cOp t7 (Am 1 8 3 g5 g0)
(cOp t2 (oMove g7)
AQ))))))
def b97:Body:=⟨[.t g2],c97⟩
def jU:List Nat:=[3,6]
theorem fe:AV ty jU Tryz.f97=some b97:=by kernel_rfl
def c99:C:=
(cOp t2 (oMove (kV (.slice none 0 0)))
(cOp t4 (oEq xy.k false g0 (kV (.slice none 0 0)))
(AH g4
(cOp t2 (oMove (kV (.slice none 0 0)))
AQ)
(cOp t5 (AX 0 (Ao NE.zero 0) [])
(cOp t7 (Am 25 264 167 g5 g0)
(cOp t2 (oMove g7)
AQ))))))
def b99:Body:=⟨[.t g2],c99⟩
def jV:List Nat:=[3,6]
theorem ff:AV ty jV Tryz.f99=some b99:=by kernel_rfl
def yK:C:=
(cOp t2 (oMove (kV (.slice none 0 0)))
(cOp t4 (oEq ZP.k false g0 (kV (.slice none 0 0)))
(AH g4
(cOp t2 (oMove (kV (.slice none 0 0)))
AQ)
(cOp t5 (AX 0 (Ao Ix.zero 0) [])
(cOp t7 (Am 2 24 180 g5 g0)
(cOp t2 (oMove g7)
AQ))))))
def Zr:Body:=⟨[.t g2],yK⟩
def Vo:List Nat:=[3,6]
theorem QM:AV ty Vo Tryz.f100=some Zr:=by kernel_rfl
def yL:C:=
(cOp t2 (oMove (kV (.int .i64 0)))
(cOp t3 (oMove (kV (.int .i64 0)))
(cOp t4 (oMove (kV (.bool false)))
(cOp t18 (AD 179 [g0])
(cOp t5 (oMove g18)
(cOp t6 (oMove (kV (.int .i64 0)))
(cOp t7 (oMove (kV (.int .i64 0)))
(cOp t8 (oMove (kV (.bool true)))
(cOp t19 C8
(cOp t9 (oMove g19)
(cOp t20 (oMove g5)
(cOp t21 (Aa g20)
(cOp t22 (oMove (kV (.int .i64 0)))
(AZ (AP 0 (Aj (cOp t23 (AM iLt .i64 g22 g21)
(AH g23
(AZ (AP 1 (cOp t24 (Ai 2 g20 g22)
(cOp t25 (AN 2 g24)
(cOp t11 (AY 2 H4)
(cDo (AE 2 g11 g25)
(cOp t27 (AB 0 g11)
(cOp t28 (AC g27)
(cOp t29 (AB 1 g11)
(cOp t30 (AC g29)
(cDo (Ar ⟨false,[.i .i64]⟩ g9 g28 g30)
(cOp t33 (AU g0)
(cOp t34 (AB 0 g33)
(cOp t35 (AB 1 g34)
(cOp t36 (AC g35)
(cOp t37 (Ae .i64 (AW .i64) g6 g36)
(cOp t6 (oMove g37)
cNorm))))))))))))))))
(cOp t38 (Ae .i64 (AW .i64) g22 (kV (.int .i64 1)))
(cOp t22 (oMove g38)
cNorm)))
(Ah 0)))))
(cOp t40 (AU g0)
(cOp t41 (AB 15 g40)
(cOp t42 (AC g41)
(cOp t43 (Aa g42)
(cOp t44 (oMove (kV (.int .i64 0)))
(AZ (AP 2 (Aj (cOp t45 (AM iLt .i64 g44 g43)
(AH g45
(AZ (AP 3 (cOp t47 (Ai 1 g42 g44)
(cOp t48 (AC g47)
(cOp t12 (oMove g44)
(cOp t13 (oMove g48)
(cOp t50 (AD 198 [g13])
(cOp t51 (Aa g50)
(cOp t52 (oMove (kV (.int .i64 0)))
(AP 4 (Aj (cOp t53 (AM iLt .i64 g52 g51)
(AH g53
(AZ (AP 5 (cOp t54 (Ai 5 g50 g52)
(cOp t55 (AN 5 g54)
(cOp t15 (AY 5 NL)
(cDo (AE 5 g15 g55)
(cOp t57 (AB 0 g15)
(cOp t58 (AC g57)
(cOp t59 (AD 93 [g0,g58])
(cOp t61 (AD 199 [g59,g12])
(cOp t16 (oMove g61)
(AP 6 (cOp t64 (AM iLt .i64 g16 (kV (.int .i64 0)))
(cOp t62 (oMove g64)
(AH g62
cNorm
(cOp t67 (AB 1 g15)
(cOp t68 (AC g67)
(cOp t69 (AM iEq .i64 g16 g68)
(cG g69 true t71 (AB 2 g15)
(cG g69 true t72 (AC g71)
(cG g69 true t73 (oMove g9)
(cG g69 true t74 (AB 0 g15)
(cG g69 true t75 (AC g74)
(cG g69 true t76 (BN ⟨false,[.i .i64]⟩ (.int .i64 0) false g73 g75)
(cG g69 true t77 (AM iEq .i64 g72 g76)
(cOp t78 (AO g69 g77 (kV (.bool false)))
(cOp t65 (oMove g78)
(AH g65
(cOp t80 (Ae .i64 (AW .i64) g7 (kV (.int .i64 1)))
(cOp t7 (oMove g80)
(cG g8 true t83 (AB 3 g15)
(cG g8 true t84 (AC g83)
(cG g8 true t85 (AM iEq .u8 g84 (kV (.int .u8 2)))
(cOp t86 (AO g8 g85 (kV (.bool false)))
(cOp t8 (oMove g86)
cNorm)))))))
(cOp t8 (oMove (kV (.bool false)))
cNorm))))))))))))))))))))))))))))
(cOp t87 (Ae .i64 (AW .i64) g52 (kV (.int .i64 1)))
(cOp t52 (oMove g87)
cNorm)))
(Ah 4)))))))))))))
(cOp t88 (Ae .i64 (AW .i64) g44 (kV (.int .i64 1)))
(cOp t44 (oMove g88)
cNorm)))
(Ah 2)))))
(cOp t2 (oMove g7)
(cOp t3 (oMove g6)
(cOp t4 (oMove g8)
AQ)))))))))))))))))))))))
def Zs:Body:=⟨[.t g2,.t g3,.t g4],yL⟩
def Vp:List Nat:=[17,26,31,32,39,46,49,56,60,63,66,70,79,81,82,89,90,91]
theorem QN:AV ty Vp Tryz.f101=some Zs:=by kernel_rfl
end
end Go.Proofs.YtglkncnkbofgfaaGreat

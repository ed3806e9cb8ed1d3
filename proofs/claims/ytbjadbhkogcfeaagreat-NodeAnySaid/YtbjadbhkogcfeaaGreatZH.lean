/-
  Part ZH of what Lawan stands on: printed by program, names and spaces cut.
-/
import Derived.Test.YtbjadbhkogcfeaaGreatZG
import Derived.Test.YtbjadbhkogcfeaaGreatProg
open Go.Value renaming int→AI
open Go.IntKind renaming i64→AT
open Go renaming Value→IN,Program→vA,TypeDesc→zJ
open Go.Result renaming andThen_ok→tX
open Go.Sem renaming run_bind→tf,run_pure→tg
open Nat renaming succ→tk,beq→tm,mul→ur
open Bool renaming and_eq_true→uB
open Go.Place renaming get→ABI
open Go.Made renaming depth→ABN
set_option linter.unusedSimpArgs false
set_option linter.unusedVariables false
namespace Go.Proofs.YtbjadbhkogcfeaaGreat
noncomputable section
open Go
def veq:IN->IN->Bool
 |.bool a,.bool b=>a == b
 |.int j a,.int k b=>Fj j k && iEq a b
 |.string a,.string b=>bEq a.data.toList b.data.toList
 |.pointer none,.pointer none=>true
 |.slice none 0 0,.slice none 0 0=>true
 |.map none,.map none=>true
 |.nilFunc,.nilFunc=>true
 |.nilIface,.nilIface=>true
 |_,_=>false
def leq:List IN->List IN->Bool
 |[],[]=>true
 |a::x,b::y=>veq a b && leq x y
 |_,_=>false
def zeq:IN->IN->Bool
 |.agg a,.agg b=>leq a.toList b.toList
 |.agg _,_=>false
 |a,b=>veq a b
theorem cH{a b:IN}(h:veq a b=true):a=b:=by
 unfold veq at h;split at h
 ·simpa using h
 ·rw[uB,Dh]at h
  have h1:=Hq h.1;rw[h1,eq_of_beq h.2]
 ·rw[Lq]at h
  rename_i a b;have e1:=MD (a:=a) (eq_of_beq h);have e2:=MD (a:=b) rfl;exact congrArg Value.string (e1.trans e2.symm)
 all_goals first|rfl|cases h
theorem Zt:∀ {a b:List IN},leq a b=true->a=b
 |[],[],_=>rfl
 |x::a,y::b,h=>by
  have h:(veq x y && leq a b)=true:=h;rw[uB]at h;rw[cH h.1,Zt h.2]
 |[],_::_,h=>by cases h
 |_::_,[],h=>by cases h
theorem qX{a b:IN}(h:zeq a b=true):a=b:=by
 unfold zeq at h;split at h
 ·rename_i x y
  have:=Zt h
  congr 1
  exact Array.ext' this
 ·cases h
 ·exact cH h
def eX:List (Nat×Nat×Nat)->List (Nat×Nat×Nat)->Bool
 |[],[]=>true
 |(a,b,c)::x,(d,e,f)::y=>tm a d && (tm b e && (tm c f && eX x y))
 |_,_=>false
theorem Uq:∀ {x y:List (Nat×Nat×Nat)},eX x y=true->x=y
 |[],[],_=>rfl
 |(a,b,c)::x,(d,e,f)::y,h=>by
  have h:(tm a d && (tm b e && (tm c f && eX x y)))=true:=h;simp only[uB]at h;rw[A1.1 h.1,A1.1 h.2.1,A1.1 h.2.2.1,Uq h.2.2.2]
 |[],_::_,h=>by cases h
 |_::_,[],h=>by cases h
def Zo(P:vA)(k:TK)(d:zJ):Bool:=match k,d with
 |.int a,.int b=>Fj a b
 |.bool,.bool=>true
 |.string,.string=>true
 |.ptr a,.pointer b=>tm a b
 |.slice a,.slice b=>tm a b
 |.arr n a,.array m b=>tm n m && tm a b
 |.map n a,.map m b=>tm n m && tm a b
 |.struct fs,.struct fields=>eX (fields.toList.map fun f=>(f.offset,P.cellsOf f.type,f.type)) fs && fields.toList.all fun f=>(P.info? f.type).isSome
 |.iface,.interface _=>true
 |.func,.func _ _ _=>true
 |.other,.struct _=>false
 |.other,.array _ _=>false
 |.other,.interface _=>false
 |.other,_=>true
 |_,_=>false
theorem Zp{P:vA}{k:TK}{d:zJ}(h:Zo P k d=true):KOk P k d:=by
 unfold Zo at h;split at h
 ·rw[Hq h];exact .int _
 ·exact .bool
 ·exact .string
 ·rw[A1.1 h];exact .ptr _
 ·rw[A1.1 h];exact .slice _
 ·rw[uB]at h
  rw[A1.1 h.1,A1.1 h.2];exact .arr _ _
 ·rw[uB]at h
  rw[A1.1 h.1,A1.1 h.2];exact .map _ _
 ·rw[uB]at h
  exact .struct (Uq h.1) h.2
 ·exact .iface _
 ·exact .func _ _ _
 ·cases h
 ·cases h
 ·cases h
 ·rename_i q1 q2 q3
  refine .other ?_;split
  ·rename_i f;exact absurd rfl (q1 f)
  ·rename_i n e;exact absurd rfl (q2 n e)
  ·rename_i m;exact absurd rfl (q3 m)
  ·rfl
 ·cases h
def cV(ti:TI)(z:Option IN):Bool:=
 (match ti.zero with
  |[]=>Nat.blt 0 ti.size
  |_::_=>false) ||
 (match zeroV ti,z with
  |some a,some b=>zeq a b && (ti.zero.all plainV && tm (Di ti.zero) ti.size)
  |_,_=>false)
theorem cW{ti:TI}{z:Option IN}(h:cV ti z=true):(ti.zero=[]/\0<ti.size)\/∃ y,zeroV ti=some y/\z=some y/\ti.zero.all plainV=true/\ti.zero.length=ti.size:=by
 unfold cV at h;rw[Bool.or_eq_true]at h;rcases h with h|h
 ·left
  split at h
  ·rename_i hz;exact⟨hz,Ba.1 h⟩
  ·cases h
 ·right
  split at h
  ·rename_i a b ha
   simp only[uB]at h;have h3:=A1.1 h.2.2;rw[Bi]at h3;exact⟨a,ha,by rw[qX h.1],h.2.1,h3⟩
  ·cases h
def tI(b:Bool):zJ->Bool
 |.pointer _=>b
 |_=>not b
def Va(P:vA)(t:Nat)(name:String)(f:Nat):Bool:=match P.info? t with
 |some i=>match i.methods.find? (·.name == name)with
  |some m=>match m.path.toList with
   |[]=>match m.func with
    |some (g,b)=>match P.underlying t with
     |some d=>tm g f && tI b d
     |none=>false
    |none=>false
   |_::_=>false
  |none=>false
 |none=>false
theorem Zy{P:vA}{t:Nat}{name:String}{f:Nat}(h:Va P t name f=true)(v:IN)(w:World):(method (P.types.size+ABN) t v name).run P w=.ok (f,v) w:=by
 unfold Va at h;split at h
 ·rename_i i hi
  split at h
  ·rename_i m hm
   split at h
   ·rename_i hp
    split at h
    ·rename_i g b hg
     split at h
     ·rename_i d hd
      rw[uB]at h;have e1:=A1.1 h.1;subst e1;have h2:=h.2;show(method ((P.types.size+99)+1) t v name).run P w=_;unfold method;simp only[typeInfo,tf,run_program,tX,hi,tg,hm,hp,follow,hg,receiverAt,underlying,hd];cases d with
      |pointer e=>
       have hb:b=true:=h2;subst hb;simp only[ABI,tf,tg,tX]
      |_=>
       have hb:b=false:=by
        have h2:(!b)=true:=h2;cases b with
        |true=>cases h2
        |false=>rfl
       subst hb;simp only[ABI,tf,tg,tX]
     ·cases h
    ·cases h
   ·cases h
  ·cases h
 ·cases h
def Vd(P:vA)(t:Nat):List (String×Nat)->Bool
 |[]=>true
 |x::l=>Va P t x.1 x.2 && Vd P t l
theorem Q1{P:vA}{t:Nat}:∀ {l:List (String×Nat)},Vd P t l=true->∀ name f,findM name l=some f->∀ v w,(method (P.types.size+ABN) t v name).run P w=.ok (f,v) w
 |[],_,name,f,h=>by cases h
 |x::l,hb,name,f,h=>by
  have hb:(Va P t x.1 x.2 && Vd P t l)=true:=hb;rw[uB]at hb;unfold findM at h;split at h
  ·rename_i hn
   cases h;rw[<- eq_of_beq hn];exact fun v w=>Zy hb.1 v w
  ·exact Q1 hb.2 name f h
def tyB(P:vA)(t:Nat)(ti:TI):Bool:=match P.info? t with
 |some i=>match P.underlying t with
  |some d=>tm i.size ti.size && (tm i.bytes ti.bytes && (cV ti i.zero && (Zo P ti.k d && (ADd P t && Vd P t ti.ms))))
  |none=>false
 |none=>false
theorem qJ{P:vA}(hd:8<=P.depth){t:Nat}{ti:TI}(h:tyB P t ti=true):AB5 P t ti:=by
 unfold tyB at h;split at h
 ·rename_i i hi
  split at h
  ·rename_i d hu
   simp only[uB]at h;exact⟨h.2.2.2.2.1,hd,⟨i,hi,A1.1 h.1,A1.1 h.2.1,cW h.2.2.1⟩,⟨d,hu,Zp h.2.2.2.1⟩,Q1 h.2.2.2.2.2⟩
  ·cases h
 ·cases h
def sU(P:vA)(t:Nat):Option TI->Bool
 |some ti=>tyB P t ti
 |none=>true
def Xv(P:vA):TTy->(Nat->Nat)->Bool
 |.mt,_=>true
 |.nd ti l r,ix=>sU P (ix 0) ti && (Xv P l (fun k=>ix (tk (ur 2 k))) && Xv P r (fun k=>ix (tk (tk (ur 2 k)))))
theorem NC{P:vA}(hd:8<=P.depth):∀ {t:TTy} {ix:Nat->Nat},Xv P t ix=true->∀ i ti,t.get i=some ti->AB5 P (ix i) ti
 |.mt,ix,_,i,b,h=>by cases h
 |.nd c l r,ix,hb,i,b,h=>by
  have hb:(sU P (ix 0) c && (Xv P l (fun k=>ix (tk (ur 2 k))) && Xv P r (fun k=>ix (tk (tk (ur 2 k))))))=true:=hb;simp only[uB]at hb;cases i with
  |zero=>
   have h:c=some b:=h;subst h;exact qJ hd hb.1
  |succ k=>
   unfold TTy.get at h;have e1:Nat.mod k 2=k % 2:=rfl;have e2:Nat.div k 2=k / 2:=rfl;rw[e1,e2]at h;rcases Nat.mod_two_eq_zero_or_one k with hk|hk
   ·rw[hk]at h
    have:=NC hd hb.2.1 (k/2) b h;have e:tk (ur 2 (k/2))=k+1:=by show 2*(k/2)+1=k+1;omega
    simp only[e]at this;exact this
   ·rw[hk]at h
    have:=NC hd hb.2.2 (k/2) b h;have e:tk (tk (ur 2 (k/2)))=k+1:=by show 2*(k/2)+1+1=k+1;omega
    simp only[e]at this;exact this
theorem qH{P:vA}{ty:TTy}(hd:Nat.ble 8 P.depth=true)(h:Xv P ty (fun k=>k)=true):DI P ty:=fun t ti ht=>NC (Ar.1 hd) h t ti ht
end
noncomputable section
open Go
def ty3:TI:=⟨.int .i64,1,8,[AI AT 0],[]⟩
def ty4:TI:=⟨.bool,1,1,[.bool false],[]⟩
def ty5:TI:=⟨.int .u8,1,1,[.int .u8 0],[]⟩
def ty9:TI:=⟨.string,1,16,[.string .empty],[]⟩
def tM:TI:=⟨.slice 36,1,24,[.slice none 0 0],[]⟩
def tN:TI:=⟨.int .u32,1,4,[.int .u32 0],[]⟩
def iO:TI:=⟨.arr 256 23,256,1024,BO [.int .u32 0] 256,[]⟩
def Xy:TI:=⟨.ptr 91,1,8,[.pointer none],[("Arm",17),("Cached",46),("Crash",20),("Down",19),("Flush",124),("Read",109),("Size",71),("Write",123),("cooperage/disk.none",45),("cooperage/disk.operation",147),("cooperage/disk.there",133)]⟩
def SK:TI:=⟨.ptr 83,1,8,[.pointer none],[("All",13),("Do",11),("Handle",24),("Life",12),("Over",27),("cooperage/node.abort",36),("cooperage/node.commit",35),("cooperage/node.drop",39),("cooperage/node.infos",61),("cooperage/node.list",38),("cooperage/node.prepare",34),("cooperage/node.read",37),("cooperage/node.told",33),("cooperage/node.up",31)]⟩
def SL:TI:=⟨.ptr 25,1,8,[.pointer none],[]⟩
def tO:TI:=⟨.int .u8,1,1,[.int .u8 0],[]⟩
def Ht:TI:=⟨.slice 5,1,24,[.slice none 0 0],[]⟩
def NH:TI:=⟨.struct [(0,1,3),(1,1,3),(2,1,33),(3,1,3),(4,1,3),(5,1,3),(6,1,34)],7,72,[AI AT 0,AI AT 0,.int .u8 0,AI AT 0,AI AT 0,AI AT 0,.slice none 0 0],[]⟩
def tP:TI:=⟨.int .i64,1,8,[AI AT 0],[]⟩
def tQ:TI:=⟨.slice 53,1,24,[.slice none 0 0],[]⟩
def G8:TI:=⟨.struct [(0,1,3),(1,1,3),(2,1,33),(3,1,37),(4,1,38),(5,1,34),(6,1,3)],7,88,[AI AT 0,AI AT 0,.int .u8 0,AI AT 0,.slice none 0 0,.slice none 0 0,AI AT 0],[]⟩
def tR:TI:=⟨.slice 55,1,24,[.slice none 0 0],[]⟩
def tS:TI:=⟨.int .u8,1,1,[.int .u8 0],[]⟩
def NJ:TI:=⟨.struct [(0,1,3),(1,1,3),(2,1,3),(3,1,51)],4,32,[AI AT 0,AI AT 0,AI AT 0,.int .u8 0],[]⟩
def IO:TI:=⟨.struct [(0,1,3),(1,1,3),(2,1,3),(3,1,51),(4,1,34)],5,56,[AI AT 0,AI AT 0,AI AT 0,.int .u8 0,.slice none 0 0],[]⟩
def tT:TI:=⟨.slice 34,1,24,[.slice none 0 0],[]⟩
def SM:TI:=⟨.func,1,8,[.nilFunc],[]⟩
def Hu:TI:=⟨.ptr 121,1,8,[.pointer none],[("Abort",60),("All",40),("Bad",183),("Commit",59),("Drop",67),("Get",63),("Over",53),("Prepare",58),("Room",57),("Sound",64),("cooperage/slots.all",101),("cooperage/slots.at",100),("cooperage/slots.find",95),("cooperage/slots.gone",104),("cooperage/slots.look",73),("cooperage/slots.now",128),("cooperage/slots.out",105),("cooperage/slots.read",113),("cooperage/slots.stale",97),("cooperage/slots.strike",81),("cooperage/slots.up",92),("cooperage/slots.write",99)]⟩
def iP:TI:=⟨.struct [(0,1,27),(1,1,31),(2,1,81),(3,1,3)],4,32,[.pointer none,.pointer none,.pointer none,AI AT 0],[]⟩
def tU:TI:=⟨.slice 95,1,24,[.slice none 0 0],[]⟩
def iQ:TI:=⟨.map 3 95,1,8,[.map none],[]⟩
def iR:TI:=⟨.struct [(0,1,88),(1,1,89),(2,1,3),(3,1,4)],4,48,[.slice none 0 0,.map none,AI AT 0,.bool false],[]⟩
def Tq:TI:=⟨.slice 3,1,24,[.slice none 0 0],[]⟩
def Ko:TI:=⟨.arr 64 5,64,64,BO [.int .u8 0] 64,[]⟩
def sN:TI:=⟨.int .u64,1,8,[.int .u64 0],[]⟩
def OY:TI:=⟨.slice 123,1,24,[.slice none 0 0],[]⟩
def SI:TI:=⟨.struct [(0,1,27),(1,1,31),(2,1,3),(3,1,119),(4,1,92),(5,1,3),(6,1,4)],7,88,[.pointer none,.pointer none,AI AT 0,.slice none 0 0,.slice none 0 0,AI AT 0,.bool false],[]⟩
def Dr:TI:=⟨.struct [(0,5,55),(5,1,3)],6,64,[AI AT 0,AI AT 0,AI AT 0,.int .u8 0,.slice none 0 0,AI AT 0],[]⟩
def SJ:TI:=⟨.int .u64,1,8,[.int .u64 0],[]⟩
def sO:TI:=⟨.slice 76,1,24,[.slice none 0 0],[]⟩
def sP:TI:=⟨.slice 140,1,24,[.slice none 0 0],[]⟩
def sQ:TI:=⟨.arr 6 140,6,48,BO [.int .u64 0] 6,[]⟩
def sR:TI:=⟨.int .i64,1,8,[AI AT 0],[]⟩
set_option maxRecDepth 100000 in
def ty:TTy:=(.nd none (.nd none (.nd (some ty3) (.nd none (.nd none (.nd (some SL) .mt (.nd (some Ko) .mt .mt)) .mt) (.nd (some tN) .mt (.nd (some IO) .mt (.nd (some OY) .mt .mt)))) (.nd none (.nd none .mt (.nd (some tS) (.nd (some iP) .mt .mt) .mt)) (.nd (some Xy) .mt (.nd none (.nd (some iR) .mt .mt) (.nd (some Dr) .mt .mt))))) (.nd (some ty5) (.nd (some ty9) (.nd none (.nd (some tO) .mt .mt) (.nd none (.nd (some Hu) .mt .mt) .mt)) (.nd (some iO) .mt (.nd none (.nd (some iQ) .mt .mt) (.nd (some SI) .mt .mt)))) (.nd none (.nd none (.nd (some tP) .mt .mt) (.nd (some NJ) .mt .mt)) .mt))) (.nd none (.nd (some ty4) (.nd none (.nd none (.nd none (.nd (some tT) .mt .mt) .mt) .mt) (.nd none (.nd (some G8) .mt .mt) (.nd none (.nd (some tU) (.nd (some sO) .mt .mt) .mt) .mt))) (.nd none (.nd none (.nd (some NH) .mt .mt) (.nd none .mt (.nd none (.nd (some sR) .mt .mt) .mt))) (.nd (some SK) (.nd (some tR) (.nd (some SM) (.nd (some SJ) .mt .mt) .mt) (.nd (some sN) (.nd (some sP) .mt .mt) .mt)) (.nd none (.nd (some Tq) .mt .mt) .mt)))) (.nd none (.nd none (.nd none (.nd (some Ht) .mt .mt) (.nd none .mt (.nd none (.nd (some sQ) .mt .mt) .mt))) .mt) (.nd none (.nd (some tM) (.nd (some tQ) .mt .mt) .mt) .mt))))
end
end Go.Proofs.YtbjadbhkogcfeaaGreat

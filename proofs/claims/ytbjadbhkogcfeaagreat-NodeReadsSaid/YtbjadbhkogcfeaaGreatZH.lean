/-
  Part ZH of what Lawnr stands on: printed by program, names and spaces cut.
-/
import Derived.Test.YtbjadbhkogcfeaaGreatZG
import Derived.Test.YtbjadbhkogcfeaaGreatProg
open Go.Value renaming int→AI
open Go.IntKind renaming i64→AT
open Go renaming Value→IN,Program→yw,TypeDesc→AB6
open Go.Result renaming andThen_ok→xU
open Nat renaming succ→xW,beq→xr,mul→yl
open Go.Sem renaming run_bind→xh,run_pure→xk
open Bool renaming and_eq_true→yA
open Go.Place renaming get→ADs
open Go.Made renaming depth→ADx
set_option linter.unusedSimpArgs false
set_option linter.unusedVariables false
namespace Go.Proofs.YtbjadbhkogcfeaaGreat
noncomputable section
open Go
def veq:IN->IN->Bool
 |.bool a,.bool b=>a == b
 |.int j a,.int k b=>Dh j k && iEq a b
 |.string a,.string b=>bEq a.data.toList b.data.toList
 |.pointer none,.pointer none=>true
 |.slice none 0 0,.slice none 0 0=>true
 |.map none,.map none=>true
 |.nilFunc,.nilFunc=>true
 |.nilIface,.nilIface=>true
 |_,_=>false
def leq:List IN->List IN->Bool
 |[],[]=>true
 |a::x,b::y=>veq a b && leq x y
 |_,_=>false
def zeq:IN->IN->Bool
 |.agg a,.agg b=>leq a.toList b.toList
 |.agg _,_=>false
 |a,b=>veq a b
theorem cK{a b:IN}(h:veq a b=true):a=b:=by
 unfold veq at h;split at h
 ·simpa using h
 ·rw[yA,DY]at h
  have h1:=Hm h.1;rw[h1,eq_of_beq h.2]
 ·rw[Lp]at h
  rename_i a b;have e1:=L9 (a:=a) (eq_of_beq h);have e2:=L9 (a:=b) rfl;exact congrArg Value.string (e1.trans e2.symm)
 all_goals first|rfl|cases h
theorem Z1:∀ {a b:List IN},leq a b=true->a=b
 |[],[],_=>rfl
 |x::a,y::b,h=>by
  have h:(veq x y && leq a b)=true:=h;rw[yA]at h;rw[cK h.1,Z1 h.2]
 |[],_::_,h=>by cases h
 |_::_,[],h=>by cases h
theorem se{a b:IN}(h:zeq a b=true):a=b:=by
 unfold zeq at h;split at h
 ·rename_i x y
  have:=Z1 h
  congr 1
  exact Array.ext' this
 ·cases h
 ·exact cK h
def gT:List (Nat×Nat×Nat)->List (Nat×Nat×Nat)->Bool
 |[],[]=>true
 |(a,b,c)::x,(d,e,f)::y=>xr a d && (xr b e && (xr c f && gT x y))
 |_,_=>false
theorem UV:∀ {x y:List (Nat×Nat×Nat)},gT x y=true->x=y
 |[],[],_=>rfl
 |(a,b,c)::x,(d,e,f)::y,h=>by
  have h:(xr a d && (xr b e && (xr c f && gT x y)))=true:=h;simp only[yA]at h;rw[Az.1 h.1,Az.1 h.2.1,Az.1 h.2.2.1,UV h.2.2.2]
 |[],_::_,h=>by cases h
 |_::_,[],h=>by cases h
def Zx(P:yw)(k:TK)(d:AB6):Bool:=match k,d with
 |.int a,.int b=>Dh a b
 |.bool,.bool=>true
 |.string,.string=>true
 |.ptr a,.pointer b=>xr a b
 |.slice a,.slice b=>xr a b
 |.arr n a,.array m b=>xr n m && xr a b
 |.map n a,.map m b=>xr n m && xr a b
 |.struct fs,.struct fields=>gT (fields.toList.map fun f=>(f.offset,P.cellsOf f.type,f.type)) fs && fields.toList.all fun f=>(P.info? f.type).isSome
 |.iface,.interface _=>true
 |.func,.func _ _ _=>true
 |.other,.struct _=>false
 |.other,.array _ _=>false
 |.other,.interface _=>false
 |.other,_=>true
 |_,_=>false
theorem Zy{P:yw}{k:TK}{d:AB6}(h:Zx P k d=true):KOk P k d:=by
 unfold Zx at h;split at h
 ·rw[Hm h];exact .int _
 ·exact .bool
 ·exact .string
 ·rw[Az.1 h];exact .ptr _
 ·rw[Az.1 h];exact .slice _
 ·rw[yA]at h
  rw[Az.1 h.1,Az.1 h.2];exact .arr _ _
 ·rw[yA]at h
  rw[Az.1 h.1,Az.1 h.2];exact .map _ _
 ·rw[yA]at h
  exact .struct (UV h.1) h.2
 ·exact .iface _
 ·exact .func _ _ _
 ·cases h
 ·cases h
 ·cases h
 ·rename_i q1 q2 q3
  refine .other ?_;split
  ·rename_i f;exact absurd rfl (q1 f)
  ·rename_i n e;exact absurd rfl (q2 n e)
  ·rename_i m;exact absurd rfl (q3 m)
  ·rfl
 ·cases h
def cU(ti:TI)(z:Option IN):Bool:=
 (match ti.zero with
  |[]=>Nat.blt 0 ti.size
  |_::_=>false) ||
 (match zeroV ti,z with
  |some a,some b=>zeq a b && (ti.zero.all plainV && xr (BF ti.zero) ti.size)
  |_,_=>false)
theorem cV{ti:TI}{z:Option IN}(h:cU ti z=true):(ti.zero=[]/\0<ti.size)\/∃ y,zeroV ti=some y/\z=some y/\ti.zero.all plainV=true/\ti.zero.length=ti.size:=by
 unfold cU at h;rw[Bool.or_eq_true]at h;rcases h with h|h
 ·left
  split at h
  ·rename_i hz;exact⟨hz,Bb.1 h⟩
  ·cases h
 ·right
  split at h
  ·rename_i a b ha
   simp only[yA]at h;have h3:=Az.1 h.2.2;rw[Bm]at h3;exact⟨a,ha,by rw[se h.1],h.2.1,h3⟩
  ·cases h
def xG(b:Bool):AB6->Bool
 |.pointer _=>b
 |_=>not b
def VG(P:yw)(t:Nat)(name:String)(f:Nat):Bool:=match P.info? t with
 |some i=>match i.methods.find? (·.name == name)with
  |some m=>match m.path.toList with
   |[]=>match m.func with
    |some (g,b)=>match P.underlying t with
     |some d=>xr g f && xG b d
     |none=>false
    |none=>false
   |_::_=>false
  |none=>false
 |none=>false
theorem Z5{P:yw}{t:Nat}{name:String}{f:Nat}(h:VG P t name f=true)(v:IN)(w:World):(method (P.types.size+ADx) t v name).run P w=.ok (f,v) w:=by
 unfold VG at h;split at h
 ·rename_i i hi
  split at h
  ·rename_i m hm
   split at h
   ·rename_i hp
    split at h
    ·rename_i g b hg
     split at h
     ·rename_i d hd
      rw[yA]at h;have e1:=Az.1 h.1;subst e1;have h2:=h.2;show(method ((P.types.size+99)+1) t v name).run P w=_;unfold method;simp only[typeInfo,xh,run_program,xU,hi,xk,hm,hp,follow,hg,receiverAt,underlying,hd];cases d with
      |pointer e=>
       have hb:b=true:=h2;subst hb;simp only[ADs,xh,xk,xU]
      |_=>
       have hb:b=false:=by
        have h2:(!b)=true:=h2;cases b with
        |true=>cases h2
        |false=>rfl
       subst hb;simp only[ADs,xh,xk,xU]
     ·cases h
    ·cases h
   ·cases h
  ·cases h
 ·cases h
def VH(P:yw)(t:Nat):List (String×Nat)->Bool
 |[]=>true
 |x::l=>VG P t x.1 x.2 && VH P t l
theorem Qk{P:yw}{t:Nat}:∀ {l:List (String×Nat)},VH P t l=true->∀ name f,findM name l=some f->∀ v w,(method (P.types.size+ADx) t v name).run P w=.ok (f,v) w
 |[],_,name,f,h=>by cases h
 |x::l,hb,name,f,h=>by
  have hb:(VG P t x.1 x.2 && VH P t l)=true:=hb;rw[yA]at hb;unfold findM at h;split at h
  ·rename_i hn
   cases h;rw[<- eq_of_beq hn];exact fun v w=>Z5 hb.1 v w
  ·exact Qk hb.2 name f h
def tyB(P:yw)(t:Nat)(ti:TI):Bool:=match P.info? t with
 |some i=>match P.underlying t with
  |some d=>xr i.size ti.size && (xr i.bytes ti.bytes && (cU ti i.zero && (Zx P ti.k d && (AGH P t && VH P t ti.ms))))
  |none=>false
 |none=>false
theorem sV{P:yw}(hd:8<=P.depth){t:Nat}{ti:TI}(h:tyB P t ti=true):AEg P t ti:=by
 unfold tyB at h;split at h
 ·rename_i i hi
  split at h
  ·rename_i d hu
   simp only[yA]at h;exact⟨h.2.2.2.2.1,hd,⟨i,hi,Az.1 h.1,Az.1 h.2.1,cV h.2.2.1⟩,⟨d,hu,Zy h.2.2.2.1⟩,Qk h.2.2.2.2.2⟩
  ·cases h
 ·cases h
def wd(P:yw)(t:Nat):Option TI->Bool
 |some ti=>tyB P t ti
 |none=>true
def YD(P:yw):TTy->(Nat->Nat)->Bool
 |.mt,_=>true
 |.nd ti l r,ix=>wd P (ix 0) ti && (YD P l (fun k=>ix (xW (yl 2 k))) && YD P r (fun k=>ix (xW (xW (yl 2 k)))))
theorem M6{P:yw}(hd:8<=P.depth):∀ {t:TTy} {ix:Nat->Nat},YD P t ix=true->∀ i ti,t.get i=some ti->AEg P (ix i) ti
 |.mt,ix,_,i,b,h=>by cases h
 |.nd c l r,ix,hb,i,b,h=>by
  have hb:(wd P (ix 0) c && (YD P l (fun k=>ix (xW (yl 2 k))) && YD P r (fun k=>ix (xW (xW (yl 2 k))))))=true:=hb;simp only[yA]at hb;cases i with
  |zero=>
   have h:c=some b:=h;subst h;exact sV hd hb.1
  |succ k=>
   unfold TTy.get at h;have e1:Nat.mod k 2=k % 2:=rfl;have e2:Nat.div k 2=k / 2:=rfl;rw[e1,e2]at h;rcases Nat.mod_two_eq_zero_or_one k with hk|hk
   ·rw[hk]at h
    have:=M6 hd hb.2.1 (k/2) b h;have e:xW (yl 2 (k/2))=k+1:=by show 2*(k/2)+1=k+1;omega
    simp only[e]at this;exact this
   ·rw[hk]at h
    have:=M6 hd hb.2.2 (k/2) b h;have e:xW (xW (yl 2 (k/2)))=k+1:=by show 2*(k/2)+1+1=k+1;omega
    simp only[e]at this;exact this
theorem sQ{P:yw}{ty:TTy}(hd:Nat.ble 8 P.depth=true)(h:YD P ty (fun k=>k)=true):DE P ty:=fun t ti ht=>M6 (Au.1 hd) h t ti ht
end
noncomputable section
open Go
def ty3:TI:=⟨.int .i64,1,8,[AI AT 0],[]⟩
def ty4:TI:=⟨.bool,1,1,[.bool false],[]⟩
def ty5:TI:=⟨.int .u8,1,1,[.int .u8 0],[]⟩
def ty9:TI:=⟨.string,1,16,[.string .empty],[]⟩
def xL:TI:=⟨.slice 36,1,24,[.slice none 0 0],[]⟩
def xM:TI:=⟨.int .u32,1,4,[.int .u32 0],[]⟩
def jx:TI:=⟨.arr 256 23,256,1024,Bc [.int .u32 0] 256,[]⟩
def YG:TI:=⟨.ptr 91,1,8,[.pointer none],[("Arm",17),("Cached",46),("Crash",20),("Down",19),("Flush",124),("Read",109),("Size",71),("Write",123),("cooperage/disk.none",45),("cooperage/disk.operation",147),("cooperage/disk.there",133)]⟩
def TT:TI:=⟨.ptr 83,1,8,[.pointer none],[("All",13),("Do",11),("Handle",24),("Life",12),("Over",27),("cooperage/node.abort",36),("cooperage/node.commit",35),("cooperage/node.drop",39),("cooperage/node.infos",61),("cooperage/node.list",38),("cooperage/node.prepare",34),("cooperage/node.read",37),("cooperage/node.told",33),("cooperage/node.up",31)]⟩
def Ro:TI:=⟨.ptr 25,1,8,[.pointer none],[]⟩
def xN:TI:=⟨.int .u8,1,1,[.int .u8 0],[]⟩
def LP:TI:=⟨.slice 5,1,24,[.slice none 0 0],[]⟩
def Js:TI:=⟨.struct [(0,1,3),(1,1,3),(2,1,33),(3,1,3),(4,1,3),(5,1,3),(6,1,34)],7,72,[AI AT 0,AI AT 0,.int .u8 0,AI AT 0,AI AT 0,AI AT 0,.slice none 0 0],[]⟩
def xO:TI:=⟨.int .i64,1,8,[AI AT 0],[]⟩
def xP:TI:=⟨.slice 53,1,24,[.slice none 0 0],[]⟩
def G1:TI:=⟨.struct [(0,1,3),(1,1,3),(2,1,33),(3,1,37),(4,1,38),(5,1,34),(6,1,3)],7,88,[AI AT 0,AI AT 0,.int .u8 0,AI AT 0,.slice none 0 0,.slice none 0 0,AI AT 0],[]⟩
def xQ:TI:=⟨.slice 55,1,24,[.slice none 0 0],[]⟩
def xR:TI:=⟨.int .u8,1,1,[.int .u8 0],[]⟩
def Jt:TI:=⟨.struct [(0,1,3),(1,1,3),(2,1,3),(3,1,51)],4,32,[AI AT 0,AI AT 0,AI AT 0,.int .u8 0],[]⟩
def IO:TI:=⟨.struct [(0,1,3),(1,1,3),(2,1,3),(3,1,51),(4,1,34)],5,56,[AI AT 0,AI AT 0,AI AT 0,.int .u8 0,.slice none 0 0],[]⟩
def Rr:TI:=⟨.func,1,8,[.nilFunc],[]⟩
def Hq:TI:=⟨.ptr 121,1,8,[.pointer none],[("Abort",60),("All",40),("Bad",183),("Commit",59),("Drop",67),("Get",63),("Over",53),("Prepare",58),("Room",57),("Sound",64),("cooperage/slots.all",101),("cooperage/slots.at",100),("cooperage/slots.find",95),("cooperage/slots.gone",104),("cooperage/slots.look",73),("cooperage/slots.now",128),("cooperage/slots.out",105),("cooperage/slots.read",113),("cooperage/slots.stale",97),("cooperage/slots.strike",81),("cooperage/slots.up",92),("cooperage/slots.write",99)]⟩
def jy:TI:=⟨.struct [(0,1,27),(1,1,31),(2,1,81),(3,1,3)],4,32,[.pointer none,.pointer none,.pointer none,AI AT 0],[]⟩
def xS:TI:=⟨.slice 95,1,24,[.slice none 0 0],[]⟩
def jz:TI:=⟨.map 3 95,1,8,[.map none],[]⟩
def j0:TI:=⟨.struct [(0,1,88),(1,1,89),(2,1,3),(3,1,4)],4,48,[.slice none 0 0,.map none,AI AT 0,.bool false],[]⟩
def TU:TI:=⟨.slice 3,1,24,[.slice none 0 0],[]⟩
def Kj:TI:=⟨.arr 64 5,64,64,Bc [.int .u8 0] 64,[]⟩
def wV:TI:=⟨.int .u64,1,8,[.int .u64 0],[]⟩
def OL:TI:=⟨.slice 123,1,24,[.slice none 0 0],[]⟩
def Ri:TI:=⟨.struct [(0,1,27),(1,1,31),(2,1,3),(3,1,119),(4,1,92),(5,1,3),(6,1,4)],7,88,[.pointer none,.pointer none,AI AT 0,.slice none 0 0,.slice none 0 0,AI AT 0,.bool false],[]⟩
def Dj:TI:=⟨.struct [(0,5,55),(5,1,3)],6,64,[AI AT 0,AI AT 0,AI AT 0,.int .u8 0,.slice none 0 0,AI AT 0],[]⟩
def Rj:TI:=⟨.int .u64,1,8,[.int .u64 0],[]⟩
def wW:TI:=⟨.slice 76,1,24,[.slice none 0 0],[]⟩
def wX:TI:=⟨.slice 140,1,24,[.slice none 0 0],[]⟩
def wY:TI:=⟨.arr 6 140,6,48,Bc [.int .u64 0] 6,[]⟩
def wa:TI:=⟨.int .i64,1,8,[AI AT 0],[]⟩
set_option maxRecDepth 100000 in
def ty:TTy:=(.nd none (.nd none (.nd (some ty3) (.nd none (.nd none (.nd (some Ro) .mt (.nd (some Kj) .mt .mt)) .mt) (.nd (some xM) .mt (.nd (some IO) .mt (.nd (some OL) .mt .mt)))) (.nd none (.nd none .mt (.nd (some xR) (.nd (some jy) .mt .mt) .mt)) (.nd (some YG) .mt (.nd none (.nd (some j0) .mt .mt) (.nd (some Dj) .mt .mt))))) (.nd (some ty5) (.nd (some ty9) (.nd none (.nd (some xN) .mt .mt) (.nd none (.nd (some Hq) .mt .mt) .mt)) (.nd (some jx) .mt (.nd none (.nd (some jz) .mt .mt) (.nd (some Ri) .mt .mt)))) (.nd none (.nd none (.nd (some xO) .mt .mt) (.nd (some Jt) .mt .mt)) .mt))) (.nd none (.nd (some ty4) (.nd none .mt (.nd none (.nd (some G1) .mt .mt) (.nd none (.nd (some xS) (.nd (some wW) .mt .mt) .mt) .mt))) (.nd none (.nd none (.nd (some Js) .mt .mt) (.nd none .mt (.nd none (.nd (some wa) .mt .mt) .mt))) (.nd (some TT) (.nd (some xQ) (.nd (some Rr) (.nd (some Rj) .mt .mt) .mt) (.nd (some wV) (.nd (some wX) .mt .mt) .mt)) (.nd none (.nd (some TU) .mt .mt) .mt)))) (.nd none (.nd none (.nd none (.nd (some LP) .mt .mt) (.nd none .mt (.nd none (.nd (some wY) .mt .mt) .mt))) .mt) (.nd none (.nd (some xL) (.nd (some xP) .mt .mt) .mt) .mt))))
end
end Go.Proofs.YtbjadbhkogcfeaaGreat

/-
  Part ZH of what Lawlt stands on: printed by program, names and spaces cut.
-/
import Derived.Test.YtbjadbhkogcfeaaGreatZG
import Derived.Test.YtbjadbhkogcfeaaGreatProg
open Go.Value renaming int→AI
open Go.IntKind renaming i64→AT
open Go renaming Value→IN,Program→zp,TypeDesc→AC3
open Go.Result renaming andThen_ok→ye
open Nat renaming succ→yg,beq→yu,mul→zi
open Go.Sem renaming run_bind→ym,run_pure→yn
open Bool renaming and_eq_true→yr
open Go.Place renaming get→AFH
open Go.Made renaming depth→AFN
set_option linter.unusedSimpArgs false
set_option linter.unusedVariables false
namespace Go.Proofs.YtbjadbhkogcfeaaGreat
noncomputable section
open Go
def veq:IN->IN->Bool
 |.bool a,.bool b=>a == b
 |.int j a,.int k b=>Fm j k && iEq a b
 |.string a,.string b=>bEq a.data.toList b.data.toList
 |.pointer none,.pointer none=>true
 |.slice none 0 0,.slice none 0 0=>true
 |.map none,.map none=>true
 |.nilFunc,.nilFunc=>true
 |.nilIface,.nilIface=>true
 |_,_=>false
def leq:List IN->List IN->Bool
 |[],[]=>true
 |a::x,b::y=>veq a b && leq x y
 |_,_=>false
def zeq:IN->IN->Bool
 |.agg a,.agg b=>leq a.toList b.toList
 |.agg _,_=>false
 |a,b=>veq a b
theorem dJ{a b:IN}(h:veq a b=true):a=b:=by
 unfold veq at h;split at h
 ·simpa using h
 ·rw[yr,Dc]at h
  have h1:=Hx h.1;rw[h1,eq_of_beq h.2]
 ·rw[ME]at h
  rename_i a b;have e1:=MU (a:=a) (eq_of_beq h);have e2:=MU (a:=b) rfl;exact congrArg Value.string (e1.trans e2.symm)
 all_goals first|rfl|cases h
theorem ai:∀ {a b:List IN},leq a b=true->a=b
 |[],[],_=>rfl
 |x::a,y::b,h=>by
  have h:(veq x y && leq a b)=true:=h;rw[yr]at h;rw[dJ h.1,ai h.2]
 |[],_::_,h=>by cases h
 |_::_,[],h=>by cases h
theorem tf{a b:IN}(h:zeq a b=true):a=b:=by
 unfold zeq at h;split at h
 ·rename_i x y
  have:=ai h
  congr 1
  exact Array.ext' this
 ·cases h
 ·exact dJ h
def iK:List (Nat×Nat×Nat)->List (Nat×Nat×Nat)->Bool
 |[],[]=>true
 |(a,b,c)::x,(d,e,f)::y=>yu a d && (yu b e && (yu c f && iK x y))
 |_,_=>false
theorem Uu:∀ {x y:List (Nat×Nat×Nat)},iK x y=true->x=y
 |[],[],_=>rfl
 |(a,b,c)::x,(d,e,f)::y,h=>by
  have h:(yu a d && (yu b e && (yu c f && iK x y)))=true:=h;simp only[yr]at h;rw[Ay.1 h.1,Ay.1 h.2.1,Ay.1 h.2.2.1,Uu h.2.2.2]
 |[],_::_,h=>by cases h
 |_::_,[],h=>by cases h
def aW(P:zp)(k:TK)(d:AC3):Bool:=match k,d with
 |.int a,.int b=>Fm a b
 |.bool,.bool=>true
 |.string,.string=>true
 |.ptr a,.pointer b=>yu a b
 |.slice a,.slice b=>yu a b
 |.arr n a,.array m b=>yu n m && yu a b
 |.map n a,.map m b=>yu n m && yu a b
 |.struct fs,.struct fields=>iK (fields.toList.map fun f=>(f.offset,P.cellsOf f.type,f.type)) fs && fields.toList.all fun f=>(P.info? f.type).isSome
 |.iface,.interface _=>true
 |.func,.func _ _ _=>true
 |.other,.struct _=>false
 |.other,.array _ _=>false
 |.other,.interface _=>false
 |.other,_=>true
 |_,_=>false
theorem aX{P:zp}{k:TK}{d:AC3}(h:aW P k d=true):KOk P k d:=by
 unfold aW at h;split at h
 ·rw[Hx h];exact .int _
 ·exact .bool
 ·exact .string
 ·rw[Ay.1 h];exact .ptr _
 ·rw[Ay.1 h];exact .slice _
 ·rw[yr]at h
  rw[Ay.1 h.1,Ay.1 h.2];exact .arr _ _
 ·rw[yr]at h
  rw[Ay.1 h.1,Ay.1 h.2];exact .map _ _
 ·rw[yr]at h
  exact .struct (Uu h.1) h.2
 ·exact .iface _
 ·exact .func _ _ _
 ·cases h
 ·cases h
 ·cases h
 ·rename_i q1 q2 q3
  refine .other ?_;split
  ·rename_i f;exact absurd rfl (q1 f)
  ·rename_i n e;exact absurd rfl (q2 n e)
  ·rename_i m;exact absurd rfl (q3 m)
  ·rfl
 ·cases h
def dP(ti:TI)(z:Option IN):Bool:=
 (match ti.zero with
  |[]=>Nat.blt 0 ti.size
  |_::_=>false) ||
 (match zeroV ti,z with
  |some a,some b=>zeq a b && (ti.zero.all plainV && yu (BF ti.zero) ti.size)
  |_,_=>false)
theorem dQ{ti:TI}{z:Option IN}(h:dP ti z=true):(ti.zero=[]/\0<ti.size)\/∃ y,zeroV ti=some y/\z=some y/\ti.zero.all plainV=true/\ti.zero.length=ti.size:=by
 unfold dP at h;rw[Bool.or_eq_true]at h;rcases h with h|h
 ·left
  split at h
  ·rename_i hz;exact⟨hz,BQ.1 h⟩
  ·cases h
 ·right
  split at h
  ·rename_i a b ha
   simp only[yr]at h;have h3:=Ay.1 h.2.2;rw[Bi]at h3;exact⟨a,ha,by rw[tf h.1],h.2.1,h3⟩
  ·cases h
def yN(b:Bool):AC3->Bool
 |.pointer _=>b
 |_=>not b
def Vm(P:zp)(t:Nat)(name:String)(f:Nat):Bool:=match P.info? t with
 |some i=>match i.methods.find? (·.name == name)with
  |some m=>match m.path.toList with
   |[]=>match m.func with
    |some (g,b)=>match P.underlying t with
     |some d=>yu g f && yN b d
     |none=>false
    |none=>false
   |_::_=>false
  |none=>false
 |none=>false
theorem av{P:zp}{t:Nat}{name:String}{f:Nat}(h:Vm P t name f=true)(v:IN)(w:World):(method (P.types.size+AFN) t v name).run P w=.ok (f,v) w:=by
 unfold Vm at h;split at h
 ·rename_i i hi
  split at h
  ·rename_i m hm
   split at h
   ·rename_i hp
    split at h
    ·rename_i g b hg
     split at h
     ·rename_i d hd
      rw[yr]at h;have e1:=Ay.1 h.1;subst e1;have h2:=h.2;show(method ((P.types.size+99)+1) t v name).run P w=_;unfold method;simp only[typeInfo,ym,run_program,ye,hi,yn,hm,hp,follow,hg,receiverAt,underlying,hd];cases d with
      |pointer e=>
       have hb:b=true:=h2;subst hb;simp only[AFH,ym,yn,ye]
      |_=>
       have hb:b=false:=by
        have h2:(!b)=true:=h2;cases b with
        |true=>cases h2
        |false=>rfl
       subst hb;simp only[AFH,ym,yn,ye]
     ·cases h
    ·cases h
   ·cases h
  ·cases h
 ·cases h
def Vn(P:zp)(t:Nat):List (String×Nat)->Bool
 |[]=>true
 |x::l=>Vm P t x.1 x.2 && Vn P t l
theorem Q4{P:zp}{t:Nat}:∀ {l:List (String×Nat)},Vn P t l=true->∀ name f,findM name l=some f->∀ v w,(method (P.types.size+AFN) t v name).run P w=.ok (f,v) w
 |[],_,name,f,h=>by cases h
 |x::l,hb,name,f,h=>by
  have hb:(Vm P t x.1 x.2 && Vn P t l)=true:=hb;rw[yr]at hb;unfold findM at h;split at h
  ·rename_i hn
   cases h;rw[<- eq_of_beq hn];exact fun v w=>av hb.1 v w
  ·exact Q4 hb.2 name f h
def tyB(P:zp)(t:Nat)(ti:TI):Bool:=match P.info? t with
 |some i=>match P.underlying t with
  |some d=>yu i.size ti.size && (yu i.bytes ti.bytes && (dP ti i.zero && (aW P ti.k d && (AHn P t && Vn P t ti.ms))))
  |none=>false
 |none=>false
theorem tV{P:zp}(hd:8<=P.depth){t:Nat}{ti:TI}(h:tyB P t ti=true):AGD P t ti:=by
 unfold tyB at h;split at h
 ·rename_i i hi
  split at h
  ·rename_i d hu
   simp only[yr]at h;exact⟨h.2.2.2.2.1,hd,⟨i,hi,Ay.1 h.1,Ay.1 h.2.1,dQ h.2.2.1⟩,⟨d,hu,aX h.2.2.2.1⟩,Q4 h.2.2.2.2.2⟩
  ·cases h
 ·cases h
def xy(P:zp)(t:Nat):Option TI->Bool
 |some ti=>tyB P t ti
 |none=>true
def Yl(P:zp):TTy->(Nat->Nat)->Bool
 |.mt,_=>true
 |.nd ti l r,ix=>xy P (ix 0) ti && (Yl P l (fun k=>ix (yg (zi 2 k))) && Yl P r (fun k=>ix (yg (yg (zi 2 k)))))
theorem NM{P:zp}(hd:8<=P.depth):∀ {t:TTy} {ix:Nat->Nat},Yl P t ix=true->∀ i ti,t.get i=some ti->AGD P (ix i) ti
 |.mt,ix,_,i,b,h=>by cases h
 |.nd c l r,ix,hb,i,b,h=>by
  have hb:(xy P (ix 0) c && (Yl P l (fun k=>ix (yg (zi 2 k))) && Yl P r (fun k=>ix (yg (yg (zi 2 k))))))=true:=hb;simp only[yr]at hb;cases i with
  |zero=>
   have h:c=some b:=h;subst h;exact tV hd hb.1
  |succ k=>
   unfold TTy.get at h;have e1:Nat.mod k 2=k % 2:=rfl;have e2:Nat.div k 2=k / 2:=rfl;rw[e1,e2]at h;rcases Nat.mod_two_eq_zero_or_one k with hk|hk
   ·rw[hk]at h
    have:=NM hd hb.2.1 (k/2) b h;have e:yg (zi 2 (k/2))=k+1:=by show 2*(k/2)+1=k+1;omega
    simp only[e]at this;exact this
   ·rw[hk]at h
    have:=NM hd hb.2.2 (k/2) b h;have e:yg (yg (zi 2 (k/2)))=k+1:=by show 2*(k/2)+1+1=k+1;omega
    simp only[e]at this;exact this
theorem tR{P:zp}{ty:TTy}(hd:Nat.ble 8 P.depth=true)(h:Yl P ty (fun k=>k)=true):DG P ty:=fun t ti ht=>NM (Av.1 hd) h t ti ht
end
noncomputable section
open Go
def ty3:TI:=⟨.int .i64,1,8,[AI AT 0],[]⟩
def ty4:TI:=⟨.bool,1,1,[.bool false],[]⟩
def ty5:TI:=⟨.int .u8,1,1,[.int .u8 0],[]⟩
def ty9:TI:=⟨.string,1,16,[.string .empty],[]⟩
def yS:TI:=⟨.slice 36,1,24,[.slice none 0 0],[]⟩
def yT:TI:=⟨.int .u32,1,4,[.int .u32 0],[]⟩
def kY:TI:=⟨.arr 256 23,256,1024,Bb [.int .u32 0] 256,[]⟩
def Yo:TI:=⟨.ptr 91,1,8,[.pointer none],[("Arm",17),("Cached",46),("Crash",20),("Down",19),("Flush",124),("Read",109),("Size",71),("Write",123),("cooperage/disk.none",45),("cooperage/disk.operation",147),("cooperage/disk.there",133)]⟩
def dC:TI:=⟨.ptr 83,1,8,[.pointer none],[("All",13),("Do",11),("Handle",24),("Life",12),("Over",27),("cooperage/node.abort",36),("cooperage/node.commit",35),("cooperage/node.drop",39),("cooperage/node.infos",61),("cooperage/node.list",38),("cooperage/node.prepare",34),("cooperage/node.read",37),("cooperage/node.told",33),("cooperage/node.up",31)]⟩
def SR:TI:=⟨.ptr 25,1,8,[.pointer none],[]⟩
def yU:TI:=⟨.int .u8,1,1,[.int .u8 0],[]⟩
def Lj:TI:=⟨.slice 5,1,24,[.slice none 0 0],[]⟩
def KC:TI:=⟨.struct [(0,1,3),(1,1,3),(2,1,33),(3,1,3),(4,1,3),(5,1,3),(6,1,34)],7,72,[AI AT 0,AI AT 0,.int .u8 0,AI AT 0,AI AT 0,AI AT 0,.slice none 0 0],[]⟩
def yV:TI:=⟨.int .i64,1,8,[AI AT 0],[]⟩
def yW:TI:=⟨.slice 53,1,24,[.slice none 0 0],[]⟩
def HD:TI:=⟨.struct [(0,1,3),(1,1,3),(2,1,33),(3,1,37),(4,1,38),(5,1,34),(6,1,3)],7,88,[AI AT 0,AI AT 0,.int .u8 0,AI AT 0,.slice none 0 0,.slice none 0 0,AI AT 0],[]⟩
def yX:TI:=⟨.slice 55,1,24,[.slice none 0 0],[]⟩
def yY:TI:=⟨.int .u8,1,1,[.int .u8 0],[]⟩
def NS:TI:=⟨.struct [(0,1,3),(1,1,3),(2,1,3),(3,1,51)],4,32,[AI AT 0,AI AT 0,AI AT 0,.int .u8 0],[]⟩
def Ia:TI:=⟨.struct [(0,1,3),(1,1,3),(2,1,3),(3,1,51),(4,1,34)],5,56,[AI AT 0,AI AT 0,AI AT 0,.int .u8 0,.slice none 0 0],[]⟩
def yZ:TI:=⟨.slice 4,1,24,[.slice none 0 0],[]⟩
def SS:TI:=⟨.func,1,8,[.nilFunc],[]⟩
def Hz:TI:=⟨.ptr 121,1,8,[.pointer none],[("Abort",60),("All",40),("Bad",183),("Commit",59),("Drop",67),("Get",63),("Over",53),("Prepare",58),("Room",57),("Sound",64),("cooperage/slots.all",101),("cooperage/slots.at",100),("cooperage/slots.find",95),("cooperage/slots.gone",104),("cooperage/slots.look",73),("cooperage/slots.now",128),("cooperage/slots.out",105),("cooperage/slots.read",113),("cooperage/slots.stale",97),("cooperage/slots.strike",81),("cooperage/slots.up",92),("cooperage/slots.write",99)]⟩
def kZ:TI:=⟨.struct [(0,1,27),(1,1,31),(2,1,81),(3,1,3)],4,32,[.pointer none,.pointer none,.pointer none,AI AT 0],[]⟩
def yc:TI:=⟨.slice 95,1,24,[.slice none 0 0],[]⟩
def kh:TI:=⟨.map 3 95,1,8,[.map none],[]⟩
def kj:TI:=⟨.struct [(0,1,88),(1,1,89),(2,1,3),(3,1,4)],4,48,[.slice none 0 0,.map none,AI AT 0,.bool false],[]⟩
def Tu:TI:=⟨.slice 3,1,24,[.slice none 0 0],[]⟩
def KD:TI:=⟨.arr 64 5,64,64,Bb [.int .u8 0] 64,[]⟩
def xh:TI:=⟨.int .u64,1,8,[.int .u64 0],[]⟩
def Oc:TI:=⟨.slice 123,1,24,[.slice none 0 0],[]⟩
def SP:TI:=⟨.struct [(0,1,27),(1,1,31),(2,1,3),(3,1,119),(4,1,92),(5,1,3),(6,1,4)],7,88,[.pointer none,.pointer none,AI AT 0,.slice none 0 0,.slice none 0 0,AI AT 0,.bool false],[]⟩
def Dn:TI:=⟨.struct [(0,5,55),(5,1,3)],6,64,[AI AT 0,AI AT 0,AI AT 0,.int .u8 0,.slice none 0 0,AI AT 0],[]⟩
def SQ:TI:=⟨.int .u64,1,8,[.int .u64 0],[]⟩
def xk:TI:=⟨.slice 76,1,24,[.slice none 0 0],[]⟩
def xn:TI:=⟨.slice 140,1,24,[.slice none 0 0],[]⟩
def xp:TI:=⟨.arr 6 140,6,48,Bb [.int .u64 0] 6,[]⟩
def xr:TI:=⟨.int .i64,1,8,[AI AT 0],[]⟩
set_option maxRecDepth 100000 in
def ty:TTy:=(.nd none (.nd none (.nd (some ty3) (.nd none (.nd none (.nd (some SR) .mt (.nd (some KD) .mt .mt)) .mt) (.nd (some yT) .mt (.nd (some Ia) .mt (.nd (some Oc) .mt .mt)))) (.nd none (.nd none .mt (.nd (some yY) (.nd (some kZ) .mt .mt) .mt)) (.nd (some Yo) .mt (.nd none (.nd (some kj) .mt .mt) (.nd (some Dn) .mt .mt))))) (.nd (some ty5) (.nd (some ty9) (.nd none (.nd (some yU) .mt .mt) (.nd none (.nd (some Hz) .mt .mt) .mt)) (.nd (some kY) .mt (.nd none (.nd (some kh) .mt .mt) (.nd (some SP) .mt .mt)))) (.nd none (.nd none (.nd (some yV) .mt .mt) (.nd (some NS) .mt .mt)) .mt))) (.nd none (.nd (some ty4) (.nd none .mt (.nd none (.nd (some HD) .mt .mt) (.nd none (.nd (some yc) (.nd (some xk) .mt .mt) .mt) .mt))) (.nd none (.nd none (.nd (some KC) .mt .mt) (.nd none .mt (.nd none (.nd (some xr) .mt .mt) .mt))) (.nd (some dC) (.nd (some yX) (.nd (some SS) (.nd (some SQ) .mt .mt) .mt) (.nd (some xh) (.nd (some xn) .mt .mt) .mt)) (.nd none (.nd (some Tu) .mt .mt) .mt)))) (.nd none (.nd none (.nd none (.nd (some Lj) .mt .mt) (.nd none .mt (.nd none (.nd (some xp) .mt .mt) .mt))) (.nd none .mt (.nd (some yZ) .mt .mt))) (.nd none (.nd (some yS) (.nd (some yW) .mt .mt) .mt) .mt))))
end
end Go.Proofs.YtbjadbhkogcfeaaGreat

/-
  Part ZD of what Lawan stands on: printed by program, names and spaces cut.
-/
import Derived.Test.YtbjadbhkogcfeaaGreatZC
import Derived.Laws.BytesString
import Derived.DeepKeys3
open Go renaming Value→IN,Operand→uQ,World→uS,TypeId→uc,MapEntry→uu,Program→vA,TypeDesc→zJ,BinOp→AAz
open Nat renaming le_refl→If,zero_add→sh,beq→tm,ble→tz,mul→ur,beq_refl→vT,succ_mul→xH,succ_pos→xh,one_ne_zero→yx
open Go.Result renaming andThen_ok→tX
open Go.Sem renaming run_bind→tf,run_pure→tg
open List renaming mem_cons→uA,getElem?_toArray→uM,getElem?_cons_zero→uT,range→vG,mem_map→vL,filter_cons→xS,map_cons→xU,all_cons→yg,drop_drop→zF,map_map→AAK,map_flatten→AAU,cons→AAd
open Bool renaming and_eq_true→uB,false_eq_true→uV,and_true→AAy
open Go.Op renaming operands→uE,equalIn→xu,equal→yw
open Go.Instr renaming findAsking→uW,next→vo,lookup→wS,sameBits→xp,range→xy,mapUpdate→yl,entry→ym,sameNow→zM,findNow→zN,findKey→zO,keyThatStays→zx
open Go.Value renaming int→ue,formed→AAq
open Go.Builtin renaming firstCells→un,clear_→vI,len_→vV,cap_→yQ
open Array renaming ext'→vK,getElem?_setIfInBounds→vU,all_eq_true_iff_forall_mem→vf,mem_toList_iff→vm,getElem?_modify→wY,toList_filter→yR,getElem?_toList→zb,getElem?_push→zq,replicate→AAY
open Option renaming map_some→vN
open Go.Program renaming keyTypeAt→wO,keyLits→wb,eqGuardType→xd
open UInt8 renaming ofNat→wa
open Go.Question renaming forced→xN
open Go.Call renaming operands→yP
open Go.World renaming shape?→zU,freeze→zV
open Go.Deferred renaming ofValue→zn
open ByteArray renaming empty→zo
open Go.IntKind renaming signed→AAN,bits→AAe,min→AAl,max→AAm
open Go.Oper renaming wp→ABA
open Ne renaming symm→ABQ
set_option linter.unusedSimpArgs false
set_option linter.unusedVariables false
namespace Go.Proofs.YtbjadbhkogcfeaaGreat
noncomputable section
open Go
section
variable {P:vA}{ty:TTy}{φ:Phi}{E:Nat->Prop}{h h':Hp}{w:uS}{F:ABZ}{e:Env}{v:IN}
theorem Lv:∀ {cs cs':List IN} {bs:List UInt8},ABv φ cs cs'->Et cs=some bs->
  ∃ ns:List Int,cs'=ns.map (ue .u8)/\∀ s:ByteArray,(ns.foldl (fun r n=>r.push (wa n.toNat)) s).data.toList=s.data.toList++bs
 |_,_,bs,.nil,hb=>by
  cases hb;exact⟨[],rfl,fun s=>by simp⟩
 |_,_,bs,.cons (v:=u) (v':=u') (l:=l) (l':=l') hu t,hb=>by
  unfold Et at hb;split at hb
  ·cases ‹_::_=[]›
  ·rename_i n l2 heq
   injection heq with h1 h2
   subst h1;subst h2;split at hb
   ·rename_i bs' hbs
    rw[Am]at hb;cases hb;obtain⟨ns,hns,hf⟩:=Lv t hbs;have:=hu.ACC;subst this;refine⟨(n:Int)::ns,by rw[hns];rfl,fun s=>?_⟩;rw[List.foldl_cons,hf];simp
   ·cases hb
  ·cases hb
theorem Xf(H:ABh ty φ E h w){x:O}(hE:∀ a l c,x e=.slice (some a) l c->¬ E a.block){x':IN}{src dst el:uc}{si di ei:TI}(TS:AB5 P src si)(hs:si.k=.slice el)(TD:AB5 P dst di)(hd:di.k=.string)(TE:AB5 P el ei)(he:ei.k=.int .u8)
  (hx:ABe φ (x e) x')(hr:Fe x F e h=.ok v h'):Bm ty φ E h w v h' ((convert src dst x').run P w):=by
 obtain⟨d1,h1,k1⟩:=TS.und;obtain⟨d2,h2,k2⟩:=TD.und;obtain⟨d3,h3,k3⟩:=TE.und;rw[hs]at k1;cases k1;rw[hd]at k2;cases k2;rw[he]at k3;cases k3;unfold Fe at hr;split at hr
 case h_3=>cases hr
 case h_2=>
  rename_i r hxe;rw[hxe]at hx;cases r with
  |none=>cases hr
  |some r=>
   cases hr;cases hx;rw[run_convert_bytes_string w src dst el (some _) 0 0 h1 h3 h2,run_bytesToString w _ 0 0 [] rfl];exact .same H (.string _)
 rename_i a n c hxe;rw[hxe]at hx;have hx0:=hx;obtain⟨cs,cs',hr,hcs,hrun,hl1,hl2,_⟩:=GC (P:=P) H (fun a l c heq=>by cases heq;exact hE _ _ _ hxe) hx hr (fun m hm=>by cases hm;exact If _);split at hr
 case h_2=>cases hr
 rename_i bs hbs;cases hr;obtain⟨ns,hns,hf⟩:=Lv hcs hbs;have AEU:=hf zo;have AFw:=MD (a:=ns.foldl (fun r n=>r.push (wa n.toNat)) zo) (l:=bs) (by rw[AEU];rfl);cases hx with
 |ACR=>
  rw[run_convert_bytes_string w src dst el none 0 0 h1 h3 h2];have:=hrun w rfl;simp only[un,tg]at this;have AEE:cs'=[]:=by cases this;rfl
  have AGi:ns=[]:=by
   rw[AEE]at hns;cases ns with
   |nil=>rfl
   |cons _ _=>cases hns
  subst AGi;rw[<- AFw];exact .same H (.string _)
 |@slice _ a' _ _ c' hlc hsl=>
  rw[run_convert_bytes_string w src dst el (some a') n c' h1 h3 h2];have hld:(loadCells a' n).run P w=.ok (ns.map (ue .u8)).toArray w:=by
   have:=hrun w rfl;rw[hns]at this;simp only[un,Nat.mul_one]at this;exact this
  rw[run_bytesToString w a' n c' ns hld,AFw];exact .same H (.string _)
theorem Q2(A:Array Obj)(x:Obj)(f:Obj->Obj):(A.push x).modify A.size f=A.push (f x):=by
 apply Array.ext_getElem?;intro i;rw[wY,zq,zq];by_cases hi:i=A.size
 ·subst hi;simp
 ·rw[if_neg (ABQ hi),if_neg hi,if_neg hi]
theorem Zw(w:uS)(A:Array IN)(el:uc):(markStringish ⟨w.heap.size,0,none⟩).run P {w with heap:=w.heap.push (.cells A el)}=
  .ok () {w with heap:=w.heap.push (.cells A el (A.size,A.size+1))}:=by
 have hs:zU {w with heap:=w.heap.push (.cells A el)} w.heap.size=some (el,A.size):=by simp[zU]
 simp only[markStringish,tf,run_shape,tX,hs,run_freeze,zV,yx,if_false,Q2];rfl
theorem RD(H:ABh ty φ E h w){x:O}{x':IN}{src dst el:uc}{si di ei:TI}(TS:AB5 P src si)(hs:si.k=.string)(TD:AB5 P dst di)(hd:di.k=.slice el)(TE:AB5 P el ei)(he:ei.k=.int .u8)
  (hty:ty.get el=some ei)(hz:ei.size=1)(hx:ABe φ (x e) x')(hr:Jk el x F e h=.ok v h'):Bm ty φ E h w v h' ((convert src dst x').run P w):=by
 obtain⟨d1,h1,k1⟩:=TS.und;obtain⟨d2,h2,k2⟩:=TD.und;obtain⟨d3,h3,k3⟩:=TE.und;rw[hs]at k1;cases k1;rw[hd]at k2;cases k2;rw[he]at k3;cases k3;unfold Jk at hr;split at hr
 case h_2=>cases hr
 rename_i s hxe;rw[hxe]at hx;obtain rfl:=hx.ACF;rw[Am,Bi]at hr;obtain⟨hb,hr⟩:=B3 hr
 let q:Question:=.appendCap s.size 0 el
 let c:Nat:=q.cut (w.tape w.drawn q)
 have hc:s.size<=c:=Nat.le_add_right _ _
 let cells:List IN:=s.data.toList.map fun b=>.int .u8 (b.toNat:Int)
 let rest:List IN:=List.replicate (c - s.size) (.int .u8 0)
 have hcl:cells.length=s.size:=by simp[cells]
 let w':uS:={w with drawn:=w.drawn+1,heap:=w.heap.push (.cells ⟨cells++rest⟩ el (c,c+1))}
 have hsz:(⟨cells++rest⟩:Array IN).size=c:=by simp[rest,hcl];omega
 have ACE:ABv φ (Cs s.data.toList) cells:=Kw _;have hlen:(Cs s.data.toList).length=s.size:=by rw[<- ACE.length,hcl]
 obtain⟨hh1,hk,H1,ev⟩:=OD (cs':=⟨cells++rest⟩) (t:=el) (fr:=(c,c+1)) (w':=w')
  (p:={blk:=w.heap.size,off:=0,sz:=(Cs s.data.toList).length,room:=(⟨cells++rest⟩:Array IN).size,es:=1}) H hr rfl ⟨rfl,.inr ⟨el,ei,rfl,hty,hz.symm⟩⟩ (by rw[hlen,hsz];exact hc) (.inr (by rw[hsz];exact If _))
  (fun j u hj=>by
   obtain⟨u',hu,hru⟩:=ACE.get j u hj;refine⟨u',?_,hru⟩;have hj':j<cells.length:=by
    rcases Nat.lt_or_ge j cells.length with h|h
    ·exact h
    ·rw[List.getElem?_eq_none h]at hu;cases hu
   simp only[uM];rw[List.getElem?_append_left hj'];exact hu) rfl rfl rfl rfl
 cases hk;have key:(convert src dst (.string s)).run P w=.ok (.slice (some ⟨w.heap.size,0,none⟩) s.size c) w':=by
  have AC9:(Question.appendCap s.size 0 el).forced=false:=rfl;have AGj:(s.data.map fun b=>(ue .u8 (b.toNat:Int)))++AAY (c - s.size) (ue .u8 0)=⟨cells++rest⟩:=by
   apply vK;simp[cells,rest]
  have hm:=Zw (P:=P) {w with drawn:=w.drawn+1} ⟨cells++rest⟩ el;rw[hsz]at hm;simp only[convert,tf,run_underlying h1,run_underlying h2,run_underlying h3,tX,Conv.stringToBytes,run_choose,AC9,uV,if_false,Go.newRow,run_newObj,tg];show(((markStringish ⟨w.heap.size,0,none⟩).run P {w with drawn:=w.drawn+1,heap:=w.heap.push (.cells ((s.data.map fun b=>(ue .u8 (b.toNat:Int)))++AAY (c - s.size) (ue .u8 0)) el)}).andThen
   fun _ w''=>Result.ok (Value.slice (some ⟨w.heap.size,0,none⟩) s.size c) w'')=_
  rw[AGj];have hm':(markStringish ⟨w.heap.size,0,none⟩).run P {w with drawn:=w.drawn+1,heap:=w.heap.push (.cells ⟨cells++rest⟩ el)}=.ok () w':=hm;rw[hm'];rfl
 rw[key];refine⟨_,_,_,rfl,?_,H1,ev⟩;have e1:s.data.toList.length=s.size:=rfl;rw[e1];refine .slice (If _) ⟨rfl,rfl,_,Phi.ACP _ _ _,rfl,?_⟩;rcases Nat.eq_zero_or_pos s.size with h0|h0
 ·refine .inr ⟨h0,.inr ⟨?_,?_⟩⟩
  ·simp only[hlen,h0]
  ·simp only[hlen,hsz,h0];omega
 ·refine .inl ⟨h0,rfl,.inr ⟨?_,hc,?_⟩⟩
  ·simp only[hlen];omega
  ·simp only[hsz];omega
end
end
noncomputable section
open Go
section
variable {P:vA}{ty:TTy}{φ:Phi}{h:Hp}{w:uS}{e:Env}{v:IN}{f:Fr}
def Fo:IN->Lit
 |.bool b=>.bool b
 |.int q n=>.int q n
 |.string s=>.string s.data.toList
 |_=>.bool false
theorem oh{k:IntKind}{n:Int}(h:inK k n=true):(Lit.int k n).wf=true:=by
 unfold Lit.wf;simp only[uB,decide_eq_true_eq];cases n with
 |ofNat m=>
  have h:tz m (BC k)=true:=h;have:=Ar.1 h;cases k<;>simp[AAl,AAm,AAN,AAe,BC]at this ⊢<;>omega
 |negSucc m=>
  cases k<;>simp only[inK]at h<;>first|(cases h;done)|skip
  all_goals
   have:=Ar.1 h;simp[AAl,AAm,AAN,AAe,BC]at this ⊢;omega
theorem HT{k:IntKind}{v:IN}(h:LH (.i k) v=true):∃ n,v=.int k n/\(Lit.int k n).wf=true:=by
 unfold LH at h;simp only at h;split at h
 ·split at h
  ·rename_i hq
   exact⟨_,by rw[Hq hq],oh h⟩
  ·cases h
 ·cases h
theorem GR{v:IN}(h:LH .b v=true):∃ b,v=.bool b:=by
 unfold LH at h;simp only at h;split at h
 ·exact⟨_,rfl⟩
 ·cases h
theorem HU{v:IN}(h:LH .s v=true):∃ s,v=.string s/\s.size<=maxLen:=by
 unfold LH at h;simp only at h;split at h
 ·rename_i s
  refine⟨s,rfl,?_⟩;have:=Ar.1 h;rw[Bi]at this;have e:s.data.toList.length=s.size:=by simp
  have hm:most<=maxLen:=by unfold most maxLen;omega
  omega
 ·cases h
theorem DW{l:List IN}(h:Em [] l=true):l=[]:=by
 cases l with
 |nil=>rfl
 |cons=>cases h
theorem Cx{c:CK}{ks:List CK}{l:List IN}(h:Em (c::ks) l=true):∃ v r,l=v::r/\LH c v=true/\Em ks r=true:=by
 cases l with
 |nil=>cases h
 |cons v r=>
  unfold Em at h;split at h
  ·rename_i hc;exact⟨v,r,rfl,hc,h⟩
  ·cases h
theorem JU:∀ {ks:List CK} {l:List IN},Em ks l=true->l.length=ks.length
 |[],l,h=>by rw[DW h];rfl
 |c::ks,l,h=>by
  obtain⟨v,r,rfl,_,hr⟩:=Cx h;simp[JU hr]
theorem HV:∀ {a b:List CK} {l:List IN},Em (a++b) l=true->Em a (l.take a.length)=true/\Em b (l.drop a.length)=true
 |[],b,l,h=>⟨rfl,h⟩
 |c::a,b,l,h=>by
  obtain⟨v,r,rfl,hc,hr⟩:=Cx h;obtain⟨h1,h2⟩:=HV hr;refine⟨?_,by simpa using h2⟩;show Em (c::a) (v::r.take a.length)=true;unfold Em;rw[hc];exact h1
theorem Im{c:CK}{v:IN}(h:LH c v=true):∃ l:Lit,Fo v=l/\v=l.toCell/\l.keyWf:=by
 cases c with
 |i k=>obtain⟨n,rfl,hw⟩:=HT h;exact⟨.int k n,rfl,rfl,hw⟩
 |b=>obtain⟨b,rfl⟩:=GR h;exact⟨.bool b,rfl,rfl,trivial⟩
 |s=>obtain⟨s,rfl,hs⟩:=HU h;exact⟨.string s.data.toList,rfl,rfl,by show s.data.toList.length<=maxLen;simpa using hs⟩
theorem QX{ks:List CK}:∀ {l l':List IN},Em ks l=true->ABv φ l l'->l'=l:=by
 induction ks with
 |nil=>intro l l' h hr;rw[DW h]at hr ⊢;cases hr;rfl
 |cons c ks ih=>
  intro l l' h hr;obtain⟨v,r,rfl,hc,hr'⟩:=Cx h;cases hr with
  |cons hv ht=>
   rw[ih hr' ht]
   congr 1
   cases c with
   |i k=>obtain⟨n,rfl,_⟩:=HT hc;exact hv.ACC
   |b=>obtain⟨n,rfl⟩:=GR hc;exact hv.ACT
   |s=>obtain⟨n,rfl,_⟩:=HU hc;exact hv.ACF
theorem Fw{x:IN}(hne:∀ l,x≠.agg l):cellsOf x=[x]:=by
 unfold cellsOf;split
 ·rename_i l;exact absurd rfl (hne l)
 ·rfl
theorem DQ{K:KS}{x:IN}(h:GS K x=true):Em K.ks (cellsOf x)=true/\cellsOf x=x.cells.toList/\((K.agg=true/\∃ l,x=.agg ⟨l⟩)\/(K.agg=false/\(∀ l,x≠.agg l)/\∀ l,x≠.tuple l)):=by
 unfold GS at h;split at h
 ·rename_i cs
  split at h
  ·rename_i ha
   exact⟨h,rfl,.inl ⟨ha,cs.toList,rfl⟩⟩
  ·cases h
 ·rename_i hne
  split at h
  ·cases h
  ·rename_i ha
   have ADz:∀ l,x≠.agg l:=fun l e=>hne l e
   have hc:cellsOf x=[x]:=by
    unfold cellsOf;split
    ·rename_i l;exact absurd rfl (ADz l)
    ·rfl
   have hnt:∀ l,x≠.tuple l:=by
    intro l e;subst e;cases hk:K.ks with
    |nil=>rw[hk]at h;cases h
    |cons c ks=>
     rw[hk]at h;obtain⟨v,r,e,hc,_⟩:=Cx h;cases e;cases c<;>cases hc
   refine⟨by rw[hc];exact h,?_,.inr ⟨ha,ADz,hnt⟩⟩;rw[hc];cases x<;>first|rfl|exact absurd rfl (ADz _)|exact absurd rfl (hnt _)
theorem JT{K:KS}{x x':IN}(h:GS K x=true)(hr:ABe φ x x'):x'=x:=by
 obtain⟨h1,h2,h3⟩:=DQ h;rcases h3 with ⟨_,l,rfl⟩|⟨_,hne,hnt⟩
 ·cases hr with
  |agg hr=>rw[QX h1 hr];rfl
 ·have hc:cellsOf x=[x]:=Fw hne
  rw[hc]at h1;have:=QX h1 (.cons hr .nil);exact AAd.inj this |>.1
theorem Mc{α β:Type}{f:α->Option β}{g:α->β}:∀ {L:List α},(∀ x∈L,f x=some (g x))->L.mapM f=some (L.map g)
 |[],_=>rfl
 |x::L,h=>by
  rw[List.mapM_cons,h x (by simp),Mc fun y hy=>h y (by simp[hy])];rfl
theorem QY{ks:List CK}:∀ {m:Nat} {cs:List IN},Em (BO ks m) cs=true->cs.length=m*ks.length/\∀ i,i<m->Em ks ((cs.drop (i*ks.length)).take ks.length)=true
 |0,cs,h=>by
  refine⟨?_,fun i hi=>absurd hi (Nat.not_lt_zero _)⟩;rw[DW h];simp
 |m+1,cs,h=>by
  have h:Em (ks++BO ks m) cs=true:=h;obtain⟨h1,h2⟩:=HV h;obtain⟨h3,h4⟩:=QY h2;have hl:=JU h1;refine⟨?_,fun i hi=>?_⟩
  ·simp only[List.length_take,List.length_drop]at hl h3
   rw[xH];omega
  ·cases i with
   |zero=>simpa using h1
   |succ i=>
    have:=h4 i (by omega);rw[zF]at this;rw[xH,Nat.add_comm];exact this
theorem Qb{P:vA}{rec:Nat->Option (List CK)}:∀ {L:List Field} {off:Nat} {ks:List CK},flatK.flatF rec off (L.map fun f=>(f.offset,P.cellsOf f.type,f.type))=some ks->
  (∀ f∈L,∃ kf,rec f.type=some kf)/\
  ∀ cs:List IN,Em ks (cs.drop off)=true->(∀ f∈L,∀ kf,rec f.type=some kf->Em kf ((cs.drop f.offset).take (P.cellsOf f.type))=true)/\
   ((L.map fun f=>(cs.drop f.offset).take (P.cellsOf f.type)).flatten=cs.drop off)
 |[],off,ks,hk=>by
  cases hk;refine⟨(fun f hf=>by cases hf),fun cs h=>⟨(fun f hf=>by cases hf),?_⟩⟩;rw[DW h];rfl
 |f::L,off,ks,hk=>by
  rw[xU]at hk;unfold flatK.flatF at hk;split at hk
  case h_2=>cases hk
  rename_i ho;split at hk
  case h_2=>cases hk
  rename_i kf hkf;split at hk
  case h_2=>cases hk
  rename_i hl;split at hk
  case h_2=>cases hk
  rename_i r hr;cases hk;have ho:f.offset=off:=A1.1 ho;have hl:kf.length=P.cellsOf f.type:=by rw[<- A1.1 hl,Bi]
  obtain⟨i1,i2⟩:=Qb hr;refine⟨fun g hg=>?_,fun cs h=>?_⟩
  ·rcases uA.1 hg with rfl|hg
   ·exact⟨kf,hkf⟩
   ·exact i1 g hg
  ·obtain⟨h1,h2⟩:=HV h
   rw[hl]at h1 h2;rw[zF]at h2;obtain⟨i3,i4⟩:=i2 cs h2;refine⟨fun g hg kg hkg=>?_,?_⟩
   ·rcases uA.1 hg with rfl|hg
    ·rw[hkf]at hkg;cases hkg
     rw[ho];exact h1
    ·exact i3 g hg kg hkg
   ·rw[xU,List.flatten_cons,i4,ho]
    have:cs.drop (Nat.add off (P.cellsOf f.type))=(cs.drop off).drop (P.cellsOf f.type):=by rw[zF];rfl
    rw[this,List.take_append_drop]
theorem Ox{t:Nat}{fs:Array Field}(hu:P.underlying t=some (.struct fs))(hf:ADd P t=true):
  (∀ f∈fs.toList,(f.name != "_")=true)/\(!(P.cutTypes.any (·.2 == t)) && !P.stoodInHeld t)=true:=by
 unfold ADd at hf;rw[hu]at hf;simp only[uB,vf]at hf;obtain⟨⟨h1,h2⟩,h3⟩:=hf;exact⟨fun f hm=>h1 f (vm.1 hm),by rw[h2,h3];rfl⟩
theorem E3(hT:DI P ty):∀ (n t:Nat) (ks:List CK),flatK ty n t=some ks->
  P.keyTypeAt n t=true/\(∀ d,n<=d->P.eqGuardType d t=false)/\(∀ ti,ty.get t=some ti->ti.k.agg=true->ks.length=ti.size)/\
  ∀ cs,Em ks cs=true->P.keyLits n t cs=some (cs.map Fo)
 |0,t,ks,h=>by cases h
 |n+1,t,ks,h=>by
  unfold flatK at h;cases hg:ty.get t with
  |none=>rw[hg]at h;cases h
  |some ti=>
   simp only[hg]at h;have T:=hT t ti hg;obtain⟨d,hd,hk⟩:=T.und;have hcell:=T.cells;have plain:∀ {d:zJ},(match d with|.interface _=>true|.struct _=>true|.array _ _=>true|_=>false)=false->P.underlying t=some d->∀ q,n+1<=q->P.eqGuardType q t=false:=by
    intro d h1 hd q hq;cases q with
    |zero=>omega
    |succ q=>unfold xd;rw[hd];cases d<;>first|rfl|cases h1
   cases hkk:ti.k with
   |int k=>
    simp only[hkk]at h;rw[hkk]at hk;cases hk;cases h;refine⟨by unfold wO;rw[hd],plain rfl hd,(fun ti' ht' ha=>by cases ht';rw[hkk]at ha;cases ha),fun cs hf=>?_⟩;obtain⟨v,r,rfl,hc,hr⟩:=Cx hf;obtain rfl:=DW hr;obtain⟨m,rfl,hw⟩:=HT hc;unfold wb;rw[hd];simp[hw,Fo]
   |bool=>
    simp only[hkk]at h;rw[hkk]at hk;cases hk;cases h;refine⟨by unfold wO;rw[hd],plain rfl hd,(fun ti' ht' ha=>by cases ht';rw[hkk]at ha;cases ha),fun cs hf=>?_⟩;obtain⟨v,r,rfl,hc,hr⟩:=Cx hf;obtain rfl:=DW hr;obtain⟨m,rfl⟩:=GR hc;unfold wb;rw[hd];simp[Fo]
   |string=>
    simp only[hkk]at h;rw[hkk]at hk;cases hk;cases h;refine⟨by unfold wO;rw[hd],plain rfl hd,(fun ti' ht' ha=>by cases ht';rw[hkk]at ha;cases ha),fun cs hf=>?_⟩;obtain⟨v,r,rfl,hc,hr⟩:=Cx hf;obtain rfl:=DW hr;obtain⟨m,rfl,hw⟩:=HU hc;unfold wb;rw[hd];simp[hw,Fo]
   |arr m el=>
    simp only[hkk]at h;rw[hkk]at hk;cases hk;split at h
    case h_2=>cases h
    rename_i ei hei;split at h
    case h_2=>cases h
    rename_i ke hke;split at h
    case h_2=>cases h
    rename_i hl;split at h
    case h_2=>cases h
    rename_i hm;cases h;obtain⟨i1,i2,_,i3⟩:=E3 hT n el ke hke;have hce:=(hT el ei hei).cells;have hl:ke.length=ei.size:=by rw[<- A1.1 hl,Bi]
    have hm:m*ei.size=ti.size:=A1.1 hm;have AGk:∀ m,(BO ke m).length=m*ke.length:=by
     intro m
     induction m with
     |zero=>simp[BO]
     |succ m ih=>rw[BO,List.length_append,ih,xH];omega
    refine⟨by unfold wO;rw[hd];exact i1,fun q hq=>?_,(fun ti' ht' ha=>by cases ht';rw[AGk,hl,hm]),fun cs hf=>?_⟩
    ·cases q with
     |zero=>omega
     |succ q=>unfold xd;rw[hd];exact i2 q (by omega)
    ·obtain⟨f1,f2⟩:=QY hf
     have hlen:cs.length=P.cellsOf t:=by rw[hcell,<- hm,f1,hl]
     have hmap:(vG m).mapM (fun i=>P.keyLits n el ((cs.drop (i*P.cellsOf el)).take (P.cellsOf el)))=some ((vG m).map fun i=>((cs.drop (i*P.cellsOf el)).take (P.cellsOf el)).map Fo):=
      Mc fun i hi=>by
       rw[hce,<- hl];exact i3 _ (f2 i (List.mem_range.1 hi))
     unfold wb;rw[hd];simp only[hlen,if_true,hmap,vN]
     congr 1
     have:=chunks_flatten (P.cellsOf el) m cs (by rw[hce,<- hl];exact f1)
     conv=>rhs;rw[<- this]
     rw[AAU,AAK];rfl
   |struct fs=>
    simp only[hkk]at h;rw[hkk]at hk;cases hk with
    |@struct _ fields hfs _=>
     split at h
     case h_2=>cases h
     rename_i ks' hks;split at h
     case h_2=>cases h
     rename_i hl;cases h;have hl:ks.length=ti.size:=by rw[<- A1.1 hl,Bi]
     rw[<- hfs]at hks;obtain⟨j1,j2⟩:=Qb hks;obtain⟨n1,n2⟩:=Ox hd T.AGa;refine⟨?_,fun q hq=>?_,(fun ti' ht' ha=>by cases ht';exact hl),fun cs hf=>?_⟩
     ·unfold wO
      rw[hd];simp only[Bool.and_assoc,n2,AAy];rw[vf];intro f hm;obtain⟨kf,hkf⟩:=j1 f (vm.2 hm);rw[n1 f (vm.2 hm),(E3 hT n f.type kf hkf).1];rfl
     ·cases q with
      |zero=>omega
      |succ q=>
       unfold xd;rw[hd];simp only;rw[Array.any_eq_false];intro i hi;obtain⟨kf,hkf⟩:=j1 fields[i] (vm.2 (Array.getElem_mem hi));rw[(E3 hT n _ kf hkf).2.1 q (by omega)];simp
     ·have hf0:Em ks (cs.drop 0)=true:=hf
      obtain⟨k1,k2⟩:=j2 cs hf0;have hlen:cs.length=P.cellsOf t:=by rw[hcell,<- hl,JU hf]
      have hmap:fields.toList.mapM (fun f=>P.keyLits n f.type ((cs.drop f.offset).take (P.cellsOf f.type)))=some (fields.toList.map fun f=>((cs.drop f.offset).take (P.cellsOf f.type)).map Fo):=
       Mc fun f hm=>by
        obtain⟨kf,hkf⟩:=j1 f hm;exact(E3 hT n f.type kf hkf).2.2.2 _ (k1 f hm kf hkf)
      have hall:fields.all (·.name != "_")=true:=by
       rw[vf];intro f hm;exact n1 f (vm.2 hm)
      unfold wb;rw[hd];simp only[hlen,hall,and_self,if_true,hmap,vN]
      congr 1
      have:cs=cs.drop 0:=rfl
      conv=>rhs;rw[this,<- k2]
      rw[AAU,AAK];rfl
   |_=>simp only[hkk]at h;cases h
theorem KD{c:CK}{a b:IN}(ha:LH c a=true)(hb:LH c b=true){r:Bool}(hr:Lz a b=some r):r=true↔Fo a=Fo b:=by
 cases c with
 |i k=>
  obtain⟨m,rfl,_⟩:=HT ha;obtain⟨n,rfl,_⟩:=HT hb;unfold Lz at hr;simp only at hr;split at hr
  ·cases hr;rw[Dh];simp[Fo]
  ·cases hr
 |b=>
  obtain⟨m,rfl⟩:=GR ha;obtain⟨n,rfl⟩:=GR hb;unfold Lz at hr;cases hr;simp[Fo]
 |s=>
  obtain⟨m,rfl,_⟩:=HU ha;obtain⟨n,rfl,_⟩:=HU hb;unfold Lz at hr;cases hr;rw[Lq];simp[Fo]
theorem L3:∀ {ks:List CK} {a b:List IN},Em ks a=true->Em ks b=true->∀ {r:Bool},Gp a b=some r->(r=true↔a.map Fo=b.map Fo)
 |[],a,b,ha,hb,r,hr=>by
  rw[DW ha,DW hb]at *;cases hr;simp
 |c::ks,a,b,ha,hb,r,hr=>by
  obtain⟨x,a,rfl,hx,ha⟩:=Cx ha;obtain⟨y,b,rfl,hy,hb⟩:=Cx hb;unfold Gp at hr;split at hr
  ·rename_i h1
   have i1:=(KD hx hy h1).1 rfl;rw[L3 ha hb hr];simp[i1]
  ·rename_i h1
   cases hr;have i1:=KD hx hy h1;simp only[xU,AAd.injEq];constructor
   ·intro h;cases h
   ·intro h;exact i1.2 h.1
  ·cases hr
structure ACc (P:vA)(ty:TTy)(t:Nat)(K:KS):Prop where
 ti:∃ ti,ty.get t=some ti/\K.agg=ti.k.agg
 flat:flatK ty 8 t=some K.ks
theorem ACc.formed(hT:DI P ty){t:Nat}{K:KS}(hK:ACc P ty t K){x:IN}(hx:GS K x=true):x.formed P t=true/\P.keyLits 8 t x.cells.toList=some ((cellsOf x).map Fo):=by
 obtain⟨ti,hti,ha⟩:=hK.ti;obtain⟨_,_,f3,f4⟩:=E3 hT 8 t K.ks hK.flat;obtain⟨h1,h2,h3⟩:=DQ hx;have T:=hT t ti hti;obtain⟨d,hd,hk⟩:=T.und;refine⟨?_,by rw[<- h2];exact f4 _ h1⟩;rcases h3 with ⟨hag,l,rfl⟩|⟨hag,hne,hnt⟩
 ·rw[ha]at hag
  have hs:=f3 ti hti hag;have hl:=JU h1;unfold AAq;rw[hd];have hsz:(Array.mk l).size=P.cellsOf t:=by
   have:l.length=K.ks.length:=hl;rw[T.cells,<- hs,<- this];rfl
  generalize ti.k=kk at hk hag;cases hk<;>first|(cases hag;done)|(simp only[hsz];exact beq_self_eq_true _)
 ·rw[ha]at hag
  have:(match P.underlying t with|some (.struct _)=>false|some (.array _ _)=>false|_=>true)=true:=by
   rw[hd];generalize ti.k=kk at hk hag;cases hk<;>first|rfl|(cases hag;done)|skip
   rename_i ho;cases d<;>first|rfl|cases ho
  unfold AAq;cases x<;>first|exact absurd rfl (hne _)|exact absurd rfl (hnt _)|exact this
theorem ACc.equal(hT:DI P ty){t:Nat}{K:KS}(hK:ACc P ty t K){x y:IN}(hx:GS K x=true)(hy:GS K y=true){r:Bool}(hr:Gp (cellsOf x) (cellsOf y)=some r)(w:uS):
  (yw t x y).run P w=.ok r w:=by
 obtain⟨f1,f2⟩:=hK.formed hT hx;obtain⟨g1,g2⟩:=hK.formed hT hy;obtain⟨k1,_⟩:=E3 hT 8 t K.ks hK.flat;obtain⟨r',hr',hiff⟩:=run_equalIn_deep (P:=P) 9992 8 t k1 w _ _ x y _ _ f1 g1 f2 g2;have:=L3 (DQ hx).1 (DQ hy).1 hr;have e:r'=r:=by
  rw[Bool.eq_iff_iff,hiff,this]
 rw[<- e];exact hr'
theorem ACc.check(hT:DI P ty){t:Nat}{K:KS}(hK:ACc P ty t K){x:IN}(hx:GS K x=true)(em:Bool)(w:uS):(Instr.checkKey em 10000 t x).run P w=.ok () w:=by
 obtain⟨f1,f2⟩:=hK.formed hT hx;obtain⟨k1,_⟩:=E3 hT 8 t K.ks hK.flat;exact run_checkKey_deep (P:=P) em 9992 8 t k1 w _ x _ f1 f2
theorem Ow{t:Nat}{d:zJ}(hd:P.underlying t=some d)(n:Nat){a b:IN}{c:Bool}(hs:zM d a b=some c)(w:uS):(xu (n+1) t a b).run P w=.ok c w:=by
 unfold zM at hs;split at hs
 ·split at hs
  ·rename_i hkk
   cases hs;simp[xu,run_underlying hd,hkk]
  ·cases hs
 ·cases hs;simp[xu,run_underlying hd]
 ·cases hs;simp[xu,run_underlying hd]
 ·cases hs
theorem JR{t:Nat}{d:zJ}(hd:P.underlying t=some d){k:IN}:∀ {es:List uu} {i:Nat} {r:Option (Nat×IN)},zN d k es i=some r->∀ w:uS,(uW t k es i).run P w=.ok r w
 |[],i,r,h,w=>by cases h;simp[uW]
 |e::es,i,r,h,w=>by
  have same:∀ {a b:IN} {c:Bool},zM d a b=some c->(yw t a b).run P w=.ok c w:=fun hs=>Ow hd 9999 hs w
  unfold zN at h;split at h
  ·rename_i hs
   cases h;simp[uW,same hs]
  ·rename_i hs
   have:=JR hd h w;simp[uW,same hs,this]
  ·cases h
theorem Fa{t:Nat}{d:zJ}(hd:P.underlying t=some d){k:IN}{es:List uu}{r:Option (Nat×IN)}(hr:(uW t k es 0).run P w=.ok r w):(zO t k es).run P w=.ok r w:=by
 unfold zO;simp only[tf,run_underlying hd,tX];cases hn:zN d k es 0 with
 |none=>exact hr
 |some r'=>
  have:=JR hd hn w;rw[hr]at this;cases this;simp
theorem Hd(hT:DI P ty){t:Nat}{K:KS}(hK:ACc P ty t K){x y y':IN}(hx:GS K x=true)(hy:ABe φ y y'){r:Bool}(hr:IW K x y=some r)(w:uS):(yw t x y').run P w=.ok r w/\GS K y=true/\y'=y:=by
 unfold IW at hr;split at hr
 ·rename_i hf
  have:=JT hf hy;subst this;exact⟨hK.equal hT hx hf hr w,hf,rfl⟩
 ·cases hr
theorem MJ(hT:DI P ty){t:Nat}{K:KS}(hK:ACc P ty t K){x:IN}(hx:GS K x=true)(w:uS):∀ {es:List Ent} {es':List uu} (i:Nat),ACX φ es es'->∀ {r:Option Ent},MI K x es=some r->
  match r with
  |none=>(uW t x es' i).run P w=.ok none w
  |some e=>∃ j v',(uW t x es' i).run P w=.ok (some (j,v')) w/\ABe φ e.val v'
 |_,_,i,.nil,r,h=>by cases h;simp[uW]
 |_,_,i,.cons (k:=k) (k':=k') (v:=v) (v':=v') (b:=b) (l:=l) (l':=l') hk hv ht,r,h=>by
  unfold MI at h;split at h
  ·rename_i he
   cases h;obtain⟨h1,_⟩:=Hd hT hK hx hk he w;exact⟨i,v',by simp[uW,h1],hv⟩
  ·rename_i he
   obtain⟨h1,_⟩:=Hd hT hK hx hk he w;have ih:=MJ hT hK hx w (i+1) ht h;cases r with
   |none=>simpa [uW,h1] using ih
   |some e=>
    obtain⟨j,u,hj,hu⟩:=ih;exact⟨j,u,by simp[uW,h1,hj],hu⟩
  ·cases h
theorem QZ{c:CK}{x:IN}(h:LH c x=true)(n:Nat):xp n x x=true:=by
 obtain⟨l,_,rfl,hw⟩:=Im h;exact sameBits_toCell hw n
theorem XA{ks:List CK}(n:Nat):∀ {l:List IN},Em ks l=true->(l.zip l).all (fun (x,y)=>xp n x y)=true:=by
 induction ks with
 |nil=>intro l h;rw[DW h];rfl
 |cons c ks ih=>
  intro l h;obtain⟨v,r,rfl,hc,hr⟩:=Cx h;simp only[List.zip_cons_cons,yg,QZ hc,ih hr,Bool.and_self]
theorem Wz{K:KS}{x:IN}(h:GS K x=true)(n:Nat):xp (n+1) x x=true:=by
 obtain⟨h1,_,h3⟩:=DQ h;rcases h3 with ⟨_,l,rfl⟩|⟨_,hne,hnt⟩
 ·unfold xp
  simp only[beq_self_eq_true,Bool.true_and];exact XA n h1
 ·have hc:cellsOf x=[x]:=Fw hne
  rw[hc]at h1;cases hk:K.ks with
  |nil=>rw[hk]at h1;cases h1
  |cons c ks=>
   rw[hk]at h1;obtain⟨v,r,e,hcc,_⟩:=Cx h1;cases e;exact QZ hcc _
theorem L2:∀ {ks:List CK} {a b:List IN},Em ks a=true->Em ks b=true->Gp a b=some true->a=b
 |[],a,b,ha,hb,_=>by rw[DW ha,DW hb]
 |c::ks,a,b,ha,hb,hr=>by
  obtain⟨x,a,rfl,hx,ha⟩:=Cx ha;obtain⟨y,b,rfl,hy,hb⟩:=Cx hb;unfold Gp at hr;split at hr
  ·rename_i h1
   have i1:=(KD hx hy h1).1 rfl;rw[L2 ha hb hr];obtain⟨l,e1,e2,_⟩:=Im hx;obtain⟨m,e3,e4,_⟩:=Im hy;rw[e2,e4,<- e1,<- e3,i1]
  ·cases hr
  ·cases hr
theorem TJ{K:KS}{x y:IN}(hx:GS K x=true)(hr:IW K x y=some true):x=y:=by
 unfold IW at hr;split at hr
 ·rename_i hf
  obtain⟨h1,h2,h3⟩:=DQ hx;obtain⟨g1,g2,g3⟩:=DQ hf;have:=L2 h1 g1 hr;rcases h3 with ⟨ha,l,rfl⟩|⟨ha,hne,hnt⟩
  ·rcases g3 with ⟨_,m,rfl⟩|⟨hb,_⟩
   ·have:l=m:=this
    rw[this]
   ·rw[ha]at hb;cases hb
  ·rcases g3 with ⟨hb,_⟩|⟨_,gne,gnt⟩
   ·rw[ha]at hb;cases hb
   ·have c1:cellsOf x=[x]:=Fw hne
    have c2:cellsOf y=[y]:=Fw gne;rw[c1,c2]at this;exact AAd.inj this |>.1
 ·cases hr
theorem Lh(hT:DI P ty){t:Nat}{K:KS}(hK:ACc P ty t K){x:IN}(hx:GS K x=true){u u':IN}(hu:ABe φ u u')(hxx:ABe φ x x)(w:uS):∀ {es:List Ent} {es':List uu} (i:Nat),ACX φ es es'->∀ {r:Option (List Ent)},NZ K x u es=some r->
  match r with
  |none=>(uW t x es' i).run P w=.ok none w
  |some es2=>∃ j v' en,(uW t x es' i).run P w=.ok (some (i+j,v')) w/\es'[j]? =some en/\en.key=x/\ACX φ es2 (es'.modify j fun e=>{e with key:=x,val:=u'})
 |_,_,i,.nil,r,h=>by cases h;simp[uW]
 |_,_,i,.cons (k:=k) (k':=k') (v:=v) (v':=v') (b:=b) (l:=l) (l':=l') hk hv ht,r,h=>by
  unfold NZ at h;split at h
  ·rename_i he
   cases h;obtain⟨h1,_,h2⟩:=Hd hT hK hx hk he w;have h3:=TJ hx he;exact⟨0,v',⟨k',v',b⟩,by simp[uW,h1],rfl,by simp only;rw[h2];exact h3.symm,by simpa using ACX.cons hxx hu ht⟩
  ·rename_i he
   obtain⟨h1,_⟩:=Hd hT hK hx hk he w;split at h
   ·rename_i es2 hs
    cases h;obtain⟨j,v2,en,e1,e2,e3,e4⟩:=Lh hT hK hx hu hxx w (i+1) ht hs;refine⟨j+1,v2,en,?_,by simpa using e2,e3,by simpa using ACX.cons hk hv e4⟩;simp only[uW,tf,h1,tX,uV,if_false];rw[e1];congr 3;omega
   ·rename_i hs
    cases h;have:=Lh hT hK hx hu hxx w (i+1) ht hs
    simpa [uW,h1] using this
   ·cases h
  ·cases h
theorem UE{x:Ent}:∀ {es:List Ent},Wi x es=es++[x]
 |[]=>rfl
 |e::es=>by unfold Wi;rw[UE];rfl
theorem ACX.append{x:Ent}{x':uu}(hx:ACX φ [x] [x']):∀ {es:List Ent} {es':List uu},ACX φ es es'->ACX φ (es++[x]) (es'++[x'])
 |_,_,.nil=>hx
 |_,_,.cons hk hv t=>.cons hk hv (ACX.append hx t)
theorem S1{K:KS}{x x':IN}(h:GS K x=true)(hr:ABe φ x x'):x'=x/\ABe φ x x:=by
 have:=JT h hr;subst this;exact⟨rfl,hr⟩
end
end
noncomputable section
open Go
section
variable {P:vA}{ty:TTy}{φ:Phi}{E:Nat->Prop}{h h':Hp}{w:uS}{F:ABZ}{e:Env}{v:IN}
def VD:IN->Bool
 |.bool _|.pointer _|.slice _ _ _|.map _|.func _ _ _|.nilFunc=>true
 |_=>false
theorem YJ{op:AAz}{neg:Bool}(hop:(op=.eql/\neg=false)\/(op=.neq/\neg=true)){t:uc}{X Y:uQ}{a b:IN}(ha:VD a=true\/∃ l,a=.agg l)(hg:(eqGuard op t X Y a b).run P w=.ok () w)
  {r:Bool}(hr:(yw t a b).run P w=.ok r w):(CH op t X Y a b).run P w=.ok (.bool (neg != r)) w:=by
 unfold CH;rw[tf,hg,tX];have:binOp op t a b=(do pure (.bool (neg != (<- yw t a b)))):=by
  rcases hop with ⟨rfl,rfl⟩|⟨rfl,rfl⟩
  ·rcases ha with ha|⟨l,rfl⟩
   ·cases a<;>first|(cases ha;done)|skip
    all_goals (simp[binOp];try rfl)
   ·simp[binOp]
  ·rcases ha with ha|⟨l,rfl⟩
   ·cases a<;>first|(cases ha;done)|skip
    all_goals (simp[binOp];try rfl)
   ·simp[binOp]
 rw[this,tf,hr,tX,tg]
theorem S5{op:AAz}{t:uc}{X Y:uQ}{a b:IN}(ha:VD a=true):(eqGuard op t X Y a b).run P w=.ok () w:=by
 cases op<;>first|rfl|skip
 all_goals (cases a<;>first|(cases ha;done)|rfl)
theorem XC{op:AAz}{t:uc}{X Y:uQ}{a b:Array IN}(hg:P.eqGuardType P.depth t=false):(eqGuard op t X Y (.agg a) (.agg b)).run P w=.ok () w:=by
 cases op<;>first|rfl|skip
 all_goals (simp[eqGuard,hg])
theorem nz(n:Nat){k:TK}{x y x' y':IN}{r:Bool}(hr:eqV k x y=some r)(hx:ABe φ x x')(hy:ABe φ y y'){t:Nat}{d:zJ}(hd:P.underlying t=some d)(hk:KOk P k d)(w:uS):
  VD x'=true/\(xu (n+1) t x' y').run P w=.ok r w:=by
 unfold eqV at hr;split at hr
 case h_12=>cases hr
 all_goals (cases hr;cases hk;first|skip|(rename_i ho;cases ho))
 all_goals (cases hx;cases hy)
 all_goals (refine⟨rfl,?_⟩;simp[xu,run_underlying hd])
theorem oB{k:TK}{x y x' y':IN}{r:Bool}(hr:eqV k x y=some r)(hx:ABe φ x x')(hy:ABe φ y y'){t:Nat}{d:zJ}(hd:P.underlying t=some d)(hk:KOk P k d)(w:uS):
 VD x'=true/\(yw t x' y').run P w=.ok r w:=nz 9999 hr hx hy hd hk w
theorem aD(H:ABh ty φ E h w){k:TK}{op:AAz}{neg:Bool}(hop:(op=.eql/\neg=false)\/(op=.neq/\neg=true)){t:Nat}{ti:TI}(T:AB5 P t ti)(hk:ti.k=k){X Y:uQ}{x y:O}{x' y':IN}
  (hx:ABe φ (x e) x')(hy:ABe φ (y e) y')(hr:oEq k neg x y F e h=.ok v h'):Bm ty φ E h w v h' ((CH op t X Y x' y').run P w):=by
 obtain⟨d,hd,hkd⟩:=T.und;rw[hk]at hkd;unfold oEq at hr;split at hr
 case h_2=>cases hr
 rename_i r hq;obtain⟨rfl,rfl⟩:=Mo hr;obtain⟨h1,h2⟩:=oB hq hx hy hd hkd w;rw[YJ hop (.inl h1) (S5 h1) h2];exact .same H (.bool _)
theorem Lb(hT:DI P ty)(H:ABh ty φ E h w){K:KS}{op:AAz}{neg:Bool}(hop:(op=.eql/\neg=false)\/(op=.neq/\neg=true)){t:Nat}{ti:TI}(hti:ty.get t=some ti)(hk:ti.k.agg=true)(hf:flatK ty 8 t=some K.ks)(ha:K.agg=true)
  {X Y:uQ}{x y:O}{x' y':IN}(hx:ABe φ (x e) x')(hy:ABe φ (y e) y')(hr:PQ K neg x y F e h=.ok v h'):Bm ty φ E h w v h' ((CH op t X Y x' y').run P w):=by
 have T:=hT t ti hti;have hK:ACc P ty t K:=⟨⟨ti,hti,by rw[ha,hk]⟩,hf⟩;unfold PQ eqC at hr;split at hr
 case h_2=>cases hr
 rename_i r hq;split at hq
 case h_2=>cases hq
 rename_i hfx;obtain⟨rfl,rfl⟩:=Mo hr;have e1:=JT hfx hx;obtain⟨h1,hfy,e2⟩:=Hd hT hK hfx hy hq w;rw[<- e1]at hfx;have hgt:=(E3 hT 8 t K.ks hf).2.1 P.depth T.deep;obtain⟨_,_,g1⟩:=DQ hfx;obtain⟨_,_,g2⟩:=DQ hfy;rw[<- e2]at g2;rcases g1 with ⟨_,l,hl⟩|⟨hb,_⟩
 ·rcases g2 with ⟨_,m,hm⟩|⟨hb,_⟩
  ·rw[<- e1]at h1
   have hg:(eqGuard op t X Y x' y').run P w=.ok () w:=by rw[hl,hm];exact XC hgt
   rw[YJ hop (.inr ⟨_,hl⟩) hg h1];exact .same H (.bool _)
  ·rw[ha]at hb;cases hb
 ·rw[ha]at hb;cases hb
end
end
noncomputable section
open Go
section
variable {P:vA}{ty:TTy}{φ:Phi}{E:Nat->Prop}{h h':Hp}{w:uS}{F:ABZ}{e:Env}{v:IN}{f:Fr}
theorem Bh{t:Nat}{k:TI->OpF}(hr:wTy ty t k F e h=.ok v h'):∃ ti,ty.get t=some ti/\k ti F e h=.ok v h':=by
 unfold wTy at hr;cases hg:ty.get t with
 |none=>rw[hg]at hr;cases hr
 |some ti=>rw[hg]at hr;exact⟨ti,rfl,hr⟩
theorem DM{x:uQ}{k:O->OpF}(hr:w1 f x k F e h=.ok v h'):∃ y,cO f x=some y/\k y F e h=.ok v h':=by
 unfold w1 at hr;cases hg:cO f x with
 |none=>rw[hg]at hr;cases hr
 |some y=>rw[hg]at hr;exact⟨y,rfl,hr⟩
theorem Jz{x y:uQ}{k:O->O->OpF}(hr:w2 f x y k F e h=.ok v h'):∃ x' y',cO f x=some x'/\cO f y=some y'/\k x' y' F e h=.ok v h':=by
 unfold w2 at hr;obtain⟨x',hx,hr⟩:=DM hr;obtain⟨y',hy,hr⟩:=DM hr;exact⟨x',y',hx,hy,hr⟩
theorem Ia{ti:TI}{k:OpF}(hr:wZ ti k F e h=.ok v h'):ti.zero.length=ti.size/\k F e h=.ok v h':=by
 unfold wZ at hr;cases hg:tm (Di ti.zero) ti.size with
 |false=>rw[hg]at hr;cases hr
 |true=>rw[hg]at hr;exact⟨by rw[<- A1.1 hg,Bi],hr⟩
theorem Ep(hr:oNo F e h=.ok v h'):False:=by cases hr
def Dc(P:vA)(ty:TTy)(F:ABZ):Prop:=∀ g args h v h',F g args h=.ok v h'->
 (∃ fn,P.funcs[g]? =some fn/\fn.name≠"runtime.NumGoroutine" /\fn.body.isNone=false)/\
 ∀ φ w args',ABv φ args args'->ABh ty φ (fun _=>False) h w->
  Calls P g ⟨args'⟩ w fun en w'=>∃ v' ψ,en=.returned v'/\ABe ψ v v'/\ABh ty ψ (fun _=>False) h' w'/\Evo φ h w ψ h' w'
def FD(P:vA)(ty:TTy)(φ:Phi)(E:Nat->Prop)(h:Hp)(v:IN)(h':Hp)(o:Oper)(a:Act)(w:uS):Prop:=
 ∀ (next:Act->uS->Prop) (Q:Exit->Act->uS->Prop),
  (∀ ψ v' w',ABe ψ v v'->ABh ty ψ E h' w'->Evo φ h w ψ h' w'->next (a.put o.dst v') w')->o.wp P a w next Q
theorem FD.ABb{o:Oper}{a:Act}{s:Sem IN}(hx:execOp a.eval o=(do pure (.value (<- s))))(hg:Bm ty φ E h w v h' (s.run P w)):FD P ty φ E h v h' o a w:=by
 intro next Q hn
 obtain⟨v',w',ψ,hs,hv,H,ev⟩:=hg;unfold ABA;rw[hx,tf,hs,tX,tg,Oper.upon_value];exact hn ψ v' w' hv H ev
theorem FD.ACv{o:Oper}{a:Act}{s:Sem Unit}(hx:execOp a.eval o=(do s;pure .skip))(hg:X8 ty φ E h w v h' (s.run P w)):FD P ty φ E h v h' o a w:=by
 intro next Q hn
 obtain⟨rfl,w',hs,H,ev⟩:=hg;unfold ABA;rw[hx,tf,hs,tX,tg,Oper.upon_skip];exact hn φ undef w' (.tuple .nil) H ev
theorem Jl{place:Nat->Option (Nat×Nat)}{ρ:uQ->IN}:∀ {l:List (Nat×uQ)} {ps:List (Nat×Nat×O)},Gz f place l=some ps->
  (∀ p∈l,∀ y,cO f p.2=some y->ABe φ (y e) (ρ p.2))->ADm φ e place ps (l.map fun (i,x)=>(i,ρ x))
 |[],ps,hp,_=>by cases hp;exact .nil
 |(i,x)::l,ps,hp,hst=>by
  unfold Gz at hp;split at hp
  ·rename_i off size hpl
   split at hp
   ·rename_i y hy
    split at hp
    ·rename_i r hr
     cases hp;exact .cons hpl (hst (i,x) (by simp) y hy) (Jl hr fun p hp=>hst p (by simp[hp]))
    ·cases hp
   ·cases hp
  ·cases hp
theorem Oj{ρ:uQ->IN}:∀ {l:List uQ} {ys:List O},cOs f l=some ys->(∀ x∈l,∀ y,cO f x=some y->ABe φ (y e) (ρ x))->ABv φ (vals e ys) (l.map ρ)
 |[],ys,h,_=>by cases h;exact .nil
 |x::l,ys,h,hst=>by
  unfold cOs at h;split at h
  ·rename_i y hy
   split at h
   ·rename_i r hr
    cases h;exact .cons (hst x (by simp) y hy) (Oj hr fun x hx=>hst x (by simp[hx]))
   ·cases h
  ·cases h
theorem Sd{ρ:uQ->IN}{x:Option uQ}{y:Option O}(h:cOo f x=some y)(hst:∀ z,x=some z->∀ y,cO f z=some y->ABe φ (y e) (ρ z)):AC7 φ e y (x.map ρ):=by
 unfold cOo at h;split at h
 ·cases h;exact .none
 ·rename_i x
  split at h
  ·rename_i y hy;cases h;exact .some (hst x rfl y hy)
  ·cases h
def ip(φ:Phi)(f:Fr)(e:Env)(ρ:uQ->IN)(op:Op):Prop:=∀ x∈op.operands.toList,∀ y,cO f x=some y->ABe φ (y e) (ρ x)
def HJ(ty:TTy)(f:Fr)(e:Env)(E:Nat->Prop)(op:Op):Prop:=match kd ty op with
 |.p=>True
 |.a=>True
 |.r x=>∀ y,cO f x=some y->∀ b,AB4 (y e)=.ok b->¬ E b
 |.w _=>∀ b,¬ E b
 |.q=>∀ b,¬ E b
theorem j7(hT:DI P ty)(H:ABh ty φ E h w){op:AAz}{t yt:uc}{x y:uQ}{o:Oper}{a:Act}(ho:o.op=.binOp op t x y yt)(hst:ip φ f e a.eval o.op)(hr:YI ty f op t x y F e h=.ok v h'):FD P ty φ E h v h' o a w:=by
 have hx:execOp a.eval o=(do pure (.value (<- CH op t x y (a.eval x) (a.eval y)))):=by unfold execOp;rw[ho];rfl
 unfold YI at hr;obtain⟨ti,hti,hr⟩:=Bh hr;obtain⟨x',y',hx',hy',hr⟩:=Jz hr;have r1:=hst x (by rw[ho];simp[uE]) x' hx';have r2:=hst y (by rw[ho];simp[uE]) y' hy';cases hk:ti.k with
 |int k=>
  rw[hk]at hr;cases op with
  |add=>exact .ABb hx (fd H r1 r2 hr)
  |sub=>exact .ABb hx (Vi H (.inl ⟨rfl,rfl⟩) r1 r2 hr)
  |mul=>exact .ABb hx (Vi H (.inr ⟨rfl,rfl⟩) r1 r2 hr)
  |quo=>exact .ABb hx (f0 H r1 r2 hr)
  |rem=>exact .ABb hx (gN H r1 r2 hr)
  |and=>exact .ABb hx (PO H (.inl ⟨rfl,rfl⟩) r1 r2 hr)
  |or=>exact .ABb hx (PO H (.inr (.inl ⟨rfl,rfl⟩)) r1 r2 hr)
  |xor=>exact .ABb hx (PO H (.inr (.inr ⟨rfl,rfl⟩)) r1 r2 hr)
  |shl=>exact .ABb hx (gP H r1 r2 hr)
  |shr=>exact .ABb hx (gR H r1 r2 hr)
  |andNot=>cases hr
  |eql=>exact .ABb hx (IF H (.inl ⟨rfl,rfl⟩) r1 r2 hr)
  |neq=>exact .ABb hx (IF H (.inr (.inl ⟨rfl,rfl⟩)) r1 r2 hr)
  |lss=>exact .ABb hx (IF H (.inr (.inr (.inl ⟨rfl,rfl⟩))) r1 r2 hr)
  |leq=>exact .ABb hx (IF H (.inr (.inr (.inr (.inl ⟨rfl,rfl⟩)))) r1 r2 hr)
  |gtr=>exact .ABb hx (IF H (.inr (.inr (.inr (.inr (.inl ⟨rfl,rfl⟩))))) r1 r2 hr)
  |geq=>exact .ABb hx (IF H (.inr (.inr (.inr (.inr (.inr ⟨rfl,rfl⟩))))) r1 r2 hr)
 |string=>
  rw[hk]at hr;cases op with
  |add=>exact(Ep hr).elim
  |eql=>exact .ABb hx (IG H (.inl ⟨rfl,rfl⟩) r1 r2 hr)
  |neq=>exact .ABb hx (IG H (.inr (.inl ⟨rfl,rfl⟩)) r1 r2 hr)
  |lss=>exact .ABb hx (IG H (.inr (.inr (.inl ⟨rfl,rfl⟩))) r1 r2 hr)
  |gtr=>exact .ABb hx (IG H (.inr (.inr (.inr (.inl ⟨rfl,rfl⟩)))) r1 r2 hr)
  |leq=>exact .ABb hx (IG H (.inr (.inr (.inr (.inr (.inl ⟨rfl,rfl⟩))))) r1 r2 hr)
  |geq=>exact .ABb hx (IG H (.inr (.inr (.inr (.inr (.inr ⟨rfl,rfl⟩))))) r1 r2 hr)
  |_=>cases hr
 |struct fs=>
  rw[hk]at hr;simp only at hr;cases hf:flatK ty 8 t with
  |none=>rw[hf]at hr;cases hr
  |some ks=>
   rw[hf]at hr;have hag:ti.k.agg=true:=by rw[hk];rfl
   cases op with
   |eql=>exact .ABb hx (Lb hT H (K:=⟨true,ks⟩) (.inl ⟨rfl,rfl⟩) hti hag hf rfl r1 r2 hr)
   |neq=>exact .ABb hx (Lb hT H (K:=⟨true,ks⟩) (.inr ⟨rfl,rfl⟩) hti hag hf rfl r1 r2 hr)
   |_=>cases hr
 |arr n el=>
  rw[hk]at hr;simp only at hr;cases hf:flatK ty 8 t with
  |none=>rw[hf]at hr;cases hr
  |some ks=>
   rw[hf]at hr;have hag:ti.k.agg=true:=by rw[hk];rfl
   cases op with
   |eql=>exact .ABb hx (Lb hT H (K:=⟨true,ks⟩) (.inl ⟨rfl,rfl⟩) hti hag hf rfl r1 r2 hr)
   |neq=>exact .ABb hx (Lb hT H (K:=⟨true,ks⟩) (.inr ⟨rfl,rfl⟩) hti hag hf rfl r1 r2 hr)
   |_=>cases hr
 |iface=>
  rw[hk]at hr;have hr:(match PG y with|true=>(match op with|.eql=>oNo|.neq=>oNo|_=>oNo)|false=>oNo) F e h=.ok v h':=hr;cases hn:PG y with
  |false=>rw[hn]at hr;cases hr
  |true=>
   rw[hn]at hr;have hy:y=.const .nilIface:=by
    unfold PG at hn;split at hn
    ·split at hn
     ·rfl
     ·cases hn
    ·cases hn
   subst hy;cases op with
   |eql=>exact(Ep hr).elim
   |neq=>exact(Ep hr).elim
   |_=>cases hr
 |_=>
  rw[hk]at hr;cases op with
  |eql=>exact .ABb hx (aD H (.inl ⟨rfl,rfl⟩) (hT t ti hti) hk r1 r2 hr)
  |neq=>exact .ABb hx (aD H (.inr ⟨rfl,rfl⟩) (hT t ti hti) hk r1 r2 hr)
  |_=>cases hr
end
end
noncomputable section
open Go
section
variable {P:vA}{ty:TTy}{φ:Phi}{E:Nat->Prop}{h h':Hp}{w:uS}{F:ABZ}{e:Env}{v:IN}
theorem ABh.less(H:ABh ty φ E h w)(hE:∀ b,¬ E b){E':Nat->Prop}:ABh ty φ E' h w where
 dom:=H.dom
 inj:=fun i j p q ei ej _ _=>H.inj i j p q ei ej (hE i) (hE j)
 row:=fun i p hp _=>H.row i p hp (hE i)
 fresh:=H.fresh
 kind:=H.kind
 inp:=H.inp
theorem UV(hF:Dc P ty F)(H:ABh ty φ E h w)(hE:∀ b,¬ E b){g:Nat}{args args':List IN}(ha:ABv φ args args')(hr:F g args h=.ok v h'){o:Oper}{a:Act}
  (hx:(execOp a.eval o).run P w=(callFunc g ⟨args'⟩).run P w):FD P ty φ E h v h' o a w:=by
 intro next Q hn
 obtain⟨⟨fn,hfn,hnm,hb⟩,hc⟩:=hF g args h v h' hr;have AE9:(callFunc g ⟨args'⟩).run P w=.ok (.enter g ⟨args'⟩) w:=by
  have AGl:(fn.name == "runtime.NumGoroutine")=false:=by simpa using hnm
  simp only[callFunc,tf,run_program,tX,hfn,AGl,uV,if_false,hb,tg,Sem.run_ite]
 unfold ABA;rw[hx,AE9,Oper.upon_enter];refine(hc φ w args' ha (H.less hE)).mono fun en w' ⟨v',ψ,he,hv,H',ev⟩=>?_
 subst he;exact hn ψ v' w' hv (H'.less (fun _ h=>h)) ev
theorem Z8(hF:Dc P ty F)(H:ABh ty φ E h w)(hE:∀ b,¬ E b){g:Nat}{c:Call}(hc:c.callee=.value (.func g)){o:Oper}{a:Act}(ho:o.op=.call c){args:List O}
  (ha:ABv φ (vals e args) (c.args.toList.map a.eval))(hr:AS g args F e h=.ok v h'):FD P ty φ E h v h' o a w:=by
 unfold AS at hr;rw[DD]at hr;refine UV hF H hE ha hr ?_;have e1:c.args.map a.eval=⟨c.args.toList.map a.eval⟩:=by apply vK;simp
 unfold execOp;rw[ho];simp only[resolve,hc,e1,Act.eval,zn,tf,tg,tX,invoke]
 congr 2
 apply vK;simp
theorem Kb(hF:Dc P ty F)(H:ABh ty φ E h w)(hE:∀ b,¬ E b){x:uQ}{g:O}{c:Call}(hc:c.callee=.value x){o:Oper}{a:Act}(ho:o.op=.call c){args:List O}
  (hg:ABe φ (g e) (a.eval x))(ha:ABv φ (vals e args) (c.args.toList.map a.eval))(hr:C9 g args F e h=.ok v h'):FD P ty φ E h v h' o a w:=by
 unfold C9 at hr;split at hr
 case h_2=>cases hr
 rename_i k first cap hge
 rw[hge]at hg;rw[DD]at hr;generalize hxe:a.eval x=xv at hg;cases hg with
 |func _ h1 h2=>
  refine UV hF H hE (h1.append (ha.append h2)) hr ?_;have e1:c.args.map a.eval=⟨c.args.toList.map a.eval⟩:=by apply vK;simp
  unfold execOp;rw[ho];simp only[resolve,hc,e1,hxe,zn,tf,tg,tX,invoke]
  congr 2
  apply vK;simp
theorem CL{b:Nat}{ob:Obj}(h1:w.heap[b]? =some ob)(h2:(match ob with|.cells .. =>true|_=>false)=false):(getObj b).run P w=.ok ob w:=by
 unfold getObj;simp only[Sem.run,h1];cases ob<;>first|rfl|cases h2
theorem ACX.length:∀ {l:List Ent} {l':List uu},ACX φ l l'->l'.length=l.length
 |_,_,.nil=>rfl
 |_,_,.cons _ _ t=>congrArg (· +1) t.length
theorem H6{r:Nat}{es:List Ent}{c:Nat}(hr:Bj h r=.ok es c):h.bl.get r=.map es c:=by
 unfold Bj ny at hr;split at hr
 ·cases hr;assumption
 ·cases hr
theorem ABh.ACl(H:ABh ty φ E h w){r:Nat}{p:Pl}(hp:φ r=some p)(hE:¬ E r){es:List Ent}{c:Nat}(hr:Bj h r=.ok es c):
  ∃ es',w.heap[p.blk]? =some (.map ⟨es'⟩ c)/\ACX φ es es':=by
 have:=H.row r p hp hE;rw[H6 hr]at this;generalize w.heap[p.blk]? =o at this;cases this with
 |map h=>exact⟨_,rfl,h⟩
theorem aH(H:ABh ty φ E h w){x:O}{x':IN}{ats:Array uc}{t t' el:uc}(h0:ats[0]? =some t){ti:TI}(T:AB5 P t ti)(hk:ti.k=.slice el)(hx:ABe φ (x e) x')(hr:BJ x F e h=.ok v h'):
  Bm ty φ E h w v h' ((vV ats t' #[x']).run P w):=by
 unfold BJ at hr;split at hr
 case h_3=>cases hr
 case h_2=>
  rename_i r hxe;rw[hxe]at hx;cases hr;obtain⟨d,hd,hkd⟩:=T.desc;rw[hk]at hkd;cases hkd;have key:(vV ats t' #[x']).run P w=.ok (goInt ((0:Nat):Int)) w:=by
   cases hx<;>simp only[vV,h0,tf,hd,tX,tg,uM,uT]
  rw[key];exact .same H (.int _ _)
 rename_i a n c hxe;rw[hxe]at hx;cases hr;obtain⟨d,hd,hkd⟩:=T.desc;rw[hk]at hkd;cases hkd;have key:(vV ats t' #[x']).run P w=.ok (goInt n) w:=by
  cases hx<;>simp only[vV,h0,tf,hd,tX,tg,uM,uT]
 rw[key];exact .same H (.int _ _)
theorem Z9(H:ABh ty φ E h w){x:O}{x':IN}{ats:Array uc}{t t' el:uc}(h0:ats[0]? =some t){ti:TI}(T:AB5 P t ti)(hk:ti.k=.slice el)(hx:ABe φ (x e) x')(hr:Mi x F e h=.ok v h'):
  Bm ty φ E h w v h' ((yQ ats t' #[x']).run P w):=by
 unfold Mi at hr;split at hr
 case h_2=>cases hr
 rename_i hxe;rw[hxe]at hx;cases hr;obtain⟨d,hd,hkd⟩:=T.desc;rw[hk]at hkd;cases hkd;have key:(yQ ats t' #[x']).run P w=.ok (goInt 0) w:=by
  cases hx<;>simp only[yQ,h0,tf,hd,tX,tg,uM,uT]<;>rfl
 rw[key];exact .same H (.int _ _)
theorem aJ(H:ABh ty φ E h w){x:O}{x':IN}{ats:Array uc}{t t':uc}(h0:ats[0]? =some t){ti:TI}(T:AB5 P t ti)(hk:ti.k=.string)(hx:ABe φ (x e) x')(hr:OH x F e h=.ok v h'):
  Bm ty φ E h w v h' ((vV ats t' #[x']).run P w):=by
 unfold OH at hr;split at hr
 case h_2=>cases hr
 rename_i s hxe;rw[hxe]at hx;rw[Am,Bi]at hr;cases hr;obtain⟨d,hd,hkd⟩:=T.desc;rw[hk]at hkd;cases hkd;obtain rfl:=hx.ACF;have key:(vV ats t' #[.string s]).run P w=.ok (goInt s.size) w:=by
  simp only[vV,h0,tf,hd,tX,tg,uM,uT]
 rw[key];exact .same H (.int _ _)
theorem fL{x':IN}{ats:Array uc}{t t' el:uc}{n:Nat}(h0:ats[0]? =some t){ti:TI}(T:AB5 P t ti)(hk:ti.k=.arr n el):(vV ats t' #[x']).run P w=.ok (goInt n) w:=by
 obtain⟨d,hd,hkd⟩:=T.desc;rw[hk]at hkd;cases hkd;simp only[vV,h0,tf,hd,tX,tg,uM,uT]
theorem Fk{b:Nat}{ob ob':Obj}(h1:w.heap[b]? =some ob)(h2:(match ob with|.cells .. =>true|_=>false)=false):
  (setObj b ob').run P w=.ok () {w with heap:=w.heap.setIfInBounds b ob'}:=by
 unfold setObj;simp only[Sem.run,h1];cases ob<;>first|rfl|cases h2
theorem IH(H:ABh ty φ E h w){r:Nat}{p:Pl}(hEr:¬ E r)(hp:φ r=some p)(hl:Live h r){o:Blk}{ob:Obj}{k:Hp->R}(hr:Es h r o k=.ok v h')(hsh:ABt (h.bl.get r) o)(hB:ACY ty φ p o (some ob)):
  ∃ h1,k h1=.ok v h'/\ABh ty φ E h1 {w with heap:=w.heap.setIfInBounds p.blk ob}/\Evo φ h w φ h1 {w with heap:=w.heap.setIfInBounds p.blk ob}:=by
 obtain⟨bl,ABj,hbl,hk⟩:=FV hr;have hlt:=(H.dom r p hp).2;have e1:(w.heap.setIfInBounds p.blk ob).size=w.heap.size:=by simp
 have e2:∀ k,k≠p.blk->(w.heap.setIfInBounds p.blk ob)[k]? =w.heap[k]?:=fun k hk=>by
  rw[vU,if_neg (ABQ hk)]
 have e3:(w.heap.setIfInBounds p.blk ob)[p.blk]? =some ob:=by rw[vU,if_pos rfl,if_pos hlt]
 exact⟨_,hk,H.put hEr ABj hp hl hbl e1 e2 (by show ACY ty φ p o ((w.heap.setIfInBounds p.blk ob)[p.blk]?);rw[e3];exact hB),.put (H.ACZ hp ABj) hp hl hbl hsh e1 e2 rfl rfl rfl⟩
theorem KZ{r:Nat}{es:List Ent}{c:Nat}(hr:Bj h r=.ok es c):Live h r:=by
 unfold Live;rw[H6 hr];intro hd;cases hd
theorem PP(H:ABh ty φ E h w)(hE:∀ b,¬ E b){x:O}{x':IN}{ats:Array uc}{t t':uc}{ti:TI}(h0:ats[0]? =some t)(T:AB5 P t ti)(hx:ABe φ (x e) x')(hr:FU x F e h=.ok v h'):
  Bm ty φ E h w v h' ((vI ats t' #[x']).run P w):=by
 obtain⟨d,hd,_⟩:=T.desc;unfold FU at hr;split at hr
 ·rename_i hxe
  rw[hxe]at hx;cases hr;cases hx;have key:(vI ats t' #[.map none]).run P w=.ok ABd w:=by
   simp only[vI,h0,tf,hd,tX,tg,uM,uT];rfl
  rw[key];exact .same H (.tuple .nil)
 ·rename_i r hxe
  rw[hxe]at hx;cases hx with
  |@map _ p hp=>
   split at hr
   case h_2=>cases hr
   rename_i es c hes;obtain⟨es',hw,ACE⟩:=H.ACl hp (hE r) hes;obtain⟨h1,hk,H1,ev⟩:=IH (ob:=.map #[] c) H (hE _) hp (KZ hes) hr (by rw[H6 hes];exact .inr trivial) (.map .nil);cases hk;have key:(vI ats t' #[.map (some p.blk)]).run P w=.ok ABd {w with heap:=w.heap.setIfInBounds p.blk (.map #[] c)}:=by
    simp only[vI,h0,tf,hd,tX,tg,uM,uT,CL hw rfl,Fk hw rfl];rfl
   rw[key];exact⟨_,_,φ,rfl,.tuple .nil,H1,ev⟩
 ·cases hr
theorem XR(H:ABh ty φ E h w)(hE:∀ b,¬ E b){x:O}{x':IN}{ats:Array uc}{t t' el:uc}{ti ei:TI}(h0:ats[0]? =some t)(T:AB5 P t ti)(hk:ti.k=.slice el)(TE:AB5 P el ei)(hz:ei.zero.length=ei.size)
  (hx:ABe φ (x e) x')(hr:Mj ei.zero x F e h=.ok v h'):Bm ty φ E h w v h' ((vI ats t' #[x']).run P w):=by
 obtain⟨d,hd,hkd⟩:=T.desc;rw[hk]at hkd;cases hkd;obtain⟨z,_,hzr,hzc,hzp⟩:=TE.ACg hz;unfold Mj at hr;split at hr
 ·rename_i hxe
  rw[hxe]at hx;cases hr;cases hx;have key:(vI ats t' #[.slice none 0 0]).run P w=.ok ABd w:=by
   simp only[vI,h0,tf,hd,tX,tg,uM,uT];rfl
  rw[key];exact .same H (.tuple .nil)
 ·rename_i a n c hxe
  rw[hxe]at hx;cases hx with
  |@slice _ a' _ _ c' hlc hs=>
   cases n with
   |zero=>
    cases hr;have key:(vI ats t' #[.slice (some a') 0 c']).run P w=.ok ABd w:=by
     simp only[vI,h0,tf,hd,tX,tg,uM,uT];rfl
    rw[key];exact .same H (.tuple .nil)
   |succ n=>
    have ACE:ABv φ (BO ei.zero (n+1)) (BO ei.zero (n+1)):=Ho (.plain hzp) (n+1);obtain⟨h1,w1,hk2,hrun,H1,ev⟩:=II (P:=P) H hr (Kl hlc hs (xh n)) ACE (hE _);cases hk2;have hc:(Builtin.zeroCells z.cells (n+1)).toList=BO ei.zero (n+1):=by rw[HB,hzc]
    have key:(vI ats t' #[.slice (some a') (n+1) c']).run P w=.ok ABd w1:=by
     simp only[vI,h0,tf,hd,tX,tg,uM,uT,hzr,hc,hrun];rfl
    rw[key];exact⟨_,_,φ,rfl,.tuple .nil,H1,ev⟩
 ·cases hr
theorem XQ(H:ABh ty φ E h w)(hE:∀ b,¬ E b){x:O}{x':IN}{t el:uc}{ti ei:TI}(T:AB5 P t ti)(hk:ti.k=.slice el)(TE:AB5 P el ei)(he:ei.k=.int .u8)(hx:ABe φ (x e) x')(hr:TR x F e h=.ok v h'):
  Bm ty φ E h w v h' ((convert t t x').run P w):=by
 obtain⟨d,hd,hkd⟩:=T.und;rw[hk]at hkd;cases hkd;obtain⟨d3,h3,k3⟩:=TE.und;rw[he]at k3;cases k3;unfold TR at hr;split at hr
 case h_2=>cases hr
 rename_i a n c hxe;rw[hxe]at hx;have hx0:=hx;cases hx with
 |@slice _ a' _ _ c' hlc hs=>
  split at hr
  case h_2=>cases hr
  rename_i ct s en hrow;obtain⟨s1,s2,p,hp,hbl,hor⟩:=hs;obtain⟨cs,tt,fr,hw,R⟩:=H.rowAt hp (hE _) hrow;have ACL:Live h a.block:=by unfold Live;rw[DY hrow];intro hd;cases hd
  obtain⟨bl,ABj,ADe,hk2⟩:=FV hr;cases hk2
  let fr':Nat×Nat:=if fr.1 == fr.2 then(cs.size,cs.size+1)else(min fr.1 cs.size,max fr.2 (cs.size+1))
  let w':uS:=w.freeze ⟨a'.block,cs.size,none⟩ 1
  have hf:∃ g:Obj->Obj,w'.heap=w.heap.modify p.blk g/\g (.cells cs tt fr)=.cells cs tt fr':=by
   obtain⟨lo,hi⟩:=fr;refine⟨_,by show(w.freeze ⟨a'.block,cs.size,none⟩ 1).heap=_;unfold zV;rw[if_neg yx,hbl],rfl⟩
  obtain⟨g,hheap,hg⟩:=hf;have e1:w'.heap.size=w.heap.size:=by rw[hheap];simp
  have e2:∀ k,k≠p.blk->w'.heap[k]? =w.heap[k]?:=fun k hk=>by
   rw[hheap,wY,if_neg (ABQ hk)]
  have e3:w'.heap[p.blk]? =some (.cells cs tt fr'):=by
   rw[hheap,wY,if_pos rfl,hw,vN,hg]
  have e4:w'.tape=w.tape/\w'.os=w.os/\w'.output=w.output:=by
   show(w.freeze ⟨a'.block,cs.size,none⟩ 1).tape=_/\(w.freeze ⟨a'.block,cs.size,none⟩ 1).os=_/\(w.freeze ⟨a'.block,cs.size,none⟩ 1).output=_;unfold zV;rw[if_neg yx];exact⟨rfl,rfl,rfl⟩
  have hB:ACY ty φ p (.cells ct s en) w'.heap[p.blk]?:=by
   rw[e3];refine .cells {R with loose:=.inl ?_};have:=R.AGb (H.ACZ hp ABj);show fr'.1=fr'.2\/cs.size<=fr'.1;refine .inr ?_;simp only[fr'];split
   ·exact If _
   ·rename_i hne
    have ADz:fr.1≠fr.2:=by simpa using hne
    rcases this with h|h
    ·exact absurd h ADz
    ·show cs.size<=min fr.1 cs.size
     omega
  have key:(convert t t (.slice (some a') n c')).run P w=.ok (.slice (some a') n c') w':=by
   have hsh:w.shape? a'.block=some (tt,cs.size):=by rw[hbl];simp[zU,hw]
   simp only[convert,tf,run_underlying hd,run_underlying h3,tX,beq_self_eq_true,markStringish,run_shape,hsh,run_freeze,tg];rfl
  rw[key];exact⟨_,w',φ,rfl,hx0,H.put (hE _) ABj hp ACL ADe e1 e2 hB,.put (H.ACZ hp ABj) hp ACL ADe (by rw[DY hrow];exact .inr ⟨rfl,rfl⟩) e1 e2 e4.1 e4.2.1 e4.2.2⟩
end
end
noncomputable section
open Go
section
variable {P:vA}{ty:TTy}{φ:Phi}{E:Nat->Prop}{h h':Hp}{w:uS}{F:ABZ}{e:Env}{v:IN}
theorem OC(H:ABh ty φ E h w){o:Blk}{ob:Obj}(hr:GH h o I6=.ok v h')
  (hB:ACY ty (φ.put h.next {blk:=w.heap.size,off:=0,sz:=0,room:=0,es:=1}) {blk:=w.heap.size,off:=0,sz:=0,room:=0,es:=1} o (some ob)):
  Bm ty φ E h w v h' (.ok (.pointer (some ⟨w.heap.size,0,none⟩)) {w with heap:=w.heap.push ob}):=by
 obtain⟨bl,hbl,hk⟩:=ID hr;cases hk
 let w':uS:={w with heap:=w.heap.push ob}
 have hs:w'.heap.size=w.heap.size+1:=by simp[w']
 have hsame:∀ k,k<w.heap.size->w'.heap[k]? =w.heap[k]?:=fun k hk=>by
  show(w.heap.push _)[k]? =_;rw[Array.getElem?_push_lt hk,Array.getElem?_eq_getElem hk]
 refine⟨_,w',φ.put h.next {blk:=w.heap.size,off:=0,sz:=0,room:=0,es:=1},rfl,Pa (Phi.ACP _ _ _) rfl,
  H.new hbl (by omega) (by show w.heap.size<_;omega) (fun j q e _=>by have:=(H.dom j q e).2;show _≠w.heap.size;omega) (fun k hk _=>hsame k hk) ?_,
  .made H hbl (If _) (by omega) hsame rfl rfl rfl⟩
 have:w'.heap[w.heap.size]? =some ob:=by show(w.heap.push _)[w.heap.size]? =_;simp
 rw[this];exact hB
theorem Xc(H:ABh ty φ E h w)(hE:∀ b,¬ E b){x:O}{x':IN}{t kt el:uc}{ti:TI}(T:AB5 P t ti)(hk:ti.k=.map kt el)(hx:ABe φ (x e) x')(hr:Kf x F e h=.ok v h'):
  Bm ty φ E h w v h' ((xy t x').run P w):=by
 obtain⟨d,hd,hkd⟩:=T.desc;rw[hk]at hkd;cases hkd;unfold Kf at hr;split at hr
 ·rename_i hxe
  rw[hxe]at hx;cases hx;have key:(xy t (.map none)).run P w=.ok (.pointer (some ⟨w.heap.size,0,none⟩)) {w with heap:=w.heap.push (.mapIter none 0 #[] 0)}:=by
   simp only[xy,tf,hd,tX,tg,run_newObj]
  rw[key];exact OC H hr (.ADI rfl)
 ·rename_i r hxe
  rw[hxe]at hx;cases hx with
  |@map _ p hp=>
   split at hr
   case h_2=>cases hr
   rename_i es c hes;obtain⟨es',hw,ACE⟩:=H.ACl hp (hE r) hes;have key:(xy t (.map (some p.blk))).run P w=.ok (.pointer (some ⟨w.heap.size,0,none⟩)) {w with heap:=w.heap.push (.mapIter (some p.blk) c #[] c)}:=by
    simp only[xy,tf,hd,tX,CL hw rfl,tg,run_newObj]
   rw[key];exact OC H hr (.iter rfl (Phi.ACs H.ACS _ _ hp))
 ·cases hr
theorem La(n:Nat):∀ l:List Nat,Ft n l=l.contains n
 |[]=>rfl
 |x::l=>by
  unfold Ft;rw[La n l,List.contains_cons];cases hb:tm x n with
  |true=>
   have:x=n:=A1.1 hb;subst this;simp
  |false=>
   have:¬ n=x:=fun h=>by rw[h,vT]at hb;cases hb
   simp[this]
theorem Mx(n:Nat):∀ l:List Nat,Jm n l=l++[n]
 |[]=>rfl
 |x::l=>congrArg (x:: ·) (Mx n l)
theorem Qu{since:Nat}{seen:List Nat}:∀ {es:List Ent} {es':List uu} {l:List Ent},ACX φ es es'->K6 since seen es=some l->
  ∃ l',ACX φ l l'/\es'.filter (fun e=> !seen.contains e.born)=l'/\l'.filter (fun e=>decide (e.born<since))=l'/\l'.filter (fun e=>decide (e.born>=since))=[]
 |_,_,l,.nil,h=>by cases h;exact⟨[],.nil,rfl,rfl,rfl⟩
 |_,_,l,.cons (b:=b) hk hv t,h=>by
  unfold K6 at h;split at h
  ·rename_i r hr
   obtain⟨l',h1,h2,h3,h4⟩:=Qu t hr;rw[La]at h;cases hm:seen.contains b with
   |true=>
    simp only[hm,cond_true]at h;cases h;exact⟨l',h1,by rw[xS];simp only[hm,Bool.not_true,uV,if_false];exact h2,h3,h4⟩
   |false=>
    simp only[hm,cond_false]at h;obtain⟨hb,h⟩:Nat.blt b since=true/\_=some l:=by
     cases hb:Nat.blt b since with
     |true=>rw[hb]at h;exact⟨rfl,h⟩
     |false=>rw[hb]at h;cases h
    cases h;have hlt:=Ba.1 hb;refine⟨_,.cons hk hv h1,by rw[xS];simp only[hm,Bool.not_false,if_true];rw[h2],?_,?_⟩
    ·rw[xS];simp[hlt,h3]
    ·rw[xS];simp[Nat.not_le.2 hlt,h4]
  ·cases h
theorem Ku{last:Nat}:∀ {es:List Ent} {es':List uu},ACX φ es es'->es'.all (fun e=>decide (e.born>=last))=FW last es
 |_,_,.nil=>rfl
 |_,_,.cons (b:=b) hk hv t=>by
  unfold FW;rw[yg,Ku t];cases hb:tz last b with
  |true=>simp[Ar.1 hb]
  |false=>
   have:¬ last<=b:=fun h=>by rw[Ar.2 h]at hb;cases hb
   simp[this]
theorem IA{b:Nat}{m:Option Nat}{s:Nat}{l:List Nat}{t:Nat}(hr:EW (h.bl.get b)=.ok m s l t):h.bl.get b=.iter m s l t:=by
 unfold EW at hr;split at hr<;>first|(cases hr;assumption)|cases hr
theorem mM{b m s t:Nat}(hr:EW (h.bl.get b)=.cur m s t):h.bl.get b=.cur m s t:=by
 unfold EW at hr;split at hr<;>first|(cases hr;assumption)|cases hr
theorem gj{b m s t:Nat}{sn:Option (List Nat)}(hr:EW (h.bl.get b)=.pick m s t sn):h.bl.get b=.pick m s t sn:=by
 unfold EW at hr;split at hr<;>first|(cases hr;assumption)|cases hr
theorem RK:ABe φ (.tuple ⟨[.bool false]⟩) (.tuple #[.bool false]):=.tuple (.cons (.bool _) .nil)
theorem aL(H:ABh ty φ E h w)(hE:∀ b,¬ E b){x:O}{x':IN}{t:uc}(hx:ABe φ (x e) x')(hr:HI x F e h=.ok v h'):Bm ty φ E h w v h' ((vo x' false t).run P w):=by
 unfold HI at hr;split at hr
 case h_2=>cases hr
 rename_i a ha;obtain⟨hb,hr⟩:=B3 hr;obtain⟨a',rfl,hra⟩:=Fu hx ha;obtain⟨p,hp,rfl⟩:=hra.eq;have hoff:a.off=0:=A1.1 hb;unfold GZ at hr;split at hr
 ·rename_i s l tl hit
  cases hr;have hrow:=H.row a.block p hp (hE _);rw[IA hit]at hrow;generalize hw:w.heap[p.blk]? =ob at hrow;cases hrow with
  |ADI hp0=>
   have key:(vo (.pointer (some ⟨p.blk,p.off+a.off,none⟩)) false t).run P w=.ok (.tuple #[.bool false]) w:=by
    rw[hp0,hoff];simp only[vo,tf,CL hw rfl,tX,tg]
   rw[key];exact .same H RK
 ·rename_i m since seen last hit
  have hrow:=H.row a.block p hp (hE _);rw[IA hit]at hrow;generalize hw:w.heap[p.blk]? =ob at hrow;cases hrow with
  |@iter _ q _ _ _ hp0 hq=>
   split at hr
   case h_2=>cases hr
   rename_i es c hes;obtain⟨es',hwm,ACE⟩:=H.ACl hq (hE m) hes;rw[hp0,hoff];have AEV:∃ k:R,k=.ok v h'/\(!(⟨seen⟩:Array Nat).isEmpty && !(⟨es'⟩:Array uu).isEmpty && (⟨es'⟩:Array uu).all (fun e=>decide (e.born>=last)))=false/\
     k=(match K6 since seen es with
      |some []=>aY h
      |some [x]=>Es h a.block (.iter (some m) since (Jm x.born seen) c) fun h=>.ok (.tuple ⟨[.bool true,x.key,x.val]⟩) h
      |_=>.no):=by
    have hall:(⟨es'⟩:Array uu).all (fun e=>decide (e.born>=last))=FW last es:=by
     rw[<- Ku ACE];simp
    cases seen with
    |nil=>exact⟨_,hr,by simp,rfl⟩
    |cons s0 sl=>
     cases ACE with
     |nil=>exact⟨_,hr,by simp,rfl⟩
     |cons hk hv tl=>
      simp only at hr;rw[hall];generalize hy:FW last _=y at hr ⊢;cases y with
      |true=>cases hr
      |false=>exact⟨_,hr,by simp,rfl⟩
   obtain⟨k,hk,hstop,rfl⟩:=AEV;cases hl:K6 since seen es with
   |none=>rw[hl]at hk;cases hk
   |some l=>
    rw[hl]at hk;obtain⟨l',q1,q2,q3,q4⟩:=Qu ACE hl;have f1:(⟨es'⟩:Array uu).filter (fun e=> !(⟨seen⟩:Array Nat).contains e.born)=⟨l'⟩:=by
     rw[<- q2];apply vK;simp
    have f2:(⟨l'⟩:Array uu).filter (fun e=>decide (e.born<since))=⟨l'⟩:=by
     apply vK;rw[yR];exact q3
    have f3:(⟨l'⟩:Array uu).filter (fun e=>decide (e.born>=since))= #[]:=by
     apply vK;rw[yR];exact q4
    cases q1 with
    |nil=>
     cases hk;have key:(vo (.pointer (some ⟨p.blk,0,none⟩)) false t).run P w=.ok (.tuple #[.bool false]) w:=by
      simp only[vo,tf,CL hw rfl,tX,CL hwm rfl,hstop,uV,if_false,f1,f2,f3];simp[run_choose,xN]
     have:p.off+a.off=0:=by omega
     rw[show(0:Nat)+0=0 from rfl,key];exact .same H RK
    |cons hkk hvv tl=>
     cases tl with
     |cons _ _ _=>cases hk
     |nil=>
      rename_i k0 k1 v0 v1 b0;have ACL:Live h a.block:=by unfold Live;rw[IA hit];intro hd;cases hd
      simp only at hk;obtain⟨h1,hk2,H1,ev⟩:=IH (ob:=.mapIter (some q.blk) since ⟨seen++[b0]⟩ c) H (hE _) hp ACL hk (by rw[IA hit];exact .inr trivial) (by rw[Mx];exact .iter hp0 hq);cases hk2;have key:(vo (.pointer (some ⟨p.blk,0,none⟩)) false t).run P w=.ok (.tuple #[.bool true,k1,v1]) {w with heap:=w.heap.setIfInBounds p.blk (.mapIter (some q.blk) since ⟨seen++[b0]⟩ c)}:=by
       have ACB:=Fk (P:=P) (ob':=.mapIter (some q.blk) since ⟨seen++[b0]⟩ c) hw rfl;simp only[vo,tf,CL hw rfl,tX,CL hwm rfl,hstop,uV,if_false,f1,f2,f3];simp[run_choose,xN,ACB]
      rw[key];exact⟨_,_,φ,rfl,.tuple (.cons (.bool _) (.cons hkk (.cons hvv .nil))),H1,ev⟩
 ·cases hr
 ·cases hr
 ·rename_i m s last hit
  have hrow:=H.row a.block p hp (hE _);rw[gj hit]at hrow;cases hrow
theorem Qt:∀ l:List Nat,Qs l=l.getLast?
 |[]=>rfl
 |[x]=>rfl
 |x::y::l=>by
  show Qs (y::l)=_;rw[Qt (y::l)];rfl
theorem QT{n:Nat}:∀ {es:List Ent} {es':List uu} {x:Ent},ACX φ es es'->GQ n es=some x->∃ x',es'.find? (fun e=>e.born == n)=some x'/\ABe φ x.key x'.key/\ABe φ x.val x'.val
 |_,_,x,.nil,h=>by cases h
 |_,_,x,.cons (k':=k') (v':=v') (b:=b) hk hv t,h=>by
  unfold GQ at h;rw[List.find?_cons];cases hb:tm b n with
  |true=>
   simp only[hb,cond_true]at h;cases h;have:b=n:=A1.1 hb;subst this;refine⟨⟨k',v',b⟩,?_,hk,hv⟩;simp only[beq_self_eq_true]
  |false=>
   simp only[hb,cond_false]at h;have hne:(b == n)=false:=by
    rw[beq_eq_false_iff_ne];intro he;rw[he,vT]at hb;cases hb
   obtain⟨x',q1,q2⟩:=QT t h;exact⟨x',by simp only[hne];exact q1,q2⟩
theorem Sy(H:ABh ty φ E h w)(hE:∀ b,¬ E b){m s last:Nat}{q:Pl}(hq:φ m=some q)(hr:H4 m s last h=.ok v h'):
  h'=h/\∃ (es':List uu) (c:Nat) (en':uu) (k0 v0:IN),w.heap[q.blk]? =some (.map ⟨es'⟩ c)/\c=last/\(⟨es'⟩:Array uu).find? (fun e=>e.born == s)=some en'/\v=.tuple ⟨[k0,v0]⟩/\ABe φ k0 en'.key/\ABe φ v0 en'.val:=by
 unfold H4 at hr;split at hr
 case h_2=>cases hr
 rename_i es c hes;obtain⟨hc,hr⟩:=B3 hr;split at hr
 case h_2=>cases hr
 rename_i en hen;cases hr;obtain⟨es',hwm,ACE⟩:=H.ACl hq (hE m) hes;obtain⟨en',q1,q2,q3⟩:=QT ACE hen;exact⟨rfl,es',c,en',_,_,hwm,A1.1 hc,by rw[<- q1];simp,rfl,q2,q3⟩
theorem XS(H:ABh ty φ E h w)(hE:∀ b,¬ E b){x:O}{x':IN}(hx:ABe φ (x e) x')(hr:Iz x F e h=.ok v h'):Bm ty φ E h w v h' ((ym x').run P w):=by
 unfold Iz at hr;split at hr
 case h_2=>cases hr
 rename_i a ha;obtain⟨hb,hr⟩:=B3 hr;obtain⟨a',rfl,hra⟩:=Fu hx ha;obtain⟨p,hp,rfl⟩:=hra.eq;have hoff:a.off=0:=A1.1 hb;have main:∀ {m s last:Nat} {q:Pl} {sn:Nat} {seen:List Nat},φ m=some q->p.off=0->w.heap[p.blk]? =some (.mapIter (some q.blk) sn ⟨seen⟩ last)->seen.getLast? =some s->H4 m s last h=.ok v h'->
   Bm ty φ E h w v h' ((ym (.pointer (some ⟨p.blk,p.off+a.off,none⟩))).run P w):=by
  intro m s last q sn seen hq hp0 hw hl hr;obtain⟨rfl,es',c,en',k0,v0,hwm,rfl,hfind,rfl,q2,q3⟩:=Sy H hE hq hr;have ADA:(⟨seen⟩:Array Nat).back? =some s:=by
   rw[<- hl];simp[Array.back?_eq_getElem?,List.getLast?_eq_getElem?]
  rw[hp0,hoff];have key:(ym (.pointer (some ⟨p.blk,0,none⟩))).run P w=.ok (.tuple #[en'.key,en'.val]) w:=by
   simp only[ym,tf,CL hw rfl,tX,ADA,CL hwm rfl,bne_self_eq_false,uV,if_false,hfind,tg]
  rw[key];exact .same H (.tuple (.cons q2 (.cons q3 .nil)))
 unfold KJ at hr;split at hr
 ·rename_i m since seen last hit
  have hrow:=H.row a.block p hp (hE _);rw[IA hit]at hrow;generalize hw:w.heap[p.blk]? =ob at hrow;cases hrow with
  |@iter _ q _ _ _ hp0 hq=>
   split at hr
   case h_2=>cases hr
   rename_i st hst;exact main hq hp0 hw (by rw[<- Qt];exact hst) hr
 ·rename_i m st last hit
  have hrow:=H.row a.block p hp (hE _);rw[mM hit]at hrow;generalize hw:w.heap[p.blk]? =ob at hrow;cases hrow with
  |cur hp0 hq hl=>exact main hq hp0 hw hl hr
 ·cases hr
end
end
noncomputable section
open Go
section
variable {P:vA}{ty:TTy}{φ:Phi}{E:Nat->Prop}{h h':Hp}{w:uS}{F:ABZ}{e:Env}{v:IN}
theorem Lk{t:Nat}{k:KS->OpF}(hr:wKey ty t k F e h=.ok v h'):∃ ti kt el K,ty.get t=some ti/\ti.k=.map kt el/\ACc P ty kt K/\k K F e h=.ok v h':=by
 unfold wKey at hr;obtain⟨ti,hti,hr⟩:=Bh hr;cases hk:ti.k with
 |map kt el=>
  simp only[hk]at hr;obtain⟨ki,hki,hr⟩:=Bh hr;cases hf:flatK ty 8 kt with
  |none=>rw[hf]at hr;cases hr
  |some ks=>
   rw[hf]at hr;exact⟨ti,kt,el,⟨ki.k.agg,ks⟩,hti,hk,⟨⟨ki,hki,rfl⟩,hf⟩,hr⟩
 |_=>simp only[hk]at hr;cases hr
theorem ACc.und(hT:DI P ty){t:Nat}{K:KS}(hK:ACc P ty t K):∃ d,P.underlying t=some d:=by
 obtain⟨ti,hti,_⟩:=hK.ti;obtain⟨d,hd,_⟩:=(hT t ti hti).und;exact⟨d,hd⟩
theorem VZ{t:Nat}{ti:TI}(T:AB5 P t ti){kt el:Nat}(hk:ti.k=.map kt el):P.underlying t=some (.map kt el):=by
 obtain⟨d,hd,hkd⟩:=T.und;rw[hk]at hkd;cases hkd;exact hd
theorem Ir{ok:Bool}{u:IN}{b:Bool}(hr:Ev ok u b h=.ok v h'):h'=h/\v=(if ok then .tuple ⟨[u,.bool b]⟩else u):=by
 unfold Ev at hr;cases ok<;>simp only[BQ]at hr<;>cases hr<;>exact⟨rfl,rfl⟩
theorem Hf{ok:Bool}{u u':IN}{b:Bool}(hu:ABe φ u u'):ABe φ (if ok then .tuple ⟨[u,.bool b]⟩else u) (if ok then .tuple #[u',.bool b]else u'):=by
 cases ok
 ·exact hu
 ·exact .tuple (.cons hu (.cons (.bool b) .nil))
theorem TZ(hT:DI P ty)(H:ABh ty φ E h w){t kt el:Nat}{ti ei:TI}(T:AB5 P t ti)(hk:ti.k=.map kt el)(TE:AB5 P el ei)(hz:ei.zero.length=ei.size){z:IN}(hzv:zeroV ei=some z){K:KS}(hK:ACc P ty kt K)
  {ok:Bool}{x ix:O}{x' ix':IN}(hx:ABe φ (x e) x')(hix:ABe φ (ix e) ix')(hE:∀ r,x e=.map (some r)->¬ E r)(hr:Gx K z ok x ix F e h=.ok v h'):
  Bm ty φ E h w v h' ((wS t x' ix' ok).run P w):=by
 obtain⟨z0,hz0,hzr,_,hzp⟩:=TE.ACg hz;rw[hzv]at hz0;cases hz0;have AEW:ABe φ z z:=by
  unfold zeroV at hzv;split at hzv
  ·cases hzv;exact .agg (.plain hzp)
  ·split at hzv
   ·rename_i u hu
    cases hzv;rw[hu]at hzp;simp only[yg,List.all_nil,AAy]at hzp;exact .plain hzp
   ·cases hzv
 obtain⟨kd,hkd⟩:=hK.und hT;have hu:=VZ T hk;unfold Gx IB at hr;split at hr
 case h_2=>cases hr
 rename_i hfit;have he:=JT hfit hix;subst he;split at hr
 ·rename_i hxe
  rw[hxe]at hx;cases hx;obtain⟨rfl,rfl⟩:=Ir hr;have hf:(zO kt (ix e) []).run P w=.ok none w:=Fa hkd (by simp[uW]);have key:(wS t (.map none) (ix e) ok).run P w=.ok (if ok then .tuple #[z,.bool false]else z) w:=by
   simp only[wS,tf,run_underlying hu,tX,tg,hK.check hT hfit,hf,hzr]
  rw[key];exact .same H (Hf AEW)
 ·rename_i r hxe
  rw[hxe]at hx;cases hx with
  |@map _ p hp=>
   split at hr
   case h_2=>cases hr
   rename_i es c hes;obtain⟨es',hw,ACE⟩:=H.ACl hp (hE r hxe) hes;have ADv:=CL (P:=P) hw rfl;split at hr
   ·rename_i en hfe
    obtain⟨rfl,rfl⟩:=Ir hr;obtain⟨j,u',hfa,hu'⟩:=MJ hT hK hfit w 0 ACE hfe;have hf:=Fa hkd hfa;have key:(wS t (.map (some p.blk)) (ix e) ok).run P w=.ok (if ok then .tuple #[u',.bool true]else u') w:=by
     simp only[wS,tf,run_underlying hu,tX,tg,ADv,hK.check hT hfit,hf]
    rw[key];exact .same H (Hf hu')
   ·rename_i hfe
    obtain⟨rfl,rfl⟩:=Ir hr;have hfa:=MJ hT hK hfit w 0 ACE hfe;have hf:=Fa hkd hfa;have key:(wS t (.map (some p.blk)) (ix e) ok).run P w=.ok (if ok then .tuple #[z,.bool false]else z) w:=by
     simp only[wS,tf,run_underlying hu,tX,tg,ADv,hK.check hT hfit,hf,hzr]
    rw[key];exact .same H (Hf AEW)
   ·cases hr
 ·cases hr
theorem Mn(hT:DI P ty)(H:ABh ty φ E h w)(hE:∀ b,¬ E b){t kt el:Nat}{ti:TI}(T:AB5 P t ti)(hk:ti.k=.map kt el){K:KS}(hK:ACc P ty kt K)
  {m key x:O}{m' key' x':IN}(hm:ABe φ (m e) m')(hkey:ABe φ (key e) key')(hx:ABe φ (x e) x')(hr:FK K m key x F e h=.ok v h'):
  X8 ty φ E h w v h' ((yl t m' key' x').run P w):=by
 obtain⟨kd,hkd⟩:=hK.und hT;have hu:=VZ T hk;unfold FK at hr;simp only[BQ]at hr;unfold Lj at hr;split at hr
 case h_2=>cases hr
 rename_i hfit;obtain⟨he,hkk⟩:=S1 hfit hkey;subst he;split at hr
 case h_2=>cases hr
 rename_i r hme;rw[hme]at hm;cases hm with
 |@map _ p hp=>
  split at hr
  case h_2=>cases hr
  rename_i es c hes;obtain⟨es',hw,ACE⟩:=H.ACl hp (hE r) hes;have ADv:=CL (P:=P) hw rfl;split at hr
  ·rename_i es2 hse
   obtain⟨j,u',en,hfa,hen,hek,AFA⟩:=Lh hT hK hfit hx hkk w 0 ACE hse;have hf:=Fa hkd hfa;obtain⟨h1,hk1,H1,ev⟩:=IH (ob:=.map ⟨es'.modify (0+j) fun en=>{en with key:=key e,val:=x'}⟩ c) H (hE _) hp (KZ hes) hr (by rw[H6 hes];exact .inr trivial) (.map (by rw[sh];exact AFA));cases hk1;refine⟨rfl,_,?_,H1,ev⟩;have AFB:(zx (((⟨es'⟩:Array uu)[0+j]?.map (·.key)).getD (key e)) (key e)).run P w=.ok (key e) w:=by
    have:(⟨es'⟩:Array uu)[0+j]? =some en:=by rw[sh];simpa using hen
    rw[this];simp only[vN,Option.getD_some,hek];unfold zx;rw[Wz hfit 9999];simp
   have ACB:=Fk (P:=P) (ob':=.map ⟨es'.modify (0+j) fun en=>{en with key:=key e,val:=x'}⟩ c) hw rfl;simp only[yl,tf,run_underlying hu,tX,ADv,hK.check hT hfit,hf,AFB];rw[<- ACB];congr 3;apply vK;simp
  ·rename_i hse
   have hfa:=Lh hT hK hfit hx hkk w 0 ACE hse;have hf:=Fa hkd hfa;obtain⟨h1,hk1,H1,ev⟩:=IH (ob:=.map ⟨es'++[{key:=key e,val:=x',born:=c}]⟩ (c+1)) H (hE _) hp (KZ hes) hr (by rw[H6 hes];exact .inr trivial) (.map (by rw[UE];exact ACX.append (.cons hkk hx .nil) ACE));cases hk1;refine⟨rfl,_,?_,H1,ev⟩;have ACB:=Fk (P:=P) (ob':=.map ⟨es'++[{key:=key e,val:=x',born:=c}]⟩ (c+1)) hw rfl;simp only[yl,tf,run_underlying hu,tX,ADv,hK.check hT hfit,hf];rw[<- ACB];congr 2;simp
  ·cases hr
end
end
noncomputable section
open Go
section
variable {P:vA}{ty:TTy}{φ:Phi}{E:Nat->Prop}{h h':Hp}{w:uS}{F:ABZ}{e:Env}{v:IN}{f:Fr}
theorem WP{op:Op}{x:uQ}(hk:kd ty op=.r x)(hE:HJ ty f e E op){y:O}(hy:cO f x=some y):∀ a,y e=.pointer (some a)->¬ E a.block:=by
 intro a ha;unfold HJ at hE;rw[hk]at hE;exact hE y hy a.block (by rw[ha];rfl)
theorem Li{op:Op}{x:uQ}(hk:kd ty op=.w x)(hE:HJ ty f e E op):∀ b,¬ E b:=by
 unfold HJ at hE;rw[hk]at hE;exact hE
theorem GE{op:Op}(hk:kd ty op=.q)(hE:HJ ty f e E op):∀ b,¬ E b:=by
 unfold HJ at hE;rw[hk]at hE;exact hE
theorem YC{args:List O}{x:O}(hs:args=[x]){l:List uQ}{ρ:uQ->IN}(ha:ABv φ (vals e args) (l.map ρ)):∃ x',l.map ρ=[x']/\ABe φ (x e) x':=by
 subst hs;generalize l.map ρ=r at ha;cases ha with|cons h t=>cases t;exact⟨_,rfl,h⟩
theorem Pz{args:List O}{x y:O}(hs:args=[x,y]){l:List uQ}{ρ:uQ->IN}(ha:ABv φ (vals e args) (l.map ρ)):∃ x' y',l.map ρ=[x',y']/\ABe φ (x e) x'/\ABe φ (y e) y':=by
 subst hs;generalize l.map ρ=r at ha;cases ha with|cons h t=>cases t with|cons h2 t=>cases t;exact⟨_,_,rfl,h,h2⟩
theorem YR(hT:DI P ty)(H:ABh ty φ E h w){b:Builtin}{c:Call}(hc:c.callee=.builtin b){o:Oper}{a:Act}(ho:o.op=.call c){args:List O}
  (ha:ABv φ (vals e args) (c.args.toList.map a.eval))(hE:(∀ b,¬ E b)\/b=.min\/b=.max\/(b=.len/\∀ x,args=[x]->∀ t ti,c.argTypes[0]? =some t->ty.get t=some ti->(∃ k q,ti.k=.map k q)->∀ r,x e=.map (some r)->¬ E r))
  (hr:KB ty b c.argTypes.toList args F e h=.ok v h'):FD P ty φ E h v h' o a w:=by
 have AE7:c.args.map a.eval=⟨c.args.toList.map a.eval⟩:=by apply vK;simp
 have AEF:∀ t l,c.argTypes.toList=t::l->c.argTypes[0]? =some t:=fun t l hl=>by rw[<- zb,hl];rfl
 have AGm:∀ t t2 l,c.argTypes.toList=t::t2::l->c.argTypes[1]? =some t2:=fun t t2 l hl=>by rw[<- zb,hl];rfl
 have hex:∀ s:Sem IN,(∀ cs,builtin b c.argTypes o.type cs ⟨c.args.toList.map a.eval⟩=(do pure (.value (<- s))))->∀ {vv:IN} {hh:Hp},Bm ty φ E h w vv hh (s.run P w)->FD P ty φ E h vv hh o a w:=by
  intro s hs vv hh hg;refine .ABb (s:=s) ?_ hg;unfold execOp;rw[ho];simp only[resolve,hc,AE7];exact hs _
 cases b with
 |len=>
  match args,ha,hE,hr with
  |[x],ha,hE,hr=>
   obtain⟨x',he,hx⟩:=YC rfl ha;cases hl:c.argTypes.toList with
   |nil=>rw[hl]at hr;cases hr
   |cons t l=>
    rw[hl]at hr;obtain⟨ti,hti,hr⟩:=Bh hr;have h0:=AEF t l hl;cases hk:ti.k with
    |slice el=>simp only[hk]at hr;exact hex _ (fun cs=>by rw[he];rfl) (aH H h0 (hT t ti hti) hk hx hr)
    |string=>simp only[hk]at hr;exact hex _ (fun cs=>by rw[he];rfl) (aJ H h0 (hT t ti hti) hk hx hr)
    |map k q=>
     simp only[hk]at hr;exact(Ep hr).elim
    |arr n el=>
     simp only[hk]at hr;refine hex (vV c.argTypes o.type #[x']) (fun cs=>by rw[he];rfl) ?_;rw[fL h0 (hT t ti hti) hk];have:v=.int .i64 (.ofNat n)/\h'=h:=by
      unfold AP kV at hr;rw[E7]at hr;cases hr;exact⟨rfl,rfl⟩
     obtain⟨rfl,rfl⟩:=this;exact .same H (.int _ _)
    |_=>simp only[hk]at hr;cases hr
  |[],_,_,hr=>cases hr
  |_::_::_,_,_,hr=>cases hr
 |cap=>
  match args,ha,hr with
  |[x],ha,hr=>
   obtain⟨x',he,hx⟩:=YC rfl ha;cases hl:c.argTypes.toList with
   |nil=>rw[hl]at hr;cases hr
   |cons t l=>
    rw[hl]at hr;obtain⟨ti,hti,hr⟩:=Bh hr;have h0:=AEF t l hl;cases hk:ti.k with
    |slice el=>simp only[hk]at hr;exact hex (yQ c.argTypes o.type #[x']) (fun cs=>by rw[he];rfl) (Z9 H h0 (hT t ti hti) hk hx hr)
    |_=>simp only[hk]at hr;cases hr
  |[],_,hr=>cases hr
  |_::_::_,_,hr=>cases hr
 |min=>
  match args,ha,hr with
  |[x,y],ha,hr=>
   obtain⟨x',y',he,hx,hy⟩:=Pz rfl ha;exact hex _ (fun cs=>by rw[he];rfl) (gH (F:=F) H hx hy hr)
  |[],_,hr=>cases hr
  |[_],_,hr=>cases hr
  |_::_::_::_,_,hr=>cases hr
 |max=>
  match args,ha,hr with
  |[x,y],ha,hr=>
   obtain⟨x',y',he,hx,hy⟩:=Pz rfl ha;exact hex _ (fun cs=>by rw[he];rfl) (gF (F:=F) H hx hy hr)
  |[],_,hr=>cases hr
  |[_],_,hr=>cases hr
  |_::_::_::_,_,hr=>cases hr
 |copy=>
  have hE':∀ b,¬ E b:=by
   rcases hE with h|h|h|⟨h,_⟩
   ·exact h
   all_goals cases h
  match args,ha,hr with
  |[d,x],ha,hr=>
   obtain⟨d',x',he,hd,hx⟩:=Pz rfl ha;cases hl:c.argTypes.toList with
   |nil=>rw[hl]at hr;cases hr
   |cons t l=>
    rw[hl]at hr;obtain⟨ti,hti,hr⟩:=Bh hr;cases hk:ti.k with
    |slice el=>
     simp only[hk]at hr;obtain⟨ei,hei,hr⟩:=Bh hr;exact hex _ (fun cs=>by rw[he];rfl) (aC H hE' (AEF t l hl) (hT t ti hti) hk (hT el ei hei) hd hx hr)
    |_=>simp only[hk]at hr;cases hr
  |[],_,hr=>cases hr
  |[_],_,hr=>cases hr
  |_::_::_::_,_,hr=>cases hr
 |clear=>
  have hE':∀ b,¬ E b:=by
   rcases hE with h|h|h|⟨h,_⟩
   ·exact h
   all_goals cases h
  match args,ha,hr with
  |[x],ha,hr=>
   obtain⟨x',he,hx⟩:=YC rfl ha;cases hl:c.argTypes.toList with
   |nil=>rw[hl]at hr;cases hr
   |cons t l=>
    rw[hl]at hr;obtain⟨ti,hti,hr⟩:=Bh hr;cases hk:ti.k with
    |slice el=>
     simp only[hk]at hr;obtain⟨ei,hei,hr⟩:=Bh hr;obtain⟨hz,hr⟩:=Ia hr;exact hex _ (fun cs=>by rw[he];rfl) (XR H hE' (AEF t l hl) (hT t ti hti) hk (hT el ei hei) hz hx hr)
    |map k q=>
     simp only[hk]at hr;exact hex _ (fun cs=>by rw[he];rfl) (PP H hE' (AEF t l hl) (hT t ti hti) hx hr)
    |_=>simp only[hk]at hr;cases hr
  |[],_,hr=>cases hr
  |_::_::_,_,hr=>cases hr
 |append=>
  have hE':∀ b,¬ E b:=by
   rcases hE with h|h|h|⟨h,_⟩
   ·exact h
   all_goals cases h
  match args,ha,hr with
  |[s,x],ha,hr=>
   obtain⟨s',x',he,hs,hx⟩:=Pz rfl ha;cases hl:c.argTypes.toList with
   |nil=>rw[hl]at hr;cases hr
   |cons t l=>
    cases l with
    |nil=>rw[hl]at hr;cases hr
    |cons t2 l=>
     rw[hl]at hr;obtain⟨ti,hti,hr⟩:=Bh hr;obtain⟨xi,hxi,hr⟩:=Bh hr;have h0:=AEF t _ hl;have h1:=AGm t t2 l hl;cases hk:ti.k with
     |slice en=>
      cases hk2:xi.k with
      |slice q=>
       simp only[hk,hk2]at hr;obtain⟨ei,hei,hr⟩:=Bh hr;cases hsz:ei.size with
       |zero=>simp only[hsz]at hr;cases hr
       |succ n=>
        simp only[hsz]at hr;obtain⟨hz,hr⟩:=Ia hr;have hs2:n.succ=ei.size:=hsz.symm;rw[hs2]at hr;exact hex _ (fun cs=>by rw[he];rfl) (Mg H hE' h0 h1 (hT t ti hti) hk (hT t2 xi hxi) (.inl ⟨q,hk2⟩) hei (hT en ei hei) (by omega) hz hs hx hr)
      |string=>
       simp only[hk,hk2]at hr;obtain⟨ei,hei,hr⟩:=Bh hr;cases hsz:ei.size with
       |zero=>simp only[hsz]at hr;cases hr
       |succ n=>
        simp only[hsz]at hr;obtain⟨hz,hr⟩:=Ia hr;have hs2:n.succ=ei.size:=hsz.symm;rw[hs2]at hr;exact hex _ (fun cs=>by rw[he];rfl) (Mg H hE' h0 h1 (hT t ti hti) hk (hT t2 xi hxi) (.inr hk2) hei (hT en ei hei) (by omega) hz hs hx hr)
      |int q=>
       simp only[hk,hk2]at hr;obtain⟨ei,hei,hr⟩:=Bh hr;cases hsz:ei.size with
       |zero=>simp only[hsz]at hr;cases hr
       |succ n=>
        simp only[hsz]at hr;obtain⟨hz,hr⟩:=Ia hr;have hs2:n.succ=ei.size:=hsz.symm;rw[hs2]at hr;exact hex _ (fun cs=>by rw[he];rfl) (Q6 H hE' h0 h1 (hT t ti hti) hk (hT t2 xi hxi) hk2 hei (hT en ei hei) (by omega) hz hs hx hr)
      |_=>simp only[hk,hk2]at hr;cases hr
     |_=>simp only[hk]at hr;cases hr
  |[],_,hr=>cases hr
  |[_],_,hr=>cases hr
  |_::_::_::_,_,hr=>cases hr
 |delete=>
  have hE':∀ b,¬ E b:=by
   rcases hE with h|h|h|⟨h,_⟩
   ·exact h
   all_goals cases h
  match args,ha,hr with
  |[m,key],ha,hr=>
   obtain⟨m',key',he,hm,hkey⟩:=Pz rfl ha;cases hl:c.argTypes.toList with
   |nil=>rw[hl]at hr;cases hr
   |cons t l=>
    rw[hl]at hr;obtain⟨ti,kt,el,K,hti,hk,hK,hr⟩:=Lk (P:=P) (k:=fun _=>oNo) hr;exact(Ep hr).elim
  |[],_,hr=>cases hr
  |[_],_,hr=>cases hr
  |_::_::_::_,_,hr=>cases hr
 |_=>cases hr
theorem pR(hT:DI P ty)(hF:Dc P ty F)(H:ABh ty φ E h w){o:Oper}{a:Act}(hst:ip φ f e a.eval o.op)(hE:HJ ty f e E o.op)(hr:opC ty f o.op F e h=.ok v h'):
  FD P ty φ E h v h' o a w:=by
 cases ho:o.op with
 |move x=>
  rw[ho]at hr hst;obtain⟨x',hx',hr⟩:=DM hr;exact .ABb (s:=pure (a.eval x)) (by unfold execOp;rw[ho];rfl) (RA H (hst x (by simp[uE]) x' hx') hr)
 |assign x=>
  rw[ho]at hr hst;obtain⟨x',hx',hr⟩:=DM hr;exact .ABb (s:=pure (a.eval x)) (by unfold execOp;rw[ho];rfl) (RA H (hst x (by simp[uE]) x' hx') hr)
 |pick c x y=>
  rw[ho]at hr hst;obtain⟨c',hc',hr⟩:=DM hr;obtain⟨x',y',hx',hy',hr⟩:=Jz hr;refine .ABb (s:=(do pure (if <- asBool (a.eval c)then a.eval x else a.eval y))) ?_ (aN H (hst c (by simp[uE]) c' hc') (hst x (by simp[uE]) x' hx') (hst y (by simp[uE]) y' hy') hr);unfold execOp;rw[ho];simp
 |alloc t=>
  rw[ho]at hr hst;obtain⟨ti,hti,hr⟩:=Bh hr;obtain⟨hz,hr⟩:=Ia hr;cases hc:Bo .mt 0 ti.zero with
  |none=>rw[hc]at hr;cases hr
  |some c=>
   rw[hc]at hr;exact .ABb (by unfold execOp;rw[ho]) (XN H (hT t ti hti) hz hc hr)
 |box t x=>
  rw[ho]at hr hst;obtain⟨x',hx',hr⟩:=DM hr;exact .ABb (by unfold execOp;rw[ho]) (fq H (hst x (by simp[uE]) x' hx') hr)
 |build t parts=>
  rw[ho]at hr hst;obtain⟨ti,hti,hr⟩:=Bh hr;obtain⟨hz,hr⟩:=Ia hr;have hps:∀ p∈parts.toList,∀ y,cO f p.2=some y->ABe φ (y e) (a.eval p.2):=fun p hp=>hst p.2 (by simp only[uE,vL];exact⟨p,hp,rfl⟩)
  cases hk:ti.k with
  |struct fs=>
   simp only[hk]at hr;cases hp:Gz f (Mu fs) parts.toList with
   |none=>rw[hp]at hr;cases hr
   |some ps=>
    rw[hp]at hr;exact .ABb (by unfold execOp;rw[ho]) (TQ H (hT t ti hti) hk hz (ps':=parts.map fun (i,x)=>(i,a.eval x)) (by simpa using Jl (ρ:=a.eval) hp hps) hr)
  |arr n el=>
   simp only[hk]at hr;obtain⟨ei,hei,hr⟩:=Bh hr;cases hp:Gz f (fun i=>some (ur i ei.size,ei.size)) parts.toList with
   |none=>rw[hp]at hr;cases hr
   |some ps=>
    rw[hp]at hr;exact .ABb (by unfold execOp;rw[ho]) (TP H (hT t ti hti) hk (hT el ei hei) hz (ps':=parts.map fun (i,x)=>(i,a.eval x)) (by simpa using Jl (ρ:=a.eval) hp hps) hr)
  |_=>simp only[hk]at hr;cases hr
 |buildSlice t len parts=>
  rw[ho]at hr hst;obtain⟨ti,hti,hr⟩:=Bh hr;have hps:∀ p∈parts.toList,∀ y,cO f p.2=some y->ABe φ (y e) (a.eval p.2):=fun p hp=>hst p.2 (by simp only[uE,vL];exact⟨p,hp,rfl⟩)
  cases hk:ti.k with
  |slice el=>
   simp only[hk]at hr;obtain⟨ei,hei,hr⟩:=Bh hr;obtain⟨hz,hr⟩:=Ia hr;cases hp:Gz f (fun i=>some (ur i ei.size,ei.size)) parts.toList with
   |none=>rw[hp]at hr;cases hr
   |some ps=>
    rw[hp]at hr;simp only at hr;cases hb:tz (ur len ei.size) 16777216 with
    |false=>rw[hb]at hr;cases hr
    |true=>
     rw[hb]at hr;exact .ABb (by unfold execOp;rw[ho]) (Mh H (hT t ti hti) hk (hT el ei hei) hz (Ar.1 hb) (ps':=parts.map fun (i,x)=>(i,a.eval x)) (by simpa using Jl (ρ:=a.eval) hp hps) hr)
  |_=>simp only[hk]at hr;cases hr
 |load t x=>
  rw[ho]at hr hst hE;obtain⟨ti,hti,hr⟩:=Bh hr;obtain⟨x',hx',hr⟩:=DM hr;have hx:=hst x (by simp[uE]) x' hx';cases hk:ti.k.agg with
  |true=>rw[hk]at hr;exact .ABb (by unfold execOp;rw[ho]) (XY H (hT t ti hti) hk hx (WP rfl hE hx') hr)
  |false=>rw[hk]at hr;exact .ABb (by unfold execOp;rw[ho]) (XW H (hT t ti hti) hk hx (WP rfl hE hx') hr)
 |store t x y=>
  rw[ho]at hr hst hE;obtain⟨ti,hti,hr⟩:=Bh hr;obtain⟨x',y',hx',hy',hr⟩:=Jz hr;exact .ACv (by unfold execOp;rw[ho]) (Xd H (hT t ti hti) (hst x (by simp[uE]) x' hx') (hst y (by simp[uE]) y' hy') (fun a _=>Li (x:=x) rfl hE _) hr)
 |nilCheck x=>
  rw[ho]at hr hst;obtain⟨x',hx',hr⟩:=DM hr;obtain⟨hv,rfl,hne⟩:=gJ H (hst x (by simp[uE]) x' hx') hr;refine .ABb (s:=pure (a.eval x)) ?_ (.same H hv);unfold execOp;rw[ho];obtain⟨h1,h2,h3,h4⟩:=hne;simp only;generalize a.eval x=z at h1 h2 h3 h4 ⊢;cases z<;>first|rfl|(exact absurd rfl h2)|(exact absurd rfl h3)|skip
 |binOp op t x y yt=>rw[ho]at hr hst;exact j7 hT H ho (by rw[ho];exact hst) hr
 |unOp op t x=>
  rw[ho]at hr hst;obtain⟨ti,hti,hr⟩:=Bh hr;obtain⟨x',hx',hr⟩:=DM hr;have hx:=hst x (by simp[uE]) x' hx';have hex:execOp a.eval o=(do pure (.value (<- Op.unary op (a.eval x)))):=by unfold execOp;rw[ho]
  cases op with
  |not=>exact .ABb hex (gL H hx (by revert hr;cases ti.k<;>exact id))
  |neg=>
   cases hk:ti.k with
   |int k=>simp only[hk]at hr;exact(Ep hr).elim
   |_=>simp only[hk]at hr;cases hr
  |plus=>revert hr;cases ti.k<;>intro hr<;>cases hr
  |xor=>
   cases hk:ti.k with
   |int k=>cases k<;>simp only[hk]at hr<;>first|cases hr;done|exact(Ep hr).elim
   |_=>simp only[hk]at hr;cases hr
 |fieldAddr t x i=>
  rw[ho]at hr hst;obtain⟨ti,hti,hr⟩:=Bh hr;obtain⟨x',hx',hr⟩:=DM hr;have hx:=hst x (by simp[uE]) x' hx';cases hk:ti.k with
  |struct fs=>
   simp only[hk]at hr;cases hn:nth fs i with
   |none=>rw[hn]at hr;cases hr
   |some q=>
    obtain⟨off,s,ft⟩:=q;rw[hn]at hr;cases s with
    |zero=>cases hr
    |succ s=>exact .ABb (by unfold execOp;rw[ho]) (NW H (hT t ti hti) hk hn hx hr)
  |_=>simp only[hk]at hr;cases hr
 |field t x i=>
  rw[ho]at hr hst;obtain⟨ti,hti,hr⟩:=Bh hr;obtain⟨x',hx',hr⟩:=DM hr;have hx:=hst x (by simp[uE]) x' hx';cases hk:ti.k with
  |struct fs=>
   simp only[hk]at hr;cases hn:nth fs i with
   |none=>rw[hn]at hr;cases hr
   |some q=>
    obtain⟨off,s,ft⟩:=q;rw[hn]at hr;obtain⟨fi,hfi,hr⟩:=Bh hr;exact(Ep hr).elim
  |_=>simp only[hk]at hr;cases hr
 |indexAddr t x ix=>
  rw[ho]at hr hst;obtain⟨ti,hti,hr⟩:=Bh hr;obtain⟨x',y',hx',hy',hr⟩:=Jz hr;have hx:=hst x (by simp[uE]) x' hx';have hy:=hst ix (by simp[uE]) y' hy';cases hk:ti.k with
  |arr n el=>
   simp only[hk]at hr;obtain⟨ei,hei,hr⟩:=Bh hr;exact .ABb (by unfold execOp;rw[ho]) (TW H (hT t ti hti) hk (hT el ei hei) hx hy hr)
  |slice el=>
   simp only[hk]at hr;obtain⟨ei,hei,hr⟩:=Bh hr;exact .ABb (by unfold execOp;rw[ho]) (gB H (hT t ti hti) hk (hT el ei hei) hx hy hr)
  |_=>simp only[hk]at hr;cases hr
 |index t x ix=>
  rw[ho]at hr hst;obtain⟨ti,hti,hr⟩:=Bh hr;obtain⟨x',y',hx',hy',hr⟩:=Jz hr;have hx:=hst x (by simp[uE]) x' hx';have hy:=hst ix (by simp[uE]) y' hy';cases hk:ti.k with
  |arr n el=>
   simp only[hk]at hr;obtain⟨ei,hei,hr⟩:=Bh hr;exact(Ep hr).elim
  |string=>
   simp only[hk]at hr;exact .ABb (by unfold execOp;rw[ho]) (XP H (hT t ti hti) hk hx hy hr)
  |_=>simp only[hk]at hr;cases hr
 |extract x i=>
  rw[ho]at hr hst;obtain⟨x',hx',hr⟩:=DM hr;exact .ABb (by unfold execOp;rw[ho]) (Q9 H (hst x (by simp[uE]) x' hx') hr)
 |makeInterface t x=>
  rw[ho]at hr hst;obtain⟨ti,hti,hr⟩:=Bh hr;obtain⟨x',hx',hr⟩:=DM hr;have hx:=hst x (by simp[uE]) x' hx';have hne:ti.k≠.iface:=by intro hk;rw[hk]at hr;cases hr
  have hr':I4 t x' F e h=.ok v h':=by revert hr hne;cases ti.k<;>intro hr hne<;>first|exact hr|exact absurd rfl hne
  exact .ABb (by unfold execOp;rw[ho]) (XU H (hT t ti hti) hne hx hr')
 |makeFunc fn first cap=>
  rw[ho]at hr hst;simp only[opC]at hr;cases h1:cOs f first.toList with
  |none=>simp only[h1]at hr;cases hr
  |some fs=>
   cases h2:cOs f cap.toList with
   |none=>simp only[h1,h2]at hr;cases hr
   |some cs=>
    simp only[h1,h2]at hr;refine .ABb (s:=Instr.makeFunc fn (first.map a.eval) (cap.map a.eval)) (by unfold execOp;rw[ho]) ?_;have e1:first.map a.eval=⟨first.toList.map a.eval⟩:=by apply vK;simp
    have e2:cap.map a.eval=⟨cap.toList.map a.eval⟩:=by apply vK;simp
    rw[e1,e2];exact aF H (Oj h1 fun x hx=>hst x (by simp[uE]at hx ⊢;exact .inl hx)) (Oj h2 fun x hx=>hst x (by simp[uE]at hx ⊢;exact .inr hx)) hr
 |makeMap t r=>
  rw[ho]at hr hst;cases r with
  |some _=>cases hr
  |none=>exact .ABb (by unfold execOp;rw[ho];rfl) (gC (F:=F) (e:=e) H (t:=t) hr)
 |makeSlice t l c=>
  rw[ho]at hr hst;obtain⟨ti,hti,hr⟩:=Bh hr;cases hk:ti.k with
  |slice el=>
   simp only[hk]at hr;obtain⟨ei,hei,hr⟩:=Bh hr;obtain⟨hz,hr⟩:=Ia hr;obtain⟨l',c',hl',hc',hr⟩:=Jz hr;exact .ABb (by unfold execOp;rw[ho]) (aK H (hT t ti hti) hk (hT el ei hei) hz (hst l (by simp[uE]) l' hl') (hst c (by simp[uE]) c' hc') hr)
  |_=>simp only[hk]at hr;cases hr
 |sliceToArrayPointer t x=>
  rw[ho]at hr hst;obtain⟨ti,hti,hr⟩:=Bh hr;cases hk:ti.k with
  |arr n el=>
   simp only[hk]at hr;cases n with
   |zero=>cases hr
   |succ n=>
    obtain⟨x',hx',hr⟩:=DM hr;exact .ABb (by unfold execOp;rw[ho]) (fh H (hT t ti hti) hk (xh _) (hst x (by simp[uE]) x' hx') hr)
  |_=>simp only[hk]at hr;cases hr
 |slice t x lo hi mx=>
  rw[ho]at hr hst;obtain⟨ti,hti,hr⟩:=Bh hr;obtain⟨x',hx',hr⟩:=DM hr;have hx:=hst x (by simp[uE]) x' hx';cases h1:cOo f lo with
  |none=>simp only[h1]at hr;cases hr
  |some lo'=>
   cases h2:cOo f hi with
   |none=>simp only[h1,h2]at hr;cases hr
   |some hi'=>
    cases h3:cOo f mx with
    |none=>simp only[h1,h2,h3]at hr;cases hr
    |some mx'=>
     simp only[h1,h2,h3]at hr;have r1:AC7 φ e lo' (lo.map a.eval):=Sd h1 fun z hz=>hst z (by rw[hz];simp[uE])
     have r2:AC7 φ e hi' (hi.map a.eval):=Sd h2 fun z hz=>hst z (by rw[hz];simp[uE])
     have r3:AC7 φ e mx' (mx.map a.eval):=Sd h3 fun z hz=>hst z (by rw[hz];simp[uE])
     cases hk:ti.k with
     |string=>
      simp only[hk]at hr;cases mx' with
      |some _=>cases hr
      |none=>
       have AC6:oNo F e h=.ok v h':=hr;have hmx:mx=none:=by
        cases mx with
        |none=>rfl
        |some z=>cases r3
       subst hmx;exact(Ep AC6).elim
     |slice el=>
      simp only[hk]at hr;obtain⟨ei,hei,hr⟩:=Bh hr;exact .ABb (by unfold execOp;rw[ho]) (fy H (hT t ti hti) hk hei (hT el ei hei) hx r1 r2 r3 hr)
     |arr n el=>
      simp only[hk]at hr;obtain⟨ei,hei,hr⟩:=Bh hr;exact .ABb (by unfold execOp;rw[ho]) (TU H (hT t ti hti) hk (hT el ei hei) hx r1 r2 r3 hr)
     |_=>simp only[hk]at hr;cases hr
 |convert src dst x=>
  rw[ho]at hr hst hE;obtain⟨si,hsi,hr⟩:=Bh hr;obtain⟨di,hdi,hr⟩:=Bh hr;obtain⟨x',hx',hr⟩:=DM hr;have hx:=hst x (by simp[uE]) x' hx';have hex:execOp a.eval o=(do pure (.value (<- convert src dst (a.eval x)))):=by unfold execOp;rw[ho]
  obtain⟨ds,hds,ks⟩:=(hT src si hsi).und;obtain⟨dd,hdd,kd⟩:=(hT dst di hdi).und;cases hk:di.k with
  |int k=>
   cases hk2:si.k with
   |int k2=>
    simp only[hk,hk2]at hr;obtain⟨q,n,hxe,hg⟩:=aB (P:=P) H hx hr;rw[hk]at kd;cases kd;rw[hk2]at ks;cases ks;refine .ABb hex ?_;rw[hxe];have:(convert src dst (.int q n)).run P w=(Conv.intToInt k n).run P w:=by
     simp only[convert,tf,run_underlying hds,run_underlying hdd,tX]
    rw[this];exact hg
   |_=>simp only[hk,hk2]at hr;cases hr
  |string=>
   cases hk2:si.k with
   |string=>
    simp only[hk,hk2]at hr;exact(Ep hr).elim
   |slice el=>
    simp only[hk,hk2]at hr;obtain⟨ei,hei,hr⟩:=Bh hr;cases hk3:ei.k with
    |int k3=>
     cases k3<;>simp only[hk3]at hr<;>first|(cases hr;done)|skip
     refine .ABb hex (Xf H (fun a l c hxe=>?_) (hT src si hsi) hk2 (hT dst di hdi) hk (hT el ei hei) hk3 hx hr);cases hb:tm src dst with
     |true=>exact GE (by simp only[Go.Proofs.YtbjadbhkogcfeaaGreat.kd,hb]) hE _
     |false=>
      have hi:MU ty src=false:=by unfold MU;rw[hsi];simp only[hk2]
      have hi2:Hb ty dst=false:=by unfold Hb;rw[hdi];simp only[hk]
      have hkd:Go.Proofs.YtbjadbhkogcfeaaGreat.kd ty (.convert src dst x)=.r x:=by simp only[Go.Proofs.YtbjadbhkogcfeaaGreat.kd,hb,hi,hi2]
      unfold HJ at hE;rw[hkd]at hE;exact hE x' hx' _ (by rw[hxe];rfl)
    |_=>simp only[hk3]at hr;cases hr
   |_=>simp only[hk,hk2]at hr;cases hr
  |slice el=>
   cases hk2:si.k with
   |string=>
    simp only[hk,hk2]at hr;obtain⟨ei,hei,hr⟩:=Bh hr;cases hk3:ei.k with
    |int k3=>
     cases k3<;>simp only[hk3]at hr<;>first|(cases hr;done)|skip
     cases hb:tm ei.size 1 with
     |false=>rw[hb]at hr;cases hr
     |true=>
      rw[hb]at hr;exact .ABb hex (RD H (hT src si hsi) hk2 (hT dst di hdi) hk (hT el ei hei) hk3 hei (A1.1 hb) hx hr)
    |_=>simp only[hk3]at hr;cases hr
   |slice el2=>
    simp only[hk,hk2]at hr;cases hb:tm src dst with
    |false=>rw[hb]at hr;cases hr
    |true=>
     rw[hb]at hr;have heq:src=dst:=A1.1 hb;have hE':=GE (by simp only[Go.Proofs.YtbjadbhkogcfeaaGreat.kd,hb]) hE;obtain⟨ei,hei,hr⟩:=Bh hr;cases hk3:ei.k with
     |int k3=>
      cases k3<;>simp only[hk3]at hr<;>first|(cases hr;done)|skip
      have hg:=XQ (P:=P) H hE' (hT dst di hdi) hk (hT el ei hei) hk3 hx hr;rw[heq]at hex;exact .ABb hex hg
     |_=>simp only[hk3]at hr;cases hr
   |_=>simp only[hk,hk2]at hr;cases hr
  |_=>simp only[hk]at hr;cases hr
 |call c=>
  rw[ho]at hr hst hE;simp only[opC]at hr;cases h1:cOs f c.args.toList with
  |none=>simp only[h1]at hr;cases hr
  |some args=>
   simp only[h1]at hr;have ha:ABv φ (vals e args) (c.args.toList.map a.eval):=Oj h1 fun x hx=>hst x (by
    unfold uE yP;cases hc:c.callee<;>simp[hc]<;>first|exact Or.inr (by simpa using hx)|exact(by simpa using hx))
   cases hc:c.callee with
   |builtin b=>
    simp only[hc]at hr;refine YR hT H hc ho ha ?_ hr;cases b with
    |len=>
     refine .inr (.inr (.inr ⟨rfl,fun x hx t ti ht hti hm r hxr=>?_⟩));subst hx;cases hl:c.args.toList with
     |nil=>rw[hl]at h1;cases h1
     |cons x0 l=>
      cases l with
      |cons x1 l=>
       rw[hl]at h1;unfold cOs at h1;cases hx0:cO f x0 with
       |none=>rw[hx0]at h1;cases h1
       |some y0=>
        rw[hx0]at h1;cases hx1:cOs f (x1::l)with
        |none=>rw[hx1]at h1;cases h1
        |some ys=>
         rw[hx1]at h1;cases h1;unfold cOs at hx1;cases hq:cO f x1 with
         |none=>rw[hq]at hx1;cases hx1
         |some y1=>
          rw[hq]at hx1;cases hq2:cOs f l with
          |none=>rw[hq2]at hx1;cases hx1
          |some ys=>rw[hq2]at hx1;cases hx1
      |nil=>
       rw[hl]at h1;have hx0:cO f x0=some x:=by
        unfold cOs at h1;cases hx0:cO f x0 with
        |none=>rw[hx0]at h1;cases h1
        |some y0=>rw[hx0]at h1;cases h1;rfl
       obtain⟨k,q,hm⟩:=hm;have hmap:S8 ty (c.argTypes.getD 0 0)=true:=by
        have:c.argTypes.getD 0 0=t:=by rw[Array.getD_eq_getD_getElem?,ht];rfl
        rw[this];unfold S8;rw[hti];simp only[hm]
       have hk:kd ty (.call c)=.r x0:=by simp only[kd,hc,hl,hmap]
       unfold HJ at hE;rw[hk]at hE;exact hE x hx0 r (by rw[hxr];rfl)
    |min=>exact .inr (.inl rfl)
    |max=>exact .inr (.inr (.inl rfl))
    |_=>
     refine .inl ?_;cases hl:c.args.toList with
     |nil=>exact GE (by simp only[kd,hc,hl]) hE
     |cons x l=>exact Li (x:=x) (by simp only[kd,hc,hl]) hE
   |value g=>
    simp only[hc]at hr;have hE':∀ b,¬ E b:=GE (by simp only[kd,hc]) hE;cases g with
    |func g=>exact Z8 hF H hE' hc ho ha hr
    |tmp t=>
     obtain⟨g',hg',hr⟩:=DM hr;exact Kb hF H hE' hc ho (hst (.tmp t) (by unfold uE yP;simp[hc]) g' hg') ha hr
    |const t=>
     obtain⟨g',hg',hr⟩:=DM hr;exact Kb hF H hE' hc ho (hst (.const t) (by unfold uE yP;simp[hc]) g' hg') ha hr
    |global t=>
     obtain⟨g',hg',hr⟩:=DM hr;exact Kb hF H hE' hc ho (hst (.global t) (by unfold uE yP;simp[hc]) g' hg') ha hr
   |invoke recv name=>
    simp only[hc]at hr;have hE':∀ b,¬ E b:=GE (by simp only[kd,hc]) hE;obtain⟨x',hx',hr⟩:=DM hr;exact(Ep hr).elim
 |lookup t x ix ok=>
  rw[ho]at hr hst hE;obtain⟨ti,hti,hr⟩:=Bh hr;obtain⟨x',ix',hx',AGn,hr⟩:=Jz hr;cases hk:ti.k with
  |map kt el=>
   simp only[hk]at hr;obtain⟨ei,hei,hr⟩:=Bh hr;obtain⟨hz,hr⟩:=Ia hr;unfold wZero at hr;cases hzv:zeroV ei with
   |none=>rw[hzv]at hr;cases hr
   |some z=>
    rw[hzv]at hr;obtain⟨ti2,kt2,el2,K,AFx,hk2,hK,hr⟩:=Lk hr;rw[hti]at AFx;cases AFx;rw[hk]at hk2;cases hk2;refine .ABb (by unfold execOp;rw[ho]) (TZ hT H (hT t ti hti) hk (hT el ei hei) hz hzv hK (hst x (by simp[uE]) x' hx') (hst ix (by simp[uE]) ix' AGn) (fun r hxr=>?_) hr);have hkd:kd ty (.lookup t x ix ok)=.r x:=rfl;unfold HJ at hE;rw[hkd]at hE;exact hE x' hx' r (by rw[hxr];rfl)
  |_=>simp only[hk]at hr;cases hr
 |mapUpdate t m k x=>
  rw[ho]at hr hst hE;obtain⟨ti,kt,el,K,hti,hk,hK,hr⟩:=Lk (k:=fun ks=>w1 f m fun m=>w2 f k x fun key x=>FK ks m key x) hr;obtain⟨m',hm',hr⟩:=DM hr;obtain⟨k',x',hk',hx',hr⟩:=Jz hr;exact .ACv (by unfold execOp;rw[ho]) (Mn hT H (Li (x:=m) rfl hE) (hT t ti hti) hk hK (hst m (by simp[uE]) m' hm') (hst k (by simp[uE]) k' hk') (hst x (by simp[uE]) x' hx') hr)
 |insert t m k x=>
  rw[ho]at hr hst hE;obtain⟨ti,kt,el,K,hti,hk,hK,hr⟩:=Lk (k:=fun ks=>w1 f m fun m=>w2 f k x fun key x=>FK ks m key x) hr;obtain⟨m',hm',hr⟩:=DM hr;obtain⟨k',x',hk',hx',hr⟩:=Jz hr;exact .ACv (by unfold execOp;rw[ho]) (Mn hT H (Li (x:=m) rfl hE) (hT t ti hti) hk hK (hst m (by simp[uE]) m' hm') (hst k (by simp[uE]) k' hk') (hst x (by simp[uE]) x' hx') hr)
 |range t x=>
  rw[ho]at hr hst hE;obtain⟨ti,hti,hr⟩:=Bh hr;cases hk:ti.k with
  |map k q=>
   simp only[hk]at hr;obtain⟨x',hx',hr⟩:=DM hr;exact .ABb (by unfold execOp;rw[ho]) (Xc H (GE rfl hE) (hT t ti hti) hk (hst x (by simp[uE]) x' hx') hr)
  |_=>simp only[hk]at hr;cases hr
 |next x s=>
  rw[ho]at hr hst hE;cases s with
  |true=>cases hr
  |false=>
   obtain⟨x',hx',hr⟩:=DM hr;exact .ABb (by unfold execOp;rw[ho]) (aL (t:=o.type) H (GE rfl hE) (hst x (by simp[uE]) x' hx') hr)
 |entry x=>
  rw[ho]at hr hst hE;obtain⟨x',hx',hr⟩:=DM hr;exact .ABb (by unfold execOp;rw[ho]) (XS H (GE rfl hE) (hst x (by simp[uE]) x' hx') hr)
 |typeAssert x xt t ok=>
  rw[ho]at hr hst hE;obtain⟨ti,hti,hr⟩:=Bh hr;obtain⟨x',hx',hr⟩:=DM hr;have hr2:ti.k≠.iface/\wZ ti (wZero ti fun z=>oNo) F e h=.ok v h':=by
   cases hk:ti.k with
   |iface=>simp only[hk]at hr;cases hr
   |_=>simp only[hk]at hr;exact⟨nofun,hr⟩
  obtain⟨hki,hr⟩:=hr2;obtain⟨hz,hr⟩:=Ia hr;unfold wZero at hr;cases hzv:zeroV ti with
  |none=>rw[hzv]at hr;cases hr
  |some z=>
   rw[hzv]at hr;exact(Ep hr).elim
 |_=>rw[ho]at hr;cases hr
end
end
end Go.Proofs.YtbjadbhkogcfeaaGreat

/-
  Part ZD of what Lawlt stands on: printed by program, names and spaces cut.
-/
import Derived.Test.YtbjadbhkogcfeaaGreatZC
import Derived.Laws.BytesString
import Derived.DeepKeys3
open Go renaming Value→IN,Operand→zM,World→zP,TypeId→zZ,MapEntry→zn,Program→zp,TypeDesc→AC3,BinOp→AEl
open Nat renaming le_refl→IT,zero_add→If,ble→yl,beq→yu,mul→zi,beq_refl→AAQ,succ_mul→ABX,succ_pos→ABz,one_ne_zero→ACr
open Go.Result renaming andThen_ok→ye
open Go.Sem renaming run_bind→ym,run_pure→yn
open Bool renaming and_eq_true→yr,false_eq_true→zT,and_true→AEk
open List renaming mem_cons→yv,getElem?_toArray→zN,getElem?_cons_zero→zW,mem_map→zq,range→zu,map_cons→ABV,map_map→ABc,filter_cons→ABo,all_cons→ACb,drop_drop→ACz,map_flatten→AD9,cons→AEN
open Go.Op renaming operands→zA,equalIn→AB4,equal→ACq
open Go.Instr renaming findAsking→zV,next→AAZ,lookup→AA4,sameBits→AB2,range→AB5,mapUpdate→ACf,entry→ACg,sameNow→AC5,findNow→AC6,findKey→AC7,keyThatStays→ADk
open Go.Value renaming int→zd,formed→AEd
open Go.Builtin renaming firstCells→zf,clear_→AAA,len_→AAK
open Array renaming ext'→zz,getElem?_setIfInBounds→AAJ,all_eq_true_iff_forall_mem→AAT,mem_toList_iff→AAX,getElem?_modify→ABA,toList_filter→ACJ,getElem?_toList→ADN,getElem?_push→ADe,replicate→AEE
open Option renaming map_some→AAG
open Go.Program renaming keyTypeAt→AAz,keyLits→ABC,eqGuardType→ABx
open UInt8 renaming ofNat→ABB
open Go.Question renaming forced→ABi
open Go.Call renaming operands→ACI
open Go.World renaming shape?→ADF,freeze→ADG
open Go.Deferred renaming ofValue→ADb
open ByteArray renaming empty→ADc
open Go.IntKind renaming signed→AD2,bits→AEO,min→AEX,max→AEY
open Go.Oper renaming wp→AE8
open Ne renaming symm→AFX
set_option linter.unusedSimpArgs false
set_option linter.unusedVariables false
namespace Go.Proofs.YtbjadbhkogcfeaaGreat
noncomputable section
open Go
section
variable {P:zp}{ty:TTy}{φ:Phi}{E:Nat->Prop}{h h':Hp}{w:zP}{F:AFi}{e:Env}{v:IN}
theorem MI:∀ {cs cs':List IN} {bs:List UInt8},AF3 φ cs cs'->Eu cs=some bs->
  ∃ ns:List Int,cs'=ns.map (zd .u8)/\∀ s:ByteArray,(ns.foldl (fun r n=>r.push (ABB n.toNat)) s).data.toList=s.data.toList++bs
 |_,_,bs,.nil,hb=>by
  cases hb;exact⟨[],rfl,fun s=>by simp⟩
 |_,_,bs,.cons (v:=u) (v':=u') (l:=l) (l':=l') hu t,hb=>by
  unfold Eu at hb;split at hb
  ·cases ‹_::_=[]›
  ·rename_i n l2 heq
   injection heq with h1 h2
   subst h1;subst h2;split at hb
   ·rename_i bs' hbs
    rw[Ao]at hb;cases hb;obtain⟨ns,hns,hf⟩:=MI t hbs;have:=hu.AGM;subst this;refine⟨(n:Int)::ns,by rw[hns];rfl,fun s=>?_⟩;rw[List.foldl_cons,hf];simp
   ·cases hb
  ·cases hb
theorem YV(H:AFp ty φ E h w){x:O}(hE:∀ a l c,x e=.slice (some a) l c->¬ E a.block){x':IN}{src dst el:zZ}{si di ei:TI}(TS:AGD P src si)(hs:si.k=.slice el)(TD:AGD P dst di)(hd:di.k=.string)(TE:AGD P el ei)(he:ei.k=.int .u8)
  (hx:AFm φ (x e) x')(hr:Ff x F e h=.ok v h'):Bq ty φ E h w v h' ((convert src dst x').run P w):=by
 obtain⟨d1,h1,k1⟩:=TS.und;obtain⟨d2,h2,k2⟩:=TD.und;obtain⟨d3,h3,k3⟩:=TE.und;rw[hs]at k1;cases k1;rw[hd]at k2;cases k2;rw[he]at k3;cases k3;unfold Ff at hr;split at hr
 case h_3=>cases hr
 case h_2=>
  rename_i r hxe;rw[hxe]at hx;cases r with
  |none=>cases hr
  |some r=>
   cases hr;cases hx;rw[run_convert_bytes_string w src dst el (some _) 0 0 h1 h3 h2,run_bytesToString w _ 0 0 [] rfl];exact .same H (.string _)
 rename_i a n c hxe;rw[hxe]at hx;have hx0:=hx;obtain⟨cs,cs',hr,hcs,hrun,hl1,hl2,_⟩:=GH (P:=P) H (fun a l c heq=>by cases heq;exact hE _ _ _ hxe) hx hr (fun m hm=>by cases hm;exact IT _);split at hr
 case h_2=>cases hr
 rename_i bs hbs;cases hr;obtain⟨ns,hns,hf⟩:=MI hcs hbs;have AIb:=hf ADc;have AKB:=MU (a:=ns.foldl (fun r n=>r.push (ABB n.toNat)) ADc) (l:=bs) (by rw[AIb];rfl);cases hx with
 |AGW=>
  rw[run_convert_bytes_string w src dst el none 0 0 h1 h3 h2];have:=hrun w rfl;simp only[zf,yn]at this;have AIN:cs'=[]:=by cases this;rfl
  have AKx:ns=[]:=by
   rw[AIN]at hns;cases ns with
   |nil=>rfl
   |cons _ _=>cases hns
  subst AKx;rw[<- AKB];exact .same H (.string _)
 |@slice _ a' _ _ c' hlc hsl=>
  rw[run_convert_bytes_string w src dst el (some a') n c' h1 h3 h2];have hld:(loadCells a' n).run P w=.ok (ns.map (zd .u8)).toArray w:=by
   have:=hrun w rfl;rw[hns]at this;simp only[zf,Nat.mul_one]at this;exact this
  rw[run_bytesToString w a' n c' ns hld,AKB];exact .same H (.string _)
theorem Q5(A:Array Obj)(x:Obj)(f:Obj->Obj):(A.push x).modify A.size f=A.push (f x):=by
 apply Array.ext_getElem?;intro i;rw[ABA,ADe,ADe];by_cases hi:i=A.size
 ·subst hi;simp
 ·rw[if_neg (AFX hi),if_neg hi,if_neg hi]
theorem aq(w:zP)(A:Array IN)(el:zZ):(markStringish ⟨w.heap.size,0,none⟩).run P {w with heap:=w.heap.push (.cells A el)}=
  .ok () {w with heap:=w.heap.push (.cells A el (A.size,A.size+1))}:=by
 have hs:ADF {w with heap:=w.heap.push (.cells A el)} w.heap.size=some (el,A.size):=by simp[ADF]
 simp only[markStringish,ym,run_shape,ye,hs,run_freeze,ADG,ACr,if_false,Q5];rfl
theorem RG(H:AFp ty φ E h w){x:O}{x':IN}{src dst el:zZ}{si di ei:TI}(TS:AGD P src si)(hs:si.k=.string)(TD:AGD P dst di)(hd:di.k=.slice el)(TE:AGD P el ei)(he:ei.k=.int .u8)
  (hty:ty.get el=some ei)(hz:ei.size=1)(hx:AFm φ (x e) x')(hr:Jv el x F e h=.ok v h'):Bq ty φ E h w v h' ((convert src dst x').run P w):=by
 obtain⟨d1,h1,k1⟩:=TS.und;obtain⟨d2,h2,k2⟩:=TD.und;obtain⟨d3,h3,k3⟩:=TE.und;rw[hs]at k1;cases k1;rw[hd]at k2;cases k2;rw[he]at k3;cases k3;unfold Jv at hr;split at hr
 case h_2=>cases hr
 rename_i s hxe;rw[hxe]at hx;obtain rfl:=hx.AGO;rw[Ao,Bi]at hr;obtain⟨hb,hr⟩:=Bx hr
 let q:Question:=.appendCap s.size 0 el
 let c:Nat:=q.cut (w.tape w.drawn q)
 have hc:s.size<=c:=Nat.le_add_right _ _
 let cells:List IN:=s.data.toList.map fun b=>.int .u8 (b.toNat:Int)
 let rest:List IN:=List.replicate (c - s.size) (.int .u8 0)
 have hcl:cells.length=s.size:=by simp[cells]
 let w':zP:={w with drawn:=w.drawn+1,heap:=w.heap.push (.cells ⟨cells++rest⟩ el (c,c+1))}
 have hsz:(⟨cells++rest⟩:Array IN).size=c:=by simp[rest,hcl];omega
 have AGK:AF3 φ (Cq s.data.toList) cells:=LH _;have hlen:(Cq s.data.toList).length=s.size:=by rw[<- AGK.length,hcl]
 obtain⟨hh1,hk,H1,ev⟩:=OM (cs':=⟨cells++rest⟩) (t:=el) (fr:=(c,c+1)) (w':=w')
  (p:={blk:=w.heap.size,off:=0,sz:=(Cq s.data.toList).length,room:=(⟨cells++rest⟩:Array IN).size,es:=1}) H hr rfl ⟨rfl,.inr ⟨el,ei,rfl,hty,hz.symm⟩⟩ (by rw[hlen,hsz];exact hc) (.inr (by rw[hsz];exact IT _))
  (fun j u hj=>by
   obtain⟨u',hu,hru⟩:=AGK.get j u hj;refine⟨u',?_,hru⟩;have hj':j<cells.length:=by
    rcases Nat.lt_or_ge j cells.length with h|h
    ·exact h
    ·rw[List.getElem?_eq_none h]at hu;cases hu
   simp only[zN];rw[List.getElem?_append_left hj'];exact hu) rfl rfl rfl rfl
 cases hk;have key:(convert src dst (.string s)).run P w=.ok (.slice (some ⟨w.heap.size,0,none⟩) s.size c) w':=by
  have AHJ:(Question.appendCap s.size 0 el).forced=false:=rfl;have AKy:(s.data.map fun b=>(zd .u8 (b.toNat:Int)))++AEE (c - s.size) (zd .u8 0)=⟨cells++rest⟩:=by
   apply zz;simp[cells,rest]
  have hm:=aq (P:=P) {w with drawn:=w.drawn+1} ⟨cells++rest⟩ el;rw[hsz]at hm;simp only[convert,ym,run_underlying h1,run_underlying h2,run_underlying h3,ye,Conv.stringToBytes,run_choose,AHJ,zT,if_false,Go.newRow,run_newObj,yn];show(((markStringish ⟨w.heap.size,0,none⟩).run P {w with drawn:=w.drawn+1,heap:=w.heap.push (.cells ((s.data.map fun b=>(zd .u8 (b.toNat:Int)))++AEE (c - s.size) (zd .u8 0)) el)}).andThen
   fun _ w''=>Result.ok (Value.slice (some ⟨w.heap.size,0,none⟩) s.size c) w'')=_
  rw[AKy];have hm':(markStringish ⟨w.heap.size,0,none⟩).run P {w with drawn:=w.drawn+1,heap:=w.heap.push (.cells ⟨cells++rest⟩ el)}=.ok () w':=hm;rw[hm'];rfl
 rw[key];refine⟨_,_,_,rfl,?_,H1,ev⟩;have e1:s.data.toList.length=s.size:=rfl;rw[e1];refine .slice (IT _) ⟨rfl,rfl,_,Phi.AGU _ _ _,rfl,?_⟩;rcases Nat.eq_zero_or_pos s.size with h0|h0
 ·refine .inr ⟨h0,.inr ⟨?_,?_⟩⟩
  ·simp only[hlen,h0]
  ·simp only[hlen,hsz,h0];omega
 ·refine .inl ⟨h0,rfl,.inr ⟨?_,hc,?_⟩⟩
  ·simp only[hlen];omega
  ·simp only[hsz];omega
end
end
noncomputable section
open Go
section
variable {P:zp}{ty:TTy}{φ:Phi}{h:Hp}{w:zP}{e:Env}{v:IN}{f:Fr}
def Ft:IN->Lit
 |.bool b=>.bool b
 |.int q n=>.int q n
 |.string s=>.string s.data.toList
 |_=>.bool false
theorem re{k:IntKind}{n:Int}(h:inK k n=true):(Lit.int k n).wf=true:=by
 unfold Lit.wf;simp only[yr,decide_eq_true_eq];cases n with
 |ofNat m=>
  have h:yl m (BH k)=true:=h;have:=Av.1 h;cases k<;>simp[AEX,AEY,AD2,AEO,BH]at this ⊢<;>omega
 |negSucc m=>
  cases k<;>simp only[inK]at h<;>first|(cases h;done)|skip
  all_goals
   have:=Av.1 h;simp[AEX,AEY,AD2,AEO,BH]at this ⊢;omega
theorem HX{k:IntKind}{v:IN}(h:La (.i k) v=true):∃ n,v=.int k n/\(Lit.int k n).wf=true:=by
 unfold La at h;simp only at h;split at h
 ·split at h
  ·rename_i hq
   exact⟨_,by rw[Hx hq],re h⟩
  ·cases h
 ·cases h
theorem GV{v:IN}(h:La .b v=true):∃ b,v=.bool b:=by
 unfold La at h;simp only at h;split at h
 ·exact⟨_,rfl⟩
 ·cases h
theorem HY{v:IN}(h:La .s v=true):∃ s,v=.string s/\s.size<=maxLen:=by
 unfold La at h;simp only at h;split at h
 ·rename_i s
  refine⟨s,rfl,?_⟩;have:=Av.1 h;rw[Bi]at this;have e:s.data.toList.length=s.size:=by simp
  have hm:most<=maxLen:=by unfold most maxLen;omega
  omega
 ·cases h
theorem DW{l:List IN}(h:Eo [] l=true):l=[]:=by
 cases l with
 |nil=>rfl
 |cons=>cases h
theorem Ct{c:CK}{ks:List CK}{l:List IN}(h:Eo (c::ks) l=true):∃ v r,l=v::r/\La c v=true/\Eo ks r=true:=by
 cases l with
 |nil=>cases h
 |cons v r=>
  unfold Eo at h;split at h
  ·rename_i hc;exact⟨v,r,rfl,hc,h⟩
  ·cases h
theorem JZ:∀ {ks:List CK} {l:List IN},Eo ks l=true->l.length=ks.length
 |[],l,h=>by rw[DW h];rfl
 |c::ks,l,h=>by
  obtain⟨v,r,rfl,_,hr⟩:=Ct h;simp[JZ hr]
theorem HZ:∀ {a b:List CK} {l:List IN},Eo (a++b) l=true->Eo a (l.take a.length)=true/\Eo b (l.drop a.length)=true
 |[],b,l,h=>⟨rfl,h⟩
 |c::a,b,l,h=>by
  obtain⟨v,r,rfl,hc,hr⟩:=Ct h;obtain⟨h1,h2⟩:=HZ hr;refine⟨?_,by simpa using h2⟩;show Eo (c::a) (v::r.take a.length)=true;unfold Eo;rw[hc];exact h1
theorem Ix{c:CK}{v:IN}(h:La c v=true):∃ l:Lit,Ft v=l/\v=l.toCell/\l.keyWf:=by
 cases c with
 |i k=>obtain⟨n,rfl,hw⟩:=HX h;exact⟨.int k n,rfl,rfl,hw⟩
 |b=>obtain⟨b,rfl⟩:=GV h;exact⟨.bool b,rfl,rfl,trivial⟩
 |s=>obtain⟨s,rfl,hs⟩:=HY h;exact⟨.string s.data.toList,rfl,rfl,by show s.data.toList.length<=maxLen;simpa using hs⟩
theorem QS{ks:List CK}:∀ {l l':List IN},Eo ks l=true->AF3 φ l l'->l'=l:=by
 induction ks with
 |nil=>intro l l' h hr;rw[DW h]at hr ⊢;cases hr;rfl
 |cons c ks ih=>
  intro l l' h hr;obtain⟨v,r,rfl,hc,hr'⟩:=Ct h;cases hr with
  |cons hv ht=>
   rw[ih hr' ht]
   congr 1
   cases c with
   |i k=>obtain⟨n,rfl,_⟩:=HX hc;exact hv.AGM
   |b=>obtain⟨n,rfl⟩:=GV hc;exact hv.AGb
   |s=>obtain⟨n,rfl,_⟩:=HY hc;exact hv.AGO
theorem F1{x:IN}(hne:∀ l,x≠.agg l):cellsOf x=[x]:=by
 unfold cellsOf;split
 ·rename_i l;exact absurd rfl (hne l)
 ·rfl
theorem DS{K:KS}{x:IN}(h:GW K x=true):Eo K.ks (cellsOf x)=true/\cellsOf x=x.cells.toList/\((K.agg=true/\∃ l,x=.agg ⟨l⟩)\/(K.agg=false/\(∀ l,x≠.agg l)/\∀ l,x≠.tuple l)):=by
 unfold GW at h;split at h
 ·rename_i cs
  split at h
  ·rename_i ha
   exact⟨h,rfl,.inl ⟨ha,cs.toList,rfl⟩⟩
  ·cases h
 ·rename_i hne
  split at h
  ·cases h
  ·rename_i ha
   have AH9:∀ l,x≠.agg l:=fun l e=>hne l e
   have hc:cellsOf x=[x]:=by
    unfold cellsOf;split
    ·rename_i l;exact absurd rfl (AH9 l)
    ·rfl
   have hnt:∀ l,x≠.tuple l:=by
    intro l e;subst e;cases hk:K.ks with
    |nil=>rw[hk]at h;cases h
    |cons c ks=>
     rw[hk]at h;obtain⟨v,r,e,hc,_⟩:=Ct h;cases e;cases c<;>cases hc
   refine⟨by rw[hc];exact h,?_,.inr ⟨ha,AH9,hnt⟩⟩;rw[hc];cases x<;>first|rfl|exact absurd rfl (AH9 _)|exact absurd rfl (hnt _)
theorem JY{K:KS}{x x':IN}(h:GW K x=true)(hr:AFm φ x x'):x'=x:=by
 obtain⟨h1,h2,h3⟩:=DS h;rcases h3 with ⟨_,l,rfl⟩|⟨_,hne,hnt⟩
 ·cases hr with
  |agg hr=>rw[QS h1 hr];rfl
 ·have hc:cellsOf x=[x]:=F1 hne
  rw[hc]at h1;have:=QS h1 (.cons hr .nil);exact AEN.inj this |>.1
theorem Mt{α β:Type}{f:α->Option β}{g:α->β}:∀ {L:List α},(∀ x∈L,f x=some (g x))->L.mapM f=some (L.map g)
 |[],_=>rfl
 |x::L,h=>by
  rw[List.mapM_cons,h x (by simp),Mt fun y hy=>h y (by simp[hy])];rfl
theorem QT{ks:List CK}:∀ {m:Nat} {cs:List IN},Eo (Bb ks m) cs=true->cs.length=m*ks.length/\∀ i,i<m->Eo ks ((cs.drop (i*ks.length)).take ks.length)=true
 |0,cs,h=>by
  refine⟨?_,fun i hi=>absurd hi (Nat.not_lt_zero _)⟩;rw[DW h];simp
 |m+1,cs,h=>by
  have h:Eo (ks++Bb ks m) cs=true:=h;obtain⟨h1,h2⟩:=HZ h;obtain⟨h3,h4⟩:=QT h2;have hl:=JZ h1;refine⟨?_,fun i hi=>?_⟩
  ·simp only[List.length_take,List.length_drop]at hl h3
   rw[ABX];omega
  ·cases i with
   |zero=>simpa using h1
   |succ i=>
    have:=h4 i (by omega);rw[ACz]at this;rw[ABX,Nat.add_comm];exact this
theorem QW{P:zp}{rec:Nat->Option (List CK)}:∀ {L:List Field} {off:Nat} {ks:List CK},flatK.flatF rec off (L.map fun f=>(f.offset,P.cellsOf f.type,f.type))=some ks->
  (∀ f∈L,∃ kf,rec f.type=some kf)/\
  ∀ cs:List IN,Eo ks (cs.drop off)=true->(∀ f∈L,∀ kf,rec f.type=some kf->Eo kf ((cs.drop f.offset).take (P.cellsOf f.type))=true)/\
   ((L.map fun f=>(cs.drop f.offset).take (P.cellsOf f.type)).flatten=cs.drop off)
 |[],off,ks,hk=>by
  cases hk;refine⟨(fun f hf=>by cases hf),fun cs h=>⟨(fun f hf=>by cases hf),?_⟩⟩;rw[DW h];rfl
 |f::L,off,ks,hk=>by
  rw[ABV]at hk;unfold flatK.flatF at hk;split at hk
  case h_2=>cases hk
  rename_i ho;split at hk
  case h_2=>cases hk
  rename_i kf hkf;split at hk
  case h_2=>cases hk
  rename_i hl;split at hk
  case h_2=>cases hk
  rename_i r hr;cases hk;have ho:f.offset=off:=Ay.1 ho;have hl:kf.length=P.cellsOf f.type:=by rw[<- Ay.1 hl,Bi]
  obtain⟨i1,i2⟩:=QW hr;refine⟨fun g hg=>?_,fun cs h=>?_⟩
  ·rcases yv.1 hg with rfl|hg
   ·exact⟨kf,hkf⟩
   ·exact i1 g hg
  ·obtain⟨h1,h2⟩:=HZ h
   rw[hl]at h1 h2;rw[ACz]at h2;obtain⟨i3,i4⟩:=i2 cs h2;refine⟨fun g hg kg hkg=>?_,?_⟩
   ·rcases yv.1 hg with rfl|hg
    ·rw[hkf]at hkg;cases hkg
     rw[ho];exact h1
    ·exact i3 g hg kg hkg
   ·rw[ABV,List.flatten_cons,i4,ho]
    have:cs.drop (Nat.add off (P.cellsOf f.type))=(cs.drop off).drop (P.cellsOf f.type):=by rw[ACz];rfl
    rw[this,List.take_append_drop]
theorem Ov{t:Nat}{fs:Array Field}(hu:P.underlying t=some (.struct fs))(hf:AHn P t=true):
  (∀ f∈fs.toList,(f.name != "_")=true)/\(!(P.cutTypes.any (·.2 == t)) && !P.stoodInHeld t)=true:=by
 unfold AHn at hf;rw[hu]at hf;simp only[yr,AAT]at hf;obtain⟨⟨h1,h2⟩,h3⟩:=hf;exact⟨fun f hm=>h1 f (AAX.1 hm),by rw[h2,h3];rfl⟩
theorem E6(hT:DG P ty):∀ (n t:Nat) (ks:List CK),flatK ty n t=some ks->
  P.keyTypeAt n t=true/\(∀ d,n<=d->P.eqGuardType d t=false)/\(∀ ti,ty.get t=some ti->ti.k.agg=true->ks.length=ti.size)/\
  ∀ cs,Eo ks cs=true->P.keyLits n t cs=some (cs.map Ft)
 |0,t,ks,h=>by cases h
 |n+1,t,ks,h=>by
  unfold flatK at h;cases hg:ty.get t with
  |none=>rw[hg]at h;cases h
  |some ti=>
   simp only[hg]at h;have T:=hT t ti hg;obtain⟨d,hd,hk⟩:=T.und;have hcell:=T.cells;have plain:∀ {d:AC3},(match d with|.interface _=>true|.struct _=>true|.array _ _=>true|_=>false)=false->P.underlying t=some d->∀ q,n+1<=q->P.eqGuardType q t=false:=by
    intro d h1 hd q hq;cases q with
    |zero=>omega
    |succ q=>unfold ABx;rw[hd];cases d<;>first|rfl|cases h1
   cases hkk:ti.k with
   |int k=>
    simp only[hkk]at h;rw[hkk]at hk;cases hk;cases h;refine⟨by unfold AAz;rw[hd],plain rfl hd,(fun ti' ht' ha=>by cases ht';rw[hkk]at ha;cases ha),fun cs hf=>?_⟩;obtain⟨v,r,rfl,hc,hr⟩:=Ct hf;obtain rfl:=DW hr;obtain⟨m,rfl,hw⟩:=HX hc;unfold ABC;rw[hd];simp[hw,Ft]
   |bool=>
    simp only[hkk]at h;rw[hkk]at hk;cases hk;cases h;refine⟨by unfold AAz;rw[hd],plain rfl hd,(fun ti' ht' ha=>by cases ht';rw[hkk]at ha;cases ha),fun cs hf=>?_⟩;obtain⟨v,r,rfl,hc,hr⟩:=Ct hf;obtain rfl:=DW hr;obtain⟨m,rfl⟩:=GV hc;unfold ABC;rw[hd];simp[Ft]
   |string=>
    simp only[hkk]at h;rw[hkk]at hk;cases hk;cases h;refine⟨by unfold AAz;rw[hd],plain rfl hd,(fun ti' ht' ha=>by cases ht';rw[hkk]at ha;cases ha),fun cs hf=>?_⟩;obtain⟨v,r,rfl,hc,hr⟩:=Ct hf;obtain rfl:=DW hr;obtain⟨m,rfl,hw⟩:=HY hc;unfold ABC;rw[hd];simp[hw,Ft]
   |arr m el=>
    simp only[hkk]at h;rw[hkk]at hk;cases hk;split at h
    case h_2=>cases h
    rename_i ei hei;split at h
    case h_2=>cases h
    rename_i ke hke;split at h
    case h_2=>cases h
    rename_i hl;split at h
    case h_2=>cases h
    rename_i hm;cases h;obtain⟨i1,i2,_,i3⟩:=E6 hT n el ke hke;have hce:=(hT el ei hei).cells;have hl:ke.length=ei.size:=by rw[<- Ay.1 hl,Bi]
    have hm:m*ei.size=ti.size:=Ay.1 hm;have AKz:∀ m,(Bb ke m).length=m*ke.length:=by
     intro m
     induction m with
     |zero=>simp[Bb]
     |succ m ih=>rw[Bb,List.length_append,ih,ABX];omega
    refine⟨by unfold AAz;rw[hd];exact i1,fun q hq=>?_,(fun ti' ht' ha=>by cases ht';rw[AKz,hl,hm]),fun cs hf=>?_⟩
    ·cases q with
     |zero=>omega
     |succ q=>unfold ABx;rw[hd];exact i2 q (by omega)
    ·obtain⟨f1,f2⟩:=QT hf
     have hlen:cs.length=P.cellsOf t:=by rw[hcell,<- hm,f1,hl]
     have hmap:(zu m).mapM (fun i=>P.keyLits n el ((cs.drop (i*P.cellsOf el)).take (P.cellsOf el)))=some ((zu m).map fun i=>((cs.drop (i*P.cellsOf el)).take (P.cellsOf el)).map Ft):=
      Mt fun i hi=>by
       rw[hce,<- hl];exact i3 _ (f2 i (List.mem_range.1 hi))
     unfold ABC;rw[hd];simp only[hlen,if_true,hmap,AAG]
     congr 1
     have:=chunks_flatten (P.cellsOf el) m cs (by rw[hce,<- hl];exact f1)
     conv=>rhs;rw[<- this]
     rw[AD9,ABc];rfl
   |struct fs=>
    simp only[hkk]at h;rw[hkk]at hk;cases hk with
    |@struct _ fields hfs _=>
     split at h
     case h_2=>cases h
     rename_i ks' hks;split at h
     case h_2=>cases h
     rename_i hl;cases h;have hl:ks.length=ti.size:=by rw[<- Ay.1 hl,Bi]
     rw[<- hfs]at hks;obtain⟨j1,j2⟩:=QW hks;obtain⟨n1,n2⟩:=Ov hd T.AKp;refine⟨?_,fun q hq=>?_,(fun ti' ht' ha=>by cases ht';exact hl),fun cs hf=>?_⟩
     ·unfold AAz
      rw[hd];simp only[Bool.and_assoc,n2,AEk];rw[AAT];intro f hm;obtain⟨kf,hkf⟩:=j1 f (AAX.2 hm);rw[n1 f (AAX.2 hm),(E6 hT n f.type kf hkf).1];rfl
     ·cases q with
      |zero=>omega
      |succ q=>
       unfold ABx;rw[hd];simp only;rw[Array.any_eq_false];intro i hi;obtain⟨kf,hkf⟩:=j1 fields[i] (AAX.2 (Array.getElem_mem hi));rw[(E6 hT n _ kf hkf).2.1 q (by omega)];simp
     ·have hf0:Eo ks (cs.drop 0)=true:=hf
      obtain⟨k1,k2⟩:=j2 cs hf0;have hlen:cs.length=P.cellsOf t:=by rw[hcell,<- hl,JZ hf]
      have hmap:fields.toList.mapM (fun f=>P.keyLits n f.type ((cs.drop f.offset).take (P.cellsOf f.type)))=some (fields.toList.map fun f=>((cs.drop f.offset).take (P.cellsOf f.type)).map Ft):=
       Mt fun f hm=>by
        obtain⟨kf,hkf⟩:=j1 f hm;exact(E6 hT n f.type kf hkf).2.2.2 _ (k1 f hm kf hkf)
      have hall:fields.all (·.name != "_")=true:=by
       rw[AAT];intro f hm;exact n1 f (AAX.2 hm)
      unfold ABC;rw[hd];simp only[hlen,hall,and_self,if_true,hmap,AAG]
      congr 1
      have:cs=cs.drop 0:=rfl
      conv=>rhs;rw[this,<- k2]
      rw[AD9,ABc];rfl
   |_=>simp only[hkk]at h;cases h
theorem KZ{c:CK}{a b:IN}(ha:La c a=true)(hb:La c b=true){r:Bool}(hr:MM a b=some r):r=true↔Ft a=Ft b:=by
 cases c with
 |i k=>
  obtain⟨m,rfl,_⟩:=HX ha;obtain⟨n,rfl,_⟩:=HX hb;unfold MM at hr;simp only at hr;split at hr
  ·cases hr;rw[Dc];simp[Ft]
  ·cases hr
 |b=>
  obtain⟨m,rfl⟩:=GV ha;obtain⟨n,rfl⟩:=GV hb;unfold MM at hr;cases hr;simp[Ft]
 |s=>
  obtain⟨m,rfl,_⟩:=HY ha;obtain⟨n,rfl,_⟩:=HY hb;unfold MM at hr;cases hr;rw[ME];simp[Ft]
theorem MO:∀ {ks:List CK} {a b:List IN},Eo ks a=true->Eo ks b=true->∀ {r:Bool},Gp a b=some r->(r=true↔a.map Ft=b.map Ft)
 |[],a,b,ha,hb,r,hr=>by
  rw[DW ha,DW hb]at *;cases hr;simp
 |c::ks,a,b,ha,hb,r,hr=>by
  obtain⟨x,a,rfl,hx,ha⟩:=Ct ha;obtain⟨y,b,rfl,hy,hb⟩:=Ct hb;unfold Gp at hr;split at hr
  ·rename_i h1
   have i1:=(KZ hx hy h1).1 rfl;rw[MO ha hb hr];simp[i1]
  ·rename_i h1
   cases hr;have i1:=KZ hx hy h1;simp only[ABV,AEN.injEq];constructor
   ·intro h;cases h
   ·intro h;exact i1.2 h.1
  ·cases hr
structure AGm (P:zp)(ty:TTy)(t:Nat)(K:KS):Prop where
 ti:∃ ti,ty.get t=some ti/\K.agg=ti.k.agg
 flat:flatK ty 8 t=some K.ks
theorem AGm.formed(hT:DG P ty){t:Nat}{K:KS}(hK:AGm P ty t K){x:IN}(hx:GW K x=true):x.formed P t=true/\P.keyLits 8 t x.cells.toList=some ((cellsOf x).map Ft):=by
 obtain⟨ti,hti,ha⟩:=hK.ti;obtain⟨_,_,f3,f4⟩:=E6 hT 8 t K.ks hK.flat;obtain⟨h1,h2,h3⟩:=DS hx;have T:=hT t ti hti;obtain⟨d,hd,hk⟩:=T.und;refine⟨?_,by rw[<- h2];exact f4 _ h1⟩;rcases h3 with ⟨hag,l,rfl⟩|⟨hag,hne,hnt⟩
 ·rw[ha]at hag
  have hs:=f3 ti hti hag;have hl:=JZ h1;unfold AEd;rw[hd];have hsz:(Array.mk l).size=P.cellsOf t:=by
   have:l.length=K.ks.length:=hl;rw[T.cells,<- hs,<- this];rfl
  generalize ti.k=kk at hk hag;cases hk<;>first|(cases hag;done)|(simp only[hsz];exact beq_self_eq_true _)
 ·rw[ha]at hag
  have:(match P.underlying t with|some (.struct _)=>false|some (.array _ _)=>false|_=>true)=true:=by
   rw[hd];generalize ti.k=kk at hk hag;cases hk<;>first|rfl|(cases hag;done)|skip
   rename_i ho;cases d<;>first|rfl|cases ho
  unfold AEd;cases x<;>first|exact absurd rfl (hne _)|exact absurd rfl (hnt _)|exact this
theorem AGm.equal(hT:DG P ty){t:Nat}{K:KS}(hK:AGm P ty t K){x y:IN}(hx:GW K x=true)(hy:GW K y=true){r:Bool}(hr:Gp (cellsOf x) (cellsOf y)=some r)(w:zP):
  (ACq t x y).run P w=.ok r w:=by
 obtain⟨f1,f2⟩:=hK.formed hT hx;obtain⟨g1,g2⟩:=hK.formed hT hy;obtain⟨k1,_⟩:=E6 hT 8 t K.ks hK.flat;obtain⟨r',hr',hiff⟩:=run_equalIn_deep (P:=P) 9992 8 t k1 w _ _ x y _ _ f1 g1 f2 g2;have:=MO (DS hx).1 (DS hy).1 hr;have e:r'=r:=by
  rw[Bool.eq_iff_iff,hiff,this]
 rw[<- e];exact hr'
theorem AGm.check(hT:DG P ty){t:Nat}{K:KS}(hK:AGm P ty t K){x:IN}(hx:GW K x=true)(em:Bool)(w:zP):(Instr.checkKey em 10000 t x).run P w=.ok () w:=by
 obtain⟨f1,f2⟩:=hK.formed hT hx;obtain⟨k1,_⟩:=E6 hT 8 t K.ks hK.flat;exact run_checkKey_deep (P:=P) em 9992 8 t k1 w _ x _ f1 f2
theorem Ou{t:Nat}{d:AC3}(hd:P.underlying t=some d)(n:Nat){a b:IN}{c:Bool}(hs:AC5 d a b=some c)(w:zP):(AB4 (n+1) t a b).run P w=.ok c w:=by
 unfold AC5 at hs;split at hs
 ·split at hs
  ·rename_i hkk
   cases hs;simp[AB4,run_underlying hd,hkk]
  ·cases hs
 ·cases hs;simp[AB4,run_underlying hd]
 ·cases hs;simp[AB4,run_underlying hd]
 ·cases hs
theorem JW{t:Nat}{d:AC3}(hd:P.underlying t=some d){k:IN}:∀ {es:List zn} {i:Nat} {r:Option (Nat×IN)},AC6 d k es i=some r->∀ w:zP,(zV t k es i).run P w=.ok r w
 |[],i,r,h,w=>by cases h;simp[zV]
 |e::es,i,r,h,w=>by
  have same:∀ {a b:IN} {c:Bool},AC5 d a b=some c->(ACq t a b).run P w=.ok c w:=fun hs=>Ou hd 9999 hs w
  unfold AC6 at h;split at h
  ·rename_i hs
   cases h;simp[zV,same hs]
  ·rename_i hs
   have:=JW hd h w;simp[zV,same hs,this]
  ·cases h
theorem FY{t:Nat}{d:AC3}(hd:P.underlying t=some d){k:IN}{es:List zn}{r:Option (Nat×IN)}(hr:(zV t k es 0).run P w=.ok r w):(AC7 t k es).run P w=.ok r w:=by
 unfold AC7;simp only[ym,run_underlying hd,ye];cases hn:AC6 d k es 0 with
 |none=>exact hr
 |some r'=>
  have:=JW hd hn w;rw[hr]at this;cases this;simp
theorem Hj(hT:DG P ty){t:Nat}{K:KS}(hK:AGm P ty t K){x y y':IN}(hx:GW K x=true)(hy:AFm φ y y'){r:Bool}(hr:Ii K x y=some r)(w:zP):(ACq t x y').run P w=.ok r w/\GW K y=true/\y'=y:=by
 unfold Ii at hr;split at hr
 ·rename_i hf
  have:=JY hf hy;subst this;exact⟨hK.equal hT hx hf hr w,hf,rfl⟩
 ·cases hr
theorem MZ(hT:DG P ty){t:Nat}{K:KS}(hK:AGm P ty t K){x:IN}(hx:GW K x=true)(w:zP):∀ {es:List Ent} {es':List zn} (i:Nat),AGi φ es es'->∀ {r:Option Ent},MY K x es=some r->
  match r with
  |none=>(zV t x es' i).run P w=.ok none w
  |some e=>∃ j v',(zV t x es' i).run P w=.ok (some (j,v')) w/\AFm φ e.val v'
 |_,_,i,.nil,r,h=>by cases h;simp[zV]
 |_,_,i,.cons (k:=k) (k':=k') (v:=v) (v':=v') (b:=b) (l:=l) (l':=l') hk hv ht,r,h=>by
  unfold MY at h;split at h
  ·rename_i he
   cases h;obtain⟨h1,_⟩:=Hj hT hK hx hk he w;exact⟨i,v',by simp[zV,h1],hv⟩
  ·rename_i he
   obtain⟨h1,_⟩:=Hj hT hK hx hk he w;have ih:=MZ hT hK hx w (i+1) ht h;cases r with
   |none=>simpa [zV,h1] using ih
   |some e=>
    obtain⟨j,u,hj,hu⟩:=ih;exact⟨j,u,by simp[zV,h1,hj],hu⟩
  ·cases h
theorem QU{c:CK}{x:IN}(h:La c x=true)(n:Nat):AB2 n x x=true:=by
 obtain⟨l,_,rfl,hw⟩:=Ix h;exact sameBits_toCell hw n
theorem Xm{ks:List CK}(n:Nat):∀ {l:List IN},Eo ks l=true->(l.zip l).all (fun (x,y)=>AB2 n x y)=true:=by
 induction ks with
 |nil=>intro l h;rw[DW h];rfl
 |cons c ks ih=>
  intro l h;obtain⟨v,r,rfl,hc,hr⟩:=Ct h;simp only[List.zip_cons_cons,ACb,QU hc,ih hr,Bool.and_self]
theorem Xl{K:KS}{x:IN}(h:GW K x=true)(n:Nat):AB2 (n+1) x x=true:=by
 obtain⟨h1,_,h3⟩:=DS h;rcases h3 with ⟨_,l,rfl⟩|⟨_,hne,hnt⟩
 ·unfold AB2
  simp only[beq_self_eq_true,Bool.true_and];exact Xm n h1
 ·have hc:cellsOf x=[x]:=F1 hne
  rw[hc]at h1;cases hk:K.ks with
  |nil=>rw[hk]at h1;cases h1
  |cons c ks=>
   rw[hk]at h1;obtain⟨v,r,e,hcc,_⟩:=Ct h1;cases e;exact QU hcc _
theorem MN:∀ {ks:List CK} {a b:List IN},Eo ks a=true->Eo ks b=true->Gp a b=some true->a=b
 |[],a,b,ha,hb,_=>by rw[DW ha,DW hb]
 |c::ks,a,b,ha,hb,hr=>by
  obtain⟨x,a,rfl,hx,ha⟩:=Ct ha;obtain⟨y,b,rfl,hy,hb⟩:=Ct hb;unfold Gp at hr;split at hr
  ·rename_i h1
   have i1:=(KZ hx hy h1).1 rfl;rw[MN ha hb hr];obtain⟨l,e1,e2,_⟩:=Ix hx;obtain⟨m,e3,e4,_⟩:=Ix hy;rw[e2,e4,<- e1,<- e3,i1]
  ·cases hr
  ·cases hr
theorem TH{K:KS}{x y:IN}(hx:GW K x=true)(hr:Ii K x y=some true):x=y:=by
 unfold Ii at hr;split at hr
 ·rename_i hf
  obtain⟨h1,h2,h3⟩:=DS hx;obtain⟨g1,g2,g3⟩:=DS hf;have:=MN h1 g1 hr;rcases h3 with ⟨ha,l,rfl⟩|⟨ha,hne,hnt⟩
  ·rcases g3 with ⟨_,m,rfl⟩|⟨hb,_⟩
   ·have:l=m:=this
    rw[this]
   ·rw[ha]at hb;cases hb
  ·rcases g3 with ⟨hb,_⟩|⟨_,gne,gnt⟩
   ·rw[ha]at hb;cases hb
   ·have c1:cellsOf x=[x]:=F1 hne
    have c2:cellsOf y=[y]:=F1 gne;rw[c1,c2]at this;exact AEN.inj this |>.1
 ·cases hr
theorem L3(hT:DG P ty){t:Nat}{K:KS}(hK:AGm P ty t K){x:IN}(hx:GW K x=true){u u':IN}(hu:AFm φ u u')(hxx:AFm φ x x)(w:zP):∀ {es:List Ent} {es':List zn} (i:Nat),AGi φ es es'->∀ {r:Option (List Ent)},Nh K x u es=some r->
  match r with
  |none=>(zV t x es' i).run P w=.ok none w
  |some es2=>∃ j v' en,(zV t x es' i).run P w=.ok (some (i+j,v')) w/\es'[j]? =some en/\en.key=x/\AGi φ es2 (es'.modify j fun e=>{e with key:=x,val:=u'})
 |_,_,i,.nil,r,h=>by cases h;simp[zV]
 |_,_,i,.cons (k:=k) (k':=k') (v:=v) (v':=v') (b:=b) (l:=l) (l':=l') hk hv ht,r,h=>by
  unfold Nh at h;split at h
  ·rename_i he
   cases h;obtain⟨h1,_,h2⟩:=Hj hT hK hx hk he w;have h3:=TH hx he;exact⟨0,v',⟨k',v',b⟩,by simp[zV,h1],rfl,by simp only;rw[h2];exact h3.symm,by simpa using AGi.cons hxx hu ht⟩
  ·rename_i he
   obtain⟨h1,_⟩:=Hj hT hK hx hk he w;split at h
   ·rename_i es2 hs
    cases h;obtain⟨j,v2,en,e1,e2,e3,e4⟩:=L3 hT hK hx hu hxx w (i+1) ht hs;refine⟨j+1,v2,en,?_,by simpa using e2,e3,by simpa using AGi.cons hk hv e4⟩;simp only[zV,ym,h1,ye,zT,if_false];rw[e1];congr 3;omega
   ·rename_i hs
    cases h;have:=L3 hT hK hx hu hxx w (i+1) ht hs
    simpa [zV,h1] using this
   ·cases h
  ·cases h
theorem UI{x:Ent}:∀ {es:List Ent},Wb x es=es++[x]
 |[]=>rfl
 |e::es=>by unfold Wb;rw[UI];rfl
theorem AGi.append{x:Ent}{x':zn}(hx:AGi φ [x] [x']):∀ {es:List Ent} {es':List zn},AGi φ es es'->AGi φ (es++[x]) (es'++[x'])
 |_,_,.nil=>hx
 |_,_,.cons hk hv t=>.cons hk hv (AGi.append hx t)
theorem S4{K:KS}{x x':IN}(h:GW K x=true)(hr:AFm φ x x'):x'=x/\AFm φ x x:=by
 have:=JY h hr;subst this;exact⟨rfl,hr⟩
end
end
noncomputable section
open Go
section
variable {P:zp}{ty:TTy}{φ:Phi}{E:Nat->Prop}{h h':Hp}{w:zP}{F:AFi}{e:Env}{v:IN}
def VK:IN->Bool
 |.bool _|.pointer _|.slice _ _ _|.map _|.func _ _ _|.nilFunc=>true
 |_=>false
theorem ZC{op:AEl}{neg:Bool}(hop:(op=.eql/\neg=false)\/(op=.neq/\neg=true)){t:zZ}{X Y:zM}{a b:IN}(ha:VK a=true\/∃ l,a=.agg l)(hg:(eqGuard op t X Y a b).run P w=.ok () w)
  {r:Bool}(hr:(ACq t a b).run P w=.ok r w):(CF op t X Y a b).run P w=.ok (.bool (neg != r)) w:=by
 unfold CF;rw[ym,hg,ye];have:binOp op t a b=(do pure (.bool (neg != (<- ACq t a b)))):=by
  rcases hop with ⟨rfl,rfl⟩|⟨rfl,rfl⟩
  ·rcases ha with ha|⟨l,rfl⟩
   ·cases a<;>first|(cases ha;done)|skip
    all_goals (simp[binOp];try rfl)
   ·simp[binOp]
  ·rcases ha with ha|⟨l,rfl⟩
   ·cases a<;>first|(cases ha;done)|skip
    all_goals (simp[binOp];try rfl)
   ·simp[binOp]
 rw[this,ym,hr,ye,yn]
theorem S7{op:AEl}{t:zZ}{X Y:zM}{a b:IN}(ha:VK a=true):(eqGuard op t X Y a b).run P w=.ok () w:=by
 cases op<;>first|rfl|skip
 all_goals (cases a<;>first|(cases ha;done)|rfl)
theorem Xq{op:AEl}{t:zZ}{X Y:zM}{a b:Array IN}(hg:P.eqGuardType P.depth t=false):(eqGuard op t X Y (.agg a) (.agg b)).run P w=.ok () w:=by
 cases op<;>first|rfl|skip
 all_goals (simp[eqGuard,hg])
theorem qy(n:Nat){k:TK}{x y x' y':IN}{r:Bool}(hr:eqV k x y=some r)(hx:AFm φ x x')(hy:AFm φ y y'){t:Nat}{d:AC3}(hd:P.underlying t=some d)(hk:KOk P k d)(w:zP):
  VK x'=true/\(AB4 (n+1) t x' y').run P w=.ok r w:=by
 unfold eqV at hr;split at hr
 case h_12=>cases hr
 all_goals (cases hr;cases hk;first|skip|(rename_i ho;cases ho))
 all_goals (cases hx;cases hy)
 all_goals (refine⟨rfl,?_⟩;simp[AB4,run_underlying hd])
theorem qz{k:TK}{x y x' y':IN}{r:Bool}(hr:eqV k x y=some r)(hx:AFm φ x x')(hy:AFm φ y y'){t:Nat}{d:AC3}(hd:P.underlying t=some d)(hk:KOk P k d)(w:zP):
 VK x'=true/\(ACq t x' y').run P w=.ok r w:=qy 9999 hr hx hy hd hk w
theorem bM(H:AFp ty φ E h w){k:TK}{op:AEl}{neg:Bool}(hop:(op=.eql/\neg=false)\/(op=.neq/\neg=true)){t:Nat}{ti:TI}(T:AGD P t ti)(hk:ti.k=k){X Y:zM}{x y:O}{x' y':IN}
  (hx:AFm φ (x e) x')(hy:AFm φ (y e) y')(hr:oEq k neg x y F e h=.ok v h'):Bq ty φ E h w v h' ((CF op t X Y x' y').run P w):=by
 obtain⟨d,hd,hkd⟩:=T.und;rw[hk]at hkd;unfold oEq at hr;split at hr
 case h_2=>cases hr
 rename_i r hq;obtain⟨rfl,rfl⟩:=M5 hr;obtain⟨h1,h2⟩:=qz hq hx hy hd hkd w;rw[ZC hop (.inl h1) (S7 h1) h2];exact .same H (.bool _)
theorem Lv(hT:DG P ty)(H:AFp ty φ E h w){K:KS}{op:AEl}{neg:Bool}(hop:(op=.eql/\neg=false)\/(op=.neq/\neg=true)){t:Nat}{ti:TI}(hti:ty.get t=some ti)(hk:ti.k.agg=true)(hf:flatK ty 8 t=some K.ks)(ha:K.agg=true)
  {X Y:zM}{x y:O}{x' y':IN}(hx:AFm φ (x e) x')(hy:AFm φ (y e) y')(hr:PM K neg x y F e h=.ok v h'):Bq ty φ E h w v h' ((CF op t X Y x' y').run P w):=by
 have T:=hT t ti hti;have hK:AGm P ty t K:=⟨⟨ti,hti,by rw[ha,hk]⟩,hf⟩;unfold PM eqC at hr;split at hr
 case h_2=>cases hr
 rename_i r hq;split at hq
 case h_2=>cases hq
 rename_i hfx;obtain⟨rfl,rfl⟩:=M5 hr;have e1:=JY hfx hx;obtain⟨h1,hfy,e2⟩:=Hj hT hK hfx hy hq w;rw[<- e1]at hfx;have hgt:=(E6 hT 8 t K.ks hf).2.1 P.depth T.deep;obtain⟨_,_,g1⟩:=DS hfx;obtain⟨_,_,g2⟩:=DS hfy;rw[<- e2]at g2;rcases g1 with ⟨_,l,hl⟩|⟨hb,_⟩
 ·rcases g2 with ⟨_,m,hm⟩|⟨hb,_⟩
  ·rw[<- e1]at h1
   have hg:(eqGuard op t X Y x' y').run P w=.ok () w:=by rw[hl,hm];exact Xq hgt
   rw[ZC hop (.inr ⟨_,hl⟩) hg h1];exact .same H (.bool _)
  ·rw[ha]at hb;cases hb
 ·rw[ha]at hb;cases hb
end
end
noncomputable section
open Go
section
variable {P:zp}{ty:TTy}{φ:Phi}{E:Nat->Prop}{h h':Hp}{w:zP}{F:AFi}{e:Env}{v:IN}{f:Fr}
theorem Bm{t:Nat}{k:TI->OpF}(hr:wTy ty t k F e h=.ok v h'):∃ ti,ty.get t=some ti/\k ti F e h=.ok v h':=by
 unfold wTy at hr;cases hg:ty.get t with
 |none=>rw[hg]at hr;cases hr
 |some ti=>rw[hg]at hr;exact⟨ti,rfl,hr⟩
theorem DQ{x:zM}{k:O->OpF}(hr:w1 f x k F e h=.ok v h'):∃ y,cO f x=some y/\k y F e h=.ok v h':=by
 unfold w1 at hr;cases hg:cO f x with
 |none=>rw[hg]at hr;cases hr
 |some y=>rw[hg]at hr;exact⟨y,rfl,hr⟩
theorem KF{x y:zM}{k:O->O->OpF}(hr:w2 f x y k F e h=.ok v h'):∃ x' y',cO f x=some x'/\cO f y=some y'/\k x' y' F e h=.ok v h':=by
 unfold w2 at hr;obtain⟨x',hx,hr⟩:=DQ hr;obtain⟨y',hy,hr⟩:=DQ hr;exact⟨x',y',hx,hy,hr⟩
theorem Ik{ti:TI}{k:OpF}(hr:wZ ti k F e h=.ok v h'):ti.zero.length=ti.size/\k F e h=.ok v h':=by
 unfold wZ at hr;cases hg:yu (BF ti.zero) ti.size with
 |false=>rw[hg]at hr;cases hr
 |true=>rw[hg]at hr;exact⟨by rw[<- Ay.1 hg,Bi],hr⟩
theorem EY(hr:oNo F e h=.ok v h'):False:=by cases hr
def Db(P:zp)(ty:TTy)(F:AFi):Prop:=∀ g args h v h',F g args h=.ok v h'->
 (∃ fn,P.funcs[g]? =some fn/\fn.name≠"runtime.NumGoroutine" /\fn.body.isNone=false)/\
 ∀ φ w args',AF3 φ args args'->AFp ty φ (fun _=>False) h w->
  Calls P g ⟨args'⟩ w fun en w'=>∃ v' ψ,en=.returned v'/\AFm ψ v v'/\AFp ty ψ (fun _=>False) h' w'/\Evo φ h w ψ h' w'
def FG(P:zp)(ty:TTy)(φ:Phi)(E:Nat->Prop)(h:Hp)(v:IN)(h':Hp)(o:Oper)(a:Act)(w:zP):Prop:=
 ∀ (next:Act->zP->Prop) (Q:Exit->Act->zP->Prop),
  (∀ ψ v' w',AFm ψ v v'->AFp ty ψ E h' w'->Evo φ h w ψ h' w'->next (a.put o.dst v') w')->o.wp P a w next Q
theorem FG.AFj{o:Oper}{a:Act}{s:Sem IN}(hx:execOp a.eval o=(do pure (.value (<- s))))(hg:Bq ty φ E h w v h' (s.run P w)):FG P ty φ E h v h' o a w:=by
 intro next Q hn
 obtain⟨v',w',ψ,hs,hv,H,ev⟩:=hg;unfold AE8;rw[hx,ym,hs,ye,yn,Oper.upon_value];exact hn ψ v' w' hv H ev
theorem FG.AG7{o:Oper}{a:Act}{s:Sem Unit}(hx:execOp a.eval o=(do s;pure .skip))(hg:Yz ty φ E h w v h' (s.run P w)):FG P ty φ E h v h' o a w:=by
 intro next Q hn
 obtain⟨rfl,w',hs,H,ev⟩:=hg;unfold AE8;rw[hx,ym,hs,ye,yn,Oper.upon_skip];exact hn φ undef w' (.tuple .nil) H ev
theorem Jx{place:Nat->Option (Nat×Nat)}{ρ:zM->IN}:∀ {l:List (Nat×zM)} {ps:List (Nat×Nat×O)},Gy f place l=some ps->
  (∀ p∈l,∀ y,cO f p.2=some y->AFm φ (y e) (ρ p.2))->AHv φ e place ps (l.map fun (i,x)=>(i,ρ x))
 |[],ps,hp,_=>by cases hp;exact .nil
 |(i,x)::l,ps,hp,hst=>by
  unfold Gy at hp;split at hp
  ·rename_i off size hpl
   split at hp
   ·rename_i y hy
    split at hp
    ·rename_i r hr
     cases hp;exact .cons hpl (hst (i,x) (by simp) y hy) (Jx hr fun p hp=>hst p (by simp[hp]))
    ·cases hp
   ·cases hp
  ·cases hp
theorem Ol{ρ:zM->IN}:∀ {l:List zM} {ys:List O},cOs f l=some ys->(∀ x∈l,∀ y,cO f x=some y->AFm φ (y e) (ρ x))->AF3 φ (vals e ys) (l.map ρ)
 |[],ys,h,_=>by cases h;exact .nil
 |x::l,ys,h,hst=>by
  unfold cOs at h;split at h
  ·rename_i y hy
   split at h
   ·rename_i r hr
    cases h;exact .cons (hst x (by simp) y hy) (Ol hr fun x hx=>hst x (by simp[hx]))
   ·cases h
  ·cases h
theorem Sk{ρ:zM->IN}{x:Option zM}{y:Option O}(h:cOo f x=some y)(hst:∀ z,x=some z->∀ y,cO f z=some y->AFm φ (y e) (ρ z)):AHH φ e y (x.map ρ):=by
 unfold cOo at h;split at h
 ·cases h;exact .none
 ·rename_i x
  split at h
  ·rename_i y hy;cases h;exact .some (hst x rfl y hy)
  ·cases h
def lK(φ:Phi)(f:Fr)(e:Env)(ρ:zM->IN)(op:Op):Prop:=∀ x∈op.operands.toList,∀ y,cO f x=some y->AFm φ (y e) (ρ x)
def HP(ty:TTy)(f:Fr)(e:Env)(E:Nat->Prop)(op:Op):Prop:=match kd ty op with
 |.p=>True
 |.a=>True
 |.r x=>∀ y,cO f x=some y->∀ b,AGG (y e)=.ok b->¬ E b
 |.w _=>∀ b,¬ E b
 |.q=>∀ b,¬ E b
theorem oh(hT:DG P ty)(H:AFp ty φ E h w){op:AEl}{t yt:zZ}{x y:zM}{o:Oper}{a:Act}(ho:o.op=.binOp op t x y yt)(hst:lK φ f e a.eval o.op)(hr:ZB ty f op t x y F e h=.ok v h'):FG P ty φ E h v h' o a w:=by
 have hx:execOp a.eval o=(do pure (.value (<- CF op t x y (a.eval x) (a.eval y)))):=by unfold execOp;rw[ho];rfl
 unfold ZB at hr;obtain⟨ti,hti,hr⟩:=Bm hr;obtain⟨x',y',hx',hy',hr⟩:=KF hr;have r1:=hst x (by rw[ho];simp[zA]) x' hx';have r2:=hst y (by rw[ho];simp[zA]) y' hy';cases hk:ti.k with
 |int k=>
  rw[hk]at hr;cases op with
  |add=>exact .AFj hx (jL H r1 r2 hr)
  |sub=>exact .AFj hx (Vr H (.inl ⟨rfl,rfl⟩) r1 r2 hr)
  |mul=>exact .AFj hx (Vr H (.inr ⟨rfl,rfl⟩) r1 r2 hr)
  |quo=>exact .AFj hx (jX H r1 r2 hr)
  |rem=>exact .AFj hx (jk H r1 r2 hr)
  |and=>exact .AFj hx (PK H (.inl ⟨rfl,rfl⟩) r1 r2 hr)
  |or=>exact .AFj hx (PK H (.inr (.inl ⟨rfl,rfl⟩)) r1 r2 hr)
  |xor=>exact .AFj hx (PK H (.inr (.inr ⟨rfl,rfl⟩)) r1 r2 hr)
  |shl=>exact .AFj hx (jm H r1 r2 hr)
  |shr=>exact .AFj hx (jo H r1 r2 hr)
  |andNot=>cases hr
  |eql=>exact .AFj hx (IM H (.inl ⟨rfl,rfl⟩) r1 r2 hr)
  |neq=>exact .AFj hx (IM H (.inr (.inl ⟨rfl,rfl⟩)) r1 r2 hr)
  |lss=>exact .AFj hx (IM H (.inr (.inr (.inl ⟨rfl,rfl⟩))) r1 r2 hr)
  |leq=>exact .AFj hx (IM H (.inr (.inr (.inr (.inl ⟨rfl,rfl⟩)))) r1 r2 hr)
  |gtr=>exact .AFj hx (IM H (.inr (.inr (.inr (.inr (.inl ⟨rfl,rfl⟩))))) r1 r2 hr)
  |geq=>exact .AFj hx (IM H (.inr (.inr (.inr (.inr (.inr ⟨rfl,rfl⟩))))) r1 r2 hr)
 |string=>
  rw[hk]at hr;cases op with
  |add=>exact(EY hr).elim
  |eql=>exact .AFj hx (IP H (.inl ⟨rfl,rfl⟩) r1 r2 hr)
  |neq=>exact .AFj hx (IP H (.inr (.inl ⟨rfl,rfl⟩)) r1 r2 hr)
  |lss=>exact .AFj hx (IP H (.inr (.inr (.inl ⟨rfl,rfl⟩))) r1 r2 hr)
  |gtr=>exact .AFj hx (IP H (.inr (.inr (.inr (.inl ⟨rfl,rfl⟩)))) r1 r2 hr)
  |leq=>exact .AFj hx (IP H (.inr (.inr (.inr (.inr (.inl ⟨rfl,rfl⟩))))) r1 r2 hr)
  |geq=>exact .AFj hx (IP H (.inr (.inr (.inr (.inr (.inr ⟨rfl,rfl⟩))))) r1 r2 hr)
  |_=>cases hr
 |struct fs=>
  rw[hk]at hr;simp only at hr;cases hf:flatK ty 8 t with
  |none=>rw[hf]at hr;cases hr
  |some ks=>
   rw[hf]at hr;have hag:ti.k.agg=true:=by rw[hk];rfl
   cases op with
   |eql=>exact .AFj hx (Lv hT H (K:=⟨true,ks⟩) (.inl ⟨rfl,rfl⟩) hti hag hf rfl r1 r2 hr)
   |neq=>exact .AFj hx (Lv hT H (K:=⟨true,ks⟩) (.inr ⟨rfl,rfl⟩) hti hag hf rfl r1 r2 hr)
   |_=>cases hr
 |arr n el=>
  rw[hk]at hr;simp only at hr;cases hf:flatK ty 8 t with
  |none=>rw[hf]at hr;cases hr
  |some ks=>
   rw[hf]at hr;have hag:ti.k.agg=true:=by rw[hk];rfl
   cases op with
   |eql=>exact .AFj hx (Lv hT H (K:=⟨true,ks⟩) (.inl ⟨rfl,rfl⟩) hti hag hf rfl r1 r2 hr)
   |neq=>exact .AFj hx (Lv hT H (K:=⟨true,ks⟩) (.inr ⟨rfl,rfl⟩) hti hag hf rfl r1 r2 hr)
   |_=>cases hr
 |iface=>
  rw[hk]at hr;have hr:(match PC y with|true=>(match op with|.eql=>oNo|.neq=>oNo|_=>oNo)|false=>oNo) F e h=.ok v h':=hr;cases hn:PC y with
  |false=>rw[hn]at hr;cases hr
  |true=>
   rw[hn]at hr;have hy:y=.const .nilIface:=by
    unfold PC at hn;split at hn
    ·split at hn
     ·rfl
     ·cases hn
    ·cases hn
   subst hy;cases op with
   |eql=>exact(EY hr).elim
   |neq=>exact(EY hr).elim
   |_=>cases hr
 |_=>
  rw[hk]at hr;cases op with
  |eql=>exact .AFj hx (bM H (.inl ⟨rfl,rfl⟩) (hT t ti hti) hk r1 r2 hr)
  |neq=>exact .AFj hx (bM H (.inr ⟨rfl,rfl⟩) (hT t ti hti) hk r1 r2 hr)
  |_=>cases hr
end
end
noncomputable section
open Go
section
variable {P:zp}{ty:TTy}{φ:Phi}{E:Nat->Prop}{h h':Hp}{w:zP}{F:AFi}{e:Env}{v:IN}
theorem AFp.less(H:AFp ty φ E h w)(hE:∀ b,¬ E b){E':Nat->Prop}:AFp ty φ E' h w where
 dom:=H.dom
 inj:=fun i j p q ei ej _ _=>H.inj i j p q ei ej (hE i) (hE j)
 row:=fun i p hp _=>H.row i p hp (hE i)
 fresh:=H.fresh
 kind:=H.kind
 inp:=H.inp
theorem UZ(hF:Db P ty F)(H:AFp ty φ E h w)(hE:∀ b,¬ E b){g:Nat}{args args':List IN}(ha:AF3 φ args args')(hr:F g args h=.ok v h'){o:Oper}{a:Act}
  (hx:(execOp a.eval o).run P w=(callFunc g ⟨args'⟩).run P w):FG P ty φ E h v h' o a w:=by
 intro next Q hn
 obtain⟨⟨fn,hfn,hnm,hb⟩,hc⟩:=hF g args h v h' hr;have AJO:(callFunc g ⟨args'⟩).run P w=.ok (.enter g ⟨args'⟩) w:=by
  have AK0:(fn.name == "runtime.NumGoroutine")=false:=by simpa using hnm
  simp only[callFunc,ym,run_program,ye,hfn,AK0,zT,if_false,hb,yn,Sem.run_ite]
 unfold AE8;rw[hx,AJO,Oper.upon_enter];refine(hc φ w args' ha (H.less hE)).mono fun en w' ⟨v',ψ,he,hv,H',ev⟩=>?_
 subst he;exact hn ψ v' w' hv (H'.less (fun _ h=>h)) ev
theorem bH(hF:Db P ty F)(H:AFp ty φ E h w)(hE:∀ b,¬ E b){g:Nat}{c:Call}(hc:c.callee=.value (.func g)){o:Oper}{a:Act}(ho:o.op=.call c){args:List O}
  (ha:AF3 φ (vals e args) (c.args.toList.map a.eval))(hr:AU g args F e h=.ok v h'):FG P ty φ E h v h' o a w:=by
 unfold AU at hr;rw[C7]at hr;refine UZ hF H hE ha hr ?_;have e1:c.args.map a.eval=⟨c.args.toList.map a.eval⟩:=by apply zz;simp
 unfold execOp;rw[ho];simp only[resolve,hc,e1,Act.eval,ADb,ym,yn,ye,invoke]
 congr 2
 apply zz;simp
theorem Kz(hF:Db P ty F)(H:AFp ty φ E h w)(hE:∀ b,¬ E b){x:zM}{g:O}{c:Call}(hc:c.callee=.value x){o:Oper}{a:Act}(ho:o.op=.call c){args:List O}
  (hg:AFm φ (g e) (a.eval x))(ha:AF3 φ (vals e args) (c.args.toList.map a.eval))(hr:EI g args F e h=.ok v h'):FG P ty φ E h v h' o a w:=by
 unfold EI at hr;split at hr
 case h_2=>cases hr
 rename_i k first cap hge
 rw[hge]at hg;rw[C7]at hr;generalize hxe:a.eval x=xv at hg;cases hg with
 |func _ h1 h2=>
  refine UZ hF H hE (h1.append (ha.append h2)) hr ?_;have e1:c.args.map a.eval=⟨c.args.toList.map a.eval⟩:=by apply zz;simp
  unfold execOp;rw[ho];simp only[resolve,hc,e1,hxe,ADb,ym,yn,ye,invoke]
  congr 2
  apply zz;simp
theorem CI{b:Nat}{ob:Obj}(h1:w.heap[b]? =some ob)(h2:(match ob with|.cells .. =>true|_=>false)=false):(getObj b).run P w=.ok ob w:=by
 unfold getObj;simp only[Sem.run,h1];cases ob<;>first|rfl|cases h2
theorem AGi.length:∀ {l:List Ent} {l':List zn},AGi φ l l'->l'.length=l.length
 |_,_,.nil=>rfl
 |_,_,.cons _ _ t=>congrArg (· +1) t.length
theorem ID{r:Nat}{es:List Ent}{c:Nat}(hr:Bk h r=.ok es c):h.bl.get r=.map es c:=by
 unfold Bk iJ at hr;split at hr
 ·cases hr;assumption
 ·cases hr
theorem AFp.AGv(H:AFp ty φ E h w){r:Nat}{p:Pl}(hp:φ r=some p)(hE:¬ E r){es:List Ent}{c:Nat}(hr:Bk h r=.ok es c):
  ∃ es',w.heap[p.blk]? =some (.map ⟨es'⟩ c)/\AGi φ es es':=by
 have:=H.row r p hp hE;rw[ID hr]at this;generalize w.heap[p.blk]? =o at this;cases this with
 |map h=>exact⟨_,rfl,h⟩
theorem bR(H:AFp ty φ E h w){x:O}{x':IN}{ats:Array zZ}{t t' el:zZ}(h0:ats[0]? =some t){ti:TI}(T:AGD P t ti)(hk:ti.k=.slice el)(hx:AFm φ (x e) x')(hr:Bl x F e h=.ok v h'):
  Bq ty φ E h w v h' ((AAK ats t' #[x']).run P w):=by
 unfold Bl at hr;split at hr
 case h_3=>cases hr
 case h_2=>
  rename_i r hxe;rw[hxe]at hx;cases hr;obtain⟨d,hd,hkd⟩:=T.desc;rw[hk]at hkd;cases hkd;have key:(AAK ats t' #[x']).run P w=.ok (goInt ((0:Nat):Int)) w:=by
   cases hx<;>simp only[AAK,h0,ym,hd,ye,yn,zN,zW]
  rw[key];exact .same H (.int _ _)
 rename_i a n c hxe;rw[hxe]at hx;cases hr;obtain⟨d,hd,hkd⟩:=T.desc;rw[hk]at hkd;cases hkd;have key:(AAK ats t' #[x']).run P w=.ok (goInt n) w:=by
  cases hx<;>simp only[AAK,h0,ym,hd,ye,yn,zN,zW]
 rw[key];exact .same H (.int _ _)
theorem bU(H:AFp ty φ E h w){x:O}{x':IN}{ats:Array zZ}{t t':zZ}(h0:ats[0]? =some t){ti:TI}(T:AGD P t ti)(hk:ti.k=.string)(hx:AFm φ (x e) x')(hr:OP x F e h=.ok v h'):
  Bq ty φ E h w v h' ((AAK ats t' #[x']).run P w):=by
 unfold OP at hr;split at hr
 case h_2=>cases hr
 rename_i s hxe;rw[hxe]at hx;rw[Ao,Bi]at hr;cases hr;obtain⟨d,hd,hkd⟩:=T.desc;rw[hk]at hkd;cases hkd;obtain rfl:=hx.AGO;have key:(AAK ats t' #[.string s]).run P w=.ok (goInt s.size) w:=by
  simp only[AAK,h0,ym,hd,ye,yn,zN,zW]
 rw[key];exact .same H (.int _ _)
theorem iz{x':IN}{ats:Array zZ}{t t' el:zZ}{n:Nat}(h0:ats[0]? =some t){ti:TI}(T:AGD P t ti)(hk:ti.k=.arr n el):(AAK ats t' #[x']).run P w=.ok (goInt n) w:=by
 obtain⟨d,hd,hkd⟩:=T.desc;rw[hk]at hkd;cases hkd;simp only[AAK,h0,ym,hd,ye,yn,zN,zW]
theorem Fo{b:Nat}{ob ob':Obj}(h1:w.heap[b]? =some ob)(h2:(match ob with|.cells .. =>true|_=>false)=false):
  (setObj b ob').run P w=.ok () {w with heap:=w.heap.setIfInBounds b ob'}:=by
 unfold setObj;simp only[Sem.run,h1];cases ob<;>first|rfl|cases h2
theorem IR(H:AFp ty φ E h w){r:Nat}{p:Pl}(hEr:¬ E r)(hp:φ r=some p)(hl:Live h r){o:Blk}{ob:Obj}{k:Hp->R}(hr:Et h r o k=.ok v h')(hsh:AF2 (h.bl.get r) o)(hB:AGe ty φ p o (some ob)):
  ∃ h1,k h1=.ok v h'/\AFp ty φ E h1 {w with heap:=w.heap.setIfInBounds p.blk ob}/\Evo φ h w φ h1 {w with heap:=w.heap.setIfInBounds p.blk ob}:=by
 obtain⟨bl,AFs,hbl,hk⟩:=FV hr;have hlt:=(H.dom r p hp).2;have e1:(w.heap.setIfInBounds p.blk ob).size=w.heap.size:=by simp
 have e2:∀ k,k≠p.blk->(w.heap.setIfInBounds p.blk ob)[k]? =w.heap[k]?:=fun k hk=>by
  rw[AAJ,if_neg (AFX hk)]
 have e3:(w.heap.setIfInBounds p.blk ob)[p.blk]? =some ob:=by rw[AAJ,if_pos rfl,if_pos hlt]
 exact⟨_,hk,H.put hEr AFs hp hl hbl e1 e2 (by show AGe ty φ p o ((w.heap.setIfInBounds p.blk ob)[p.blk]?);rw[e3];exact hB),.put (H.AGj hp AFs) hp hl hbl hsh e1 e2 rfl rfl rfl⟩
theorem Kx{r:Nat}{es:List Ent}{c:Nat}(hr:Bk h r=.ok es c):Live h r:=by
 unfold Live;rw[ID hr];intro hd;cases hd
theorem PL(H:AFp ty φ E h w)(hE:∀ b,¬ E b){x:O}{x':IN}{ats:Array zZ}{t t':zZ}{ti:TI}(h0:ats[0]? =some t)(T:AGD P t ti)(hx:AFm φ (x e) x')(hr:Dv x F e h=.ok v h'):
  Bq ty φ E h w v h' ((AAA ats t' #[x']).run P w):=by
 obtain⟨d,hd,_⟩:=T.desc;unfold Dv at hr;split at hr
 ·rename_i hxe
  rw[hxe]at hx;cases hr;cases hx;have key:(AAA ats t' #[.map none]).run P w=.ok AFl w:=by
   simp only[AAA,h0,ym,hd,ye,yn,zN,zW];rfl
  rw[key];exact .same H (.tuple .nil)
 ·rename_i r hxe
  rw[hxe]at hx;cases hx with
  |@map _ p hp=>
   split at hr
   case h_2=>cases hr
   rename_i es c hes;obtain⟨es',hw,AGK⟩:=H.AGv hp (hE r) hes;obtain⟨h1,hk,H1,ev⟩:=IR (ob:=.map #[] c) H (hE _) hp (Kx hes) hr (by rw[ID hes];exact .inr trivial) (.map .nil);cases hk;have key:(AAA ats t' #[.map (some p.blk)]).run P w=.ok AFl {w with heap:=w.heap.setIfInBounds p.blk (.map #[] c)}:=by
    simp only[AAA,h0,ym,hd,ye,yn,zN,zW,CI hw rfl,Fo hw rfl];rfl
   rw[key];exact⟨_,_,φ,rfl,.tuple .nil,H1,ev⟩
 ·cases hr
theorem YH(H:AFp ty φ E h w)(hE:∀ b,¬ E b){x:O}{x':IN}{ats:Array zZ}{t t' el:zZ}{ti ei:TI}(h0:ats[0]? =some t)(T:AGD P t ti)(hk:ti.k=.slice el)(TE:AGD P el ei)(hz:ei.zero.length=ei.size)
  (hx:AFm φ (x e) x')(hr:Mz ei.zero x F e h=.ok v h'):Bq ty φ E h w v h' ((AAA ats t' #[x']).run P w):=by
 obtain⟨d,hd,hkd⟩:=T.desc;rw[hk]at hkd;cases hkd;obtain⟨z,_,hzr,hzc,hzp⟩:=TE.AGq hz;unfold Mz at hr;split at hr
 ·rename_i hxe
  rw[hxe]at hx;cases hr;cases hx;have key:(AAA ats t' #[.slice none 0 0]).run P w=.ok AFl w:=by
   simp only[AAA,h0,ym,hd,ye,yn,zN,zW];rfl
  rw[key];exact .same H (.tuple .nil)
 ·rename_i a n c hxe
  rw[hxe]at hx;cases hx with
  |@slice _ a' _ _ c' hlc hs=>
   cases n with
   |zero=>
    cases hr;have key:(AAA ats t' #[.slice (some a') 0 c']).run P w=.ok AFl w:=by
     simp only[AAA,h0,ym,hd,ye,yn,zN,zW];rfl
    rw[key];exact .same H (.tuple .nil)
   |succ n=>
    have AGK:AF3 φ (Bb ei.zero (n+1)) (Bb ei.zero (n+1)):=Hw (.plain hzp) (n+1);obtain⟨h1,w1,hk2,hrun,H1,ev⟩:=IW (P:=P) H hr (LA hlc hs (ABz n)) AGK (hE _);cases hk2;have hc:(Builtin.zeroCells z.cells (n+1)).toList=Bb ei.zero (n+1):=by rw[HE,hzc]
    have key:(AAA ats t' #[.slice (some a') (n+1) c']).run P w=.ok AFl w1:=by
     simp only[AAA,h0,ym,hd,ye,yn,zN,zW,hzr,hc,hrun];rfl
    rw[key];exact⟨_,_,φ,rfl,.tuple .nil,H1,ev⟩
 ·cases hr
theorem YG(H:AFp ty φ E h w)(hE:∀ b,¬ E b){x:O}{x':IN}{t el:zZ}{ti ei:TI}(T:AGD P t ti)(hk:ti.k=.slice el)(TE:AGD P el ei)(he:ei.k=.int .u8)(hx:AFm φ (x e) x')(hr:TR x F e h=.ok v h'):
  Bq ty φ E h w v h' ((convert t t x').run P w):=by
 obtain⟨d,hd,hkd⟩:=T.und;rw[hk]at hkd;cases hkd;obtain⟨d3,h3,k3⟩:=TE.und;rw[he]at k3;cases k3;unfold TR at hr;split at hr
 case h_2=>cases hr
 rename_i a n c hxe;rw[hxe]at hx;have hx0:=hx;cases hx with
 |@slice _ a' _ _ c' hlc hs=>
  split at hr
  case h_2=>cases hr
  rename_i ct s en hrow;obtain⟨s1,s2,p,hp,hbl,hor⟩:=hs;obtain⟨cs,tt,fr,hw,R⟩:=H.rowAt hp (hE _) hrow;have AGV:Live h a.block:=by unfold Live;rw[DM hrow];intro hd;cases hd
  obtain⟨bl,AFs,AHo,hk2⟩:=FV hr;cases hk2
  let fr':Nat×Nat:=if fr.1 == fr.2 then(cs.size,cs.size+1)else(min fr.1 cs.size,max fr.2 (cs.size+1))
  let w':zP:=w.freeze ⟨a'.block,cs.size,none⟩ 1
  have hf:∃ g:Obj->Obj,w'.heap=w.heap.modify p.blk g/\g (.cells cs tt fr)=.cells cs tt fr':=by
   obtain⟨lo,hi⟩:=fr;refine⟨_,by show(w.freeze ⟨a'.block,cs.size,none⟩ 1).heap=_;unfold ADG;rw[if_neg ACr,hbl],rfl⟩
  obtain⟨g,hheap,hg⟩:=hf;have e1:w'.heap.size=w.heap.size:=by rw[hheap];simp
  have e2:∀ k,k≠p.blk->w'.heap[k]? =w.heap[k]?:=fun k hk=>by
   rw[hheap,ABA,if_neg (AFX hk)]
  have e3:w'.heap[p.blk]? =some (.cells cs tt fr'):=by
   rw[hheap,ABA,if_pos rfl,hw,AAG,hg]
  have e4:w'.tape=w.tape/\w'.os=w.os/\w'.output=w.output:=by
   show(w.freeze ⟨a'.block,cs.size,none⟩ 1).tape=_/\(w.freeze ⟨a'.block,cs.size,none⟩ 1).os=_/\(w.freeze ⟨a'.block,cs.size,none⟩ 1).output=_;unfold ADG;rw[if_neg ACr];exact⟨rfl,rfl,rfl⟩
  have hB:AGe ty φ p (.cells ct s en) w'.heap[p.blk]?:=by
   rw[e3];refine .cells {R with loose:=.inl ?_};have:=R.AKq (H.AGj hp AFs);show fr'.1=fr'.2\/cs.size<=fr'.1;refine .inr ?_;simp only[fr'];split
   ·exact IT _
   ·rename_i hne
    have AH9:fr.1≠fr.2:=by simpa using hne
    rcases this with h|h
    ·exact absurd h AH9
    ·show cs.size<=min fr.1 cs.size
     omega
  have key:(convert t t (.slice (some a') n c')).run P w=.ok (.slice (some a') n c') w':=by
   have hsh:w.shape? a'.block=some (tt,cs.size):=by rw[hbl];simp[ADF,hw]
   simp only[convert,ym,run_underlying hd,run_underlying h3,ye,beq_self_eq_true,markStringish,run_shape,hsh,run_freeze,yn];rfl
  rw[key];exact⟨_,w',φ,rfl,hx0,H.put (hE _) AFs hp AGV AHo e1 e2 hB,.put (H.AGj hp AFs) hp AGV AHo (by rw[DM hrow];exact .inr ⟨rfl,rfl⟩) e1 e2 e4.1 e4.2.1 e4.2.2⟩
end
end
noncomputable section
open Go
section
variable {P:zp}{ty:TTy}{φ:Phi}{E:Nat->Prop}{h h':Hp}{w:zP}{F:AFi}{e:Env}{v:IN}
theorem OL(H:AFp ty φ E h w){o:Blk}{ob:Obj}(hr:GN h o JB=.ok v h')
  (hB:AGe ty (φ.put h.next {blk:=w.heap.size,off:=0,sz:=0,room:=0,es:=1}) {blk:=w.heap.size,off:=0,sz:=0,room:=0,es:=1} o (some ob)):
  Bq ty φ E h w v h' (.ok (.pointer (some ⟨w.heap.size,0,none⟩)) {w with heap:=w.heap.push ob}):=by
 obtain⟨bl,hbl,hk⟩:=Gc hr;cases hk
 let w':zP:={w with heap:=w.heap.push ob}
 have hs:w'.heap.size=w.heap.size+1:=by simp[w']
 have hsame:∀ k,k<w.heap.size->w'.heap[k]? =w.heap[k]?:=fun k hk=>by
  show(w.heap.push _)[k]? =_;rw[Array.getElem?_push_lt hk,Array.getElem?_eq_getElem hk]
 refine⟨_,w',φ.put h.next {blk:=w.heap.size,off:=0,sz:=0,room:=0,es:=1},rfl,PV (Phi.AGU _ _ _) rfl,
  H.new hbl (by omega) (by show w.heap.size<_;omega) (fun j q e _=>by have:=(H.dom j q e).2;show _≠w.heap.size;omega) (fun k hk _=>hsame k hk) ?_,
  .made H hbl (IT _) (by omega) hsame rfl rfl rfl⟩
 have:w'.heap[w.heap.size]? =some ob:=by show(w.heap.push _)[w.heap.size]? =_;simp
 rw[this];exact hB
theorem YS(H:AFp ty φ E h w)(hE:∀ b,¬ E b){x:O}{x':IN}{t kt el:zZ}{ti:TI}(T:AGD P t ti)(hk:ti.k=.map kt el)(hx:AFm φ (x e) x')(hr:K3 x F e h=.ok v h'):
  Bq ty φ E h w v h' ((AB5 t x').run P w):=by
 obtain⟨d,hd,hkd⟩:=T.desc;rw[hk]at hkd;cases hkd;unfold K3 at hr;split at hr
 ·rename_i hxe
  rw[hxe]at hx;cases hx;have key:(AB5 t (.map none)).run P w=.ok (.pointer (some ⟨w.heap.size,0,none⟩)) {w with heap:=w.heap.push (.mapIter none 0 #[] 0)}:=by
   simp only[AB5,ym,hd,ye,yn,run_newObj]
  rw[key];exact OL H hr (.AHR rfl)
 ·rename_i r hxe
  rw[hxe]at hx;cases hx with
  |@map _ p hp=>
   split at hr
   case h_2=>cases hr
   rename_i es c hes;obtain⟨es',hw,AGK⟩:=H.AGv hp (hE r) hes;have key:(AB5 t (.map (some p.blk))).run P w=.ok (.pointer (some ⟨w.heap.size,0,none⟩)) {w with heap:=w.heap.push (.mapIter (some p.blk) c #[] c)}:=by
    simp only[AB5,ym,hd,ye,CI hw rfl,yn,run_newObj]
   rw[key];exact OL H hr (.iter rfl (Phi.AG4 H.AGZ _ _ hp))
 ·cases hr
theorem Lu(n:Nat):∀ l:List Nat,Fw n l=l.contains n
 |[]=>rfl
 |x::l=>by
  unfold Fw;rw[Lu n l,List.contains_cons];cases hb:yu x n with
  |true=>
   have:x=n:=Ay.1 hb;subst this;simp
  |false=>
   have:¬ n=x:=fun h=>by rw[h,AAQ]at hb;cases hb
   simp[this]
theorem ND(n:Nat):∀ l:List Nat,Jy n l=l++[n]
 |[]=>rfl
 |x::l=>congrArg (x:: ·) (ND n l)
theorem Qw{since:Nat}{seen:List Nat}:∀ {es:List Ent} {es':List zn} {l:List Ent},AGi φ es es'->LQ since seen es=some l->
  ∃ l',AGi φ l l'/\es'.filter (fun e=> !seen.contains e.born)=l'/\l'.filter (fun e=>decide (e.born<since))=l'/\l'.filter (fun e=>decide (e.born>=since))=[]
 |_,_,l,.nil,h=>by cases h;exact⟨[],.nil,rfl,rfl,rfl⟩
 |_,_,l,.cons (b:=b) hk hv t,h=>by
  unfold LQ at h;split at h
  ·rename_i r hr
   obtain⟨l',h1,h2,h3,h4⟩:=Qw t hr;rw[Lu]at h;cases hm:seen.contains b with
   |true=>
    simp only[hm,cond_true]at h;cases h;exact⟨l',h1,by rw[ABo];simp only[hm,Bool.not_true,zT,if_false];exact h2,h3,h4⟩
   |false=>
    simp only[hm,cond_false]at h;obtain⟨hb,h⟩:Nat.blt b since=true/\_=some l:=by
     cases hb:Nat.blt b since with
     |true=>rw[hb]at h;exact⟨rfl,h⟩
     |false=>rw[hb]at h;cases h
    cases h;have hlt:=BQ.1 hb;refine⟨_,.cons hk hv h1,by rw[ABo];simp only[hm,Bool.not_false,if_true];rw[h2],?_,?_⟩
    ·rw[ABo];simp[hlt,h3]
    ·rw[ABo];simp[Nat.not_le.2 hlt,h4]
  ·cases h
theorem LF{last:Nat}:∀ {es:List Ent} {es':List zn},AGi φ es es'->es'.all (fun e=>decide (e.born>=last))=FW last es
 |_,_,.nil=>rfl
 |_,_,.cons (b:=b) hk hv t=>by
  unfold FW;rw[ACb,LF t];cases hb:yl last b with
  |true=>simp[Av.1 hb]
  |false=>
   have:¬ last<=b:=fun h=>by rw[Av.2 h]at hb;cases hb
   simp[this]
theorem IH{b:Nat}{m:Option Nat}{s:Nat}{l:List Nat}{t:Nat}(hr:EU (h.bl.get b)=.ok m s l t):h.bl.get b=.iter m s l t:=by
 unfold EU at hr;split at hr<;>first|(cases hr;assumption)|cases hr
theorem qV{b m s t:Nat}(hr:EU (h.bl.get b)=.cur m s t):h.bl.get b=.cur m s t:=by
 unfold EU at hr;split at hr<;>first|(cases hr;assumption)|cases hr
theorem j9{b m s t:Nat}{sn:Option (List Nat)}(hr:EU (h.bl.get b)=.pick m s t sn):h.bl.get b=.pick m s t sn:=by
 unfold EU at hr;split at hr<;>first|(cases hr;assumption)|cases hr
theorem RN:AFm φ (.tuple ⟨[.bool false]⟩) (.tuple #[.bool false]):=.tuple (.cons (.bool _) .nil)
theorem bW(H:AFp ty φ E h w)(hE:∀ b,¬ E b){x:O}{x':IN}{t:zZ}(hx:AFm φ (x e) x')(hr:HN x F e h=.ok v h'):Bq ty φ E h w v h' ((AAZ x' false t).run P w):=by
 unfold HN at hr;split at hr
 case h_2=>cases hr
 rename_i a ha;obtain⟨hb,hr⟩:=Bx hr;obtain⟨a',rfl,hra⟩:=Fz hx ha;obtain⟨p,hp,rfl⟩:=hra.eq;have hoff:a.off=0:=Ay.1 hb;unfold Gd at hr;split at hr
 ·rename_i s l tl hit
  cases hr;have hrow:=H.row a.block p hp (hE _);rw[IH hit]at hrow;generalize hw:w.heap[p.blk]? =ob at hrow;cases hrow with
  |AHR hp0=>
   have key:(AAZ (.pointer (some ⟨p.blk,p.off+a.off,none⟩)) false t).run P w=.ok (.tuple #[.bool false]) w:=by
    rw[hp0,hoff];simp only[AAZ,ym,CI hw rfl,ye,yn]
   rw[key];exact .same H RN
 ·rename_i m since seen last hit
  have hrow:=H.row a.block p hp (hE _);rw[IH hit]at hrow;generalize hw:w.heap[p.blk]? =ob at hrow;cases hrow with
  |@iter _ q _ _ _ hp0 hq=>
   split at hr
   case h_2=>cases hr
   rename_i es c hes;obtain⟨es',hwm,AGK⟩:=H.AGv hq (hE m) hes;rw[hp0,hoff];have AIc:∃ k:R,k=.ok v h'/\(!(⟨seen⟩:Array Nat).isEmpty && !(⟨es'⟩:Array zn).isEmpty && (⟨es'⟩:Array zn).all (fun e=>decide (e.born>=last)))=false/\
     k=(match LQ since seen es with
      |some []=>bz h
      |some [x]=>Et h a.block (.iter (some m) since (Jy x.born seen) c) fun h=>.ok (.tuple ⟨[.bool true,x.key,x.val]⟩) h
      |_=>.no):=by
    have hall:(⟨es'⟩:Array zn).all (fun e=>decide (e.born>=last))=FW last es:=by
     rw[<- LF AGK];simp
    cases seen with
    |nil=>exact⟨_,hr,by simp,rfl⟩
    |cons s0 sl=>
     cases AGK with
     |nil=>exact⟨_,hr,by simp,rfl⟩
     |cons hk hv tl=>
      simp only at hr;rw[hall];generalize hy:FW last _=y at hr ⊢;cases y with
      |true=>cases hr
      |false=>exact⟨_,hr,by simp,rfl⟩
   obtain⟨k,hk,hstop,rfl⟩:=AIc;cases hl:LQ since seen es with
   |none=>rw[hl]at hk;cases hk
   |some l=>
    rw[hl]at hk;obtain⟨l',q1,q2,q3,q4⟩:=Qw AGK hl;have f1:(⟨es'⟩:Array zn).filter (fun e=> !(⟨seen⟩:Array Nat).contains e.born)=⟨l'⟩:=by
     rw[<- q2];apply zz;simp
    have f2:(⟨l'⟩:Array zn).filter (fun e=>decide (e.born<since))=⟨l'⟩:=by
     apply zz;rw[ACJ];exact q3
    have f3:(⟨l'⟩:Array zn).filter (fun e=>decide (e.born>=since))= #[]:=by
     apply zz;rw[ACJ];exact q4
    cases q1 with
    |nil=>
     cases hk;have key:(AAZ (.pointer (some ⟨p.blk,0,none⟩)) false t).run P w=.ok (.tuple #[.bool false]) w:=by
      simp only[AAZ,ym,CI hw rfl,ye,CI hwm rfl,hstop,zT,if_false,f1,f2,f3];simp[run_choose,ABi]
     have:p.off+a.off=0:=by omega
     rw[show(0:Nat)+0=0 from rfl,key];exact .same H RN
    |cons hkk hvv tl=>
     cases tl with
     |cons _ _ _=>cases hk
     |nil=>
      rename_i k0 k1 v0 v1 b0;have AGV:Live h a.block:=by unfold Live;rw[IH hit];intro hd;cases hd
      simp only at hk;obtain⟨h1,hk2,H1,ev⟩:=IR (ob:=.mapIter (some q.blk) since ⟨seen++[b0]⟩ c) H (hE _) hp AGV hk (by rw[IH hit];exact .inr trivial) (by rw[ND];exact .iter hp0 hq);cases hk2;have key:(AAZ (.pointer (some ⟨p.blk,0,none⟩)) false t).run P w=.ok (.tuple #[.bool true,k1,v1]) {w with heap:=w.heap.setIfInBounds p.blk (.mapIter (some q.blk) since ⟨seen++[b0]⟩ c)}:=by
       have AGJ:=Fo (P:=P) (ob':=.mapIter (some q.blk) since ⟨seen++[b0]⟩ c) hw rfl;simp only[AAZ,ym,CI hw rfl,ye,CI hwm rfl,hstop,zT,if_false,f1,f2,f3];simp[run_choose,ABi,AGJ]
      rw[key];exact⟨_,_,φ,rfl,.tuple (.cons (.bool _) (.cons hkk (.cons hvv .nil))),H1,ev⟩
 ·cases hr
 ·cases hr
 ·rename_i m s last hit
  have hrow:=H.row a.block p hp (hE _);rw[j9 hit]at hrow;cases hrow
theorem Qu:∀ l:List Nat,Qt l=l.getLast?
 |[]=>rfl
 |[x]=>rfl
 |x::y::l=>by
  show Qt (y::l)=_;rw[Qu (y::l)];rfl
theorem QP{n:Nat}:∀ {es:List Ent} {es':List zn} {x:Ent},AGi φ es es'->GU n es=some x->∃ x',es'.find? (fun e=>e.born == n)=some x'/\AFm φ x.key x'.key/\AFm φ x.val x'.val
 |_,_,x,.nil,h=>by cases h
 |_,_,x,.cons (k':=k') (v':=v') (b:=b) hk hv t,h=>by
  unfold GU at h;rw[List.find?_cons];cases hb:yu b n with
  |true=>
   simp only[hb,cond_true]at h;cases h;have:b=n:=Ay.1 hb;subst this;refine⟨⟨k',v',b⟩,?_,hk,hv⟩;simp only[beq_self_eq_true]
  |false=>
   simp only[hb,cond_false]at h;have hne:(b == n)=false:=by
    rw[beq_eq_false_iff_ne];intro he;rw[he,AAQ]at hb;cases hb
   obtain⟨x',q1,q2⟩:=QP t h;exact⟨x',by simp only[hne];exact q1,q2⟩
theorem S1(H:AFp ty φ E h w)(hE:∀ b,¬ E b){m s last:Nat}{q:Pl}(hq:φ m=some q)(hr:IB m s last h=.ok v h'):
  h'=h/\∃ (es':List zn) (c:Nat) (en':zn) (k0 v0:IN),w.heap[q.blk]? =some (.map ⟨es'⟩ c)/\c=last/\(⟨es'⟩:Array zn).find? (fun e=>e.born == s)=some en'/\v=.tuple ⟨[k0,v0]⟩/\AFm φ k0 en'.key/\AFm φ v0 en'.val:=by
 unfold IB at hr;split at hr
 case h_2=>cases hr
 rename_i es c hes;obtain⟨hc,hr⟩:=Bx hr;split at hr
 case h_2=>cases hr
 rename_i en hen;cases hr;obtain⟨es',hwm,AGK⟩:=H.AGv hq (hE m) hes;obtain⟨en',q1,q2,q3⟩:=QP AGK hen;exact⟨rfl,es',c,en',_,_,hwm,Ay.1 hc,by rw[<- q1];simp,rfl,q2,q3⟩
theorem YI(H:AFp ty φ E h w)(hE:∀ b,¬ E b){x:O}{x':IN}(hx:AFm φ (x e) x')(hr:I9 x F e h=.ok v h'):Bq ty φ E h w v h' ((ACg x').run P w):=by
 unfold I9 at hr;split at hr
 case h_2=>cases hr
 rename_i a ha;obtain⟨hb,hr⟩:=Bx hr;obtain⟨a',rfl,hra⟩:=Fz hx ha;obtain⟨p,hp,rfl⟩:=hra.eq;have hoff:a.off=0:=Ay.1 hb;have main:∀ {m s last:Nat} {q:Pl} {sn:Nat} {seen:List Nat},φ m=some q->p.off=0->w.heap[p.blk]? =some (.mapIter (some q.blk) sn ⟨seen⟩ last)->seen.getLast? =some s->IB m s last h=.ok v h'->
   Bq ty φ E h w v h' ((ACg (.pointer (some ⟨p.blk,p.off+a.off,none⟩))).run P w):=by
  intro m s last q sn seen hq hp0 hw hl hr;obtain⟨rfl,es',c,en',k0,v0,hwm,rfl,hfind,rfl,q2,q3⟩:=S1 H hE hq hr;have AHK:(⟨seen⟩:Array Nat).back? =some s:=by
   rw[<- hl];simp[Array.back?_eq_getElem?,List.getLast?_eq_getElem?]
  rw[hp0,hoff];have key:(ACg (.pointer (some ⟨p.blk,0,none⟩))).run P w=.ok (.tuple #[en'.key,en'.val]) w:=by
   simp only[ACg,ym,CI hw rfl,ye,AHK,CI hwm rfl,bne_self_eq_false,zT,if_false,hfind,yn]
  rw[key];exact .same H (.tuple (.cons q2 (.cons q3 .nil)))
 unfold Ki at hr;split at hr
 ·rename_i m since seen last hit
  have hrow:=H.row a.block p hp (hE _);rw[IH hit]at hrow;generalize hw:w.heap[p.blk]? =ob at hrow;cases hrow with
  |@iter _ q _ _ _ hp0 hq=>
   split at hr
   case h_2=>cases hr
   rename_i st hst;exact main hq hp0 hw (by rw[<- Qu];exact hst) hr
 ·rename_i m st last hit
  have hrow:=H.row a.block p hp (hE _);rw[qV hit]at hrow;generalize hw:w.heap[p.blk]? =ob at hrow;cases hrow with
  |cur hp0 hq hl=>exact main hq hp0 hw hl hr
 ·cases hr
end
end
noncomputable section
open Go
section
variable {P:zp}{ty:TTy}{φ:Phi}{E:Nat->Prop}{h h':Hp}{w:zP}{F:AFi}{e:Env}{v:IN}
theorem MA{t:Nat}{k:KS->OpF}(hr:wKey ty t k F e h=.ok v h'):∃ ti kt el K,ty.get t=some ti/\ti.k=.map kt el/\AGm P ty kt K/\k K F e h=.ok v h':=by
 unfold wKey at hr;obtain⟨ti,hti,hr⟩:=Bm hr;cases hk:ti.k with
 |map kt el=>
  simp only[hk]at hr;obtain⟨ki,hki,hr⟩:=Bm hr;cases hf:flatK ty 8 kt with
  |none=>rw[hf]at hr;cases hr
  |some ks=>
   rw[hf]at hr;exact⟨ti,kt,el,⟨ki.k.agg,ks⟩,hti,hk,⟨⟨ki,hki,rfl⟩,hf⟩,hr⟩
 |_=>simp only[hk]at hr;cases hr
theorem AGm.und(hT:DG P ty){t:Nat}{K:KS}(hK:AGm P ty t K):∃ d,P.underlying t=some d:=by
 obtain⟨ti,hti,_⟩:=hK.ti;obtain⟨d,hd,_⟩:=(hT t ti hti).und;exact⟨d,hd⟩
theorem Vj{t:Nat}{ti:TI}(T:AGD P t ti){kt el:Nat}(hk:ti.k=.map kt el):P.underlying t=some (.map kt el):=by
 obtain⟨d,hd,hkd⟩:=T.und;rw[hk]at hkd;cases hkd;exact hd
theorem I7{ok:Bool}{u:IN}{b:Bool}(hr:Ex ok u b h=.ok v h'):h'=h/\v=(if ok then .tuple ⟨[u,.bool b]⟩else u):=by
 unfold Ex at hr;cases ok<;>simp only[BV]at hr<;>cases hr<;>exact⟨rfl,rfl⟩
theorem Ho{ok:Bool}{u u':IN}{b:Bool}(hu:AFm φ u u'):AFm φ (if ok then .tuple ⟨[u,.bool b]⟩else u) (if ok then .tuple #[u',.bool b]else u'):=by
 cases ok
 ·exact hu
 ·exact .tuple (.cons hu (.cons (.bool b) .nil))
theorem TZ(hT:DG P ty)(H:AFp ty φ E h w){t kt el:Nat}{ti ei:TI}(T:AGD P t ti)(hk:ti.k=.map kt el)(TE:AGD P el ei)(hz:ei.zero.length=ei.size){z:IN}(hzv:zeroV ei=some z){K:KS}(hK:AGm P ty kt K)
  {ok:Bool}{x ix:O}{x' ix':IN}(hx:AFm φ (x e) x')(hix:AFm φ (ix e) ix')(hE:∀ r,x e=.map (some r)->¬ E r)(hr:GE K z ok x ix F e h=.ok v h'):
  Bq ty φ E h w v h' ((AA4 t x' ix' ok).run P w):=by
 obtain⟨z0,hz0,hzr,_,hzp⟩:=TE.AGq hz;rw[hzv]at hz0;cases hz0;have AId:AFm φ z z:=by
  unfold zeroV at hzv;split at hzv
  ·cases hzv;exact .agg (.plain hzp)
  ·split at hzv
   ·rename_i u hu
    cases hzv;rw[hu]at hzp;simp only[ACb,List.all_nil,AEk]at hzp;exact .plain hzp
   ·cases hzv
 obtain⟨kd,hkd⟩:=hK.und hT;have hu:=Vj T hk;unfold GE II at hr;split at hr
 case h_2=>cases hr
 rename_i hfit;have he:=JY hfit hix;subst he;split at hr
 ·rename_i hxe
  rw[hxe]at hx;cases hx;obtain⟨rfl,rfl⟩:=I7 hr;have hf:(AC7 kt (ix e) []).run P w=.ok none w:=FY hkd (by simp[zV]);have key:(AA4 t (.map none) (ix e) ok).run P w=.ok (if ok then .tuple #[z,.bool false]else z) w:=by
   simp only[AA4,ym,run_underlying hu,ye,yn,hK.check hT hfit,hf,hzr]
  rw[key];exact .same H (Ho AId)
 ·rename_i r hxe
  rw[hxe]at hx;cases hx with
  |@map _ p hp=>
   split at hr
   case h_2=>cases hr
   rename_i es c hes;obtain⟨es',hw,AGK⟩:=H.AGv hp (hE r hxe) hes;have AH5:=CI (P:=P) hw rfl;split at hr
   ·rename_i en hfe
    obtain⟨rfl,rfl⟩:=I7 hr;obtain⟨j,u',hfa,hu'⟩:=MZ hT hK hfit w 0 AGK hfe;have hf:=FY hkd hfa;have key:(AA4 t (.map (some p.blk)) (ix e) ok).run P w=.ok (if ok then .tuple #[u',.bool true]else u') w:=by
     simp only[AA4,ym,run_underlying hu,ye,yn,AH5,hK.check hT hfit,hf]
    rw[key];exact .same H (Ho hu')
   ·rename_i hfe
    obtain⟨rfl,rfl⟩:=I7 hr;have hfa:=MZ hT hK hfit w 0 AGK hfe;have hf:=FY hkd hfa;have key:(AA4 t (.map (some p.blk)) (ix e) ok).run P w=.ok (if ok then .tuple #[z,.bool false]else z) w:=by
     simp only[AA4,ym,run_underlying hu,ye,yn,AH5,hK.check hT hfit,hf,hzr]
    rw[key];exact .same H (Ho AId)
   ·cases hr
 ·cases hr
theorem M4(hT:DG P ty)(H:AFp ty φ E h w)(hE:∀ b,¬ E b){t kt el:Nat}{ti:TI}(T:AGD P t ti)(hk:ti.k=.map kt el){K:KS}(hK:AGm P ty kt K)
  {m key x:O}{m' key' x':IN}(hm:AFm φ (m e) m')(hkey:AFm φ (key e) key')(hx:AFm φ (x e) x')(hr:FM K m key x F e h=.ok v h'):
  Yz ty φ E h w v h' ((ACf t m' key' x').run P w):=by
 obtain⟨kd,hkd⟩:=hK.und hT;have hu:=Vj T hk;unfold FM at hr;simp only[BV]at hr;unfold L9 at hr;split at hr
 case h_2=>cases hr
 rename_i hfit;obtain⟨he,hkk⟩:=S4 hfit hkey;subst he;split at hr
 case h_2=>cases hr
 rename_i r hme;rw[hme]at hm;cases hm with
 |@map _ p hp=>
  split at hr
  case h_2=>cases hr
  rename_i es c hes;obtain⟨es',hw,AGK⟩:=H.AGv hp (hE r) hes;have AH5:=CI (P:=P) hw rfl;split at hr
  ·rename_i es2 hse
   obtain⟨j,u',en,hfa,hen,hek,AJP⟩:=L3 hT hK hfit hx hkk w 0 AGK hse;have hf:=FY hkd hfa;obtain⟨h1,hk1,H1,ev⟩:=IR (ob:=.map ⟨es'.modify (0+j) fun en=>{en with key:=key e,val:=x'}⟩ c) H (hE _) hp (Kx hes) hr (by rw[ID hes];exact .inr trivial) (.map (by rw[If];exact AJP));cases hk1;refine⟨rfl,_,?_,H1,ev⟩;have AJQ:(ADk (((⟨es'⟩:Array zn)[0+j]?.map (·.key)).getD (key e)) (key e)).run P w=.ok (key e) w:=by
    have:(⟨es'⟩:Array zn)[0+j]? =some en:=by rw[If];simpa using hen
    rw[this];simp only[AAG,Option.getD_some,hek];unfold ADk;rw[Xl hfit 9999];simp
   have AGJ:=Fo (P:=P) (ob':=.map ⟨es'.modify (0+j) fun en=>{en with key:=key e,val:=x'}⟩ c) hw rfl;simp only[ACf,ym,run_underlying hu,ye,AH5,hK.check hT hfit,hf,AJQ];rw[<- AGJ];congr 3;apply zz;simp
  ·rename_i hse
   have hfa:=L3 hT hK hfit hx hkk w 0 AGK hse;have hf:=FY hkd hfa;obtain⟨h1,hk1,H1,ev⟩:=IR (ob:=.map ⟨es'++[{key:=key e,val:=x',born:=c}]⟩ (c+1)) H (hE _) hp (Kx hes) hr (by rw[ID hes];exact .inr trivial) (.map (by rw[UI];exact AGi.append (.cons hkk hx .nil) AGK));cases hk1;refine⟨rfl,_,?_,H1,ev⟩;have AGJ:=Fo (P:=P) (ob':=.map ⟨es'++[{key:=key e,val:=x',born:=c}]⟩ (c+1)) hw rfl;simp only[ACf,ym,run_underlying hu,ye,AH5,hK.check hT hfit,hf];rw[<- AGJ];congr 2;simp
  ·cases hr
end
end
noncomputable section
open Go
section
variable {P:zp}{ty:TTy}{φ:Phi}{E:Nat->Prop}{h h':Hp}{w:zP}{F:AFi}{e:Env}{v:IN}{f:Fr}
theorem WP{op:Op}{x:zM}(hk:kd ty op=.r x)(hE:HP ty f e E op){y:O}(hy:cO f x=some y):∀ a,y e=.pointer (some a)->¬ E a.block:=by
 intro a ha;unfold HP at hE;rw[hk]at hE;exact hE y hy a.block (by rw[ha];rfl)
theorem L8{op:Op}{x:zM}(hk:kd ty op=.w x)(hE:HP ty f e E op):∀ b,¬ E b:=by
 unfold HP at hE;rw[hk]at hE;exact hE
theorem GJ{op:Op}(hk:kd ty op=.q)(hE:HP ty f e E op):∀ b,¬ E b:=by
 unfold HP at hE;rw[hk]at hE;exact hE
theorem Y5{args:List O}{x:O}(hs:args=[x]){l:List zM}{ρ:zM->IN}(ha:AF3 φ (vals e args) (l.map ρ)):∃ x',l.map ρ=[x']/\AFm φ (x e) x':=by
 subst hs;generalize l.map ρ=r at ha;cases ha with|cons h t=>cases t;exact⟨_,rfl,h⟩
theorem Pt{args:List O}{x y:O}(hs:args=[x,y]){l:List zM}{ρ:zM->IN}(ha:AF3 φ (vals e args) (l.map ρ)):∃ x' y',l.map ρ=[x',y']/\AFm φ (x e) x'/\AFm φ (y e) y':=by
 subst hs;generalize l.map ρ=r at ha;cases ha with|cons h t=>cases t with|cons h2 t=>cases t;exact⟨_,_,rfl,h,h2⟩
theorem ZK(hT:DG P ty)(H:AFp ty φ E h w){b:Builtin}{c:Call}(hc:c.callee=.builtin b){o:Oper}{a:Act}(ho:o.op=.call c){args:List O}
  (ha:AF3 φ (vals e args) (c.args.toList.map a.eval))(hE:(∀ b,¬ E b)\/b=.min\/b=.max\/(b=.len/\∀ x,args=[x]->∀ t ti,c.argTypes[0]? =some t->ty.get t=some ti->(∃ k q,ti.k=.map k q)->∀ r,x e=.map (some r)->¬ E r))
  (hr:KX ty b c.argTypes.toList args F e h=.ok v h'):FG P ty φ E h v h' o a w:=by
 have AJM:c.args.map a.eval=⟨c.args.toList.map a.eval⟩:=by apply zz;simp
 have AIO:∀ t l,c.argTypes.toList=t::l->c.argTypes[0]? =some t:=fun t l hl=>by rw[<- ADN,hl];rfl
 have AK1:∀ t t2 l,c.argTypes.toList=t::t2::l->c.argTypes[1]? =some t2:=fun t t2 l hl=>by rw[<- ADN,hl];rfl
 have hex:∀ s:Sem IN,(∀ cs,builtin b c.argTypes o.type cs ⟨c.args.toList.map a.eval⟩=(do pure (.value (<- s))))->∀ {vv:IN} {hh:Hp},Bq ty φ E h w vv hh (s.run P w)->FG P ty φ E h vv hh o a w:=by
  intro s hs vv hh hg;refine .AFj (s:=s) ?_ hg;unfold execOp;rw[ho];simp only[resolve,hc,AJM];exact hs _
 cases b with
 |len=>
  match args,ha,hE,hr with
  |[x],ha,hE,hr=>
   obtain⟨x',he,hx⟩:=Y5 rfl ha;cases hl:c.argTypes.toList with
   |nil=>rw[hl]at hr;cases hr
   |cons t l=>
    rw[hl]at hr;obtain⟨ti,hti,hr⟩:=Bm hr;have h0:=AIO t l hl;cases hk:ti.k with
    |slice el=>simp only[hk]at hr;exact hex _ (fun cs=>by rw[he];rfl) (bR H h0 (hT t ti hti) hk hx hr)
    |string=>simp only[hk]at hr;exact hex _ (fun cs=>by rw[he];rfl) (bU H h0 (hT t ti hti) hk hx hr)
    |map k q=>
     simp only[hk]at hr;exact(EY hr).elim
    |arr n el=>
     simp only[hk]at hr;refine hex (AAK c.argTypes o.type #[x']) (fun cs=>by rw[he];rfl) ?_;rw[iz h0 (hT t ti hti) hk];have:v=.int .i64 (.ofNat n)/\h'=h:=by
      unfold AQ kV at hr;rw[FA]at hr;cases hr;exact⟨rfl,rfl⟩
     obtain⟨rfl,rfl⟩:=this;exact .same H (.int _ _)
    |_=>simp only[hk]at hr;cases hr
  |[],_,_,hr=>cases hr
  |_::_::_,_,_,hr=>cases hr
 |cap=>
  match args,ha,hr with
  |[x],ha,hr=>
   obtain⟨x',he,hx⟩:=Y5 rfl ha;cases hl:c.argTypes.toList with
   |nil=>rw[hl]at hr;cases hr
   |cons t l=>
    rw[hl]at hr;obtain⟨ti,hti,hr⟩:=Bm hr;have h0:=AIO t l hl;cases hk:ti.k with
    |slice el=>simp only[hk]at hr;exact(EY hr).elim
    |_=>simp only[hk]at hr;cases hr
  |[],_,hr=>cases hr
  |_::_::_,_,hr=>cases hr
 |min=>
  match args,ha,hr with
  |[x,y],ha,hr=>
   obtain⟨x',y',he,hx,hy⟩:=Pt rfl ha;exact hex _ (fun cs=>by rw[he];rfl) (je (F:=F) H hx hy hr)
  |[],_,hr=>cases hr
  |[_],_,hr=>cases hr
  |_::_::_::_,_,hr=>cases hr
 |max=>
  match args,ha,hr with
  |[x,y],ha,hr=>
   obtain⟨x',y',he,hx,hy⟩:=Pt rfl ha;exact hex _ (fun cs=>by rw[he];rfl) (jc (F:=F) H hx hy hr)
  |[],_,hr=>cases hr
  |[_],_,hr=>cases hr
  |_::_::_::_,_,hr=>cases hr
 |copy=>
  have hE':∀ b,¬ E b:=by
   rcases hE with h|h|h|⟨h,_⟩
   ·exact h
   all_goals cases h
  match args,ha,hr with
  |[d,x],ha,hr=>
   obtain⟨d',x',he,hd,hx⟩:=Pt rfl ha;cases hl:c.argTypes.toList with
   |nil=>rw[hl]at hr;cases hr
   |cons t l=>
    rw[hl]at hr;obtain⟨ti,hti,hr⟩:=Bm hr;cases hk:ti.k with
    |slice el=>
     simp only[hk]at hr;obtain⟨ei,hei,hr⟩:=Bm hr;exact hex _ (fun cs=>by rw[he];rfl) (bL H hE' (AIO t l hl) (hT t ti hti) hk (hT el ei hei) hd hx hr)
    |_=>simp only[hk]at hr;cases hr
  |[],_,hr=>cases hr
  |[_],_,hr=>cases hr
  |_::_::_::_,_,hr=>cases hr
 |clear=>
  have hE':∀ b,¬ E b:=by
   rcases hE with h|h|h|⟨h,_⟩
   ·exact h
   all_goals cases h
  match args,ha,hr with
  |[x],ha,hr=>
   obtain⟨x',he,hx⟩:=Y5 rfl ha;cases hl:c.argTypes.toList with
   |nil=>rw[hl]at hr;cases hr
   |cons t l=>
    rw[hl]at hr;obtain⟨ti,hti,hr⟩:=Bm hr;cases hk:ti.k with
    |slice el=>
     simp only[hk]at hr;obtain⟨ei,hei,hr⟩:=Bm hr;obtain⟨hz,hr⟩:=Ik hr;exact hex _ (fun cs=>by rw[he];rfl) (YH H hE' (AIO t l hl) (hT t ti hti) hk (hT el ei hei) hz hx hr)
    |map k q=>
     simp only[hk]at hr;exact hex _ (fun cs=>by rw[he];rfl) (PL H hE' (AIO t l hl) (hT t ti hti) hx hr)
    |_=>simp only[hk]at hr;cases hr
  |[],_,hr=>cases hr
  |_::_::_,_,hr=>cases hr
 |append=>
  have hE':∀ b,¬ E b:=by
   rcases hE with h|h|h|⟨h,_⟩
   ·exact h
   all_goals cases h
  match args,ha,hr with
  |[s,x],ha,hr=>
   obtain⟨s',x',he,hs,hx⟩:=Pt rfl ha;cases hl:c.argTypes.toList with
   |nil=>rw[hl]at hr;cases hr
   |cons t l=>
    cases l with
    |nil=>rw[hl]at hr;cases hr
    |cons t2 l=>
     rw[hl]at hr;obtain⟨ti,hti,hr⟩:=Bm hr;obtain⟨xi,hxi,hr⟩:=Bm hr;have h0:=AIO t _ hl;have h1:=AK1 t t2 l hl;cases hk:ti.k with
     |slice en=>
      cases hk2:xi.k with
      |slice q=>
       simp only[hk,hk2]at hr;obtain⟨ei,hei,hr⟩:=Bm hr;cases hsz:ei.size with
       |zero=>simp only[hsz]at hr;cases hr
       |succ n=>
        simp only[hsz]at hr;obtain⟨hz,hr⟩:=Ik hr;have hs2:n.succ=ei.size:=hsz.symm;rw[hs2]at hr;exact hex _ (fun cs=>by rw[he];rfl) (Mx H hE' h0 h1 (hT t ti hti) hk (hT t2 xi hxi) (.inl ⟨q,hk2⟩) hei (hT en ei hei) (by omega) hz hs hx hr)
      |string=>
       simp only[hk,hk2]at hr;obtain⟨ei,hei,hr⟩:=Bm hr;cases hsz:ei.size with
       |zero=>simp only[hsz]at hr;cases hr
       |succ n=>
        simp only[hsz]at hr;obtain⟨hz,hr⟩:=Ik hr;have hs2:n.succ=ei.size:=hsz.symm;rw[hs2]at hr;exact hex _ (fun cs=>by rw[he];rfl) (Mx H hE' h0 h1 (hT t ti hti) hk (hT t2 xi hxi) (.inr hk2) hei (hT en ei hei) (by omega) hz hs hx hr)
      |int q=>
       simp only[hk,hk2]at hr;obtain⟨ei,hei,hr⟩:=Bm hr;cases hsz:ei.size with
       |zero=>simp only[hsz]at hr;cases hr
       |succ n=>
        simp only[hsz]at hr;obtain⟨hz,hr⟩:=Ik hr;have hs2:n.succ=ei.size:=hsz.symm;rw[hs2]at hr;exact hex _ (fun cs=>by rw[he];rfl) (RA H hE' h0 h1 (hT t ti hti) hk (hT t2 xi hxi) hk2 hei (hT en ei hei) (by omega) hz hs hx hr)
      |_=>simp only[hk,hk2]at hr;cases hr
     |_=>simp only[hk]at hr;cases hr
  |[],_,hr=>cases hr
  |[_],_,hr=>cases hr
  |_::_::_::_,_,hr=>cases hr
 |delete=>
  have hE':∀ b,¬ E b:=by
   rcases hE with h|h|h|⟨h,_⟩
   ·exact h
   all_goals cases h
  match args,ha,hr with
  |[m,key],ha,hr=>
   obtain⟨m',key',he,hm,hkey⟩:=Pt rfl ha;cases hl:c.argTypes.toList with
   |nil=>rw[hl]at hr;cases hr
   |cons t l=>
    rw[hl]at hr;obtain⟨ti,kt,el,K,hti,hk,hK,hr⟩:=MA (P:=P) (k:=fun _=>oNo) hr;exact(EY hr).elim
  |[],_,hr=>cases hr
  |[_],_,hr=>cases hr
  |_::_::_::_,_,hr=>cases hr
 |_=>cases hr
theorem sk(hT:DG P ty)(hF:Db P ty F)(H:AFp ty φ E h w){o:Oper}{a:Act}(hst:lK φ f e a.eval o.op)(hE:HP ty f e E o.op)(hr:opC ty f o.op F e h=.ok v h'):
  FG P ty φ E h v h' o a w:=by
 cases ho:o.op with
 |move x=>
  rw[ho]at hr hst;obtain⟨x',hx',hr⟩:=DQ hr;exact .AFj (s:=pure (a.eval x)) (by unfold execOp;rw[ho];rfl) (RE H (hst x (by simp[zA]) x' hx') hr)
 |assign x=>
  rw[ho]at hr hst;obtain⟨x',hx',hr⟩:=DQ hr;exact .AFj (s:=pure (a.eval x)) (by unfold execOp;rw[ho];rfl) (RE H (hst x (by simp[zA]) x' hx') hr)
 |pick c x y=>
  rw[ho]at hr hst;obtain⟨c',hc',hr⟩:=DQ hr;obtain⟨x',y',hx',hy',hr⟩:=KF hr;refine .AFj (s:=(do pure (if <- asBool (a.eval c)then a.eval x else a.eval y))) ?_ (bY H (hst c (by simp[zA]) c' hc') (hst x (by simp[zA]) x' hx') (hst y (by simp[zA]) y' hy') hr);unfold execOp;rw[ho];simp
 |alloc t=>
  rw[ho]at hr hst;obtain⟨ti,hti,hr⟩:=Bm hr;obtain⟨hz,hr⟩:=Ik hr;cases hc:Bt .mt 0 ti.zero with
  |none=>rw[hc]at hr;cases hr
  |some c=>
   rw[hc]at hr;exact .AFj (by unfold execOp;rw[ho]) (YD H (hT t ti hti) hz hc hr)
 |box t x=>
  rw[ho]at hr hst;obtain⟨x',hx',hr⟩:=DQ hr;exact .AFj (by unfold execOp;rw[ho]) (jS H (hst x (by simp[zA]) x' hx') hr)
 |build t parts=>
  rw[ho]at hr hst;obtain⟨ti,hti,hr⟩:=Bm hr;obtain⟨hz,hr⟩:=Ik hr;have hps:∀ p∈parts.toList,∀ y,cO f p.2=some y->AFm φ (y e) (a.eval p.2):=fun p hp=>hst p.2 (by simp only[zA,zq];exact⟨p,hp,rfl⟩)
  cases hk:ti.k with
  |struct fs=>
   simp only[hk]at hr;cases hp:Gy f (NA fs) parts.toList with
   |none=>rw[hp]at hr;cases hr
   |some ps=>
    rw[hp]at hr;exact .AFj (by unfold execOp;rw[ho]) (TQ H (hT t ti hti) hk hz (ps':=parts.map fun (i,x)=>(i,a.eval x)) (by simpa using Jx (ρ:=a.eval) hp hps) hr)
  |arr n el=>
   simp only[hk]at hr;obtain⟨ei,hei,hr⟩:=Bm hr;cases hp:Gy f (fun i=>some (zi i ei.size,ei.size)) parts.toList with
   |none=>rw[hp]at hr;cases hr
   |some ps=>
    rw[hp]at hr;exact .AFj (by unfold execOp;rw[ho]) (TP H (hT t ti hti) hk (hT el ei hei) hz (ps':=parts.map fun (i,x)=>(i,a.eval x)) (by simpa using Jx (ρ:=a.eval) hp hps) hr)
  |_=>simp only[hk]at hr;cases hr
 |buildSlice t len parts=>
  rw[ho]at hr hst;obtain⟨ti,hti,hr⟩:=Bm hr;have hps:∀ p∈parts.toList,∀ y,cO f p.2=some y->AFm φ (y e) (a.eval p.2):=fun p hp=>hst p.2 (by simp only[zA,zq];exact⟨p,hp,rfl⟩)
  cases hk:ti.k with
  |slice el=>
   simp only[hk]at hr;obtain⟨ei,hei,hr⟩:=Bm hr;obtain⟨hz,hr⟩:=Ik hr;cases hp:Gy f (fun i=>some (zi i ei.size,ei.size)) parts.toList with
   |none=>rw[hp]at hr;cases hr
   |some ps=>
    rw[hp]at hr;simp only at hr;cases hb:yl (zi len ei.size) 16777216 with
    |false=>rw[hb]at hr;cases hr
    |true=>
     rw[hb]at hr;exact .AFj (by unfold execOp;rw[ho]) (My H (hT t ti hti) hk (hT el ei hei) hz (Av.1 hb) (ps':=parts.map fun (i,x)=>(i,a.eval x)) (by simpa using Jx (ρ:=a.eval) hp hps) hr)
  |_=>simp only[hk]at hr;cases hr
 |load t x=>
  rw[ho]at hr hst hE;obtain⟨ti,hti,hr⟩:=Bm hr;obtain⟨x',hx',hr⟩:=DQ hr;have hx:=hst x (by simp[zA]) x' hx';cases hk:ti.k.agg with
  |true=>rw[hk]at hr;exact .AFj (by unfold execOp;rw[ho]) (YO H (hT t ti hti) hk hx (WP rfl hE hx') hr)
  |false=>rw[hk]at hr;exact .AFj (by unfold execOp;rw[ho]) (YM H (hT t ti hti) hk hx (WP rfl hE hx') hr)
 |store t x y=>
  rw[ho]at hr hst hE;obtain⟨ti,hti,hr⟩:=Bm hr;obtain⟨x',y',hx',hy',hr⟩:=KF hr;exact .AG7 (by unfold execOp;rw[ho]) (YT H (hT t ti hti) (hst x (by simp[zA]) x' hx') (hst y (by simp[zA]) y' hy') (fun a _=>L8 (x:=x) rfl hE _) hr)
 |nilCheck x=>
  rw[ho]at hr hst;obtain⟨x',hx',hr⟩:=DQ hr;obtain⟨hv,rfl,hne⟩:=jg H (hst x (by simp[zA]) x' hx') hr;refine .AFj (s:=pure (a.eval x)) ?_ (.same H hv);unfold execOp;rw[ho];obtain⟨h1,h2,h3,h4⟩:=hne;simp only;generalize a.eval x=z at h1 h2 h3 h4 ⊢;cases z<;>first|rfl|(exact absurd rfl h2)|(exact absurd rfl h3)|skip
 |binOp op t x y yt=>rw[ho]at hr hst;exact oh hT H ho (by rw[ho];exact hst) hr
 |unOp op t x=>
  rw[ho]at hr hst;obtain⟨ti,hti,hr⟩:=Bm hr;obtain⟨x',hx',hr⟩:=DQ hr;have hx:=hst x (by simp[zA]) x' hx';have hex:execOp a.eval o=(do pure (.value (<- Op.unary op (a.eval x)))):=by unfold execOp;rw[ho]
  cases op with
  |not=>exact .AFj hex (ji H hx (by revert hr;cases ti.k<;>exact id))
  |neg=>
   cases hk:ti.k with
   |int k=>simp only[hk]at hr;exact(EY hr).elim
   |_=>simp only[hk]at hr;cases hr
  |plus=>revert hr;cases ti.k<;>intro hr<;>cases hr
  |xor=>
   cases hk:ti.k with
   |int k=>cases k<;>simp only[hk]at hr<;>first|cases hr;done|exact(EY hr).elim
   |_=>simp only[hk]at hr;cases hr
 |fieldAddr t x i=>
  rw[ho]at hr hst;obtain⟨ti,hti,hr⟩:=Bm hr;obtain⟨x',hx',hr⟩:=DQ hr;have hx:=hst x (by simp[zA]) x' hx';cases hk:ti.k with
  |struct fs=>
   simp only[hk]at hr;cases hn:nth fs i with
   |none=>rw[hn]at hr;cases hr
   |some q=>
    obtain⟨off,s,ft⟩:=q;rw[hn]at hr;cases s with
    |zero=>cases hr
    |succ s=>exact .AFj (by unfold execOp;rw[ho]) (Nc H (hT t ti hti) hk hn hx hr)
  |_=>simp only[hk]at hr;cases hr
 |field t x i=>
  rw[ho]at hr hst;obtain⟨ti,hti,hr⟩:=Bm hr;obtain⟨x',hx',hr⟩:=DQ hr;have hx:=hst x (by simp[zA]) x' hx';cases hk:ti.k with
  |struct fs=>
   simp only[hk]at hr;cases hn:nth fs i with
   |none=>rw[hn]at hr;cases hr
   |some q=>
    obtain⟨off,s,ft⟩:=q;rw[hn]at hr;obtain⟨fi,hfi,hr⟩:=Bm hr;exact(EY hr).elim
  |_=>simp only[hk]at hr;cases hr
 |indexAddr t x ix=>
  rw[ho]at hr hst;obtain⟨ti,hti,hr⟩:=Bm hr;obtain⟨x',y',hx',hy',hr⟩:=KF hr;have hx:=hst x (by simp[zA]) x' hx';have hy:=hst ix (by simp[zA]) y' hy';cases hk:ti.k with
  |arr n el=>
   simp only[hk]at hr;obtain⟨ei,hei,hr⟩:=Bm hr;exact .AFj (by unfold execOp;rw[ho]) (TW H (hT t ti hti) hk (hT el ei hei) hx hy hr)
  |slice el=>
   simp only[hk]at hr;obtain⟨ei,hei,hr⟩:=Bm hr;exact .AFj (by unfold execOp;rw[ho]) (jZ H (hT t ti hti) hk (hT el ei hei) hx hy hr)
  |_=>simp only[hk]at hr;cases hr
 |index t x ix=>
  rw[ho]at hr hst;obtain⟨ti,hti,hr⟩:=Bm hr;obtain⟨x',y',hx',hy',hr⟩:=KF hr;have hx:=hst x (by simp[zA]) x' hx';have hy:=hst ix (by simp[zA]) y' hy';cases hk:ti.k with
  |arr n el=>
   simp only[hk]at hr;obtain⟨ei,hei,hr⟩:=Bm hr;exact(EY hr).elim
  |string=>
   simp only[hk]at hr;exact .AFj (by unfold execOp;rw[ho]) (YF H (hT t ti hti) hk hx hy hr)
  |_=>simp only[hk]at hr;cases hr
 |extract x i=>
  rw[ho]at hr hst;obtain⟨x',hx',hr⟩:=DQ hr;exact .AFj (by unfold execOp;rw[ho]) (RD H (hst x (by simp[zA]) x' hx') hr)
 |makeInterface t x=>
  rw[ho]at hr hst;obtain⟨ti,hti,hr⟩:=Bm hr;obtain⟨x',hx',hr⟩:=DQ hr;have hx:=hst x (by simp[zA]) x' hx';have hne:ti.k≠.iface:=by intro hk;rw[hk]at hr;cases hr
  have hr':M0 t x' F e h=.ok v h':=by revert hr hne;cases ti.k<;>intro hr hne<;>first|exact hr|exact absurd rfl hne
  exact .AFj (by unfold execOp;rw[ho]) (YK H (hT t ti hti) hne hx hr')
 |makeFunc fn first cap=>
  rw[ho]at hr hst;simp only[opC]at hr;cases h1:cOs f first.toList with
  |none=>simp only[h1]at hr;cases hr
  |some fs=>
   cases h2:cOs f cap.toList with
   |none=>simp only[h1,h2]at hr;cases hr
   |some cs=>
    simp only[h1,h2]at hr;refine .AFj (s:=Instr.makeFunc fn (first.map a.eval) (cap.map a.eval)) (by unfold execOp;rw[ho]) ?_;have e1:first.map a.eval=⟨first.toList.map a.eval⟩:=by apply zz;simp
    have e2:cap.map a.eval=⟨cap.toList.map a.eval⟩:=by apply zz;simp
    rw[e1,e2];exact bO H (Ol h1 fun x hx=>hst x (by simp[zA]at hx ⊢;exact .inl hx)) (Ol h2 fun x hx=>hst x (by simp[zA]at hx ⊢;exact .inr hx)) hr
 |makeMap t r=>
  rw[ho]at hr hst;cases r with
  |some _=>cases hr
  |none=>exact .AFj (by unfold execOp;rw[ho];rfl) (ja (F:=F) (e:=e) H (t:=t) hr)
 |makeSlice t l c=>
  rw[ho]at hr hst;obtain⟨ti,hti,hr⟩:=Bm hr;cases hk:ti.k with
  |slice el=>
   simp only[hk]at hr;obtain⟨ei,hei,hr⟩:=Bm hr;obtain⟨hz,hr⟩:=Ik hr;obtain⟨l',c',hl',hc',hr⟩:=KF hr;exact .AFj (by unfold execOp;rw[ho]) (bV H (hT t ti hti) hk (hT el ei hei) hz (hst l (by simp[zA]) l' hl') (hst c (by simp[zA]) c' hc') hr)
  |_=>simp only[hk]at hr;cases hr
 |sliceToArrayPointer t x=>
  rw[ho]at hr hst;obtain⟨ti,hti,hr⟩:=Bm hr;cases hk:ti.k with
  |arr n el=>
   simp only[hk]at hr;cases n with
   |zero=>cases hr
   |succ n=>
    obtain⟨x',hx',hr⟩:=DQ hr;exact .AFj (by unfold execOp;rw[ho]) (jO H (hT t ti hti) hk (ABz _) (hst x (by simp[zA]) x' hx') hr)
  |_=>simp only[hk]at hr;cases hr
 |slice t x lo hi mx=>
  rw[ho]at hr hst;obtain⟨ti,hti,hr⟩:=Bm hr;obtain⟨x',hx',hr⟩:=DQ hr;have hx:=hst x (by simp[zA]) x' hx';cases h1:cOo f lo with
  |none=>simp only[h1]at hr;cases hr
  |some lo'=>
   cases h2:cOo f hi with
   |none=>simp only[h1,h2]at hr;cases hr
   |some hi'=>
    cases h3:cOo f mx with
    |none=>simp only[h1,h2,h3]at hr;cases hr
    |some mx'=>
     simp only[h1,h2,h3]at hr;have r1:AHH φ e lo' (lo.map a.eval):=Sk h1 fun z hz=>hst z (by rw[hz];simp[zA])
     have r2:AHH φ e hi' (hi.map a.eval):=Sk h2 fun z hz=>hst z (by rw[hz];simp[zA])
     have r3:AHH φ e mx' (mx.map a.eval):=Sk h3 fun z hz=>hst z (by rw[hz];simp[zA])
     cases hk:ti.k with
     |string=>
      simp only[hk]at hr;cases mx' with
      |some _=>cases hr
      |none=>
       have AHG:oNo F e h=.ok v h':=hr;have hmx:mx=none:=by
        cases mx with
        |none=>rfl
        |some z=>cases r3
       subst hmx;exact(EY AHG).elim
     |slice el=>
      simp only[hk]at hr;obtain⟨ei,hei,hr⟩:=Bm hr;exact .AFj (by unfold execOp;rw[ho]) (jV H (hT t ti hti) hk hei (hT el ei hei) hx r1 r2 r3 hr)
     |arr n el=>
      simp only[hk]at hr;obtain⟨ei,hei,hr⟩:=Bm hr;exact .AFj (by unfold execOp;rw[ho]) (TU H (hT t ti hti) hk (hT el ei hei) hx r1 r2 r3 hr)
     |_=>simp only[hk]at hr;cases hr
 |convert src dst x=>
  rw[ho]at hr hst hE;obtain⟨si,hsi,hr⟩:=Bm hr;obtain⟨di,hdi,hr⟩:=Bm hr;obtain⟨x',hx',hr⟩:=DQ hr;have hx:=hst x (by simp[zA]) x' hx';have hex:execOp a.eval o=(do pure (.value (<- convert src dst (a.eval x)))):=by unfold execOp;rw[ho]
  obtain⟨ds,hds,ks⟩:=(hT src si hsi).und;obtain⟨dd,hdd,kd⟩:=(hT dst di hdi).und;cases hk:di.k with
  |int k=>
   cases hk2:si.k with
   |int k2=>
    simp only[hk,hk2]at hr;obtain⟨q,n,hxe,hg⟩:=bK (P:=P) H hx hr;rw[hk]at kd;cases kd;rw[hk2]at ks;cases ks;refine .AFj hex ?_;rw[hxe];have:(convert src dst (.int q n)).run P w=(Conv.intToInt k n).run P w:=by
     simp only[convert,ym,run_underlying hds,run_underlying hdd,ye]
    rw[this];exact hg
   |_=>simp only[hk,hk2]at hr;cases hr
  |string=>
   cases hk2:si.k with
   |string=>
    simp only[hk,hk2]at hr;exact(EY hr).elim
   |slice el=>
    simp only[hk,hk2]at hr;obtain⟨ei,hei,hr⟩:=Bm hr;cases hk3:ei.k with
    |int k3=>
     cases k3<;>simp only[hk3]at hr<;>first|(cases hr;done)|skip
     refine .AFj hex (YV H (fun a l c hxe=>?_) (hT src si hsi) hk2 (hT dst di hdi) hk (hT el ei hei) hk3 hx hr);cases hb:yu src dst with
     |true=>exact GJ (by simp only[Go.Proofs.YtbjadbhkogcfeaaGreat.kd,hb]) hE _
     |false=>
      have hi:Mm ty src=false:=by unfold Mm;rw[hsi];simp only[hk2]
      have hi2:Hh ty dst=false:=by unfold Hh;rw[hdi];simp only[hk]
      have hkd:Go.Proofs.YtbjadbhkogcfeaaGreat.kd ty (.convert src dst x)=.r x:=by simp only[Go.Proofs.YtbjadbhkogcfeaaGreat.kd,hb,hi,hi2]
      unfold HP at hE;rw[hkd]at hE;exact hE x' hx' _ (by rw[hxe];rfl)
    |_=>simp only[hk3]at hr;cases hr
   |_=>simp only[hk,hk2]at hr;cases hr
  |slice el=>
   cases hk2:si.k with
   |string=>
    simp only[hk,hk2]at hr;obtain⟨ei,hei,hr⟩:=Bm hr;cases hk3:ei.k with
    |int k3=>
     cases k3<;>simp only[hk3]at hr<;>first|(cases hr;done)|skip
     cases hb:yu ei.size 1 with
     |false=>rw[hb]at hr;cases hr
     |true=>
      rw[hb]at hr;exact .AFj hex (RG H (hT src si hsi) hk2 (hT dst di hdi) hk (hT el ei hei) hk3 hei (Ay.1 hb) hx hr)
    |_=>simp only[hk3]at hr;cases hr
   |slice el2=>
    simp only[hk,hk2]at hr;cases hb:yu src dst with
    |false=>rw[hb]at hr;cases hr
    |true=>
     rw[hb]at hr;have heq:src=dst:=Ay.1 hb;have hE':=GJ (by simp only[Go.Proofs.YtbjadbhkogcfeaaGreat.kd,hb]) hE;obtain⟨ei,hei,hr⟩:=Bm hr;cases hk3:ei.k with
     |int k3=>
      cases k3<;>simp only[hk3]at hr<;>first|(cases hr;done)|skip
      have hg:=YG (P:=P) H hE' (hT dst di hdi) hk (hT el ei hei) hk3 hx hr;rw[heq]at hex;exact .AFj hex hg
     |_=>simp only[hk3]at hr;cases hr
   |_=>simp only[hk,hk2]at hr;cases hr
  |_=>simp only[hk]at hr;cases hr
 |call c=>
  rw[ho]at hr hst hE;simp only[opC]at hr;cases h1:cOs f c.args.toList with
  |none=>simp only[h1]at hr;cases hr
  |some args=>
   simp only[h1]at hr;have ha:AF3 φ (vals e args) (c.args.toList.map a.eval):=Ol h1 fun x hx=>hst x (by
    unfold zA ACI;cases hc:c.callee<;>simp[hc]<;>first|exact Or.inr (by simpa using hx)|exact(by simpa using hx))
   cases hc:c.callee with
   |builtin b=>
    simp only[hc]at hr;refine ZK hT H hc ho ha ?_ hr;cases b with
    |len=>
     refine .inr (.inr (.inr ⟨rfl,fun x hx t ti ht hti hm r hxr=>?_⟩));subst hx;cases hl:c.args.toList with
     |nil=>rw[hl]at h1;cases h1
     |cons x0 l=>
      cases l with
      |cons x1 l=>
       rw[hl]at h1;unfold cOs at h1;cases hx0:cO f x0 with
       |none=>rw[hx0]at h1;cases h1
       |some y0=>
        rw[hx0]at h1;cases hx1:cOs f (x1::l)with
        |none=>rw[hx1]at h1;cases h1
        |some ys=>
         rw[hx1]at h1;cases h1;unfold cOs at hx1;cases hq:cO f x1 with
         |none=>rw[hq]at hx1;cases hx1
         |some y1=>
          rw[hq]at hx1;cases hq2:cOs f l with
          |none=>rw[hq2]at hx1;cases hx1
          |some ys=>rw[hq2]at hx1;cases hx1
      |nil=>
       rw[hl]at h1;have hx0:cO f x0=some x:=by
        unfold cOs at h1;cases hx0:cO f x0 with
        |none=>rw[hx0]at h1;cases h1
        |some y0=>rw[hx0]at h1;cases h1;rfl
       obtain⟨k,q,hm⟩:=hm;have hmap:S9 ty (c.argTypes.getD 0 0)=true:=by
        have:c.argTypes.getD 0 0=t:=by rw[Array.getD_eq_getD_getElem?,ht];rfl
        rw[this];unfold S9;rw[hti];simp only[hm]
       have hk:kd ty (.call c)=.r x0:=by simp only[kd,hc,hl,hmap]
       unfold HP at hE;rw[hk]at hE;exact hE x hx0 r (by rw[hxr];rfl)
    |min=>exact .inr (.inl rfl)
    |max=>exact .inr (.inr (.inl rfl))
    |_=>
     refine .inl ?_;cases hl:c.args.toList with
     |nil=>exact GJ (by simp only[kd,hc,hl]) hE
     |cons x l=>exact L8 (x:=x) (by simp only[kd,hc,hl]) hE
   |value g=>
    simp only[hc]at hr;have hE':∀ b,¬ E b:=GJ (by simp only[kd,hc]) hE;cases g with
    |func g=>exact bH hF H hE' hc ho ha hr
    |tmp t=>
     obtain⟨g',hg',hr⟩:=DQ hr;exact Kz hF H hE' hc ho (hst (.tmp t) (by unfold zA ACI;simp[hc]) g' hg') ha hr
    |const t=>
     obtain⟨g',hg',hr⟩:=DQ hr;exact Kz hF H hE' hc ho (hst (.const t) (by unfold zA ACI;simp[hc]) g' hg') ha hr
    |global t=>
     obtain⟨g',hg',hr⟩:=DQ hr;exact Kz hF H hE' hc ho (hst (.global t) (by unfold zA ACI;simp[hc]) g' hg') ha hr
   |invoke recv name=>
    simp only[hc]at hr;have hE':∀ b,¬ E b:=GJ (by simp only[kd,hc]) hE;obtain⟨x',hx',hr⟩:=DQ hr;exact(EY hr).elim
 |lookup t x ix ok=>
  rw[ho]at hr hst hE;obtain⟨ti,hti,hr⟩:=Bm hr;obtain⟨x',ix',hx',AK2,hr⟩:=KF hr;cases hk:ti.k with
  |map kt el=>
   simp only[hk]at hr;obtain⟨ei,hei,hr⟩:=Bm hr;obtain⟨hz,hr⟩:=Ik hr;unfold wZero at hr;cases hzv:zeroV ei with
   |none=>rw[hzv]at hr;cases hr
   |some z=>
    rw[hzv]at hr;obtain⟨ti2,kt2,el2,K,AKC,hk2,hK,hr⟩:=MA hr;rw[hti]at AKC;cases AKC;rw[hk]at hk2;cases hk2;refine .AFj (by unfold execOp;rw[ho]) (TZ hT H (hT t ti hti) hk (hT el ei hei) hz hzv hK (hst x (by simp[zA]) x' hx') (hst ix (by simp[zA]) ix' AK2) (fun r hxr=>?_) hr);have hkd:kd ty (.lookup t x ix ok)=.r x:=rfl;unfold HP at hE;rw[hkd]at hE;exact hE x' hx' r (by rw[hxr];rfl)
  |_=>simp only[hk]at hr;cases hr
 |mapUpdate t m k x=>
  rw[ho]at hr hst hE;obtain⟨ti,kt,el,K,hti,hk,hK,hr⟩:=MA (k:=fun ks=>w1 f m fun m=>w2 f k x fun key x=>FM ks m key x) hr;obtain⟨m',hm',hr⟩:=DQ hr;obtain⟨k',x',hk',hx',hr⟩:=KF hr;exact .AG7 (by unfold execOp;rw[ho]) (M4 hT H (L8 (x:=m) rfl hE) (hT t ti hti) hk hK (hst m (by simp[zA]) m' hm') (hst k (by simp[zA]) k' hk') (hst x (by simp[zA]) x' hx') hr)
 |insert t m k x=>
  rw[ho]at hr hst hE;obtain⟨ti,kt,el,K,hti,hk,hK,hr⟩:=MA (k:=fun ks=>w1 f m fun m=>w2 f k x fun key x=>FM ks m key x) hr;obtain⟨m',hm',hr⟩:=DQ hr;obtain⟨k',x',hk',hx',hr⟩:=KF hr;exact .AG7 (by unfold execOp;rw[ho]) (M4 hT H (L8 (x:=m) rfl hE) (hT t ti hti) hk hK (hst m (by simp[zA]) m' hm') (hst k (by simp[zA]) k' hk') (hst x (by simp[zA]) x' hx') hr)
 |range t x=>
  rw[ho]at hr hst hE;obtain⟨ti,hti,hr⟩:=Bm hr;cases hk:ti.k with
  |map k q=>
   simp only[hk]at hr;obtain⟨x',hx',hr⟩:=DQ hr;exact .AFj (by unfold execOp;rw[ho]) (YS H (GJ rfl hE) (hT t ti hti) hk (hst x (by simp[zA]) x' hx') hr)
  |_=>simp only[hk]at hr;cases hr
 |next x s=>
  rw[ho]at hr hst hE;cases s with
  |true=>cases hr
  |false=>
   obtain⟨x',hx',hr⟩:=DQ hr;exact .AFj (by unfold execOp;rw[ho]) (bW (t:=o.type) H (GJ rfl hE) (hst x (by simp[zA]) x' hx') hr)
 |entry x=>
  rw[ho]at hr hst hE;obtain⟨x',hx',hr⟩:=DQ hr;exact .AFj (by unfold execOp;rw[ho]) (YI H (GJ rfl hE) (hst x (by simp[zA]) x' hx') hr)
 |typeAssert x xt t ok=>
  rw[ho]at hr hst hE;obtain⟨ti,hti,hr⟩:=Bm hr;obtain⟨x',hx',hr⟩:=DQ hr;have hr2:ti.k≠.iface/\wZ ti (wZero ti fun z=>oNo) F e h=.ok v h':=by
   cases hk:ti.k with
   |iface=>simp only[hk]at hr;cases hr
   |_=>simp only[hk]at hr;exact⟨nofun,hr⟩
  obtain⟨hki,hr⟩:=hr2;obtain⟨hz,hr⟩:=Ik hr;unfold wZero at hr;cases hzv:zeroV ti with
  |none=>rw[hzv]at hr;cases hr
  |some z=>
   rw[hzv]at hr;exact(EY hr).elim
 |_=>rw[ho]at hr;cases hr
end
end
end Go.Proofs.YtbjadbhkogcfeaaGreat

/-
  Part ZD of what Lawnr stands on: printed by program, names and spaces cut.
-/
import Derived.Test.YtbjadbhkogcfeaaGreatZC
import Derived.Laws.BytesString
import Derived.DeepKeys3
open Go renaming Value→IN,Operand→yN,World→yQ,TypeId→ya,MapEntry→yn,Program→yw,TypeDesc→AB6,BinOp→ADW
open Nat renaming le_refl→IT,zero_add→If,ble→xd,beq→xr,mul→yl,beq_refl→zU,succ_mul→AAk,succ_pos→AA4,one_ne_zero→ABv
open Go.Result renaming andThen_ok→xU
open Go.Sem renaming run_bind→xh,run_pure→xk
open List renaming mem_cons→xz,getElem?_toArray→yO,getElem?_cons_zero→yW,mem_map→yz,range→zB,filter_cons→AAu,map_cons→AAx,all_cons→ABi,drop_drop→AB2,map_map→ACv,map_flatten→AC3,cons→ADB
open Bool renaming and_eq_true→yA,false_eq_true→yT,and_true→ADV
open Go.Op renaming operands→yC,equalIn→ABA,equal→ABu
open Go.Instr renaming findAsking→yV,next→zd,lookup→AAK,sameBits→AA8,range→ABC,mapUpdate→ABm,entry→ABn,sameNow→AB8,findNow→AB9,findKey→ACA,keyThatStays→ACk
open Go.Value renaming int→ye,formed→ADO
open Go.Builtin renaming firstCells→yf,clear_→zD,len_→zQ
open Array renaming ext'→zF,getElem?_setIfInBounds→zP,all_eq_true_iff_forall_mem→zY,mem_toList_iff→zc,getElem?_modify→AAQ,toList_filter→ABT,getElem?_toList→ACO,getElem?_push→ACf,replicate→AC7
open Option renaming map_some→zG
open Go.Program renaming keyTypeAt→AAF,keyLits→AAS,eqGuardType→AA2
open UInt8 renaming ofNat→AAR
open Go.Question renaming forced→AAq
open Go.Call renaming operands→ABS
open Go.World renaming shape?→ACG,freeze→ACH
open Go.Deferred renaming ofValue→ACc
open ByteArray renaming empty→ACd
open Go.IntKind renaming signed→ACx,bits→ADC,min→ADJ,max→ADK
open Go.Oper renaming wp→ADh
open Ne renaming symm→AD0
set_option linter.unusedSimpArgs false
set_option linter.unusedVariables false
namespace Go.Proofs.YtbjadbhkogcfeaaGreat
noncomputable section
open Go
section
variable {P:yw}{ty:TTy}{φ:Phi}{E:Nat->Prop}{h h':Hp}{w:yQ}{F:AEA}{e:Env}{v:IN}
theorem Lu:∀ {cs cs':List IN} {bs:List UInt8},AEV φ cs cs'->Er cs=some bs->
  ∃ ns:List Int,cs'=ns.map (ye .u8)/\∀ s:ByteArray,(ns.foldl (fun r n=>r.push (AAR n.toNat)) s).data.toList=s.data.toList++bs
 |_,_,bs,.nil,hb=>by
  cases hb;exact⟨[],rfl,fun s=>by simp⟩
 |_,_,bs,.cons (v:=u) (v':=u') (l:=l) (l':=l') hu t,hb=>by
  unfold Er at hb;split at hb
  ·cases ‹_::_=[]›
  ·rename_i n l2 heq
   injection heq with h1 h2
   subst h1;subst h2;split at hb
   ·rename_i bs' hbs
    rw[Ap]at hb;cases hb;obtain⟨ns,hns,hf⟩:=Lu t hbs;have:=hu.AEm;subst this;refine⟨(n:Int)::ns,by rw[hns];rfl,fun s=>?_⟩;rw[List.foldl_cons,hf];simp
   ·cases hb
  ·cases hb
theorem Xx(H:AEI ty φ E h w){x:O}(hE:∀ a l c,x e=.slice (some a) l c->¬ E a.block){x':IN}{src dst el:ya}{si di ei:TI}(TS:AEg P src si)(hs:si.k=.slice el)(TD:AEg P dst di)(hd:di.k=.string)(TE:AEg P el ei)(he:ei.k=.int .u8)
  (hx:AEE φ (x e) x')(hr:FX x F e h=.ok v h'):Bp ty φ E h w v h' ((convert src dst x').run P w):=by
 obtain⟨d1,h1,k1⟩:=TS.und;obtain⟨d2,h2,k2⟩:=TD.und;obtain⟨d3,h3,k3⟩:=TE.und;rw[hs]at k1;cases k1;rw[hd]at k2;cases k2;rw[he]at k3;cases k3;unfold FX at hr;split at hr
 case h_3=>cases hr
 case h_2=>
  rename_i r hxe;rw[hxe]at hx;cases r with
  |none=>cases hr
  |some r=>
   cases hr;cases hx;rw[run_convert_bytes_string w src dst el (some _) 0 0 h1 h3 h2,run_bytesToString w _ 0 0 [] rfl];exact .same H (.string _)
 rename_i a n c hxe;rw[hxe]at hx;have hx0:=hx;obtain⟨cs,cs',hr,hcs,hrun,hl1,hl2,_⟩:=F6 (P:=P) H (fun a l c heq=>by cases heq;exact hE _ _ _ hxe) hx hr (fun m hm=>by cases hm;exact IT _);split at hr
 case h_2=>cases hr
 rename_i bs hbs;cases hr;obtain⟨ns,hns,hf⟩:=Lu hcs hbs;have AG5:=hf ACd;have AIi:=L9 (a:=ns.foldl (fun r n=>r.push (AAR n.toNat)) ACd) (l:=bs) (by rw[AG5];rfl);cases hx with
 |AE0=>
  rw[run_convert_bytes_string w src dst el none 0 0 h1 h3 h2];have:=hrun w rfl;simp only[yf,xk]at this;have AGr:cs'=[]:=by cases this;rfl
  have AJV:ns=[]:=by
   rw[AGr]at hns;cases ns with
   |nil=>rfl
   |cons _ _=>cases hns
  subst AJV;rw[<- AIi];exact .same H (.string _)
 |@slice _ a' _ _ c' hlc hsl=>
  rw[run_convert_bytes_string w src dst el (some a') n c' h1 h3 h2];have hld:(loadCells a' n).run P w=.ok (ns.map (ye .u8)).toArray w:=by
   have:=hrun w rfl;rw[hns]at this;simp only[yf,Nat.mul_one]at this;exact this
  rw[run_bytesToString w a' n c' ns hld,AIi];exact .same H (.string _)
theorem Ql(A:Array Obj)(x:Obj)(f:Obj->Obj):(A.push x).modify A.size f=A.push (f x):=by
 apply Array.ext_getElem?;intro i;rw[AAQ,ACf,ACf];by_cases hi:i=A.size
 ·subst hi;simp
 ·rw[if_neg (AD0 hi),if_neg hi,if_neg hi]
theorem Z3(w:yQ)(A:Array IN)(el:ya):(markStringish ⟨w.heap.size,0,none⟩).run P {w with heap:=w.heap.push (.cells A el)}=
  .ok () {w with heap:=w.heap.push (.cells A el (A.size,A.size+1))}:=by
 have hs:ACG {w with heap:=w.heap.push (.cells A el)} w.heap.size=some (el,A.size):=by simp[ACG]
 simp only[markStringish,xh,run_shape,xU,hs,run_freeze,ACH,ABv,if_false,Ql];rfl
theorem Qy(H:AEI ty φ E h w){x:O}{x':IN}{src dst el:ya}{si di ei:TI}(TS:AEg P src si)(hs:si.k=.string)(TD:AEg P dst di)(hd:di.k=.slice el)(TE:AEg P el ei)(he:ei.k=.int .u8)
  (hty:ty.get el=some ei)(hz:ei.size=1)(hx:AEE φ (x e) x')(hr:Je el x F e h=.ok v h'):Bp ty φ E h w v h' ((convert src dst x').run P w):=by
 obtain⟨d1,h1,k1⟩:=TS.und;obtain⟨d2,h2,k2⟩:=TD.und;obtain⟨d3,h3,k3⟩:=TE.und;rw[hs]at k1;cases k1;rw[hd]at k2;cases k2;rw[he]at k3;cases k3;unfold Je at hr;split at hr
 case h_2=>cases hr
 rename_i s hxe;rw[hxe]at hx;obtain rfl:=hx.AEq;rw[Ap,Bm]at hr;obtain⟨hb,hr⟩:=Bx hr
 let q:Question:=.appendCap s.size 0 el
 let c:Nat:=q.cut (w.tape w.drawn q)
 have hc:s.size<=c:=Nat.le_add_right _ _
 let cells:List IN:=s.data.toList.map fun b=>.int .u8 (b.toNat:Int)
 let rest:List IN:=List.replicate (c - s.size) (.int .u8 0)
 have hcl:cells.length=s.size:=by simp[cells]
 let w':yQ:={w with drawn:=w.drawn+1,heap:=w.heap.push (.cells ⟨cells++rest⟩ el (c,c+1))}
 have hsz:(⟨cells++rest⟩:Array IN).size=c:=by simp[rest,hcl];omega
 have AEp:AEV φ (Cn s.data.toList) cells:=Kq _;have hlen:(Cn s.data.toList).length=s.size:=by rw[<- AEp.length,hcl]
 obtain⟨hh1,hk,H1,ev⟩:=N3 (cs':=⟨cells++rest⟩) (t:=el) (fr:=(c,c+1)) (w':=w')
  (p:={blk:=w.heap.size,off:=0,sz:=(Cn s.data.toList).length,room:=(⟨cells++rest⟩:Array IN).size,es:=1}) H hr rfl ⟨rfl,.inr ⟨el,ei,rfl,hty,hz.symm⟩⟩ (by rw[hlen,hsz];exact hc) (.inr (by rw[hsz];exact IT _))
  (fun j u hj=>by
   obtain⟨u',hu,hru⟩:=AEp.get j u hj;refine⟨u',?_,hru⟩;have hj':j<cells.length:=by
    rcases Nat.lt_or_ge j cells.length with h|h
    ·exact h
    ·rw[List.getElem?_eq_none h]at hu;cases hu
   simp only[yO];rw[List.getElem?_append_left hj'];exact hu) rfl rfl rfl rfl
 cases hk;have key:(convert src dst (.string s)).run P w=.ok (.slice (some ⟨w.heap.size,0,none⟩) s.size c) w':=by
  have AFm:(Question.appendCap s.size 0 el).forced=false:=rfl;have AJW:(s.data.map fun b=>(ye .u8 (b.toNat:Int)))++AC7 (c - s.size) (ye .u8 0)=⟨cells++rest⟩:=by
   apply zF;simp[cells,rest]
  have hm:=Z3 (P:=P) {w with drawn:=w.drawn+1} ⟨cells++rest⟩ el;rw[hsz]at hm;simp only[convert,xh,run_underlying h1,run_underlying h2,run_underlying h3,xU,Conv.stringToBytes,run_choose,AFm,yT,if_false,Go.newRow,run_newObj,xk];show(((markStringish ⟨w.heap.size,0,none⟩).run P {w with drawn:=w.drawn+1,heap:=w.heap.push (.cells ((s.data.map fun b=>(ye .u8 (b.toNat:Int)))++AC7 (c - s.size) (ye .u8 0)) el)}).andThen
   fun _ w''=>Result.ok (Value.slice (some ⟨w.heap.size,0,none⟩) s.size c) w'')=_
  rw[AJW];have hm':(markStringish ⟨w.heap.size,0,none⟩).run P {w with drawn:=w.drawn+1,heap:=w.heap.push (.cells ⟨cells++rest⟩ el)}=.ok () w':=hm;rw[hm'];rfl
 rw[key];refine⟨_,_,_,rfl,?_,H1,ev⟩;have e1:s.data.toList.length=s.size:=rfl;rw[e1];refine .slice (IT _) ⟨rfl,rfl,_,Phi.AEy _ _ _,rfl,?_⟩;rcases Nat.eq_zero_or_pos s.size with h0|h0
 ·refine .inr ⟨h0,.inr ⟨?_,?_⟩⟩
  ·simp only[hlen,h0]
  ·simp only[hlen,hsz,h0];omega
 ·refine .inl ⟨h0,rfl,.inr ⟨?_,hc,?_⟩⟩
  ·simp only[hlen];omega
  ·simp only[hsz];omega
end
end
noncomputable section
open Go
section
variable {P:yw}{ty:TTy}{φ:Phi}{h:Hp}{w:yQ}{e:Env}{v:IN}{f:Fr}
def Fe:IN->Lit
 |.bool b=>.bool b
 |.int q n=>.int q n
 |.string s=>.string s.data.toList
 |_=>.bool false
theorem qx{k:IntKind}{n:Int}(h:inK k n=true):(Lit.int k n).wf=true:=by
 unfold Lit.wf;simp only[yA,decide_eq_true_eq];cases n with
 |ofNat m=>
  have h:xd m (BE k)=true:=h;have:=Au.1 h;cases k<;>simp[ADJ,ADK,ACx,ADC,BE]at this ⊢<;>omega
 |negSucc m=>
  cases k<;>simp only[inK]at h<;>first|(cases h;done)|skip
  all_goals
   have:=Au.1 h;simp[ADJ,ADK,ACx,ADC,BE]at this ⊢;omega
theorem HM{k:IntKind}{v:IN}(h:LF (.i k) v=true):∃ n,v=.int k n/\(Lit.int k n).wf=true:=by
 unfold LF at h;simp only at h;split at h
 ·split at h
  ·rename_i hq
   exact⟨_,by rw[Hm hq],qx h⟩
  ·cases h
 ·cases h
theorem GM{v:IN}(h:LF .b v=true):∃ b,v=.bool b:=by
 unfold LF at h;simp only at h;split at h
 ·exact⟨_,rfl⟩
 ·cases h
theorem HN{v:IN}(h:LF .s v=true):∃ s,v=.string s/\s.size<=maxLen:=by
 unfold LF at h;simp only at h;split at h
 ·rename_i s
  refine⟨s,rfl,?_⟩;have:=Au.1 h;rw[Bm]at this;have e:s.data.toList.length=s.size:=by simp
  have hm:most<=maxLen:=by unfold most maxLen;omega
  omega
 ·cases h
theorem DS{l:List IN}(h:Eh [] l=true):l=[]:=by
 cases l with
 |nil=>rfl
 |cons=>cases h
theorem Cs{c:CK}{ks:List CK}{l:List IN}(h:Eh (c::ks) l=true):∃ v r,l=v::r/\LF c v=true/\Eh ks r=true:=by
 cases l with
 |nil=>cases h
 |cons v r=>
  unfold Eh at h;split at h
  ·rename_i hc;exact⟨v,r,rfl,hc,h⟩
  ·cases h
theorem JM:∀ {ks:List CK} {l:List IN},Eh ks l=true->l.length=ks.length
 |[],l,h=>by rw[DS h];rfl
 |c::ks,l,h=>by
  obtain⟨v,r,rfl,_,hr⟩:=Cs h;simp[JM hr]
theorem HO:∀ {a b:List CK} {l:List IN},Eh (a++b) l=true->Eh a (l.take a.length)=true/\Eh b (l.drop a.length)=true
 |[],b,l,h=>⟨rfl,h⟩
 |c::a,b,l,h=>by
  obtain⟨v,r,rfl,hc,hr⟩:=Cs h;obtain⟨h1,h2⟩:=HO hr;refine⟨?_,by simpa using h2⟩;show Eh (c::a) (v::r.take a.length)=true;unfold Eh;rw[hc];exact h1
theorem Ij{c:CK}{v:IN}(h:LF c v=true):∃ l:Lit,Fe v=l/\v=l.toCell/\l.keyWf:=by
 cases c with
 |i k=>obtain⟨n,rfl,hw⟩:=HM h;exact⟨.int k n,rfl,rfl,hw⟩
 |b=>obtain⟨b,rfl⟩:=GM h;exact⟨.bool b,rfl,rfl,trivial⟩
 |s=>obtain⟨s,rfl,hs⟩:=HN h;exact⟨.string s.data.toList,rfl,rfl,by show s.data.toList.length<=maxLen;simpa using hs⟩
theorem QD{ks:List CK}:∀ {l l':List IN},Eh ks l=true->AEV φ l l'->l'=l:=by
 induction ks with
 |nil=>intro l l' h hr;rw[DS h]at hr ⊢;cases hr;rfl
 |cons c ks ih=>
  intro l l' h hr;obtain⟨v,r,rfl,hc,hr'⟩:=Cs h;cases hr with
  |cons hv ht=>
   rw[ih hr' ht]
   congr 1
   cases c with
   |i k=>obtain⟨n,rfl,_⟩:=HM hc;exact hv.AEm
   |b=>obtain⟨n,rfl⟩:=GM hc;exact hv.AE3
   |s=>obtain⟨n,rfl,_⟩:=HN hc;exact hv.AEq
theorem Fl{x:IN}(hne:∀ l,x≠.agg l):cellsOf x=[x]:=by
 unfold cellsOf;split
 ·rename_i l;exact absurd rfl (hne l)
 ·rfl
theorem DN{K:KS}{x:IN}(h:GC K x=true):Eh K.ks (cellsOf x)=true/\cellsOf x=x.cells.toList/\((K.agg=true/\∃ l,x=.agg ⟨l⟩)\/(K.agg=false/\(∀ l,x≠.agg l)/\∀ l,x≠.tuple l)):=by
 unfold GC at h;split at h
 ·rename_i cs
  split at h
  ·rename_i ha
   exact⟨h,rfl,.inl ⟨ha,cs.toList,rfl⟩⟩
  ·cases h
 ·rename_i hne
  split at h
  ·cases h
  ·rename_i ha
   have AGc:∀ l,x≠.agg l:=fun l e=>hne l e
   have hc:cellsOf x=[x]:=by
    unfold cellsOf;split
    ·rename_i l;exact absurd rfl (AGc l)
    ·rfl
   have hnt:∀ l,x≠.tuple l:=by
    intro l e;subst e;cases hk:K.ks with
    |nil=>rw[hk]at h;cases h
    |cons c ks=>
     rw[hk]at h;obtain⟨v,r,e,hc,_⟩:=Cs h;cases e;cases c<;>cases hc
   refine⟨by rw[hc];exact h,?_,.inr ⟨ha,AGc,hnt⟩⟩;rw[hc];cases x<;>first|rfl|exact absurd rfl (AGc _)|exact absurd rfl (hnt _)
theorem JL{K:KS}{x x':IN}(h:GC K x=true)(hr:AEE φ x x'):x'=x:=by
 obtain⟨h1,h2,h3⟩:=DN h;rcases h3 with ⟨_,l,rfl⟩|⟨_,hne,hnt⟩
 ·cases hr with
  |agg hr=>rw[QD h1 hr];rfl
 ·have hc:cellsOf x=[x]:=Fl hne
  rw[hc]at h1;have:=QD h1 (.cons hr .nil);exact ADB.inj this |>.1
theorem MY{α β:Type}{f:α->Option β}{g:α->β}:∀ {L:List α},(∀ x∈L,f x=some (g x))->L.mapM f=some (L.map g)
 |[],_=>rfl
 |x::L,h=>by
  rw[List.mapM_cons,h x (by simp),MY fun y hy=>h y (by simp[hy])];rfl
theorem QE{ks:List CK}:∀ {m:Nat} {cs:List IN},Eh (Bc ks m) cs=true->cs.length=m*ks.length/\∀ i,i<m->Eh ks ((cs.drop (i*ks.length)).take ks.length)=true
 |0,cs,h=>by
  refine⟨?_,fun i hi=>absurd hi (Nat.not_lt_zero _)⟩;rw[DS h];simp
 |m+1,cs,h=>by
  have h:Eh (ks++Bc ks m) cs=true:=h;obtain⟨h1,h2⟩:=HO h;obtain⟨h3,h4⟩:=QE h2;have hl:=JM h1;refine⟨?_,fun i hi=>?_⟩
  ·simp only[List.length_take,List.length_drop]at hl h3
   rw[AAk];omega
  ·cases i with
   |zero=>simpa using h1
   |succ i=>
    have:=h4 i (by omega);rw[AB2]at this;rw[AAk,Nat.add_comm];exact this
theorem QH{P:yw}{rec:Nat->Option (List CK)}:∀ {L:List Field} {off:Nat} {ks:List CK},flatK.flatF rec off (L.map fun f=>(f.offset,P.cellsOf f.type,f.type))=some ks->
  (∀ f∈L,∃ kf,rec f.type=some kf)/\
  ∀ cs:List IN,Eh ks (cs.drop off)=true->(∀ f∈L,∀ kf,rec f.type=some kf->Eh kf ((cs.drop f.offset).take (P.cellsOf f.type))=true)/\
   ((L.map fun f=>(cs.drop f.offset).take (P.cellsOf f.type)).flatten=cs.drop off)
 |[],off,ks,hk=>by
  cases hk;refine⟨(fun f hf=>by cases hf),fun cs h=>⟨(fun f hf=>by cases hf),?_⟩⟩;rw[DS h];rfl
 |f::L,off,ks,hk=>by
  rw[AAx]at hk;unfold flatK.flatF at hk;split at hk
  case h_2=>cases hk
  rename_i ho;split at hk
  case h_2=>cases hk
  rename_i kf hkf;split at hk
  case h_2=>cases hk
  rename_i hl;split at hk
  case h_2=>cases hk
  rename_i r hr;cases hk;have ho:f.offset=off:=Az.1 ho;have hl:kf.length=P.cellsOf f.type:=by rw[<- Az.1 hl,Bm]
  obtain⟨i1,i2⟩:=QH hr;refine⟨fun g hg=>?_,fun cs h=>?_⟩
  ·rcases xz.1 hg with rfl|hg
   ·exact⟨kf,hkf⟩
   ·exact i1 g hg
  ·obtain⟨h1,h2⟩:=HO h
   rw[hl]at h1 h2;rw[AB2]at h2;obtain⟨i3,i4⟩:=i2 cs h2;refine⟨fun g hg kg hkg=>?_,?_⟩
   ·rcases xz.1 hg with rfl|hg
    ·rw[hkf]at hkg;cases hkg
     rw[ho];exact h1
    ·exact i3 g hg kg hkg
   ·rw[AAx,List.flatten_cons,i4,ho]
    have:cs.drop (Nat.add off (P.cellsOf f.type))=(cs.drop off).drop (P.cellsOf f.type):=by rw[AB2];rfl
    rw[this,List.take_append_drop]
theorem Oe{t:Nat}{fs:Array Field}(hu:P.underlying t=some (.struct fs))(hf:AGH P t=true):
  (∀ f∈fs.toList,(f.name != "_")=true)/\(!(P.cutTypes.any (·.2 == t)) && !P.stoodInHeld t)=true:=by
 unfold AGH at hf;rw[hu]at hf;simp only[yA,zY]at hf;obtain⟨⟨h1,h2⟩,h3⟩:=hf;exact⟨fun f hm=>h1 f (zc.1 hm),by rw[h2,h3];rfl⟩
theorem E0(hT:DE P ty):∀ (n t:Nat) (ks:List CK),flatK ty n t=some ks->
  P.keyTypeAt n t=true/\(∀ d,n<=d->P.eqGuardType d t=false)/\(∀ ti,ty.get t=some ti->ti.k.agg=true->ks.length=ti.size)/\
  ∀ cs,Eh ks cs=true->P.keyLits n t cs=some (cs.map Fe)
 |0,t,ks,h=>by cases h
 |n+1,t,ks,h=>by
  unfold flatK at h;cases hg:ty.get t with
  |none=>rw[hg]at h;cases h
  |some ti=>
   simp only[hg]at h;have T:=hT t ti hg;obtain⟨d,hd,hk⟩:=T.und;have hcell:=T.cells;have plain:∀ {d:AB6},(match d with|.interface _=>true|.struct _=>true|.array _ _=>true|_=>false)=false->P.underlying t=some d->∀ q,n+1<=q->P.eqGuardType q t=false:=by
    intro d h1 hd q hq;cases q with
    |zero=>omega
    |succ q=>unfold AA2;rw[hd];cases d<;>first|rfl|cases h1
   cases hkk:ti.k with
   |int k=>
    simp only[hkk]at h;rw[hkk]at hk;cases hk;cases h;refine⟨by unfold AAF;rw[hd],plain rfl hd,(fun ti' ht' ha=>by cases ht';rw[hkk]at ha;cases ha),fun cs hf=>?_⟩;obtain⟨v,r,rfl,hc,hr⟩:=Cs hf;obtain rfl:=DS hr;obtain⟨m,rfl,hw⟩:=HM hc;unfold AAS;rw[hd];simp[hw,Fe]
   |bool=>
    simp only[hkk]at h;rw[hkk]at hk;cases hk;cases h;refine⟨by unfold AAF;rw[hd],plain rfl hd,(fun ti' ht' ha=>by cases ht';rw[hkk]at ha;cases ha),fun cs hf=>?_⟩;obtain⟨v,r,rfl,hc,hr⟩:=Cs hf;obtain rfl:=DS hr;obtain⟨m,rfl⟩:=GM hc;unfold AAS;rw[hd];simp[Fe]
   |string=>
    simp only[hkk]at h;rw[hkk]at hk;cases hk;cases h;refine⟨by unfold AAF;rw[hd],plain rfl hd,(fun ti' ht' ha=>by cases ht';rw[hkk]at ha;cases ha),fun cs hf=>?_⟩;obtain⟨v,r,rfl,hc,hr⟩:=Cs hf;obtain rfl:=DS hr;obtain⟨m,rfl,hw⟩:=HN hc;unfold AAS;rw[hd];simp[hw,Fe]
   |arr m el=>
    simp only[hkk]at h;rw[hkk]at hk;cases hk;split at h
    case h_2=>cases h
    rename_i ei hei;split at h
    case h_2=>cases h
    rename_i ke hke;split at h
    case h_2=>cases h
    rename_i hl;split at h
    case h_2=>cases h
    rename_i hm;cases h;obtain⟨i1,i2,_,i3⟩:=E0 hT n el ke hke;have hce:=(hT el ei hei).cells;have hl:ke.length=ei.size:=by rw[<- Az.1 hl,Bm]
    have hm:m*ei.size=ti.size:=Az.1 hm;have AJX:∀ m,(Bc ke m).length=m*ke.length:=by
     intro m
     induction m with
     |zero=>simp[Bc]
     |succ m ih=>rw[Bc,List.length_append,ih,AAk];omega
    refine⟨by unfold AAF;rw[hd];exact i1,fun q hq=>?_,(fun ti' ht' ha=>by cases ht';rw[AJX,hl,hm]),fun cs hf=>?_⟩
    ·cases q with
     |zero=>omega
     |succ q=>unfold AA2;rw[hd];exact i2 q (by omega)
    ·obtain⟨f1,f2⟩:=QE hf
     have hlen:cs.length=P.cellsOf t:=by rw[hcell,<- hm,f1,hl]
     have hmap:(zB m).mapM (fun i=>P.keyLits n el ((cs.drop (i*P.cellsOf el)).take (P.cellsOf el)))=some ((zB m).map fun i=>((cs.drop (i*P.cellsOf el)).take (P.cellsOf el)).map Fe):=
      MY fun i hi=>by
       rw[hce,<- hl];exact i3 _ (f2 i (List.mem_range.1 hi))
     unfold AAS;rw[hd];simp only[hlen,if_true,hmap,zG]
     congr 1
     have:=chunks_flatten (P.cellsOf el) m cs (by rw[hce,<- hl];exact f1)
     conv=>rhs;rw[<- this]
     rw[AC3,ACv];rfl
   |struct fs=>
    simp only[hkk]at h;rw[hkk]at hk;cases hk with
    |@struct _ fields hfs _=>
     split at h
     case h_2=>cases h
     rename_i ks' hks;split at h
     case h_2=>cases h
     rename_i hl;cases h;have hl:ks.length=ti.size:=by rw[<- Az.1 hl,Bm]
     rw[<- hfs]at hks;obtain⟨j1,j2⟩:=QH hks;obtain⟨n1,n2⟩:=Oe hd T.AJM;refine⟨?_,fun q hq=>?_,(fun ti' ht' ha=>by cases ht';exact hl),fun cs hf=>?_⟩
     ·unfold AAF
      rw[hd];simp only[Bool.and_assoc,n2,ADV];rw[zY];intro f hm;obtain⟨kf,hkf⟩:=j1 f (zc.2 hm);rw[n1 f (zc.2 hm),(E0 hT n f.type kf hkf).1];rfl
     ·cases q with
      |zero=>omega
      |succ q=>
       unfold AA2;rw[hd];simp only;rw[Array.any_eq_false];intro i hi;obtain⟨kf,hkf⟩:=j1 fields[i] (zc.2 (Array.getElem_mem hi));rw[(E0 hT n _ kf hkf).2.1 q (by omega)];simp
     ·have hf0:Eh ks (cs.drop 0)=true:=hf
      obtain⟨k1,k2⟩:=j2 cs hf0;have hlen:cs.length=P.cellsOf t:=by rw[hcell,<- hl,JM hf]
      have hmap:fields.toList.mapM (fun f=>P.keyLits n f.type ((cs.drop f.offset).take (P.cellsOf f.type)))=some (fields.toList.map fun f=>((cs.drop f.offset).take (P.cellsOf f.type)).map Fe):=
       MY fun f hm=>by
        obtain⟨kf,hkf⟩:=j1 f hm;exact(E0 hT n f.type kf hkf).2.2.2 _ (k1 f hm kf hkf)
      have hall:fields.all (·.name != "_")=true:=by
       rw[zY];intro f hm;exact n1 f (zc.2 hm)
      unfold AAS;rw[hd];simp only[hlen,hall,and_self,if_true,hmap,zG]
      congr 1
      have:cs=cs.drop 0:=rfl
      conv=>rhs;rw[this,<- k2]
      rw[AC3,ACv];rfl
   |_=>simp only[hkk]at h;cases h
theorem KA{c:CK}{a b:IN}(ha:LF c a=true)(hb:LF c b=true){r:Bool}(hr:Lx a b=some r):r=true↔Fe a=Fe b:=by
 cases c with
 |i k=>
  obtain⟨m,rfl,_⟩:=HM ha;obtain⟨n,rfl,_⟩:=HM hb;unfold Lx at hr;simp only at hr;split at hr
  ·cases hr;rw[DY];simp[Fe]
  ·cases hr
 |b=>
  obtain⟨m,rfl⟩:=GM ha;obtain⟨n,rfl⟩:=GM hb;unfold Lx at hr;cases hr;simp[Fe]
 |s=>
  obtain⟨m,rfl,_⟩:=HN ha;obtain⟨n,rfl,_⟩:=HN hb;unfold Lx at hr;cases hr;rw[Lp];simp[Fe]
theorem Lz:∀ {ks:List CK} {a b:List IN},Eh ks a=true->Eh ks b=true->∀ {r:Bool},Gd a b=some r->(r=true↔a.map Fe=b.map Fe)
 |[],a,b,ha,hb,r,hr=>by
  rw[DS ha,DS hb]at *;cases hr;simp
 |c::ks,a,b,ha,hb,r,hr=>by
  obtain⟨x,a,rfl,hx,ha⟩:=Cs ha;obtain⟨y,b,rfl,hy,hb⟩:=Cs hb;unfold Gd at hr;split at hr
  ·rename_i h1
   have i1:=(KA hx hy h1).1 rfl;rw[Lz ha hb hr];simp[i1]
  ·rename_i h1
   cases hr;have i1:=KA hx hy h1;simp only[AAx,ADB.injEq];constructor
   ·intro h;cases h
   ·intro h;exact i1.2 h.1
  ·cases hr
structure AFD (P:yw)(ty:TTy)(t:Nat)(K:KS):Prop where
 ti:∃ ti,ty.get t=some ti/\K.agg=ti.k.agg
 flat:flatK ty 8 t=some K.ks
theorem AFD.formed(hT:DE P ty){t:Nat}{K:KS}(hK:AFD P ty t K){x:IN}(hx:GC K x=true):x.formed P t=true/\P.keyLits 8 t x.cells.toList=some ((cellsOf x).map Fe):=by
 obtain⟨ti,hti,ha⟩:=hK.ti;obtain⟨_,_,f3,f4⟩:=E0 hT 8 t K.ks hK.flat;obtain⟨h1,h2,h3⟩:=DN hx;have T:=hT t ti hti;obtain⟨d,hd,hk⟩:=T.und;refine⟨?_,by rw[<- h2];exact f4 _ h1⟩;rcases h3 with ⟨hag,l,rfl⟩|⟨hag,hne,hnt⟩
 ·rw[ha]at hag
  have hs:=f3 ti hti hag;have hl:=JM h1;unfold ADO;rw[hd];have hsz:(Array.mk l).size=P.cellsOf t:=by
   have:l.length=K.ks.length:=hl;rw[T.cells,<- hs,<- this];rfl
  generalize ti.k=kk at hk hag;cases hk<;>first|(cases hag;done)|(simp only[hsz];exact beq_self_eq_true _)
 ·rw[ha]at hag
  have:(match P.underlying t with|some (.struct _)=>false|some (.array _ _)=>false|_=>true)=true:=by
   rw[hd];generalize ti.k=kk at hk hag;cases hk<;>first|rfl|(cases hag;done)|skip
   rename_i ho;cases d<;>first|rfl|cases ho
  unfold ADO;cases x<;>first|exact absurd rfl (hne _)|exact absurd rfl (hnt _)|exact this
theorem AFD.equal(hT:DE P ty){t:Nat}{K:KS}(hK:AFD P ty t K){x y:IN}(hx:GC K x=true)(hy:GC K y=true){r:Bool}(hr:Gd (cellsOf x) (cellsOf y)=some r)(w:yQ):
  (ABu t x y).run P w=.ok r w:=by
 obtain⟨f1,f2⟩:=hK.formed hT hx;obtain⟨g1,g2⟩:=hK.formed hT hy;obtain⟨k1,_⟩:=E0 hT 8 t K.ks hK.flat;obtain⟨r',hr',hiff⟩:=run_equalIn_deep (P:=P) 9992 8 t k1 w _ _ x y _ _ f1 g1 f2 g2;have:=Lz (DN hx).1 (DN hy).1 hr;have e:r'=r:=by
  rw[Bool.eq_iff_iff,hiff,this]
 rw[<- e];exact hr'
theorem AFD.check(hT:DE P ty){t:Nat}{K:KS}(hK:AFD P ty t K){x:IN}(hx:GC K x=true)(em:Bool)(w:yQ):(Instr.checkKey em 10000 t x).run P w=.ok () w:=by
 obtain⟨f1,f2⟩:=hK.formed hT hx;obtain⟨k1,_⟩:=E0 hT 8 t K.ks hK.flat;exact run_checkKey_deep (P:=P) em 9992 8 t k1 w _ x _ f1 f2
theorem Od{t:Nat}{d:AB6}(hd:P.underlying t=some d)(n:Nat){a b:IN}{c:Bool}(hs:AB8 d a b=some c)(w:yQ):(ABA (n+1) t a b).run P w=.ok c w:=by
 unfold AB8 at hs;split at hs
 ·split at hs
  ·rename_i hkk
   cases hs;simp[ABA,run_underlying hd,hkk]
  ·cases hs
 ·cases hs;simp[ABA,run_underlying hd]
 ·cases hs;simp[ABA,run_underlying hd]
 ·cases hs
theorem JJ{t:Nat}{d:AB6}(hd:P.underlying t=some d){k:IN}:∀ {es:List yn} {i:Nat} {r:Option (Nat×IN)},AB9 d k es i=some r->∀ w:yQ,(yV t k es i).run P w=.ok r w
 |[],i,r,h,w=>by cases h;simp[yV]
 |e::es,i,r,h,w=>by
  have same:∀ {a b:IN} {c:Bool},AB8 d a b=some c->(ABu t a b).run P w=.ok c w:=fun hs=>Od hd 9999 hs w
  unfold AB9 at h;split at h
  ·rename_i hs
   cases h;simp[yV,same hs]
  ·rename_i hs
   have:=JJ hd h w;simp[yV,same hs,this]
  ·cases h
theorem FS{t:Nat}{d:AB6}(hd:P.underlying t=some d){k:IN}{es:List yn}{r:Option (Nat×IN)}(hr:(yV t k es 0).run P w=.ok r w):(ACA t k es).run P w=.ok r w:=by
 unfold ACA;simp only[xh,run_underlying hd,xU];cases hn:AB9 d k es 0 with
 |none=>exact hr
 |some r'=>
  have:=JJ hd hn w;rw[hr]at this;cases this;simp
theorem Ha(hT:DE P ty){t:Nat}{K:KS}(hK:AFD P ty t K){x y y':IN}(hx:GC K x=true)(hy:AEE φ y y'){r:Bool}(hr:GP K x y=some r)(w:yQ):(ABu t x y').run P w=.ok r w/\GC K y=true/\y'=y:=by
 unfold GP at hr;split at hr
 ·rename_i hf
  have:=JL hf hy;subst this;exact⟨hK.equal hT hx hf hr w,hf,rfl⟩
 ·cases hr
theorem ME(hT:DE P ty){t:Nat}{K:KS}(hK:AFD P ty t K){x:IN}(hx:GC K x=true)(w:yQ):∀ {es:List Ent} {es':List yn} (i:Nat),AE8 φ es es'->∀ {r:Option Ent},MD K x es=some r->
  match r with
  |none=>(yV t x es' i).run P w=.ok none w
  |some e=>∃ j v',(yV t x es' i).run P w=.ok (some (j,v')) w/\AEE φ e.val v'
 |_,_,i,.nil,r,h=>by cases h;simp[yV]
 |_,_,i,.cons (k:=k) (k':=k') (v:=v) (v':=v') (b:=b) (l:=l) (l':=l') hk hv ht,r,h=>by
  unfold MD at h;split at h
  ·rename_i he
   cases h;obtain⟨h1,_⟩:=Ha hT hK hx hk he w;exact⟨i,v',by simp[yV,h1],hv⟩
  ·rename_i he
   obtain⟨h1,_⟩:=Ha hT hK hx hk he w;have ih:=ME hT hK hx w (i+1) ht h;cases r with
   |none=>simpa [yV,h1] using ih
   |some e=>
    obtain⟨j,u,hj,hu⟩:=ih;exact⟨j,u,by simp[yV,h1,hj],hu⟩
  ·cases h
theorem QF{c:CK}{x:IN}(h:LF c x=true)(n:Nat):AA8 n x x=true:=by
 obtain⟨l,_,rfl,hw⟩:=Ij h;exact sameBits_toCell hw n
theorem XQ{ks:List CK}(n:Nat):∀ {l:List IN},Eh ks l=true->(l.zip l).all (fun (x,y)=>AA8 n x y)=true:=by
 induction ks with
 |nil=>intro l h;rw[DS h];rfl
 |cons c ks ih=>
  intro l h;obtain⟨v,r,rfl,hc,hr⟩:=Cs h;simp only[List.zip_cons_cons,ABi,QF hc,ih hr,Bool.and_self]
theorem XP{K:KS}{x:IN}(h:GC K x=true)(n:Nat):AA8 (n+1) x x=true:=by
 obtain⟨h1,_,h3⟩:=DN h;rcases h3 with ⟨_,l,rfl⟩|⟨_,hne,hnt⟩
 ·unfold AA8
  simp only[beq_self_eq_true,Bool.true_and];exact XQ n h1
 ·have hc:cellsOf x=[x]:=Fl hne
  rw[hc]at h1;cases hk:K.ks with
  |nil=>rw[hk]at h1;cases h1
  |cons c ks=>
   rw[hk]at h1;obtain⟨v,r,e,hcc,_⟩:=Cs h1;cases e;exact QF hcc _
theorem Ly:∀ {ks:List CK} {a b:List IN},Eh ks a=true->Eh ks b=true->Gd a b=some true->a=b
 |[],a,b,ha,hb,_=>by rw[DS ha,DS hb]
 |c::ks,a,b,ha,hb,hr=>by
  obtain⟨x,a,rfl,hx,ha⟩:=Cs ha;obtain⟨y,b,rfl,hy,hb⟩:=Cs hb;unfold Gd at hr;split at hr
  ·rename_i h1
   have i1:=(KA hx hy h1).1 rfl;rw[Ly ha hb hr];obtain⟨l,e1,e2,_⟩:=Ij hx;obtain⟨m,e3,e4,_⟩:=Ij hy;rw[e2,e4,<- e1,<- e3,i1]
  ·cases hr
  ·cases hr
theorem St{K:KS}{x y:IN}(hx:GC K x=true)(hr:GP K x y=some true):x=y:=by
 unfold GP at hr;split at hr
 ·rename_i hf
  obtain⟨h1,h2,h3⟩:=DN hx;obtain⟨g1,g2,g3⟩:=DN hf;have:=Ly h1 g1 hr;rcases h3 with ⟨ha,l,rfl⟩|⟨ha,hne,hnt⟩
  ·rcases g3 with ⟨_,m,rfl⟩|⟨hb,_⟩
   ·have:l=m:=this
    rw[this]
   ·rw[ha]at hb;cases hb
  ·rcases g3 with ⟨hb,_⟩|⟨_,gne,gnt⟩
   ·rw[ha]at hb;cases hb
   ·have c1:cellsOf x=[x]:=Fl hne
    have c2:cellsOf y=[y]:=Fl gne;rw[c1,c2]at this;exact ADB.inj this |>.1
 ·cases hr
theorem Lh(hT:DE P ty){t:Nat}{K:KS}(hK:AFD P ty t K){x:IN}(hx:GC K x=true){u u':IN}(hu:AEE φ u u')(hxx:AEE φ x x)(w:yQ):∀ {es:List Ent} {es':List yn} (i:Nat),AE8 φ es es'->∀ {r:Option (List Ent)},NP K x u es=some r->
  match r with
  |none=>(yV t x es' i).run P w=.ok none w
  |some es2=>∃ j v' en,(yV t x es' i).run P w=.ok (some (i+j,v')) w/\es'[j]? =some en/\en.key=x/\AE8 φ es2 (es'.modify j fun e=>{e with key:=x,val:=u'})
 |_,_,i,.nil,r,h=>by cases h;simp[yV]
 |_,_,i,.cons (k:=k) (k':=k') (v:=v) (v':=v') (b:=b) (l:=l) (l':=l') hk hv ht,r,h=>by
  unfold NP at h;split at h
  ·rename_i he
   cases h;obtain⟨h1,_,h2⟩:=Ha hT hK hx hk he w;have h3:=St hx he;exact⟨0,v',⟨k',v',b⟩,by simp[yV,h1],rfl,by simp only;rw[h2];exact h3.symm,by simpa using AE8.cons hxx hu ht⟩
  ·rename_i he
   obtain⟨h1,_⟩:=Ha hT hK hx hk he w;split at h
   ·rename_i es2 hs
    cases h;obtain⟨j,v2,en,e1,e2,e3,e4⟩:=Lh hT hK hx hu hxx w (i+1) ht hs;refine⟨j+1,v2,en,?_,by simpa using e2,e3,by simpa using AE8.cons hk hv e4⟩;simp only[yV,xh,h1,xU,yT,if_false];rw[e1];congr 3;omega
   ·rename_i hs
    cases h;have:=Lh hT hK hx hu hxx w (i+1) ht hs
    simpa [yV,h1] using this
   ·cases h
  ·cases h
theorem Ti{x:Ent}:∀ {es:List Ent},WJ x es=es++[x]
 |[]=>rfl
 |e::es=>by unfold WJ;rw[Ti];rfl
theorem AE8.append{x:Ent}{x':yn}(hx:AE8 φ [x] [x']):∀ {es:List Ent} {es':List yn},AE8 φ es es'->AE8 φ (es++[x]) (es'++[x'])
 |_,_,.nil=>hx
 |_,_,.cons hk hv t=>.cons hk hv (AE8.append hx t)
theorem Se{K:KS}{x x':IN}(h:GC K x=true)(hr:AEE φ x x'):x'=x/\AEE φ x x:=by
 have:=JL h hr;subst this;exact⟨rfl,hr⟩
end
end
noncomputable section
open Go
section
variable {P:yw}{ty:TTy}{φ:Phi}{E:Nat->Prop}{h h':Hp}{w:yQ}{F:AEA}{e:Env}{v:IN}
def Uk:IN->Bool
 |.bool _|.pointer _|.slice _ _ _|.map _|.func _ _ _|.nilFunc=>true
 |_=>false
theorem Ye{op:ADW}{neg:Bool}(hop:(op=.eql/\neg=false)\/(op=.neq/\neg=true)){t:ya}{X Y:yN}{a b:IN}(ha:Uk a=true\/∃ l,a=.agg l)(hg:(eqGuard op t X Y a b).run P w=.ok () w)
  {r:Bool}(hr:(ABu t a b).run P w=.ok r w):(CE op t X Y a b).run P w=.ok (.bool (neg != r)) w:=by
 unfold CE;rw[xh,hg,xU];have:binOp op t a b=(do pure (.bool (neg != (<- ABu t a b)))):=by
  rcases hop with ⟨rfl,rfl⟩|⟨rfl,rfl⟩
  ·rcases ha with ha|⟨l,rfl⟩
   ·cases a<;>first|(cases ha;done)|skip
    all_goals (simp[binOp];try rfl)
   ·simp[binOp]
  ·rcases ha with ha|⟨l,rfl⟩
   ·cases a<;>first|(cases ha;done)|skip
    all_goals (simp[binOp];try rfl)
   ·simp[binOp]
 rw[this,xh,hr,xU,xk]
theorem Si{op:ADW}{t:ya}{X Y:yN}{a b:IN}(ha:Uk a=true):(eqGuard op t X Y a b).run P w=.ok () w:=by
 cases op<;>first|rfl|skip
 all_goals (cases a<;>first|(cases ha;done)|rfl)
theorem XS{op:ADW}{t:ya}{X Y:yN}{a b:Array IN}(hg:P.eqGuardType P.depth t=false):(eqGuard op t X Y (.agg a) (.agg b)).run P w=.ok () w:=by
 cases op<;>first|rfl|skip
 all_goals (simp[eqGuard,hg])
theorem qN(n:Nat){k:TK}{x y x' y':IN}{r:Bool}(hr:eqV k x y=some r)(hx:AEE φ x x')(hy:AEE φ y y'){t:Nat}{d:AB6}(hd:P.underlying t=some d)(hk:KOk P k d)(w:yQ):
  Uk x'=true/\(ABA (n+1) t x' y').run P w=.ok r w:=by
 unfold eqV at hr;split at hr
 case h_12=>cases hr
 all_goals (cases hr;cases hk;first|skip|(rename_i ho;cases ho))
 all_goals (cases hx;cases hy)
 all_goals (refine⟨rfl,?_⟩;simp[ABA,run_underlying hd])
theorem qO{k:TK}{x y x' y':IN}{r:Bool}(hr:eqV k x y=some r)(hx:AEE φ x x')(hy:AEE φ y y'){t:Nat}{d:AB6}(hd:P.underlying t=some d)(hk:KOk P k d)(w:yQ):
 Uk x'=true/\(ABu t x' y').run P w=.ok r w:=qN 9999 hr hx hy hd hk w
theorem aG(H:AEI ty φ E h w){k:TK}{op:ADW}{neg:Bool}(hop:(op=.eql/\neg=false)\/(op=.neq/\neg=true)){t:Nat}{ti:TI}(T:AEg P t ti)(hk:ti.k=k){X Y:yN}{x y:O}{x' y':IN}
  (hx:AEE φ (x e) x')(hy:AEE φ (y e) y')(hr:oEq k neg x y F e h=.ok v h'):Bp ty φ E h w v h' ((CE op t X Y x' y').run P w):=by
 obtain⟨d,hd,hkd⟩:=T.und;rw[hk]at hkd;unfold oEq at hr;split at hr
 case h_2=>cases hr
 rename_i r hq;obtain⟨rfl,rfl⟩:=Mm hr;obtain⟨h1,h2⟩:=qO hq hx hy hd hkd w;rw[Ye hop (.inl h1) (Si h1) h2];exact .same H (.bool _)
theorem Lb(hT:DE P ty)(H:AEI ty φ E h w){K:KS}{op:ADW}{neg:Bool}(hop:(op=.eql/\neg=false)\/(op=.neq/\neg=true)){t:Nat}{ti:TI}(hti:ty.get t=some ti)(hk:ti.k.agg=true)(hf:flatK ty 8 t=some K.ks)(ha:K.agg=true)
  {X Y:yN}{x y:O}{x' y':IN}(hx:AEE φ (x e) x')(hy:AEE φ (y e) y')(hr:Mh K neg x y F e h=.ok v h'):Bp ty φ E h w v h' ((CE op t X Y x' y').run P w):=by
 have T:=hT t ti hti;have hK:AFD P ty t K:=⟨⟨ti,hti,by rw[ha,hk]⟩,hf⟩;unfold Mh eqC at hr;split at hr
 case h_2=>cases hr
 rename_i r hq;split at hq
 case h_2=>cases hq
 rename_i hfx;obtain⟨rfl,rfl⟩:=Mm hr;have e1:=JL hfx hx;obtain⟨h1,hfy,e2⟩:=Ha hT hK hfx hy hq w;rw[<- e1]at hfx;have hgt:=(E0 hT 8 t K.ks hf).2.1 P.depth T.deep;obtain⟨_,_,g1⟩:=DN hfx;obtain⟨_,_,g2⟩:=DN hfy;rw[<- e2]at g2;rcases g1 with ⟨_,l,hl⟩|⟨hb,_⟩
 ·rcases g2 with ⟨_,m,hm⟩|⟨hb,_⟩
  ·rw[<- e1]at h1
   have hg:(eqGuard op t X Y x' y').run P w=.ok () w:=by rw[hl,hm];exact XS hgt
   rw[Ye hop (.inr ⟨_,hl⟩) hg h1];exact .same H (.bool _)
  ·rw[ha]at hb;cases hb
 ·rw[ha]at hb;cases hb
end
end
noncomputable section
open Go
section
variable {P:yw}{ty:TTy}{φ:Phi}{E:Nat->Prop}{h h':Hp}{w:yQ}{F:AEA}{e:Env}{v:IN}{f:Fr}
theorem Bi{t:Nat}{k:TI->OpF}(hr:wTy ty t k F e h=.ok v h'):∃ ti,ty.get t=some ti/\k ti F e h=.ok v h':=by
 unfold wTy at hr;cases hg:ty.get t with
 |none=>rw[hg]at hr;cases hr
 |some ti=>rw[hg]at hr;exact⟨ti,rfl,hr⟩
theorem DM{x:yN}{k:O->OpF}(hr:w1 f x k F e h=.ok v h'):∃ y,cO f x=some y/\k y F e h=.ok v h':=by
 unfold w1 at hr;cases hg:cO f x with
 |none=>rw[hg]at hr;cases hr
 |some y=>rw[hg]at hr;exact⟨y,rfl,hr⟩
theorem Jv{x y:yN}{k:O->O->OpF}(hr:w2 f x y k F e h=.ok v h'):∃ x' y',cO f x=some x'/\cO f y=some y'/\k x' y' F e h=.ok v h':=by
 unfold w2 at hr;obtain⟨x',hx,hr⟩:=DM hr;obtain⟨y',hy,hr⟩:=DM hr;exact⟨x',y',hx,hy,hr⟩
theorem IX{ti:TI}{k:OpF}(hr:wZ ti k F e h=.ok v h'):ti.zero.length=ti.size/\k F e h=.ok v h':=by
 unfold wZ at hr;cases hg:xr (BF ti.zero) ti.size with
 |false=>rw[hg]at hr;cases hr
 |true=>rw[hg]at hr;exact⟨by rw[<- Az.1 hg,Bm],hr⟩
theorem EP(hr:oNo F e h=.ok v h'):False:=by cases hr
def DX(P:yw)(ty:TTy)(F:AEA):Prop:=∀ g args h v h',F g args h=.ok v h'->
 (∃ fn,P.funcs[g]? =some fn/\fn.name≠"runtime.NumGoroutine" /\fn.body.isNone=false)/\
 ∀ φ w args',AEV φ args args'->AEI ty φ (fun _=>False) h w->
  Calls P g ⟨args'⟩ w fun en w'=>∃ v' ψ,en=.returned v'/\AEE ψ v v'/\AEI ty ψ (fun _=>False) h' w'/\Evo φ h w ψ h' w'
def FA(P:yw)(ty:TTy)(φ:Phi)(E:Nat->Prop)(h:Hp)(v:IN)(h':Hp)(o:Oper)(a:Act)(w:yQ):Prop:=
 ∀ (next:Act->yQ->Prop) (Q:Exit->Act->yQ->Prop),
  (∀ ψ v' w',AEE ψ v v'->AEI ty ψ E h' w'->Evo φ h w ψ h' w'->next (a.put o.dst v') w')->o.wp P a w next Q
theorem FA.AEB{o:Oper}{a:Act}{s:Sem IN}(hx:execOp a.eval o=(do pure (.value (<- s))))(hg:Bp ty φ E h w v h' (s.run P w)):FA P ty φ E h v h' o a w:=by
 intro next Q hn
 obtain⟨v',w',ψ,hs,hv,H,ev⟩:=hg;unfold ADh;rw[hx,xh,hs,xU,xk,Oper.upon_value];exact hn ψ v' w' hv H ev
theorem FA.AFa{o:Oper}{a:Act}{s:Sem Unit}(hx:execOp a.eval o=(do s;pure .skip))(hg:YQ ty φ E h w v h' (s.run P w)):FA P ty φ E h v h' o a w:=by
 intro next Q hn
 obtain⟨rfl,w',hs,H,ev⟩:=hg;unfold ADh;rw[hx,xh,hs,xU,xk,Oper.upon_skip];exact hn φ undef w' (.tuple .nil) H ev
theorem Jg{place:Nat->Option (Nat×Nat)}{ρ:yN->IN}:∀ {l:List (Nat×yN)} {ps:List (Nat×Nat×O)},Gq f place l=some ps->
  (∀ p∈l,∀ y,cO f p.2=some y->AEE φ (y e) (ρ p.2))->AGO φ e place ps (l.map fun (i,x)=>(i,ρ x))
 |[],ps,hp,_=>by cases hp;exact .nil
 |(i,x)::l,ps,hp,hst=>by
  unfold Gq at hp;split at hp
  ·rename_i off size hpl
   split at hp
   ·rename_i y hy
    split at hp
    ·rename_i r hr
     cases hp;exact .cons hpl (hst (i,x) (by simp) y hy) (Jg hr fun p hp=>hst p (by simp[hp]))
    ·cases hp
   ·cases hp
  ·cases hp
theorem OU{ρ:yN->IN}:∀ {l:List yN} {ys:List O},cOs f l=some ys->(∀ x∈l,∀ y,cO f x=some y->AEE φ (y e) (ρ x))->AEV φ (vals e ys) (l.map ρ)
 |[],ys,h,_=>by cases h;exact .nil
 |x::l,ys,h,hst=>by
  unfold cOs at h;split at h
  ·rename_i y hy
   split at h
   ·rename_i r hr
    cases h;exact .cons (hst x (by simp) y hy) (OU hr fun x hx=>hst x (by simp[hx]))
   ·cases h
  ·cases h
theorem SL{ρ:yN->IN}{x:Option yN}{y:Option O}(h:cOo f x=some y)(hst:∀ z,x=some z->∀ y,cO f z=some y->AEE φ (y e) (ρ z)):AFk φ e y (x.map ρ):=by
 unfold cOo at h;split at h
 ·cases h;exact .none
 ·rename_i x
  split at h
  ·rename_i y hy;cases h;exact .some (hst x rfl y hy)
  ·cases h
def kJ(φ:Phi)(f:Fr)(e:Env)(ρ:yN->IN)(op:Op):Prop:=∀ x∈op.operands.toList,∀ y,cO f x=some y->AEE φ (y e) (ρ x)
def HF(ty:TTy)(f:Fr)(e:Env)(E:Nat->Prop)(op:Op):Prop:=match kd ty op with
 |.p=>True
 |.a=>True
 |.r x=>∀ y,cO f x=some y->∀ b,AEh (y e)=.ok b->¬ E b
 |.w _=>∀ b,¬ E b
 |.q=>∀ b,¬ E b
theorem nu(hT:DE P ty)(H:AEI ty φ E h w){op:ADW}{t yt:ya}{x y:yN}{o:Oper}{a:Act}(ho:o.op=.binOp op t x y yt)(hst:kJ φ f e a.eval o.op)(hr:Yd ty f op t x y F e h=.ok v h'):FA P ty φ E h v h' o a w:=by
 have hx:execOp a.eval o=(do pure (.value (<- CE op t x y (a.eval x) (a.eval y)))):=by unfold execOp;rw[ho];rfl
 unfold Yd at hr;obtain⟨ti,hti,hr⟩:=Bi hr;obtain⟨x',y',hx',hy',hr⟩:=Jv hr;have r1:=hst x (by rw[ho];simp[yC]) x' hx';have r2:=hst y (by rw[ho];simp[yC]) y' hy';cases hk:ti.k with
 |int k=>
  rw[hk]at hr;cases op with
  |add=>exact .AEB hx (iO H r1 r2 hr)
  |sub=>exact .AEB hx (VL H (.inl ⟨rfl,rfl⟩) r1 r2 hr)
  |mul=>exact .AEB hx (VL H (.inr ⟨rfl,rfl⟩) r1 r2 hr)
  |quo=>exact .AEB hx (ia H r1 r2 hr)
  |rem=>exact .AEB hx (iu H r1 r2 hr)
  |and=>exact .AEB hx (O7 H (.inl ⟨rfl,rfl⟩) r1 r2 hr)
  |or=>exact .AEB hx (O7 H (.inr (.inl ⟨rfl,rfl⟩)) r1 r2 hr)
  |xor=>exact .AEB hx (O7 H (.inr (.inr ⟨rfl,rfl⟩)) r1 r2 hr)
  |shl=>exact .AEB hx (iz H r1 r2 hr)
  |shr=>exact .AEB hx (i7 H r1 r2 hr)
  |andNot=>cases hr
  |eql=>exact .AEB hx (IB H (.inl ⟨rfl,rfl⟩) r1 r2 hr)
  |neq=>exact .AEB hx (IB H (.inr (.inl ⟨rfl,rfl⟩)) r1 r2 hr)
  |lss=>exact .AEB hx (IB H (.inr (.inr (.inl ⟨rfl,rfl⟩))) r1 r2 hr)
  |leq=>exact .AEB hx (IB H (.inr (.inr (.inr (.inl ⟨rfl,rfl⟩)))) r1 r2 hr)
  |gtr=>exact .AEB hx (IB H (.inr (.inr (.inr (.inr (.inl ⟨rfl,rfl⟩))))) r1 r2 hr)
  |geq=>exact .AEB hx (IB H (.inr (.inr (.inr (.inr (.inr ⟨rfl,rfl⟩))))) r1 r2 hr)
 |string=>
  rw[hk]at hr;cases op with
  |add=>exact(EP hr).elim
  |eql=>exact .AEB hx (IC H (.inl ⟨rfl,rfl⟩) r1 r2 hr)
  |neq=>exact .AEB hx (IC H (.inr (.inl ⟨rfl,rfl⟩)) r1 r2 hr)
  |lss=>exact .AEB hx (IC H (.inr (.inr (.inl ⟨rfl,rfl⟩))) r1 r2 hr)
  |gtr=>exact .AEB hx (IC H (.inr (.inr (.inr (.inl ⟨rfl,rfl⟩)))) r1 r2 hr)
  |leq=>exact .AEB hx (IC H (.inr (.inr (.inr (.inr (.inl ⟨rfl,rfl⟩))))) r1 r2 hr)
  |geq=>exact .AEB hx (IC H (.inr (.inr (.inr (.inr (.inr ⟨rfl,rfl⟩))))) r1 r2 hr)
  |_=>cases hr
 |struct fs=>
  rw[hk]at hr;simp only at hr;cases hf:flatK ty 8 t with
  |none=>rw[hf]at hr;cases hr
  |some ks=>
   rw[hf]at hr;have hag:ti.k.agg=true:=by rw[hk];rfl
   cases op with
   |eql=>exact .AEB hx (Lb hT H (K:=⟨true,ks⟩) (.inl ⟨rfl,rfl⟩) hti hag hf rfl r1 r2 hr)
   |neq=>exact .AEB hx (Lb hT H (K:=⟨true,ks⟩) (.inr ⟨rfl,rfl⟩) hti hag hf rfl r1 r2 hr)
   |_=>cases hr
 |arr n el=>
  rw[hk]at hr;simp only at hr;cases hf:flatK ty 8 t with
  |none=>rw[hf]at hr;cases hr
  |some ks=>
   rw[hf]at hr;have hag:ti.k.agg=true:=by rw[hk];rfl
   cases op with
   |eql=>exact .AEB hx (Lb hT H (K:=⟨true,ks⟩) (.inl ⟨rfl,rfl⟩) hti hag hf rfl r1 r2 hr)
   |neq=>exact .AEB hx (Lb hT H (K:=⟨true,ks⟩) (.inr ⟨rfl,rfl⟩) hti hag hf rfl r1 r2 hr)
   |_=>cases hr
 |iface=>
  rw[hk]at hr;have hr:(match Ow y with|true=>(match op with|.eql=>oNo|.neq=>oNo|_=>oNo)|false=>oNo) F e h=.ok v h':=hr;cases hn:Ow y with
  |false=>rw[hn]at hr;cases hr
  |true=>
   rw[hn]at hr;have hy:y=.const .nilIface:=by
    unfold Ow at hn;split at hn
    ·split at hn
     ·rfl
     ·cases hn
    ·cases hn
   subst hy;cases op with
   |eql=>exact(EP hr).elim
   |neq=>exact(EP hr).elim
   |_=>cases hr
 |_=>
  rw[hk]at hr;cases op with
  |eql=>exact .AEB hx (aG H (.inl ⟨rfl,rfl⟩) (hT t ti hti) hk r1 r2 hr)
  |neq=>exact .AEB hx (aG H (.inr ⟨rfl,rfl⟩) (hT t ti hti) hk r1 r2 hr)
  |_=>cases hr
end
end
noncomputable section
open Go
section
variable {P:yw}{ty:TTy}{φ:Phi}{E:Nat->Prop}{h h':Hp}{w:yQ}{F:AEA}{e:Env}{v:IN}
theorem AEI.less(H:AEI ty φ E h w)(hE:∀ b,¬ E b){E':Nat->Prop}:AEI ty φ E' h w where
 dom:=H.dom
 inj:=fun i j p q ei ej _ _=>H.inj i j p q ei ej (hE i) (hE j)
 row:=fun i p hp _=>H.row i p hp (hE i)
 fresh:=H.fresh
 kind:=H.kind
 inp:=H.inp
theorem UB(hF:DX P ty F)(H:AEI ty φ E h w)(hE:∀ b,¬ E b){g:Nat}{args args':List IN}(ha:AEV φ args args')(hr:F g args h=.ok v h'){o:Oper}{a:Act}
  (hx:(execOp a.eval o).run P w=(callFunc g ⟨args'⟩).run P w):FA P ty φ E h v h' o a w:=by
 intro next Q hn
 obtain⟨⟨fn,hfn,hnm,hb⟩,hc⟩:=hF g args h v h' hr;have AHr:(callFunc g ⟨args'⟩).run P w=.ok (.enter g ⟨args'⟩) w:=by
  have AJY:(fn.name == "runtime.NumGoroutine")=false:=by simpa using hnm
  simp only[callFunc,xh,run_program,xU,hfn,AJY,yT,if_false,hb,xk,Sem.run_ite]
 unfold ADh;rw[hx,AHr,Oper.upon_enter];refine(hc φ w args' ha (H.less hE)).mono fun en w' ⟨v',ψ,he,hv,H',ev⟩=>?_
 subst he;exact hn ψ v' w' hv (H'.less (fun _ h=>h)) ev
theorem aC(hF:DX P ty F)(H:AEI ty φ E h w)(hE:∀ b,¬ E b){g:Nat}{c:Call}(hc:c.callee=.value (.func g)){o:Oper}{a:Act}(ho:o.op=.call c){args:List O}
  (ha:AEV φ (vals e args) (c.args.toList.map a.eval))(hr:AU g args F e h=.ok v h'):FA P ty φ E h v h' o a w:=by
 unfold AU at hr;rw[C2]at hr;refine UB hF H hE ha hr ?_;have e1:c.args.map a.eval=⟨c.args.toList.map a.eval⟩:=by apply zF;simp
 unfold execOp;rw[ho];simp only[resolve,hc,e1,Act.eval,ACc,xh,xk,xU,invoke]
 congr 2
 apply zF;simp
theorem KY(hF:DX P ty F)(H:AEI ty φ E h w)(hE:∀ b,¬ E b){x:yN}{g:O}{c:Call}(hc:c.callee=.value x){o:Oper}{a:Act}(ho:o.op=.call c){args:List O}
  (hg:AEE φ (g e) (a.eval x))(ha:AEV φ (vals e args) (c.args.toList.map a.eval))(hr:EA g args F e h=.ok v h'):FA P ty φ E h v h' o a w:=by
 unfold EA at hr;split at hr
 case h_2=>cases hr
 rename_i k first cap hge
 rw[hge]at hg;rw[C2]at hr;generalize hxe:a.eval x=xv at hg;cases hg with
 |func _ h1 h2=>
  refine UB hF H hE (h1.append (ha.append h2)) hr ?_;have e1:c.args.map a.eval=⟨c.args.toList.map a.eval⟩:=by apply zF;simp
  unfold execOp;rw[ho];simp only[resolve,hc,e1,hxe,ACc,xh,xk,xU,invoke]
  congr 2
  apply zF;simp
theorem CF{b:Nat}{ob:Obj}(h1:w.heap[b]? =some ob)(h2:(match ob with|.cells .. =>true|_=>false)=false):(getObj b).run P w=.ok ob w:=by
 unfold getObj;simp only[Sem.run,h1];cases ob<;>first|rfl|cases h2
theorem AE8.length:∀ {l:List Ent} {l':List yn},AE8 φ l l'->l'.length=l.length
 |_,_,.nil=>rfl
 |_,_,.cons _ _ t=>congrArg (· +1) t.length
theorem H0{r:Nat}{es:List Ent}{c:Nat}(hr:Bl h r=.ok es c):h.bl.get r=.map es c:=by
 unfold Bl qL at hr;split at hr
 ·cases hr;assumption
 ·cases hr
theorem AEI.AFP(H:AEI ty φ E h w){r:Nat}{p:Pl}(hp:φ r=some p)(hE:¬ E r){es:List Ent}{c:Nat}(hr:Bl h r=.ok es c):
  ∃ es',w.heap[p.blk]? =some (.map ⟨es'⟩ c)/\AE8 φ es es':=by
 have:=H.row r p hp hE;rw[H0 hr]at this;generalize w.heap[p.blk]? =o at this;cases this with
 |map h=>exact⟨_,rfl,h⟩
theorem aK(H:AEI ty φ E h w){x:O}{x':IN}{ats:Array ya}{t t' el:ya}(h0:ats[0]? =some t){ti:TI}(T:AEg P t ti)(hk:ti.k=.slice el)(hx:AEE φ (x e) x')(hr:Be x F e h=.ok v h'):
  Bp ty φ E h w v h' ((zQ ats t' #[x']).run P w):=by
 unfold Be at hr;split at hr
 case h_3=>cases hr
 case h_2=>
  rename_i r hxe;rw[hxe]at hx;cases hr;obtain⟨d,hd,hkd⟩:=T.desc;rw[hk]at hkd;cases hkd;have key:(zQ ats t' #[x']).run P w=.ok (goInt ((0:Nat):Int)) w:=by
   cases hx<;>simp only[zQ,h0,xh,hd,xU,xk,yO,yW]
  rw[key];exact .same H (.int _ _)
 rename_i a n c hxe;rw[hxe]at hx;cases hr;obtain⟨d,hd,hkd⟩:=T.desc;rw[hk]at hkd;cases hkd;have key:(zQ ats t' #[x']).run P w=.ok (goInt n) w:=by
  cases hx<;>simp only[zQ,h0,xh,hd,xU,xk,yO,yW]
 rw[key];exact .same H (.int _ _)
theorem aM(H:AEI ty φ E h w){x:O}{x':IN}{ats:Array ya}{t t':ya}(h0:ats[0]? =some t){ti:TI}(T:AEg P t ti)(hk:ti.k=.string)(hx:AEE φ (x e) x')(hr:N6 x F e h=.ok v h'):
  Bp ty φ E h w v h' ((zQ ats t' #[x']).run P w):=by
 unfold N6 at hr;split at hr
 case h_2=>cases hr
 rename_i s hxe;rw[hxe]at hx;rw[Ap,Bm]at hr;cases hr;obtain⟨d,hd,hkd⟩:=T.desc;rw[hk]at hkd;cases hkd;obtain rfl:=hx.AEq;have key:(zQ ats t' #[.string s]).run P w=.ok (goInt s.size) w:=by
  simp only[zQ,h0,xh,hd,xU,xk,yO,yW]
 rw[key];exact .same H (.int _ _)
theorem gz{x':IN}{ats:Array ya}{t t' el:ya}{n:Nat}(h0:ats[0]? =some t){ti:TI}(T:AEg P t ti)(hk:ti.k=.arr n el):(zQ ats t' #[x']).run P w=.ok (goInt n) w:=by
 obtain⟨d,hd,hkd⟩:=T.desc;rw[hk]at hkd;cases hkd;simp only[zQ,h0,xh,hd,xU,xk,yO,yW]
theorem Fb{b:Nat}{ob ob':Obj}(h1:w.heap[b]? =some ob)(h2:(match ob with|.cells .. =>true|_=>false)=false):
  (setObj b ob').run P w=.ok () {w with heap:=w.heap.setIfInBounds b ob'}:=by
 unfold setObj;simp only[Sem.run,h1];cases ob<;>first|rfl|cases h2
theorem IE(H:AEI ty φ E h w){r:Nat}{p:Pl}(hEr:¬ E r)(hp:φ r=some p)(hl:Live h r){o:Blk}{ob:Obj}{k:Hp->R}(hr:Eo h r o k=.ok v h')(hsh:AET (h.bl.get r) o)(hB:AE9 ty φ p o (some ob)):
  ∃ h1,k h1=.ok v h'/\AEI ty φ E h1 {w with heap:=w.heap.setIfInBounds p.blk ob}/\Evo φ h w φ h1 {w with heap:=w.heap.setIfInBounds p.blk ob}:=by
 obtain⟨bl,AEK,hbl,hk⟩:=FP hr;have hlt:=(H.dom r p hp).2;have e1:(w.heap.setIfInBounds p.blk ob).size=w.heap.size:=by simp
 have e2:∀ k,k≠p.blk->(w.heap.setIfInBounds p.blk ob)[k]? =w.heap[k]?:=fun k hk=>by
  rw[zP,if_neg (AD0 hk)]
 have e3:(w.heap.setIfInBounds p.blk ob)[p.blk]? =some ob:=by rw[zP,if_pos rfl,if_pos hlt]
 exact⟨_,hk,H.put hEr AEK hp hl hbl e1 e2 (by show AE9 ty φ p o ((w.heap.setIfInBounds p.blk ob)[p.blk]?);rw[e3];exact hB),.put (H.AFA hp AEK) hp hl hbl hsh e1 e2 rfl rfl rfl⟩
theorem KV{r:Nat}{es:List Ent}{c:Nat}(hr:Bl h r=.ok es c):Live h r:=by
 unfold Live;rw[H0 hr];intro hd;cases hd
theorem O8(H:AEI ty φ E h w)(hE:∀ b,¬ E b){x:O}{x':IN}{ats:Array ya}{t t':ya}{ti:TI}(h0:ats[0]? =some t)(T:AEg P t ti)(hx:AEE φ (x e) x')(hr:FO x F e h=.ok v h'):
  Bp ty φ E h w v h' ((zD ats t' #[x']).run P w):=by
 obtain⟨d,hd,_⟩:=T.desc;unfold FO at hr;split at hr
 ·rename_i hxe
  rw[hxe]at hx;cases hr;cases hx;have key:(zD ats t' #[.map none]).run P w=.ok AED w:=by
   simp only[zD,h0,xh,hd,xU,xk,yO,yW];rfl
  rw[key];exact .same H (.tuple .nil)
 ·rename_i r hxe
  rw[hxe]at hx;cases hx with
  |@map _ p hp=>
   split at hr
   case h_2=>cases hr
   rename_i es c hes;obtain⟨es',hw,AEp⟩:=H.AFP hp (hE r) hes;obtain⟨h1,hk,H1,ev⟩:=IE (ob:=.map #[] c) H (hE _) hp (KV hes) hr (by rw[H0 hes];exact .inr trivial) (.map .nil);cases hk;have key:(zD ats t' #[.map (some p.blk)]).run P w=.ok AED {w with heap:=w.heap.setIfInBounds p.blk (.map #[] c)}:=by
    simp only[zD,h0,xh,hd,xU,xk,yO,yW,CF hw rfl,Fb hw rfl];rfl
   rw[key];exact⟨_,_,φ,rfl,.tuple .nil,H1,ev⟩
 ·cases hr
theorem Xj(H:AEI ty φ E h w)(hE:∀ b,¬ E b){x:O}{x':IN}{ats:Array ya}{t t' el:ya}{ti ei:TI}(h0:ats[0]? =some t)(T:AEg P t ti)(hk:ti.k=.slice el)(TE:AEg P el ei)(hz:ei.zero.length=ei.size)
  (hx:AEE φ (x e) x')(hr:Mg ei.zero x F e h=.ok v h'):Bp ty φ E h w v h' ((zD ats t' #[x']).run P w):=by
 obtain⟨d,hd,hkd⟩:=T.desc;rw[hk]at hkd;cases hkd;obtain⟨z,_,hzr,hzc,hzp⟩:=TE.AFH hz;unfold Mg at hr;split at hr
 ·rename_i hxe
  rw[hxe]at hx;cases hr;cases hx;have key:(zD ats t' #[.slice none 0 0]).run P w=.ok AED w:=by
   simp only[zD,h0,xh,hd,xU,xk,yO,yW];rfl
  rw[key];exact .same H (.tuple .nil)
 ·rename_i a n c hxe
  rw[hxe]at hx;cases hx with
  |@slice _ a' _ _ c' hlc hs=>
   cases n with
   |zero=>
    cases hr;have key:(zD ats t' #[.slice (some a') 0 c']).run P w=.ok AED w:=by
     simp only[zD,h0,xh,hd,xU,xk,yO,yW];rfl
    rw[key];exact .same H (.tuple .nil)
   |succ n=>
    have AEp:AEV φ (Bc ei.zero (n+1)) (Bc ei.zero (n+1)):=Hl (.plain hzp) (n+1);obtain⟨h1,w1,hk2,hrun,H1,ev⟩:=IH (P:=P) H hr (Kh hlc hs (AA4 n)) AEp (hE _);cases hk2;have hc:(Builtin.zeroCells z.cells (n+1)).toList=Bc ei.zero (n+1):=by rw[G3,hzc]
    have key:(zD ats t' #[.slice (some a') (n+1) c']).run P w=.ok AED w1:=by
     simp only[zD,h0,xh,hd,xU,xk,yO,yW,hzr,hc,hrun];rfl
    rw[key];exact⟨_,_,φ,rfl,.tuple .nil,H1,ev⟩
 ·cases hr
theorem Xi(H:AEI ty φ E h w)(hE:∀ b,¬ E b){x:O}{x':IN}{t el:ya}{ti ei:TI}(T:AEg P t ti)(hk:ti.k=.slice el)(TE:AEg P el ei)(he:ei.k=.int .u8)(hx:AEE φ (x e) x')(hr:S0 x F e h=.ok v h'):
  Bp ty φ E h w v h' ((convert t t x').run P w):=by
 obtain⟨d,hd,hkd⟩:=T.und;rw[hk]at hkd;cases hkd;obtain⟨d3,h3,k3⟩:=TE.und;rw[he]at k3;cases k3;unfold S0 at hr;split at hr
 case h_2=>cases hr
 rename_i a n c hxe;rw[hxe]at hx;have hx0:=hx;cases hx with
 |@slice _ a' _ _ c' hlc hs=>
  split at hr
  case h_2=>cases hr
  rename_i ct s en hrow;obtain⟨s1,s2,p,hp,hbl,hor⟩:=hs;obtain⟨cs,tt,fr,hw,R⟩:=H.rowAt hp (hE _) hrow;have AEw:Live h a.block:=by unfold Live;rw[DU hrow];intro hd;cases hd
  obtain⟨bl,AEK,AGI,hk2⟩:=FP hr;cases hk2
  let fr':Nat×Nat:=if fr.1 == fr.2 then(cs.size,cs.size+1)else(min fr.1 cs.size,max fr.2 (cs.size+1))
  let w':yQ:=w.freeze ⟨a'.block,cs.size,none⟩ 1
  have hf:∃ g:Obj->Obj,w'.heap=w.heap.modify p.blk g/\g (.cells cs tt fr)=.cells cs tt fr':=by
   obtain⟨lo,hi⟩:=fr;refine⟨_,by show(w.freeze ⟨a'.block,cs.size,none⟩ 1).heap=_;unfold ACH;rw[if_neg ABv,hbl],rfl⟩
  obtain⟨g,AGd,hg⟩:=hf;have e1:w'.heap.size=w.heap.size:=by rw[AGd];simp
  have e2:∀ k,k≠p.blk->w'.heap[k]? =w.heap[k]?:=fun k hk=>by
   rw[AGd,AAQ,if_neg (AD0 hk)]
  have e3:w'.heap[p.blk]? =some (.cells cs tt fr'):=by
   rw[AGd,AAQ,if_pos rfl,hw,zG,hg]
  have e4:w'.tape=w.tape/\w'.os=w.os/\w'.output=w.output:=by
   show(w.freeze ⟨a'.block,cs.size,none⟩ 1).tape=_/\(w.freeze ⟨a'.block,cs.size,none⟩ 1).os=_/\(w.freeze ⟨a'.block,cs.size,none⟩ 1).output=_;unfold ACH;rw[if_neg ABv];exact⟨rfl,rfl,rfl⟩
  have hB:AE9 ty φ p (.cells ct s en) w'.heap[p.blk]?:=by
   rw[e3];refine .cells {R with loose:=.inl ?_};have:=R.AJN (H.AFA hp AEK);show fr'.1=fr'.2\/cs.size<=fr'.1;refine .inr ?_;simp only[fr'];split
   ·exact IT _
   ·rename_i hne
    have AGc:fr.1≠fr.2:=by simpa using hne
    rcases this with h|h
    ·exact absurd h AGc
    ·show cs.size<=min fr.1 cs.size
     omega
  have key:(convert t t (.slice (some a') n c')).run P w=.ok (.slice (some a') n c') w':=by
   have hsh:w.shape? a'.block=some (tt,cs.size):=by rw[hbl];simp[ACG,hw]
   simp only[convert,xh,run_underlying hd,run_underlying h3,xU,beq_self_eq_true,markStringish,run_shape,hsh,run_freeze,xk];rfl
  rw[key];exact⟨_,w',φ,rfl,hx0,H.put (hE _) AEK hp AEw AGI e1 e2 hB,.put (H.AFA hp AEK) hp AEw AGI (by rw[DU hrow];exact .inr ⟨rfl,rfl⟩) e1 e2 e4.1 e4.2.1 e4.2.2⟩
end
end
noncomputable section
open Go
section
variable {P:yw}{ty:TTy}{φ:Phi}{E:Nat->Prop}{h h':Hp}{w:yQ}{F:AEA}{e:Env}{v:IN}
theorem N2(H:AEI ty φ E h w){o:Blk}{ob:Obj}(hr:GD h o Ir=.ok v h')
  (hB:AE9 ty (φ.put h.next {blk:=w.heap.size,off:=0,sz:=0,room:=0,es:=1}) {blk:=w.heap.size,off:=0,sz:=0,room:=0,es:=1} o (some ob)):
  Bp ty φ E h w v h' (.ok (.pointer (some ⟨w.heap.size,0,none⟩)) {w with heap:=w.heap.push ob}):=by
 obtain⟨bl,hbl,hk⟩:=IA hr;cases hk
 let w':yQ:={w with heap:=w.heap.push ob}
 have hs:w'.heap.size=w.heap.size+1:=by simp[w']
 have hsame:∀ k,k<w.heap.size->w'.heap[k]? =w.heap[k]?:=fun k hk=>by
  show(w.heap.push _)[k]? =_;rw[Array.getElem?_push_lt hk,Array.getElem?_eq_getElem hk]
 refine⟨_,w',φ.put h.next {blk:=w.heap.size,off:=0,sz:=0,room:=0,es:=1},rfl,PJ (Phi.AEy _ _ _) rfl,
  H.new hbl (by omega) (by show w.heap.size<_;omega) (fun j q e _=>by have:=(H.dom j q e).2;show _≠w.heap.size;omega) (fun k hk _=>hsame k hk) ?_,
  .made H hbl (IT _) (by omega) hsame rfl rfl rfl⟩
 have:w'.heap[w.heap.size]? =some ob:=by show(w.heap.push _)[w.heap.size]? =_;simp
 rw[this];exact hB
theorem Xu(H:AEI ty φ E h w)(hE:∀ b,¬ E b){x:O}{x':IN}{t kt el:ya}{ti:TI}(T:AEg P t ti)(hk:ti.k=.map kt el)(hx:AEE φ (x e) x')(hr:Ka x F e h=.ok v h'):
  Bp ty φ E h w v h' ((ABC t x').run P w):=by
 obtain⟨d,hd,hkd⟩:=T.desc;rw[hk]at hkd;cases hkd;unfold Ka at hr;split at hr
 ·rename_i hxe
  rw[hxe]at hx;cases hx;have key:(ABC t (.map none)).run P w=.ok (.pointer (some ⟨w.heap.size,0,none⟩)) {w with heap:=w.heap.push (.mapIter none 0 #[] 0)}:=by
   simp only[ABC,xh,hd,xU,xk,run_newObj]
  rw[key];exact N2 H hr (.AFu rfl)
 ·rename_i r hxe
  rw[hxe]at hx;cases hx with
  |@map _ p hp=>
   split at hr
   case h_2=>cases hr
   rename_i es c hes;obtain⟨es',hw,AEp⟩:=H.AFP hp (hE r) hes;have key:(ABC t (.map (some p.blk))).run P w=.ok (.pointer (some ⟨w.heap.size,0,none⟩)) {w with heap:=w.heap.push (.mapIter (some p.blk) c #[] c)}:=by
    simp only[ABC,xh,hd,xU,CF hw rfl,xk,run_newObj]
   rw[key];exact N2 H hr (.iter rfl (Phi.AFX H.AE1 _ _ hp))
 ·cases hr
theorem LZ(n:Nat):∀ l:List Nat,Fh n l=l.contains n
 |[]=>rfl
 |x::l=>by
  unfold Fh;rw[LZ n l,List.contains_cons];cases hb:xr x n with
  |true=>
   have:x=n:=Az.1 hb;subst this;simp
  |false=>
   have:¬ n=x:=fun h=>by rw[h,zU]at hb;cases hb
   simp[this]
theorem Mu(n:Nat):∀ l:List Nat,Jh n l=l++[n]
 |[]=>rfl
 |x::l=>congrArg (x:: ·) (Mu n l)
theorem Qc{since:Nat}{seen:List Nat}:∀ {es:List Ent} {es':List yn} {l:List Ent},AE8 φ es es'->K3 since seen es=some l->
  ∃ l',AE8 φ l l'/\es'.filter (fun e=> !seen.contains e.born)=l'/\l'.filter (fun e=>decide (e.born<since))=l'/\l'.filter (fun e=>decide (e.born>=since))=[]
 |_,_,l,.nil,h=>by cases h;exact⟨[],.nil,rfl,rfl,rfl⟩
 |_,_,l,.cons (b:=b) hk hv t,h=>by
  unfold K3 at h;split at h
  ·rename_i r hr
   obtain⟨l',h1,h2,h3,h4⟩:=Qc t hr;rw[LZ]at h;cases hm:seen.contains b with
   |true=>
    simp only[hm,cond_true]at h;cases h;exact⟨l',h1,by rw[AAu];simp only[hm,Bool.not_true,yT,if_false];exact h2,h3,h4⟩
   |false=>
    simp only[hm,cond_false]at h;obtain⟨hb,h⟩:Nat.blt b since=true/\_=some l:=by
     cases hb:Nat.blt b since with
     |true=>rw[hb]at h;exact⟨rfl,h⟩
     |false=>rw[hb]at h;cases h
    cases h;have hlt:=Bb.1 hb;refine⟨_,.cons hk hv h1,by rw[AAu];simp only[hm,Bool.not_false,if_true];rw[h2],?_,?_⟩
    ·rw[AAu];simp[hlt,h3]
    ·rw[AAu];simp[Nat.not_le.2 hlt,h4]
  ·cases h
theorem Kn{last:Nat}:∀ {es:List Ent} {es':List yn},AE8 φ es es'->es'.all (fun e=>decide (e.born>=last))=FQ last es
 |_,_,.nil=>rfl
 |_,_,.cons (b:=b) hk hv t=>by
  unfold FQ;rw[ABi,Kn t];cases hb:xd last b with
  |true=>simp[Au.1 hb]
  |false=>
   have:¬ last<=b:=fun h=>by rw[Au.2 h]at hb;cases hb
   simp[this]
theorem H6{b:Nat}{m:Option Nat}{s:Nat}{l:List Nat}{t:Nat}(hr:EM (h.bl.get b)=.ok m s l t):h.bl.get b=.iter m s l t:=by
 unfold EM at hr;split at hr<;>first|(cases hr;assumption)|cases hr
theorem pi{b m s t:Nat}(hr:EM (h.bl.get b)=.cur m s t):h.bl.get b=.cur m s t:=by
 unfold EM at hr;split at hr<;>first|(cases hr;assumption)|cases hr
theorem jO{b m s t:Nat}{sn:Option (List Nat)}(hr:EM (h.bl.get b)=.pick m s t sn):h.bl.get b=.pick m s t sn:=by
 unfold EM at hr;split at hr<;>first|(cases hr;assumption)|cases hr
theorem Q4:AEE φ (.tuple ⟨[.bool false]⟩) (.tuple #[.bool false]):=.tuple (.cons (.bool _) .nil)
theorem aO(H:AEI ty φ E h w)(hE:∀ b,¬ E b){x:O}{x':IN}{t:ya}(hx:AEE φ (x e) x')(hr:HD x F e h=.ok v h'):Bp ty φ E h w v h' ((zd x' false t).run P w):=by
 unfold HD at hr;split at hr
 case h_2=>cases hr
 rename_i a ha;obtain⟨hb,hr⟩:=Bx hr;obtain⟨a',rfl,hra⟩:=Fj hx ha;obtain⟨p,hp,rfl⟩:=hra.eq;have hoff:a.off=0:=Az.1 hb;unfold GS at hr;split at hr
 ·rename_i s l tl hit
  cases hr;have hrow:=H.row a.block p hp (hE _);rw[H6 hit]at hrow;generalize hw:w.heap[p.blk]? =ob at hrow;cases hrow with
  |AFu hp0=>
   have key:(zd (.pointer (some ⟨p.blk,p.off+a.off,none⟩)) false t).run P w=.ok (.tuple #[.bool false]) w:=by
    rw[hp0,hoff];simp only[zd,xh,CF hw rfl,xU,xk]
   rw[key];exact .same H Q4
 ·rename_i m since seen last hit
  have hrow:=H.row a.block p hp (hE _);rw[H6 hit]at hrow;generalize hw:w.heap[p.blk]? =ob at hrow;cases hrow with
  |@iter _ q _ _ _ hp0 hq=>
   split at hr
   case h_2=>cases hr
   rename_i es c hes;obtain⟨es',hwm,AEp⟩:=H.AFP hq (hE m) hes;rw[hp0,hoff];have AG6:∃ k:R,k=.ok v h'/\(!(⟨seen⟩:Array Nat).isEmpty && !(⟨es'⟩:Array yn).isEmpty && (⟨es'⟩:Array yn).all (fun e=>decide (e.born>=last)))=false/\
     k=(match K3 since seen es with
      |some []=>an h
      |some [x]=>Eo h a.block (.iter (some m) since (Jh x.born seen) c) fun h=>.ok (.tuple ⟨[.bool true,x.key,x.val]⟩) h
      |_=>.no):=by
    have hall:(⟨es'⟩:Array yn).all (fun e=>decide (e.born>=last))=FQ last es:=by
     rw[<- Kn AEp];simp
    cases seen with
    |nil=>exact⟨_,hr,by simp,rfl⟩
    |cons s0 sl=>
     cases AEp with
     |nil=>exact⟨_,hr,by simp,rfl⟩
     |cons hk hv tl=>
      simp only at hr;rw[hall];generalize hy:FQ last _=y at hr ⊢;cases y with
      |true=>cases hr
      |false=>exact⟨_,hr,by simp,rfl⟩
   obtain⟨k,hk,hstop,rfl⟩:=AG6;cases hl:K3 since seen es with
   |none=>rw[hl]at hk;cases hk
   |some l=>
    rw[hl]at hk;obtain⟨l',q1,q2,q3,q4⟩:=Qc AEp hl;have f1:(⟨es'⟩:Array yn).filter (fun e=> !(⟨seen⟩:Array Nat).contains e.born)=⟨l'⟩:=by
     rw[<- q2];apply zF;simp
    have f2:(⟨l'⟩:Array yn).filter (fun e=>decide (e.born<since))=⟨l'⟩:=by
     apply zF;rw[ABT];exact q3
    have f3:(⟨l'⟩:Array yn).filter (fun e=>decide (e.born>=since))= #[]:=by
     apply zF;rw[ABT];exact q4
    cases q1 with
    |nil=>
     cases hk;have key:(zd (.pointer (some ⟨p.blk,0,none⟩)) false t).run P w=.ok (.tuple #[.bool false]) w:=by
      simp only[zd,xh,CF hw rfl,xU,CF hwm rfl,hstop,yT,if_false,f1,f2,f3];simp[run_choose,AAq]
     have:p.off+a.off=0:=by omega
     rw[show(0:Nat)+0=0 from rfl,key];exact .same H Q4
    |cons hkk hvv tl=>
     cases tl with
     |cons _ _ _=>cases hk
     |nil=>
      rename_i k0 k1 v0 v1 b0;have AEw:Live h a.block:=by unfold Live;rw[H6 hit];intro hd;cases hd
      simp only at hk;obtain⟨h1,hk2,H1,ev⟩:=IE (ob:=.mapIter (some q.blk) since ⟨seen++[b0]⟩ c) H (hE _) hp AEw hk (by rw[H6 hit];exact .inr trivial) (by rw[Mu];exact .iter hp0 hq);cases hk2;have key:(zd (.pointer (some ⟨p.blk,0,none⟩)) false t).run P w=.ok (.tuple #[.bool true,k1,v1]) {w with heap:=w.heap.setIfInBounds p.blk (.mapIter (some q.blk) since ⟨seen++[b0]⟩ c)}:=by
       have AEl:=Fb (P:=P) (ob':=.mapIter (some q.blk) since ⟨seen++[b0]⟩ c) hw rfl;simp only[zd,xh,CF hw rfl,xU,CF hwm rfl,hstop,yT,if_false,f1,f2,f3];simp[run_choose,AAq,AEl]
      rw[key];exact⟨_,_,φ,rfl,.tuple (.cons (.bool _) (.cons hkk (.cons hvv .nil))),H1,ev⟩
 ·cases hr
 ·cases hr
 ·rename_i m s last hit
  have hrow:=H.row a.block p hp (hE _);rw[jO hit]at hrow;cases hrow
theorem Qb:∀ l:List Nat,Qa l=l.getLast?
 |[]=>rfl
 |[x]=>rfl
 |x::y::l=>by
  show Qa (y::l)=_;rw[Qb (y::l)];rfl
theorem QA{n:Nat}:∀ {es:List Ent} {es':List yn} {x:Ent},AE8 φ es es'->GL n es=some x->∃ x',es'.find? (fun e=>e.born == n)=some x'/\AEE φ x.key x'.key/\AEE φ x.val x'.val
 |_,_,x,.nil,h=>by cases h
 |_,_,x,.cons (k':=k') (v':=v') (b:=b) hk hv t,h=>by
  unfold GL at h;rw[List.find?_cons];cases hb:xr b n with
  |true=>
   simp only[hb,cond_true]at h;cases h;have:b=n:=Az.1 hb;subst this;refine⟨⟨k',v',b⟩,?_,hk,hv⟩;simp only[beq_self_eq_true]
  |false=>
   simp only[hb,cond_false]at h;have hne:(b == n)=false:=by
    rw[beq_eq_false_iff_ne];intro he;rw[he,zU]at hb;cases hb
   obtain⟨x',q1,q2⟩:=QA t h;exact⟨x',by simp only[hne];exact q1,q2⟩
theorem Sa(H:AEI ty φ E h w)(hE:∀ b,¬ E b){m s last:Nat}{q:Pl}(hq:φ m=some q)(hr:Hy m s last h=.ok v h'):
  h'=h/\∃ (es':List yn) (c:Nat) (en':yn) (k0 v0:IN),w.heap[q.blk]? =some (.map ⟨es'⟩ c)/\c=last/\(⟨es'⟩:Array yn).find? (fun e=>e.born == s)=some en'/\v=.tuple ⟨[k0,v0]⟩/\AEE φ k0 en'.key/\AEE φ v0 en'.val:=by
 unfold Hy at hr;split at hr
 case h_2=>cases hr
 rename_i es c hes;obtain⟨hc,hr⟩:=Bx hr;split at hr
 case h_2=>cases hr
 rename_i en hen;cases hr;obtain⟨es',hwm,AEp⟩:=H.AFP hq (hE m) hes;obtain⟨en',q1,q2,q3⟩:=QA AEp hen;exact⟨rfl,es',c,en',_,_,hwm,Az.1 hc,by rw[<- q1];simp,rfl,q2,q3⟩
theorem Xk(H:AEI ty φ E h w)(hE:∀ b,¬ E b){x:O}{x':IN}(hx:AEE φ (x e) x')(hr:Ip x F e h=.ok v h'):Bp ty φ E h w v h' ((ABn x').run P w):=by
 unfold Ip at hr;split at hr
 case h_2=>cases hr
 rename_i a ha;obtain⟨hb,hr⟩:=Bx hr;obtain⟨a',rfl,hra⟩:=Fj hx ha;obtain⟨p,hp,rfl⟩:=hra.eq;have hoff:a.off=0:=Az.1 hb;have main:∀ {m s last:Nat} {q:Pl} {sn:Nat} {seen:List Nat},φ m=some q->p.off=0->w.heap[p.blk]? =some (.mapIter (some q.blk) sn ⟨seen⟩ last)->seen.getLast? =some s->Hy m s last h=.ok v h'->
   Bp ty φ E h w v h' ((ABn (.pointer (some ⟨p.blk,p.off+a.off,none⟩))).run P w):=by
  intro m s last q sn seen hq hp0 hw hl hr;obtain⟨rfl,es',c,en',k0,v0,hwm,rfl,hfind,rfl,q2,q3⟩:=Sa H hE hq hr;have AFn:(⟨seen⟩:Array Nat).back? =some s:=by
   rw[<- hl];simp[Array.back?_eq_getElem?,List.getLast?_eq_getElem?]
  rw[hp0,hoff];have key:(ABn (.pointer (some ⟨p.blk,0,none⟩))).run P w=.ok (.tuple #[en'.key,en'.val]) w:=by
   simp only[ABn,xh,CF hw rfl,xU,AFn,CF hwm rfl,bne_self_eq_false,yT,if_false,hfind,xk]
  rw[key];exact .same H (.tuple (.cons q2 (.cons q3 .nil)))
 unfold KF at hr;split at hr
 ·rename_i m since seen last hit
  have hrow:=H.row a.block p hp (hE _);rw[H6 hit]at hrow;generalize hw:w.heap[p.blk]? =ob at hrow;cases hrow with
  |@iter _ q _ _ _ hp0 hq=>
   split at hr
   case h_2=>cases hr
   rename_i st hst;exact main hq hp0 hw (by rw[<- Qb];exact hst) hr
 ·rename_i m st last hit
  have hrow:=H.row a.block p hp (hE _);rw[pi hit]at hrow;generalize hw:w.heap[p.blk]? =ob at hrow;cases hrow with
  |cur hp0 hq hl=>exact main hq hp0 hw hl hr
 ·cases hr
end
end
noncomputable section
open Go
section
variable {P:yw}{ty:TTy}{φ:Phi}{E:Nat->Prop}{h h':Hp}{w:yQ}{F:AEA}{e:Env}{v:IN}
theorem Lk{t:Nat}{k:KS->OpF}(hr:wKey ty t k F e h=.ok v h'):∃ ti kt el K,ty.get t=some ti/\ti.k=.map kt el/\AFD P ty kt K/\k K F e h=.ok v h':=by
 unfold wKey at hr;obtain⟨ti,hti,hr⟩:=Bi hr;cases hk:ti.k with
 |map kt el=>
  simp only[hk]at hr;obtain⟨ki,hki,hr⟩:=Bi hr;cases hf:flatK ty 8 kt with
  |none=>rw[hf]at hr;cases hr
  |some ks=>
   rw[hf]at hr;exact⟨ti,kt,el,⟨ki.k.agg,ks⟩,hti,hk,⟨⟨ki,hki,rfl⟩,hf⟩,hr⟩
 |_=>simp only[hk]at hr;cases hr
theorem AFD.und(hT:DE P ty){t:Nat}{K:KS}(hK:AFD P ty t K):∃ d,P.underlying t=some d:=by
 obtain⟨ti,hti,_⟩:=hK.ti;obtain⟨d,hd,_⟩:=(hT t ti hti).und;exact⟨d,hd⟩
theorem VF{t:Nat}{ti:TI}(T:AEg P t ti){kt el:Nat}(hk:ti.k=.map kt el):P.underlying t=some (.map kt el):=by
 obtain⟨d,hd,hkd⟩:=T.und;rw[hk]at hkd;cases hkd;exact hd
theorem In{ok:Bool}{u:IN}{b:Bool}(hr:Et ok u b h=.ok v h'):h'=h/\v=(if ok then .tuple ⟨[u,.bool b]⟩else u):=by
 unfold Et at hr;cases ok<;>simp only[BR]at hr<;>cases hr<;>exact⟨rfl,rfl⟩
theorem He{ok:Bool}{u u':IN}{b:Bool}(hu:AEE φ u u'):AEE φ (if ok then .tuple ⟨[u,.bool b]⟩else u) (if ok then .tuple #[u',.bool b]else u'):=by
 cases ok
 ·exact hu
 ·exact .tuple (.cons hu (.cons (.bool b) .nil))
theorem S6(hT:DE P ty)(H:AEI ty φ E h w){t kt el:Nat}{ti ei:TI}(T:AEg P t ti)(hk:ti.k=.map kt el)(TE:AEg P el ei)(hz:ei.zero.length=ei.size){z:IN}(hzv:zeroV ei=some z){K:KS}(hK:AFD P ty kt K)
  {ok:Bool}{x ix:O}{x' ix':IN}(hx:AEE φ (x e) x')(hix:AEE φ (ix e) ix')(hE:∀ r,x e=.map (some r)->¬ E r)(hr:Gk K z ok x ix F e h=.ok v h'):
  Bp ty φ E h w v h' ((AAK t x' ix' ok).run P w):=by
 obtain⟨z0,hz0,hzr,_,hzp⟩:=TE.AFH hz;rw[hzv]at hz0;cases hz0;have AG7:AEE φ z z:=by
  unfold zeroV at hzv;split at hzv
  ·cases hzv;exact .agg (.plain hzp)
  ·split at hzv
   ·rename_i u hu
    cases hzv;rw[hu]at hzp;simp only[ABi,List.all_nil,ADV]at hzp;exact .plain hzp
   ·cases hzv
 obtain⟨kd,hkd⟩:=hK.und hT;have hu:=VF T hk;unfold Gk H7 at hr;split at hr
 case h_2=>cases hr
 rename_i hfit;have he:=JL hfit hix;subst he;split at hr
 ·rename_i hxe
  rw[hxe]at hx;cases hx;obtain⟨rfl,rfl⟩:=In hr;have hf:(ACA kt (ix e) []).run P w=.ok none w:=FS hkd (by simp[yV]);have key:(AAK t (.map none) (ix e) ok).run P w=.ok (if ok then .tuple #[z,.bool false]else z) w:=by
   simp only[AAK,xh,run_underlying hu,xU,xk,hK.check hT hfit,hf,hzr]
  rw[key];exact .same H (He AG7)
 ·rename_i r hxe
  rw[hxe]at hx;cases hx with
  |@map _ p hp=>
   split at hr
   case h_2=>cases hr
   rename_i es c hes;obtain⟨es',hw,AEp⟩:=H.AFP hp (hE r hxe) hes;have AGY:=CF (P:=P) hw rfl;split at hr
   ·rename_i en hfe
    obtain⟨rfl,rfl⟩:=In hr;obtain⟨j,u',hfa,hu'⟩:=ME hT hK hfit w 0 AEp hfe;have hf:=FS hkd hfa;have key:(AAK t (.map (some p.blk)) (ix e) ok).run P w=.ok (if ok then .tuple #[u',.bool true]else u') w:=by
     simp only[AAK,xh,run_underlying hu,xU,xk,AGY,hK.check hT hfit,hf]
    rw[key];exact .same H (He hu')
   ·rename_i hfe
    obtain⟨rfl,rfl⟩:=In hr;have hfa:=ME hT hK hfit w 0 AEp hfe;have hf:=FS hkd hfa;have key:(AAK t (.map (some p.blk)) (ix e) ok).run P w=.ok (if ok then .tuple #[z,.bool false]else z) w:=by
     simp only[AAK,xh,run_underlying hu,xU,xk,AGY,hK.check hT hfit,hf,hzr]
    rw[key];exact .same H (He AG7)
   ·cases hr
 ·cases hr
theorem Ml(hT:DE P ty)(H:AEI ty φ E h w)(hE:∀ b,¬ E b){t kt el:Nat}{ti:TI}(T:AEg P t ti)(hk:ti.k=.map kt el){K:KS}(hK:AFD P ty kt K)
  {m key x:O}{m' key' x':IN}(hm:AEE φ (m e) m')(hkey:AEE φ (key e) key')(hx:AEE φ (x e) x')(hr:FH K m key x F e h=.ok v h'):
  YQ ty φ E h w v h' ((ABm t m' key' x').run P w):=by
 obtain⟨kd,hkd⟩:=hK.und hT;have hu:=VF T hk;unfold FH at hr;simp only[BR]at hr;unfold Lj at hr;split at hr
 case h_2=>cases hr
 rename_i hfit;obtain⟨he,hkk⟩:=Se hfit hkey;subst he;split at hr
 case h_2=>cases hr
 rename_i r hme;rw[hme]at hm;cases hm with
 |@map _ p hp=>
  split at hr
  case h_2=>cases hr
  rename_i es c hes;obtain⟨es',hw,AEp⟩:=H.AFP hp (hE r) hes;have AGY:=CF (P:=P) hw rfl;split at hr
  ·rename_i es2 hse
   obtain⟨j,u',en,hfa,hen,hek,AHs⟩:=Lh hT hK hfit hx hkk w 0 AEp hse;have hf:=FS hkd hfa;obtain⟨h1,hk1,H1,ev⟩:=IE (ob:=.map ⟨es'.modify (0+j) fun en=>{en with key:=key e,val:=x'}⟩ c) H (hE _) hp (KV hes) hr (by rw[H0 hes];exact .inr trivial) (.map (by rw[If];exact AHs));cases hk1;refine⟨rfl,_,?_,H1,ev⟩;have AHt:(ACk (((⟨es'⟩:Array yn)[0+j]?.map (·.key)).getD (key e)) (key e)).run P w=.ok (key e) w:=by
    have:(⟨es'⟩:Array yn)[0+j]? =some en:=by rw[If];simpa using hen
    rw[this];simp only[zG,Option.getD_some,hek];unfold ACk;rw[XP hfit 9999];simp
   have AEl:=Fb (P:=P) (ob':=.map ⟨es'.modify (0+j) fun en=>{en with key:=key e,val:=x'}⟩ c) hw rfl;simp only[ABm,xh,run_underlying hu,xU,AGY,hK.check hT hfit,hf,AHt];rw[<- AEl];congr 3;apply zF;simp
  ·rename_i hse
   have hfa:=Lh hT hK hfit hx hkk w 0 AEp hse;have hf:=FS hkd hfa;obtain⟨h1,hk1,H1,ev⟩:=IE (ob:=.map ⟨es'++[{key:=key e,val:=x',born:=c}]⟩ (c+1)) H (hE _) hp (KV hes) hr (by rw[H0 hes];exact .inr trivial) (.map (by rw[Ti];exact AE8.append (.cons hkk hx .nil) AEp));cases hk1;refine⟨rfl,_,?_,H1,ev⟩;have AEl:=Fb (P:=P) (ob':=.map ⟨es'++[{key:=key e,val:=x',born:=c}]⟩ (c+1)) hw rfl;simp only[ABm,xh,run_underlying hu,xU,AGY,hK.check hT hfit,hf];rw[<- AEl];congr 2;simp
  ·cases hr
end
end
noncomputable section
open Go
section
variable {P:yw}{ty:TTy}{φ:Phi}{E:Nat->Prop}{h h':Hp}{w:yQ}{F:AEA}{e:Env}{v:IN}{f:Fr}
theorem Vy{op:Op}{x:yN}(hk:kd ty op=.r x)(hE:HF ty f e E op){y:O}(hy:cO f x=some y):∀ a,y e=.pointer (some a)->¬ E a.block:=by
 intro a ha;unfold HF at hE;rw[hk]at hE;exact hE y hy a.block (by rw[ha];rfl)
theorem Li{op:Op}{x:yN}(hk:kd ty op=.w x)(hE:HF ty f e E op):∀ b,¬ E b:=by
 unfold HF at hE;rw[hk]at hE;exact hE
theorem F8{op:Op}(hk:kd ty op=.q)(hE:HF ty f e E op):∀ b,¬ E b:=by
 unfold HF at hE;rw[hk]at hE;exact hE
theorem YW{args:List O}{x:O}(hs:args=[x]){l:List yN}{ρ:yN->IN}(ha:AEV φ (vals e args) (l.map ρ)):∃ x',l.map ρ=[x']/\AEE φ (x e) x':=by
 subst hs;generalize l.map ρ=r at ha;cases ha with|cons h t=>cases t;exact⟨_,rfl,h⟩
theorem Ph{args:List O}{x y:O}(hs:args=[x,y]){l:List yN}{ρ:yN->IN}(ha:AEV φ (vals e args) (l.map ρ)):∃ x' y',l.map ρ=[x',y']/\AEE φ (x e) x'/\AEE φ (y e) y':=by
 subst hs;generalize l.map ρ=r at ha;cases ha with|cons h t=>cases t with|cons h2 t=>cases t;exact⟨_,_,rfl,h,h2⟩
theorem Yn(hT:DE P ty)(H:AEI ty φ E h w){b:Builtin}{c:Call}(hc:c.callee=.builtin b){o:Oper}{a:Act}(ho:o.op=.call c){args:List O}
  (ha:AEV φ (vals e args) (c.args.toList.map a.eval))(hE:(∀ b,¬ E b)\/b=.min\/b=.max\/(b=.len/\∀ x,args=[x]->∀ t ti,c.argTypes[0]? =some t->ty.get t=some ti->(∃ k q,ti.k=.map k q)->∀ r,x e=.map (some r)->¬ E r))
  (hr:J8 ty b c.argTypes.toList args F e h=.ok v h'):FA P ty φ E h v h' o a w:=by
 have AHp:c.args.map a.eval=⟨c.args.toList.map a.eval⟩:=by apply zF;simp
 have AGs:∀ t l,c.argTypes.toList=t::l->c.argTypes[0]? =some t:=fun t l hl=>by rw[<- ACO,hl];rfl
 have AJZ:∀ t t2 l,c.argTypes.toList=t::t2::l->c.argTypes[1]? =some t2:=fun t t2 l hl=>by rw[<- ACO,hl];rfl
 have hex:∀ s:Sem IN,(∀ cs,builtin b c.argTypes o.type cs ⟨c.args.toList.map a.eval⟩=(do pure (.value (<- s))))->∀ {vv:IN} {hh:Hp},Bp ty φ E h w vv hh (s.run P w)->FA P ty φ E h vv hh o a w:=by
  intro s hs vv hh hg;refine .AEB (s:=s) ?_ hg;unfold execOp;rw[ho];simp only[resolve,hc,AHp];exact hs _
 cases b with
 |len=>
  match args,ha,hE,hr with
  |[x],ha,hE,hr=>
   obtain⟨x',he,hx⟩:=YW rfl ha;cases hl:c.argTypes.toList with
   |nil=>rw[hl]at hr;cases hr
   |cons t l=>
    rw[hl]at hr;obtain⟨ti,hti,hr⟩:=Bi hr;have h0:=AGs t l hl;cases hk:ti.k with
    |slice el=>simp only[hk]at hr;exact hex _ (fun cs=>by rw[he];rfl) (aK H h0 (hT t ti hti) hk hx hr)
    |string=>simp only[hk]at hr;exact hex _ (fun cs=>by rw[he];rfl) (aM H h0 (hT t ti hti) hk hx hr)
    |map k q=>
     simp only[hk]at hr;exact(EP hr).elim
    |arr n el=>
     simp only[hk]at hr;refine hex (zQ c.argTypes o.type #[x']) (fun cs=>by rw[he];rfl) ?_;rw[gz h0 (hT t ti hti) hk];have:v=.int .i64 (.ofNat n)/\h'=h:=by
      unfold AQ kV at hr;rw[E4]at hr;cases hr;exact⟨rfl,rfl⟩
     obtain⟨rfl,rfl⟩:=this;exact .same H (.int _ _)
    |_=>simp only[hk]at hr;cases hr
  |[],_,_,hr=>cases hr
  |_::_::_,_,_,hr=>cases hr
 |cap=>
  match args,ha,hr with
  |[x],ha,hr=>
   obtain⟨x',he,hx⟩:=YW rfl ha;cases hl:c.argTypes.toList with
   |nil=>rw[hl]at hr;cases hr
   |cons t l=>
    rw[hl]at hr;obtain⟨ti,hti,hr⟩:=Bi hr;have h0:=AGs t l hl;cases hk:ti.k with
    |slice el=>simp only[hk]at hr;exact(EP hr).elim
    |_=>simp only[hk]at hr;cases hr
  |[],_,hr=>cases hr
  |_::_::_,_,hr=>cases hr
 |min=>
  match args,ha,hr with
  |[x,y],ha,hr=>
   obtain⟨x',y',he,hx,hy⟩:=Ph rfl ha;exact hex _ (fun cs=>by rw[he];rfl) (ik (F:=F) H hx hy hr)
  |[],_,hr=>cases hr
  |[_],_,hr=>cases hr
  |_::_::_::_,_,hr=>cases hr
 |max=>
  match args,ha,hr with
  |[x,y],ha,hr=>
   obtain⟨x',y',he,hx,hy⟩:=Ph rfl ha;exact hex _ (fun cs=>by rw[he];rfl) (ii (F:=F) H hx hy hr)
  |[],_,hr=>cases hr
  |[_],_,hr=>cases hr
  |_::_::_::_,_,hr=>cases hr
 |copy=>
  have hE':∀ b,¬ E b:=by
   rcases hE with h|h|h|⟨h,_⟩
   ·exact h
   all_goals cases h
  match args,ha,hr with
  |[d,x],ha,hr=>
   obtain⟨d',x',he,hd,hx⟩:=Ph rfl ha;cases hl:c.argTypes.toList with
   |nil=>rw[hl]at hr;cases hr
   |cons t l=>
    rw[hl]at hr;obtain⟨ti,hti,hr⟩:=Bi hr;cases hk:ti.k with
    |slice el=>
     simp only[hk]at hr;obtain⟨ei,hei,hr⟩:=Bi hr;exact hex _ (fun cs=>by rw[he];rfl) (aF H hE' (AGs t l hl) (hT t ti hti) hk (hT el ei hei) hd hx hr)
    |_=>simp only[hk]at hr;cases hr
  |[],_,hr=>cases hr
  |[_],_,hr=>cases hr
  |_::_::_::_,_,hr=>cases hr
 |clear=>
  have hE':∀ b,¬ E b:=by
   rcases hE with h|h|h|⟨h,_⟩
   ·exact h
   all_goals cases h
  match args,ha,hr with
  |[x],ha,hr=>
   obtain⟨x',he,hx⟩:=YW rfl ha;cases hl:c.argTypes.toList with
   |nil=>rw[hl]at hr;cases hr
   |cons t l=>
    rw[hl]at hr;obtain⟨ti,hti,hr⟩:=Bi hr;cases hk:ti.k with
    |slice el=>
     simp only[hk]at hr;obtain⟨ei,hei,hr⟩:=Bi hr;obtain⟨hz,hr⟩:=IX hr;exact hex _ (fun cs=>by rw[he];rfl) (Xj H hE' (AGs t l hl) (hT t ti hti) hk (hT el ei hei) hz hx hr)
    |map k q=>
     simp only[hk]at hr;exact hex _ (fun cs=>by rw[he];rfl) (O8 H hE' (AGs t l hl) (hT t ti hti) hx hr)
    |_=>simp only[hk]at hr;cases hr
  |[],_,hr=>cases hr
  |_::_::_,_,hr=>cases hr
 |append=>
  have hE':∀ b,¬ E b:=by
   rcases hE with h|h|h|⟨h,_⟩
   ·exact h
   all_goals cases h
  match args,ha,hr with
  |[s,x],ha,hr=>
   obtain⟨s',x',he,hs,hx⟩:=Ph rfl ha;cases hl:c.argTypes.toList with
   |nil=>rw[hl]at hr;cases hr
   |cons t l=>
    cases l with
    |nil=>rw[hl]at hr;cases hr
    |cons t2 l=>
     rw[hl]at hr;obtain⟨ti,hti,hr⟩:=Bi hr;obtain⟨xi,hxi,hr⟩:=Bi hr;have h0:=AGs t _ hl;have h1:=AJZ t t2 l hl;cases hk:ti.k with
     |slice en=>
      cases hk2:xi.k with
      |slice q=>
       simp only[hk,hk2]at hr;obtain⟨ei,hei,hr⟩:=Bi hr;cases hsz:ei.size with
       |zero=>simp only[hsz]at hr;cases hr
       |succ n=>
        simp only[hsz]at hr;obtain⟨hz,hr⟩:=IX hr;have hs2:n.succ=ei.size:=hsz.symm;rw[hs2]at hr;exact hex _ (fun cs=>by rw[he];rfl) (Me H hE' h0 h1 (hT t ti hti) hk (hT t2 xi hxi) (.inl ⟨q,hk2⟩) hei (hT en ei hei) (by omega) hz hs hx hr)
      |string=>
       simp only[hk,hk2]at hr;obtain⟨ei,hei,hr⟩:=Bi hr;cases hsz:ei.size with
       |zero=>simp only[hsz]at hr;cases hr
       |succ n=>
        simp only[hsz]at hr;obtain⟨hz,hr⟩:=IX hr;have hs2:n.succ=ei.size:=hsz.symm;rw[hs2]at hr;exact hex _ (fun cs=>by rw[he];rfl) (Me H hE' h0 h1 (hT t ti hti) hk (hT t2 xi hxi) (.inr hk2) hei (hT en ei hei) (by omega) hz hs hx hr)
      |int q=>
       simp only[hk,hk2]at hr;obtain⟨ei,hei,hr⟩:=Bi hr;cases hsz:ei.size with
       |zero=>simp only[hsz]at hr;cases hr
       |succ n=>
        simp only[hsz]at hr;obtain⟨hz,hr⟩:=IX hr;have hs2:n.succ=ei.size:=hsz.symm;rw[hs2]at hr;exact hex _ (fun cs=>by rw[he];rfl) (Qr H hE' h0 h1 (hT t ti hti) hk (hT t2 xi hxi) hk2 hei (hT en ei hei) (by omega) hz hs hx hr)
      |_=>simp only[hk,hk2]at hr;cases hr
     |_=>simp only[hk]at hr;cases hr
  |[],_,hr=>cases hr
  |[_],_,hr=>cases hr
  |_::_::_::_,_,hr=>cases hr
 |delete=>
  have hE':∀ b,¬ E b:=by
   rcases hE with h|h|h|⟨h,_⟩
   ·exact h
   all_goals cases h
  match args,ha,hr with
  |[m,key],ha,hr=>
   obtain⟨m',key',he,hm,hkey⟩:=Ph rfl ha;cases hl:c.argTypes.toList with
   |nil=>rw[hl]at hr;cases hr
   |cons t l=>
    rw[hl]at hr;obtain⟨ti,kt,el,K,hti,hk,hK,hr⟩:=Lk (P:=P) (k:=fun _=>oNo) hr;exact(EP hr).elim
  |[],_,hr=>cases hr
  |[_],_,hr=>cases hr
  |_::_::_::_,_,hr=>cases hr
 |_=>cases hr
theorem rU(hT:DE P ty)(hF:DX P ty F)(H:AEI ty φ E h w){o:Oper}{a:Act}(hst:kJ φ f e a.eval o.op)(hE:HF ty f e E o.op)(hr:opC ty f o.op F e h=.ok v h'):
  FA P ty φ E h v h' o a w:=by
 cases ho:o.op with
 |move x=>
  rw[ho]at hr hst;obtain⟨x',hx',hr⟩:=DM hr;exact .AEB (s:=pure (a.eval x)) (by unfold execOp;rw[ho];rfl) (Qv H (hst x (by simp[yC]) x' hx') hr)
 |assign x=>
  rw[ho]at hr hst;obtain⟨x',hx',hr⟩:=DM hr;exact .AEB (s:=pure (a.eval x)) (by unfold execOp;rw[ho];rfl) (Qv H (hst x (by simp[yC]) x' hx') hr)
 |pick c x y=>
  rw[ho]at hr hst;obtain⟨c',hc',hr⟩:=DM hr;obtain⟨x',y',hx',hy',hr⟩:=Jv hr;refine .AEB (s:=(do pure (if <- asBool (a.eval c)then a.eval x else a.eval y))) ?_ (aQ H (hst c (by simp[yC]) c' hc') (hst x (by simp[yC]) x' hx') (hst y (by simp[yC]) y' hy') hr);unfold execOp;rw[ho];simp
 |alloc t=>
  rw[ho]at hr hst;obtain⟨ti,hti,hr⟩:=Bi hr;obtain⟨hz,hr⟩:=IX hr;cases hc:Bt .mt 0 ti.zero with
  |none=>rw[hc]at hr;cases hr
  |some c=>
   rw[hc]at hr;exact .AEB (by unfold execOp;rw[ho]) (Xf H (hT t ti hti) hz hc hr)
 |box t x=>
  rw[ho]at hr hst;obtain⟨x',hx',hr⟩:=DM hr;exact .AEB (by unfold execOp;rw[ho]) (iV H (hst x (by simp[yC]) x' hx') hr)
 |build t parts=>
  rw[ho]at hr hst;obtain⟨ti,hti,hr⟩:=Bi hr;obtain⟨hz,hr⟩:=IX hr;have hps:∀ p∈parts.toList,∀ y,cO f p.2=some y->AEE φ (y e) (a.eval p.2):=fun p hp=>hst p.2 (by simp only[yC,yz];exact⟨p,hp,rfl⟩)
  cases hk:ti.k with
  |struct fs=>
   simp only[hk]at hr;cases hp:Gq f (Mr fs) parts.toList with
   |none=>rw[hp]at hr;cases hr
   |some ps=>
    rw[hp]at hr;exact .AEB (by unfold execOp;rw[ho]) (Sz H (hT t ti hti) hk hz (ps':=parts.map fun (i,x)=>(i,a.eval x)) (by simpa using Jg (ρ:=a.eval) hp hps) hr)
  |arr n el=>
   simp only[hk]at hr;obtain⟨ei,hei,hr⟩:=Bi hr;cases hp:Gq f (fun i=>some (yl i ei.size,ei.size)) parts.toList with
   |none=>rw[hp]at hr;cases hr
   |some ps=>
    rw[hp]at hr;exact .AEB (by unfold execOp;rw[ho]) (Sy H (hT t ti hti) hk (hT el ei hei) hz (ps':=parts.map fun (i,x)=>(i,a.eval x)) (by simpa using Jg (ρ:=a.eval) hp hps) hr)
  |_=>simp only[hk]at hr;cases hr
 |buildSlice t len parts=>
  rw[ho]at hr hst;obtain⟨ti,hti,hr⟩:=Bi hr;have hps:∀ p∈parts.toList,∀ y,cO f p.2=some y->AEE φ (y e) (a.eval p.2):=fun p hp=>hst p.2 (by simp only[yC,yz];exact⟨p,hp,rfl⟩)
  cases hk:ti.k with
  |slice el=>
   simp only[hk]at hr;obtain⟨ei,hei,hr⟩:=Bi hr;obtain⟨hz,hr⟩:=IX hr;cases hp:Gq f (fun i=>some (yl i ei.size,ei.size)) parts.toList with
   |none=>rw[hp]at hr;cases hr
   |some ps=>
    rw[hp]at hr;simp only at hr;cases hb:xd (yl len ei.size) 16777216 with
    |false=>rw[hb]at hr;cases hr
    |true=>
     rw[hb]at hr;exact .AEB (by unfold execOp;rw[ho]) (Mf H (hT t ti hti) hk (hT el ei hei) hz (Au.1 hb) (ps':=parts.map fun (i,x)=>(i,a.eval x)) (by simpa using Jg (ρ:=a.eval) hp hps) hr)
  |_=>simp only[hk]at hr;cases hr
 |load t x=>
  rw[ho]at hr hst hE;obtain⟨ti,hti,hr⟩:=Bi hr;obtain⟨x',hx',hr⟩:=DM hr;have hx:=hst x (by simp[yC]) x' hx';cases hk:ti.k.agg with
  |true=>rw[hk]at hr;exact .AEB (by unfold execOp;rw[ho]) (Xr H (hT t ti hti) hk hx (Vy rfl hE hx') hr)
  |false=>rw[hk]at hr;exact .AEB (by unfold execOp;rw[ho]) (Xp H (hT t ti hti) hk hx (Vy rfl hE hx') hr)
 |store t x y=>
  rw[ho]at hr hst hE;obtain⟨ti,hti,hr⟩:=Bi hr;obtain⟨x',y',hx',hy',hr⟩:=Jv hr;exact .AFa (by unfold execOp;rw[ho]) (Xv H (hT t ti hti) (hst x (by simp[yC]) x' hx') (hst y (by simp[yC]) y' hy') (fun a _=>Li (x:=x) rfl hE _) hr)
 |nilCheck x=>
  rw[ho]at hr hst;obtain⟨x',hx',hr⟩:=DM hr;obtain⟨hv,rfl,hne⟩:=io H (hst x (by simp[yC]) x' hx') hr;refine .AEB (s:=pure (a.eval x)) ?_ (.same H hv);unfold execOp;rw[ho];obtain⟨h1,h2,h3,h4⟩:=hne;simp only;generalize a.eval x=z at h1 h2 h3 h4 ⊢;cases z<;>first|rfl|(exact absurd rfl h2)|(exact absurd rfl h3)|skip
 |binOp op t x y yt=>rw[ho]at hr hst;exact nu hT H ho (by rw[ho];exact hst) hr
 |unOp op t x=>
  rw[ho]at hr hst;obtain⟨ti,hti,hr⟩:=Bi hr;obtain⟨x',hx',hr⟩:=DM hr;have hx:=hst x (by simp[yC]) x' hx';have hex:execOp a.eval o=(do pure (.value (<- Op.unary op (a.eval x)))):=by unfold execOp;rw[ho]
  cases op with
  |not=>exact .AEB hex (iq H hx (by revert hr;cases ti.k<;>exact id))
  |neg=>
   cases hk:ti.k with
   |int k=>simp only[hk]at hr;exact(EP hr).elim
   |_=>simp only[hk]at hr;cases hr
  |plus=>revert hr;cases ti.k<;>intro hr<;>cases hr
  |xor=>
   cases hk:ti.k with
   |int k=>cases k<;>simp only[hk]at hr<;>first|cases hr;done|exact(EP hr).elim
   |_=>simp only[hk]at hr;cases hr
 |fieldAddr t x i=>
  rw[ho]at hr hst;obtain⟨ti,hti,hr⟩:=Bi hr;obtain⟨x',hx',hr⟩:=DM hr;have hx:=hst x (by simp[yC]) x' hx';cases hk:ti.k with
  |struct fs=>
   simp only[hk]at hr;cases hn:nth fs i with
   |none=>rw[hn]at hr;cases hr
   |some q=>
    obtain⟨off,s,ft⟩:=q;rw[hn]at hr;cases s with
    |zero=>cases hr
    |succ s=>exact .AEB (by unfold execOp;rw[ho]) (NL H (hT t ti hti) hk hn hx hr)
  |_=>simp only[hk]at hr;cases hr
 |field t x i=>
  rw[ho]at hr hst;obtain⟨ti,hti,hr⟩:=Bi hr;obtain⟨x',hx',hr⟩:=DM hr;have hx:=hst x (by simp[yC]) x' hx';cases hk:ti.k with
  |struct fs=>
   simp only[hk]at hr;cases hn:nth fs i with
   |none=>rw[hn]at hr;cases hr
   |some q=>
    obtain⟨off,s,ft⟩:=q;rw[hn]at hr;obtain⟨fi,hfi,hr⟩:=Bi hr;exact(EP hr).elim
  |_=>simp only[hk]at hr;cases hr
 |indexAddr t x ix=>
  rw[ho]at hr hst;obtain⟨ti,hti,hr⟩:=Bi hr;obtain⟨x',y',hx',hy',hr⟩:=Jv hr;have hx:=hst x (by simp[yC]) x' hx';have hy:=hst ix (by simp[yC]) y' hy';cases hk:ti.k with
  |arr n el=>
   simp only[hk]at hr;obtain⟨ei,hei,hr⟩:=Bi hr;exact .AEB (by unfold execOp;rw[ho]) (S4 H (hT t ti hti) hk (hT el ei hei) hx hy hr)
  |slice el=>
   simp only[hk]at hr;obtain⟨ei,hei,hr⟩:=Bi hr;exact .AEB (by unfold execOp;rw[ho]) (ic H (hT t ti hti) hk (hT el ei hei) hx hy hr)
  |_=>simp only[hk]at hr;cases hr
 |index t x ix=>
  rw[ho]at hr hst;obtain⟨ti,hti,hr⟩:=Bi hr;obtain⟨x',y',hx',hy',hr⟩:=Jv hr;have hx:=hst x (by simp[yC]) x' hx';have hy:=hst ix (by simp[yC]) y' hy';cases hk:ti.k with
  |arr n el=>
   simp only[hk]at hr;obtain⟨ei,hei,hr⟩:=Bi hr;exact(EP hr).elim
  |string=>
   simp only[hk]at hr;exact .AEB (by unfold execOp;rw[ho]) (Xh H (hT t ti hti) hk hx hy hr)
  |_=>simp only[hk]at hr;cases hr
 |extract x i=>
  rw[ho]at hr hst;obtain⟨x',hx',hr⟩:=DM hr;exact .AEB (by unfold execOp;rw[ho]) (Qu H (hst x (by simp[yC]) x' hx') hr)
 |makeInterface t x=>
  rw[ho]at hr hst;obtain⟨ti,hti,hr⟩:=Bi hr;obtain⟨x',hx',hr⟩:=DM hr;have hx:=hst x (by simp[yC]) x' hx';have hne:ti.k≠.iface:=by intro hk;rw[hk]at hr;cases hr
  have hr':Mi t x' F e h=.ok v h':=by revert hr hne;cases ti.k<;>intro hr hne<;>first|exact hr|exact absurd rfl hne
  exact .AEB (by unfold execOp;rw[ho]) (Xm H (hT t ti hti) hne hx hr')
 |makeFunc fn first cap=>
  rw[ho]at hr hst;simp only[opC]at hr;cases h1:cOs f first.toList with
  |none=>simp only[h1]at hr;cases hr
  |some fs=>
   cases h2:cOs f cap.toList with
   |none=>simp only[h1,h2]at hr;cases hr
   |some cs=>
    simp only[h1,h2]at hr;refine .AEB (s:=Instr.makeFunc fn (first.map a.eval) (cap.map a.eval)) (by unfold execOp;rw[ho]) ?_;have e1:first.map a.eval=⟨first.toList.map a.eval⟩:=by apply zF;simp
    have e2:cap.map a.eval=⟨cap.toList.map a.eval⟩:=by apply zF;simp
    rw[e1,e2];exact aI H (OU h1 fun x hx=>hst x (by simp[yC]at hx ⊢;exact .inl hx)) (OU h2 fun x hx=>hst x (by simp[yC]at hx ⊢;exact .inr hx)) hr
 |makeMap t r=>
  rw[ho]at hr hst;cases r with
  |some _=>cases hr
  |none=>exact .AEB (by unfold execOp;rw[ho];rfl) (ie (F:=F) (e:=e) H (t:=t) hr)
 |makeSlice t l c=>
  rw[ho]at hr hst;obtain⟨ti,hti,hr⟩:=Bi hr;cases hk:ti.k with
  |slice el=>
   simp only[hk]at hr;obtain⟨ei,hei,hr⟩:=Bi hr;obtain⟨hz,hr⟩:=IX hr;obtain⟨l',c',hl',hc',hr⟩:=Jv hr;exact .AEB (by unfold execOp;rw[ho]) (aN H (hT t ti hti) hk (hT el ei hei) hz (hst l (by simp[yC]) l' hl') (hst c (by simp[yC]) c' hc') hr)
  |_=>simp only[hk]at hr;cases hr
 |sliceToArrayPointer t x=>
  rw[ho]at hr hst;obtain⟨ti,hti,hr⟩:=Bi hr;cases hk:ti.k with
  |arr n el=>
   simp only[hk]at hr;cases n with
   |zero=>cases hr
   |succ n=>
    obtain⟨x',hx',hr⟩:=DM hr;exact .AEB (by unfold execOp;rw[ho]) (iR H (hT t ti hti) hk (AA4 _) (hst x (by simp[yC]) x' hx') hr)
  |_=>simp only[hk]at hr;cases hr
 |slice t x lo hi mx=>
  rw[ho]at hr hst;obtain⟨ti,hti,hr⟩:=Bi hr;obtain⟨x',hx',hr⟩:=DM hr;have hx:=hst x (by simp[yC]) x' hx';cases h1:cOo f lo with
  |none=>simp only[h1]at hr;cases hr
  |some lo'=>
   cases h2:cOo f hi with
   |none=>simp only[h1,h2]at hr;cases hr
   |some hi'=>
    cases h3:cOo f mx with
    |none=>simp only[h1,h2,h3]at hr;cases hr
    |some mx'=>
     simp only[h1,h2,h3]at hr;have r1:AFk φ e lo' (lo.map a.eval):=SL h1 fun z hz=>hst z (by rw[hz];simp[yC])
     have r2:AFk φ e hi' (hi.map a.eval):=SL h2 fun z hz=>hst z (by rw[hz];simp[yC])
     have r3:AFk φ e mx' (mx.map a.eval):=SL h3 fun z hz=>hst z (by rw[hz];simp[yC])
     cases hk:ti.k with
     |string=>
      simp only[hk]at hr;cases mx' with
      |some _=>cases hr
      |none=>
       have AFj:oNo F e h=.ok v h':=hr;have hmx:mx=none:=by
        cases mx with
        |none=>rfl
        |some z=>cases r3
       subst hmx;exact(EP AFj).elim
     |slice el=>
      simp only[hk]at hr;obtain⟨ei,hei,hr⟩:=Bi hr;exact .AEB (by unfold execOp;rw[ho]) (iY H (hT t ti hti) hk hei (hT el ei hei) hx r1 r2 r3 hr)
     |arr n el=>
      simp only[hk]at hr;obtain⟨ei,hei,hr⟩:=Bi hr;exact .AEB (by unfold execOp;rw[ho]) (S2 H (hT t ti hti) hk (hT el ei hei) hx r1 r2 r3 hr)
     |_=>simp only[hk]at hr;cases hr
 |convert src dst x=>
  rw[ho]at hr hst hE;obtain⟨si,hsi,hr⟩:=Bi hr;obtain⟨di,hdi,hr⟩:=Bi hr;obtain⟨x',hx',hr⟩:=DM hr;have hx:=hst x (by simp[yC]) x' hx';have hex:execOp a.eval o=(do pure (.value (<- convert src dst (a.eval x)))):=by unfold execOp;rw[ho]
  obtain⟨ds,hds,ks⟩:=(hT src si hsi).und;obtain⟨dd,hdd,kd⟩:=(hT dst di hdi).und;cases hk:di.k with
  |int k=>
   cases hk2:si.k with
   |int k2=>
    simp only[hk,hk2]at hr;obtain⟨q,n,hxe,hg⟩:=aE (P:=P) H hx hr;rw[hk]at kd;cases kd;rw[hk2]at ks;cases ks;refine .AEB hex ?_;rw[hxe];have:(convert src dst (.int q n)).run P w=(Conv.intToInt k n).run P w:=by
     simp only[convert,xh,run_underlying hds,run_underlying hdd,xU]
    rw[this];exact hg
   |_=>simp only[hk,hk2]at hr;cases hr
  |string=>
   cases hk2:si.k with
   |string=>
    simp only[hk,hk2]at hr;exact(EP hr).elim
   |slice el=>
    simp only[hk,hk2]at hr;obtain⟨ei,hei,hr⟩:=Bi hr;cases hk3:ei.k with
    |int k3=>
     cases k3<;>simp only[hk3]at hr<;>first|(cases hr;done)|skip
     refine .AEB hex (Xx H (fun a l c hxe=>?_) (hT src si hsi) hk2 (hT dst di hdi) hk (hT el ei hei) hk3 hx hr);cases hb:xr src dst with
     |true=>exact F8 (by simp only[Go.Proofs.YtbjadbhkogcfeaaGreat.kd,hb]) hE _
     |false=>
      have hi:MR ty src=false:=by unfold MR;rw[hsi];simp only[hk2]
      have hi2:HX ty dst=false:=by unfold HX;rw[hdi];simp only[hk]
      have hkd:Go.Proofs.YtbjadbhkogcfeaaGreat.kd ty (.convert src dst x)=.r x:=by simp only[Go.Proofs.YtbjadbhkogcfeaaGreat.kd,hb,hi,hi2]
      unfold HF at hE;rw[hkd]at hE;exact hE x' hx' _ (by rw[hxe];rfl)
    |_=>simp only[hk3]at hr;cases hr
   |_=>simp only[hk,hk2]at hr;cases hr
  |slice el=>
   cases hk2:si.k with
   |string=>
    simp only[hk,hk2]at hr;obtain⟨ei,hei,hr⟩:=Bi hr;cases hk3:ei.k with
    |int k3=>
     cases k3<;>simp only[hk3]at hr<;>first|(cases hr;done)|skip
     cases hb:xr ei.size 1 with
     |false=>rw[hb]at hr;cases hr
     |true=>
      rw[hb]at hr;exact .AEB hex (Qy H (hT src si hsi) hk2 (hT dst di hdi) hk (hT el ei hei) hk3 hei (Az.1 hb) hx hr)
    |_=>simp only[hk3]at hr;cases hr
   |slice el2=>
    simp only[hk,hk2]at hr;cases hb:xr src dst with
    |false=>rw[hb]at hr;cases hr
    |true=>
     rw[hb]at hr;have heq:src=dst:=Az.1 hb;have hE':=F8 (by simp only[Go.Proofs.YtbjadbhkogcfeaaGreat.kd,hb]) hE;obtain⟨ei,hei,hr⟩:=Bi hr;cases hk3:ei.k with
     |int k3=>
      cases k3<;>simp only[hk3]at hr<;>first|(cases hr;done)|skip
      have hg:=Xi (P:=P) H hE' (hT dst di hdi) hk (hT el ei hei) hk3 hx hr;rw[heq]at hex;exact .AEB hex hg
     |_=>simp only[hk3]at hr;cases hr
   |_=>simp only[hk,hk2]at hr;cases hr
  |_=>simp only[hk]at hr;cases hr
 |call c=>
  rw[ho]at hr hst hE;simp only[opC]at hr;cases h1:cOs f c.args.toList with
  |none=>simp only[h1]at hr;cases hr
  |some args=>
   simp only[h1]at hr;have ha:AEV φ (vals e args) (c.args.toList.map a.eval):=OU h1 fun x hx=>hst x (by
    unfold yC ABS;cases hc:c.callee<;>simp[hc]<;>first|exact Or.inr (by simpa using hx)|exact(by simpa using hx))
   cases hc:c.callee with
   |builtin b=>
    simp only[hc]at hr;refine Yn hT H hc ho ha ?_ hr;cases b with
    |len=>
     refine .inr (.inr (.inr ⟨rfl,fun x hx t ti ht hti hm r hxr=>?_⟩));subst hx;cases hl:c.args.toList with
     |nil=>rw[hl]at h1;cases h1
     |cons x0 l=>
      cases l with
      |cons x1 l=>
       rw[hl]at h1;unfold cOs at h1;cases hx0:cO f x0 with
       |none=>rw[hx0]at h1;cases h1
       |some y0=>
        rw[hx0]at h1;cases hx1:cOs f (x1::l)with
        |none=>rw[hx1]at h1;cases h1
        |some ys=>
         rw[hx1]at h1;cases h1;unfold cOs at hx1;cases hq:cO f x1 with
         |none=>rw[hq]at hx1;cases hx1
         |some y1=>
          rw[hq]at hx1;cases hq2:cOs f l with
          |none=>rw[hq2]at hx1;cases hx1
          |some ys=>rw[hq2]at hx1;cases hx1
      |nil=>
       rw[hl]at h1;have hx0:cO f x0=some x:=by
        unfold cOs at h1;cases hx0:cO f x0 with
        |none=>rw[hx0]at h1;cases h1
        |some y0=>rw[hx0]at h1;cases h1;rfl
       obtain⟨k,q,hm⟩:=hm;have hmap:Sm ty (c.argTypes.getD 0 0)=true:=by
        have:c.argTypes.getD 0 0=t:=by rw[Array.getD_eq_getD_getElem?,ht];rfl
        rw[this];unfold Sm;rw[hti];simp only[hm]
       have hk:kd ty (.call c)=.r x0:=by simp only[kd,hc,hl,hmap]
       unfold HF at hE;rw[hk]at hE;exact hE x hx0 r (by rw[hxr];rfl)
    |min=>exact .inr (.inl rfl)
    |max=>exact .inr (.inr (.inl rfl))
    |_=>
     refine .inl ?_;cases hl:c.args.toList with
     |nil=>exact F8 (by simp only[kd,hc,hl]) hE
     |cons x l=>exact Li (x:=x) (by simp only[kd,hc,hl]) hE
   |value g=>
    simp only[hc]at hr;have hE':∀ b,¬ E b:=F8 (by simp only[kd,hc]) hE;cases g with
    |func g=>exact aC hF H hE' hc ho ha hr
    |tmp t=>
     obtain⟨g',hg',hr⟩:=DM hr;exact KY hF H hE' hc ho (hst (.tmp t) (by unfold yC ABS;simp[hc]) g' hg') ha hr
    |const t=>
     obtain⟨g',hg',hr⟩:=DM hr;exact KY hF H hE' hc ho (hst (.const t) (by unfold yC ABS;simp[hc]) g' hg') ha hr
    |global t=>
     obtain⟨g',hg',hr⟩:=DM hr;exact KY hF H hE' hc ho (hst (.global t) (by unfold yC ABS;simp[hc]) g' hg') ha hr
   |invoke recv name=>
    simp only[hc]at hr;have hE':∀ b,¬ E b:=F8 (by simp only[kd,hc]) hE;obtain⟨x',hx',hr⟩:=DM hr;exact(EP hr).elim
 |lookup t x ix ok=>
  rw[ho]at hr hst hE;obtain⟨ti,hti,hr⟩:=Bi hr;obtain⟨x',ix',hx',AJa,hr⟩:=Jv hr;cases hk:ti.k with
  |map kt el=>
   simp only[hk]at hr;obtain⟨ei,hei,hr⟩:=Bi hr;obtain⟨hz,hr⟩:=IX hr;unfold wZero at hr;cases hzv:zeroV ei with
   |none=>rw[hzv]at hr;cases hr
   |some z=>
    rw[hzv]at hr;obtain⟨ti2,kt2,el2,K,AIj,hk2,hK,hr⟩:=Lk hr;rw[hti]at AIj;cases AIj;rw[hk]at hk2;cases hk2;refine .AEB (by unfold execOp;rw[ho]) (S6 hT H (hT t ti hti) hk (hT el ei hei) hz hzv hK (hst x (by simp[yC]) x' hx') (hst ix (by simp[yC]) ix' AJa) (fun r hxr=>?_) hr);have hkd:kd ty (.lookup t x ix ok)=.r x:=rfl;unfold HF at hE;rw[hkd]at hE;exact hE x' hx' r (by rw[hxr];rfl)
  |_=>simp only[hk]at hr;cases hr
 |mapUpdate t m k x=>
  rw[ho]at hr hst hE;obtain⟨ti,kt,el,K,hti,hk,hK,hr⟩:=Lk (k:=fun ks=>w1 f m fun m=>w2 f k x fun key x=>FH ks m key x) hr;obtain⟨m',hm',hr⟩:=DM hr;obtain⟨k',x',hk',hx',hr⟩:=Jv hr;exact .AFa (by unfold execOp;rw[ho]) (Ml hT H (Li (x:=m) rfl hE) (hT t ti hti) hk hK (hst m (by simp[yC]) m' hm') (hst k (by simp[yC]) k' hk') (hst x (by simp[yC]) x' hx') hr)
 |insert t m k x=>
  rw[ho]at hr hst hE;obtain⟨ti,kt,el,K,hti,hk,hK,hr⟩:=Lk (k:=fun ks=>w1 f m fun m=>w2 f k x fun key x=>FH ks m key x) hr;obtain⟨m',hm',hr⟩:=DM hr;obtain⟨k',x',hk',hx',hr⟩:=Jv hr;exact .AFa (by unfold execOp;rw[ho]) (Ml hT H (Li (x:=m) rfl hE) (hT t ti hti) hk hK (hst m (by simp[yC]) m' hm') (hst k (by simp[yC]) k' hk') (hst x (by simp[yC]) x' hx') hr)
 |range t x=>
  rw[ho]at hr hst hE;obtain⟨ti,hti,hr⟩:=Bi hr;cases hk:ti.k with
  |map k q=>
   simp only[hk]at hr;obtain⟨x',hx',hr⟩:=DM hr;exact .AEB (by unfold execOp;rw[ho]) (Xu H (F8 rfl hE) (hT t ti hti) hk (hst x (by simp[yC]) x' hx') hr)
  |_=>simp only[hk]at hr;cases hr
 |next x s=>
  rw[ho]at hr hst hE;cases s with
  |true=>cases hr
  |false=>
   obtain⟨x',hx',hr⟩:=DM hr;exact .AEB (by unfold execOp;rw[ho]) (aO (t:=o.type) H (F8 rfl hE) (hst x (by simp[yC]) x' hx') hr)
 |entry x=>
  rw[ho]at hr hst hE;obtain⟨x',hx',hr⟩:=DM hr;exact .AEB (by unfold execOp;rw[ho]) (Xk H (F8 rfl hE) (hst x (by simp[yC]) x' hx') hr)
 |typeAssert x xt t ok=>
  rw[ho]at hr hst hE;obtain⟨ti,hti,hr⟩:=Bi hr;obtain⟨x',hx',hr⟩:=DM hr;have hr2:ti.k≠.iface/\wZ ti (wZero ti fun z=>oNo) F e h=.ok v h':=by
   cases hk:ti.k with
   |iface=>simp only[hk]at hr;cases hr
   |_=>simp only[hk]at hr;exact⟨nofun,hr⟩
  obtain⟨hki,hr⟩:=hr2;obtain⟨hz,hr⟩:=IX hr;unfold wZero at hr;cases hzv:zeroV ti with
  |none=>rw[hzv]at hr;cases hr
  |some z=>
   rw[hzv]at hr;exact(EP hr).elim
 |_=>rw[ho]at hr;cases hr
end
end
end Go.Proofs.YtbjadbhkogcfeaaGreat

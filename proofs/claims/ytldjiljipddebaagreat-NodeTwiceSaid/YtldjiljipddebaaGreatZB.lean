/-
  Part ZB of what Lawnw stands on: printed by program, names and spaces cut.
-/
import Derived.Test.YtldjiljipddebaaGreatZA
import GoSem.Dispatch
import Derived.WideShapes
import Derived.Sort.Walk0
import Derived.Laws.BytesString
import Derived.DeepKeys3
open Bool renaming false→IT,true→IN
open Option renaming some→BY,none→By
open Go renaming Value→xU,IntKind→yJ,Operand→yW,World→ya,TypeId→yu,Program→yx,MapEntry→zH,Oper→AAD,Addr→ABD,newRow→ABP,TypeDesc→AB9,BinOp→ACS
open Nat renaming le_refl→xW,zero_add→xZ,succ→xz,beq→yA,zero_le→yH,ble→yI,lt_or_ge→yM,le_trans→yS,eq_zero_or_pos→yl,blt→yp,mul→yv,add_zero→zQ,beq_refl→zU,add→zV,mul_one→zw,mod_eq_of_lt→AAA,zero_mul→AAa,succ_mul→AAj,not_lt_zero→AAn,succ_pos→ABE,not_lt→ABS,min_le_left→ABU,le_zero→ABd,le_of_eq→ABe,add_mul→ABf,mul_le_mul_right→AB4,one_ne_zero→ACP,mul_le_mul→ACb,le_mul_of_pos_right→ACr,add_comm→ADC,succ_ne_zero→ADg,sub_zero→ADh,le_add_right→ADk
open List renaming length_append→xY,getElem?_eq_getElem→xc,getD_eq_getElem?_getD→xe,length_cons→xh,mem_cons_of_mem→xn,mem_cons_self→xp,mem_cons→yC,append_nil→yF,getElem?_append_left→yL,length_take→yP,getElem?_append_right→yR,getElem?_toArray→yV,getElem?_cons_zero→yf,getElem?_cons_succ→zD,getElem?_map→zE,mem_map→zI,range→zP,getElem?_eq_none→zR,map_cons→za,nodup_cons→zm,length_eq_zero_iff→AAf,drop_drop→ABN,filter_cons→ABR,all_cons→ABY,mapM_cons→AB2,map_map→ACs,map_flatten→ADX,foldl_cons→ADn,cons→ADo
open Go.Result renaming andThen_ok→xd,ok→ADL
open Go.Sem renaming run_bind→xr,run_pure→xu,run_ite→ABQ
open Bool renaming and_eq_true→yE,not_true→yY,false_eq_true→ye,not_false→yg,eq_iff_iff→zk,rec→AAk,not_eq_true'→ABT,or_eq_false_iff→AC8,and_true→AD9
open Go.Op renaming operands→yQ,equalIn→ABk,equal→ACO,bytesLess→AEQ,intArith→AEV
open Go.Instr renaming findAsking→yr,next→zz,sliceBounds→AAI,sliceAt→AAJ,lookup→AAm,indexAt→AAy,loadAt→AA6,build→ABK,buildSlice→ABO,makeSlice→ABV,sameBits→ABj,range→ABm,makeInterface→ABn,extract→AB6,mapUpdate→ACG,entry→ACH,fill→ACX,sameNow→ACc,findNow→ACd,findKey→ACe,fieldAt→ACf,arrayAt→ACg,index→AC5,keyThatStays→ADG,sliceBound→ADR,storeAt→ADy,slice→AEE,alloc→AEF
open Array renaming getD_eq_getD_getElem?→yw,ext'→zT,getElem?_setIfInBounds→zY,all_eq_true_iff_forall_mem→zr,mem_toList_iff→zx,getElem?_modify→AAv,getElem?_toList→ABW,range→ABo,toList_filter→ABy,getElem?_eq_getElem→ACT,getElem?_push_lt→ACm,getElem?_push→AC9,replicate→ADc
open Go.Value renaming int→yy,bool→ADe,formed→AD0
open Go.Builtin renaming firstCells→zB,clear_→zW,len_→zo,nextslicecap→AAK,append_→AAY,growBy→AA4,zeroCells→AA9,copy_→ABG,cap_→ABx,lenOf→ACR
open Int renaming toNat_natCast→zL,ofNat_eq_natCast→zu,rec→AA5,natCast_mul→ADx
open Option renaming map_some→zX,isSome_iff_exists→ACN,map_none→ADM
open Go.IntKind renaming i64→AAX,signed→ADQ,bits→ADp,min→ADv,max→ADw
open Go.Program renaming keyTypeAt→AAh,keyLits→AAx,eqGuardType→ABZ
open UInt8 renaming ofNat→AAw,lt_iff_toNat_lt→ACp,toNat_inj→ADS
open Go.Question renaming forced→ABL
open Go.Oper renaming upon_value→ABp,wp→ADf
open Go.Region renaming wanted→ABs
open Go.Call renaming operands→ABw
open Std renaming lt_irrefl→AB0,lt_trichotomy→ADU,lt_trans→AEJ
open Go.World renaming shape?→ACn,freeze→ACo
open Go.Deferred renaming ofValue→AC6
open ByteArray renaming empty→AC7
open Go.Conv renaming intToInt→AD8
open Ne renaming symm→AEW
open Go.ByteArray renaming toList_eq→AEf
set_option linter.unusedVariables false
set_option linter.unusedSimpArgs false
namespace Go.Proofs.YtldjiljipddebaaGreat
set_option maxRecDepth 100000
noncomputable section
open Go
section
variable {P:yx}{ty:TTy}{φ:Phi}{E:Nat->Prop}{h h':Hp}{w:ya}{F:AEh}{e:Env}{v:xU}
theorem Np{b:Bool}(a:okB b h=.ok v h'):v=.bool b/\h'=h:=by cases b<;>cases a<;>exact⟨rfl,rfl⟩
theorem E6(k:yJ)(n:Int)(h:Hp):okI k n h=.ok (.int k n) h:=by
 cases n with
 |ofNat a=>cases a<;>rfl
 |negSucc a=>show AE4 a (λa=>R.ok (.int k (.negSucc a)) h)=_;rw[Ao]
theorem Fy{k:yJ}{n:Int}(a:okI k n h=.ok v h'):v=.int k n/\h'=h:=by
 rw[E6]at a;cases a;exact⟨rfl,rfl⟩
theorem sM(a b:Nat):iLt (.ofNat a) (.ofNat b)=yp a b:=rfl
theorem sL(a b:Nat):iLt (.ofNat a) (.negSucc b)=IT:=rfl
theorem sK(a b:Nat):iLt (.negSucc a) (.ofNat b)=IN:=rfl
theorem sJ(a b:Nat):iLt (.negSucc a) (.negSucc b)=yp b a:=rfl
theorem sI(a b:Nat):iEq (.ofNat a) (.ofNat b)=yA a b:=rfl
theorem sH(a b:Nat):iEq (.ofNat a) (.negSucc b)=IT:=rfl
theorem sG(a b:Nat):iEq (.negSucc a) (.ofNat b)=IT:=rfl
theorem sF(a b:Nat):iEq (.negSucc a) (.negSucc b)=yA a b:=rfl
theorem Da(a b:Int):iLt a b=decide (a<b):=by
 cases a<;>cases b<;>simp only[sM,sL,sK,sJ]
 ·rename_i a b
  rw[zk,BV,decide_eq_true_iff];exact Int.ofNat_lt.symm
 ·simp only[zu];symm;rw[decide_eq_false_iff_not];omega
 ·simp only[zu];symm;rw[decide_eq_true_iff];omega
 ·rename_i a b
  rw[zk,BV,decide_eq_true_iff];omega
theorem Dv(a b:Int):iEq a b=(a == b):=by
 cases a<;>cases b<;>simp only[sI,sH,sG,sF]
 ·rename_i a b
  rw[zk,A0,beq_iff_eq];simp only[zu];omega
 ·simp only[zu];symm;rw[beq_eq_false_iff_ne];omega
 ·simp only[zu];symm;rw[beq_eq_false_iff_ne];omega
 ·rename_i a b
  rw[zk,A0,beq_iff_eq];omega
theorem fD(k:yJ):((BE k:Nat):Int)<2 ^ k.bits/\(k.signed=IN->((BE k:Nat):Int)<2 ^ (k.bits - 1)):=by
 cases k<;>decide
theorem EB(k:yJ)(m:Nat)(h:m<=BE k):k.wrap (m:Int)=m:=by
 have b:=fD k;unfold IntKind.wrap;have e:((m:Int)) % (2 ^ k.bits:Int)=m:=Int.emod_eq_of_lt (by omega) (by omega);rw[e];simp only;rw[No];intro a;simp only[yE,decide_eq_true_eq]at a;have:=b.2 a.1;omega
theorem DT(k:yJ)(n:Int):Ev k n=k.wrap n:=by
 cases n with
 |ofNat a=>
  show AAk (motive:=λ_=>Int) (k.wrap (.ofNat a)) (.ofNat a) (yI a (BE k))=_;cases b:yI a (BE k)with
  |false=>rfl
  |true=>exact(EB k a (As.1 b)).symm
 |negSucc a=>rfl
theorem II{a b:yJ}(h:Dz a b=IN):b=a:=by
 have:=A0.1 h;cases a<;>cases b<;>first|rfl|(exact absurd this (by decide))
theorem GN{k:yJ}{x:xU}{n:Int}(h:C6 k x=.ok n):x=.int k n:=by
 cases x<;>first|(cases h;done)|skip
 rename_i b c;have h:AAk (motive:=λ_=>NI) .no (.ok c) (Dz k b)=.ok n:=h;cases a:Dz k b with
 |false=>rw[a]at h;cases h
 |true=>rw[a]at h;cases h;rw[II a]
theorem jX{k:yJ}{x:xU}{n:Nat}(h:Gy k x=.ok n):x=.int k n:=by
 cases x<;>first|(cases h;done)|skip
 rename_i c a;have h:AAk (motive:=λ_=>NN) .no (AA5 (motive:=λ_=>NN) (λa=>.ok a) (λ_=>.no) a) (Dz k c)=.ok n:=h;cases b:Dz k c with
 |false=>rw[b]at h;cases h
 |true=>
  rw[b]at h;cases a with
  |ofNat a=>cases h;rw[II b];rfl
  |negSucc a=>cases h
theorem XL{x:xU}{n:Int}(h:Yk x=.ok n):∃k,x=.int k n:=by
 cases x<;>first|(cases h;done)|(cases h;exact⟨_,rfl⟩)
theorem jY{x:xU}{n:Nat}(h:Db x=.ok n):∃k,x=.int k n:=by
 cases x<;>first|(cases h;done)|skip
 rename_i b a;cases a with
 |ofNat a=>cases h;exact⟨_,rfl⟩
 |negSucc a=>cases h
theorem IU{x:xU}{a:ABD}(h:EI x=.ok a):x=.pointer (BY a):=by
 cases x<;>first|(cases h;done)|skip
 rename_i b;cases b with
 |none=>cases h
 |some a=>cases h;rfl
theorem AEm.AFK{k:yJ}{n:Int}{x:xU}(h:AEm φ (.int k n) x):x=.int k n:=by cases h;rfl
theorem AEm.AFc{b:Bool}{x:xU}(h:AEm φ (.bool b) x):x=.bool b:=by cases h;rfl
theorem AEm.AFN{s:ByteArray}{x:xU}(h:AEm φ (.string s) x):x=.string s:=by cases h;rfl
theorem AEm.AFm{a:ABD}{x:xU}(h:AEm φ (.pointer (BY a)) x):∃a',x=.pointer (BY a')/\AF1 φ a a':=by
 cases h with|ptr h=>exact⟨_,rfl,h⟩
def CN(op:ACS)(t:yu)(X Y:yW)(a b:xU):Sem xU:=do eqGuard op t X Y a b;binOp op t a b
theorem Fi(op:ACS)(t:yu)(X Y:yW)(j k:yJ)(m n:Int):(eqGuard op t X Y (.int j m) (.int k n)).run P w=.ok () w:=by cases op<;>rfl
theorem Yh(op:ACS)(t:yu)(X Y:yW)(m n:ByteArray):(eqGuard op t X Y (.string m) (.string n)).run P w=.ok () w:=by cases op<;>rfl
theorem Si(H:AEp ty φ E h w){x:O}{b:xU}(c:AEm φ (x e) b)(a:AP x F e h=.ok v h'):Bq ty φ E h w v h' (.ok b w):=by
 unfold AP at a;rw[FK]at a;cases a;exact .same H c
theorem dM(H:AEp ty φ E h w){c a b:O}{c' a' b':xU}(hc:AEm φ (c e) c')(ha:AEm φ (a e) a')(hb:AEm φ (b e) b')(hr:A2 c a b F e h=.ok v h'):
  Bq ty φ E h w v h' ((do pure (if <- asBool c' then a' else b'):Sem xU).run P w):=by
 unfold A2 at hr;cases hce:c e with
 |bool t=>
  rw[hce]at hr hc;obtain rfl:=hc.AFc;cases t with
  |false=>
   have hr:AF0 (b e) h=.ok v h':=hr;rw[FK]at hr;cases hr;exact .same H hb
  |true=>
   have hr:AF0 (a e) h=.ok v h':=hr;rw[FK]at hr;cases hr;exact .same H ha
 |_=>rw[hce]at hr;cases hr
theorem qD(H:AEp ty φ E h w){f:Int->Int->Bool}{k:yJ}{x y:O}{i j:xU}(d:AEm φ (x e) i)(g:AEm φ (y e) j)(a:Af f k x y F e h=.ok v h'):
  ∃m n,i=.int k m/\j=.int k n/\v=.bool (f m n)/\h'=h:=by
 unfold Af gm at a;cases b:C6 k (x e)with
 |no=>rw[b]at a;cases a
 |ok m=>
  cases c:C6 k (y e)with
  |no=>rw[b,c]at a;cases a
  |ok n=>
   rw[b,c]at a;rw[GN b]at d;rw[GN c]at g;obtain⟨l,o⟩:=Np a;exact⟨m,n,d.AFK,g.AFK,l,o⟩
theorem Ik(H:AEp ty φ E h w){f:Int->Int->Bool}{op:ACS}(g:(f=iEq/\op=.eql)\/(f=iNe/\op=.neq)\/(f=iLt/\op=.lss)\/(f=iLe/\op=.leq)\/(f=iGt/\op=.gtr)\/(f=iGe/\op=.geq))
  {k:yJ}{x y:O}{c d:xU}{t:yu}{X Y:yW}(j:AEm φ (x e) c)(l:AEm φ (y e) d)(i:Af f k x y F e h=.ok v h'):Bq ty φ E h w v h' ((CN op t X Y c d).run P w):=by
 obtain⟨a,b,rfl,rfl,rfl,rfl⟩:=qD H j l i;have key:(CN op t X Y (.int k a) (.int k b)).run P w=.ok (.bool (f a b)) w:=by
  unfold CN;rw[xr,Fi,xd];rcases g with ⟨rfl,rfl⟩|⟨rfl,rfl⟩|⟨rfl,rfl⟩|⟨rfl,rfl⟩|⟨rfl,rfl⟩|⟨rfl,rfl⟩<;>
   simp only[binOp,ne_eq,not_true_eq_false,if_false,Op.intCmp,xu,ADL.injEq,ADe.injEq,and_true,iNe,iLe,iGt,iGe,Da,Dv]
  ·rfl
  ·rw[zk];simp only[decide_eq_true_iff,ABT,decide_eq_false_iff_not];omega
  ·rw[zk];simp only[decide_eq_true_iff,ABT,decide_eq_false_iff_not];omega
 rw[key];exact .same H (.bool _)
theorem X8{k:yJ}{x y:O}{l o:xU}(i:AEm φ (x e) l)(j:AEm φ (y e) o){g:Int->Int->R}{r:R}
  (c:NI.rec (motive:=λ_=>R) .no (λa=>NI.rec (motive:=λ_=>R) .no (λb=>g a b) (C6 k (y e))) (C6 k (x e))=r)(h:r≠.no):
  ∃m n,l=.int k m/\o=.int k n/\g m n=r:=by
 cases d:C6 k (x e)with
 |no=>rw[d]at c;exact absurd c.symm h
 |ok m=>
  cases f:C6 k (y e)with
  |no=>rw[d,f]at c;exact absurd c.symm h
  |ok n=>
   rw[d,f]at c;rw[GN d]at i;rw[GN f]at j;exact⟨m,n,i.AFK,j.AFK,c⟩
theorem XY(H:AEp ty φ E h w){f:Int->Int->Int}{op:ACS}(i:(f=Int.sub/\op=.sub)\/(f=Int.mul/\op=.mul))
  {k:yJ}{x y:O}{c d:xU}{t:yu}{X Y:yW}(l:AEm φ (x e) c)(m:AEm φ (y e) d)(j:C8 f k x y F e h=.ok v h'):Bq ty φ E h w v h' ((CN op t X Y c d).run P w):=by
 obtain⟨a,b,rfl,rfl,g⟩:=X8 l m j (by intro h;cases h);obtain⟨rfl,rfl⟩:=Fy g;have key:(CN op t X Y (.int k a) (.int k b)).run P w=.ok (.int k (Ev k (f a b))) w:=by
  unfold CN;rw[xr,Fi,xd,DT];rcases i with ⟨rfl,rfl⟩|⟨rfl,rfl⟩<;>
   simp only[binOp,ne_eq,not_true_eq_false,if_false,AEV,xu]<;>rfl
 rw[key];exact .same H (.int _ _)
theorem AFk{k:yJ}{a b:Int}(c:AA5 (motive:=λ_=>R) (λx=>AA5 (motive:=λ_=>R)
   (λy=>AAk (motive:=λ_=>R) (okI k (k.wrap (a+b)) h) (AE4 (zV x y) λn=>.ok (.int k (.ofNat n)) h) (yI (zV x y) (BE k)))
   (λ_=>okI k (Ev k (a+b)) h) b)
   (λ_=>okI k (Ev k (a+b)) h) a=.ok v h'):v=.int k (k.wrap (a+b))/\h'=h:=by
 cases a with
 |negSucc a=>
  have:=Fy c;rw[DT]at this;exact this
 |ofNat a=>
  cases b with
  |negSucc b=>have:=Fy c;rw[DT]at this;exact this
  |ofNat b=>
   simp only at c;cases d:yI (zV a b) (BE k)with
   |false=>rw[d]at c;exact Fy c
   |true=>
    rw[d]at c;simp only[Ao]at c;cases c;refine⟨?_,rfl⟩;have:=EB k (a+b) (As.1 d);simp only[zu];rw[<- Int.natCast_add,this];rfl
theorem jd(H:AEp ty φ E h w){k:yJ}{x y:O}{c d:xU}{t:yu}{X Y:yW}(i:AEm φ (x e) c)(j:AEm φ (y e) d)(g:CH k (BE k) x y F e h=.ok v h'):
  Bq ty φ E h w v h' ((CN .add t X Y c d).run P w):=by
 obtain⟨a,b,rfl,rfl,f⟩:=X8 i j g (by intro h;cases h);obtain⟨rfl,rfl⟩:=AFk f;have key:(CN .add t X Y (.int k a) (.int k b)).run P w=.ok (.int k (k.wrap (a+b))) w:=by
  unfold CN;rw[xr,Fi,xd];simp only[binOp,ne_eq,not_true_eq_false,if_false,AEV,xu]
 rw[key];exact .same H (.int _ _)
theorem SD{n:Int}(a:iEq n 0=IT):n≠0:=by
 rw[Dv]at a;simpa using a
theorem jp(H:AEp ty φ E h w){k:yJ}{x y:O}{i j:xU}{t:yu}{X Y:yW}(d:AEm φ (x e) i)(f:AEm φ (y e) j)(a:L8 k x y F e h=.ok v h'):
  Bq ty φ E h w v h' ((CN .quo t X Y i j).run P w):=by
 unfold L8 bH at a;split at a
 case h_2=>cases a
 rename_i g l;split at a
 case h_2=>cases a
 rename_i c m;rw[GN l]at d;rw[GN m]at f;obtain rfl:=d.AFK;obtain rfl:=f.AFK;cases b:iEq c 0 with
 |true=>rw[b]at a;cases a
 |false=>
  rw[b]at a;obtain⟨rfl,rfl⟩:=Fy a;have key:(CN .quo t X Y (.int k g) (.int k c)).run P w=.ok (.int k (Ev k (g.tdiv c))) w:=by
   unfold CN;rw[xr,Fi,xd,DT];simp only[binOp,ne_eq,not_true_eq_false,if_false,Op.intDiv,SD b,xu]
  rw[key];exact .same H (.int _ _)
theorem j7(H:AEp ty φ E h w){k:yJ}{x y:O}{i j:xU}{t:yu}{X Y:yW}(d:AEm φ (x e) i)(f:AEm φ (y e) j)(a:Sk k x y F e h=.ok v h'):
  Bq ty φ E h w v h' ((CN .rem t X Y i j).run P w):=by
 unfold Sk eB at a;split at a
 case h_2=>cases a
 rename_i g l;split at a
 case h_2=>cases a
 rename_i c m;rw[GN l]at d;rw[GN m]at f;obtain rfl:=d.AFK;obtain rfl:=f.AFK;cases b:iEq c 0 with
 |true=>rw[b]at a;cases a
 |false=>
  rw[b]at a;obtain⟨rfl,rfl⟩:=Fy a;have key:(CN .rem t X Y (.int k g) (.int k c)).run P w=.ok (.int k (g.tmod c)) w:=by
   unfold CN;rw[xr,Fi,xd];simp only[binOp,ne_eq,not_true_eq_false,if_false,Op.intDiv,SD b,xu]
  rw[key];exact .same H (.int _ _)
theorem j0(H:AEp ty φ E h w){x:O}{c:xU}(b:AEm φ (x e) c)(a:DG x F e h=.ok v h'):Bq ty φ E h w v h' ((Op.unary .not c).run P w):=by
 unfold DG at a;split at a
 ·rename_i f d
  rw[d]at b;obtain rfl:=b.AFc;obtain⟨rfl,rfl⟩:=Np a;exact .same H (.bool _)
 ·cases a
theorem cw(H:AEp ty φ E h w){k:yJ}{x:O}{c:xU}(b:AEm φ (x e) c)(a:CW k x F e h=.ok v h'):
  ∃q n,c=.int q n/\Bq ty φ E h w v h' ((AD8 k n).run P w):=by
 unfold CW at a;split at a
 ·rename_i n d
  obtain⟨q,f⟩:=XL d;rw[f]at b;obtain rfl:=b.AFK;obtain⟨rfl,rfl⟩:=Fy a;rw[DT];exact⟨q,n,rfl,.same H (.int _ _)⟩
 ·cases a
end
section
variable {P:yx}{ty:TTy}{φ:Phi}{E:Nat->Prop}{h h':Hp}{w:ya}{F:AEh}{e:Env}{v:xU}
def KY:yJ->Nat
 |.i8=>7|.i16=>15|.i32=>31|.i64=>63|.u8=>8|.u16=>16|.u32=>32|.u64=>64
theorem Ta(k:yJ):BE k+1=2 ^ KY k:=by cases k<;>rfl
theorem VW(k:yJ):KY k<=k.bits:=by cases k<;>decide
theorem PS{k:yJ}{a:Nat}(d:a<=BE k):(BitVec.ofInt k.bits (a:Int)).toNat=a:=by
 have b:=Ta k;have c:2 ^ KY k<=2 ^ k.bits:=Nat.pow_le_pow_right (by omega) (VW k);rw[BitVec.ofInt_natCast,BitVec.toNat_ofNat,AAA (by omega)]
theorem FL{x:O}{b:xU}(a:AEm φ (x e) b){n:Nat}(h:Db (x e)=.ok n):∃k,b=.int k n:=by
 obtain⟨k,c⟩:=jY h;rw[c]at a;exact⟨k,a.AFK⟩
theorem J3{k:yJ}{x:O}{b:xU}(a:AEm φ (x e) b){n:Nat}(h:Gy k (x e)=.ok n):b=.int k n:=by
 rw[jX h]at a;exact a.AFK
theorem Qd(H:AEp ty φ E h w){f:Nat->Nat->Nat}{op:ACS}(p:(f=Nat.land/\op=.and)\/(f=Nat.lor/\op=.or)\/(f=Nat.xor/\op=.xor))
  {k:yJ}{x y:O}{i j:xU}{t:yu}{X Y:yW}(q:AEm φ (x e) i)(r:AEm φ (y e) j)(a:LU f k x y F e h=.ok v h'):Bq ty φ E h w v h' ((CN op t X Y i j).run P w):=by
 unfold LU Zt at a;split at a
 case h_2=>cases a
 rename_i b n;split at a
 case h_2=>cases a
 rename_i c o;obtain⟨d,a⟩:=B1 a;obtain⟨g,a⟩:=B1 a;obtain rfl:=J3 q n;obtain rfl:=J3 r o;obtain⟨rfl,rfl⟩:=Fy a;have d:=As.1 d;have g:=As.1 g;have l:=PS d;have m:=PS g;have s:=Ta k;have key:(CN op t X Y (.int k b) (.int k c)).run P w=.ok (.int k (.ofNat (f b c))) w:=by
  unfold CN;rw[xr,Fi,xd];rcases p with ⟨rfl,rfl⟩|⟨rfl,rfl⟩|⟨rfl,rfl⟩<;>
   simp only[binOp,ne_eq,not_true_eq_false,if_false,Op.intBits,xu,BitVec.toNat_and,BitVec.toNat_or,BitVec.toNat_xor,l,m]
  ·have:b &&& c<=BE k:=yS Nat.and_le_left d
   rw[EB k _ this];rfl
  ·have:b ||| c<2 ^ KY k:=Nat.or_lt_two_pow (by omega) (by omega)
   rw[EB k _ (by omega)];rfl
  ·have:b ^^^ c<2 ^ KY k:=Nat.xor_lt_two_pow (by omega) (by omega)
   rw[EB k _ (by omega)];rfl
 rw[key];exact .same H (.int _ _)
theorem SA(op:ACS)(c:op=.shl\/op=.shr)(t:yu)(X Y:yW)(a b:xU):(eqGuard op t X Y a b).run P w=.ok () w:=by
 rcases c with rfl|rfl<;>rfl
theorem j9(H:AEp ty φ E h w){k:yJ}{x y:O}{d f:xU}{t:yu}{X Y:yW}(j:AEm φ (x e) d)(l:AEm φ (y e) f)(a:Ob k x y F e h=.ok v h'):
  Bq ty φ E h w v h' ((CN .shl t X Y d f).run P w):=by
 unfold Ob eM at a;split at a
 case h_2=>cases a
 rename_i c g;split at a
 case h_2=>cases a
 rename_i b i;obtain rfl:=J3 j g;obtain⟨m,rfl⟩:=FL l i;obtain⟨rfl,rfl⟩:=Fy a;have key:(CN .shl t X Y (.int k c) (.int m b)).run P w=.ok (.int k (k.wrap (.ofNat (c*2 ^ (min b k.bits))))) w:=by
  unfold CN;rw[xr,SA _ (.inl rfl),xd];have:¬((b:Int)<0):=by omega
  simp only[binOp,Op.shift,this,if_false,xu,zL];simp
 rw[key,DT,BU];exact .same H (.int _ _)
theorem kB(H:AEp ty φ E h w){k:yJ}{x y:O}{d f:xU}{t:yu}{X Y:yW}(l:AEm φ (x e) d)(m:AEm φ (y e) f)(a:L9 k x y F e h=.ok v h'):
  Bq ty φ E h w v h' ((CN .shr t X Y d f).run P w):=by
 unfold L9 eN at a;split at a
 case h_2=>cases a
 rename_i c i;split at a
 case h_2=>cases a
 rename_i b j;obtain rfl:=J3 l i;obtain⟨n,rfl⟩:=FL m j;obtain⟨rfl,rfl⟩:=Fy a;have key:(CN .shr t X Y (.int k c) (.int n b)).run P w=.ok (.int k (.ofNat (c/2 ^ (min b k.bits)))) w:=by
  unfold CN;rw[xr,SA _ (.inr rfl),xd];have:¬((b:Int)<0):=by omega
  simp only[binOp,Op.shift,this,if_false,xu,zL]
  congr 2
  have g:((2:Int) ^ min b k.bits)=((2 ^ min b k.bits:Nat):Int):=by simp
  rw[g,Int.fdiv_eq_ediv_of_nonneg _ (Int.natCast_nonneg _)];rfl
 rw[key,BU];exact .same H (.int _ _)
theorem Mi:∀x y:List UInt8,bEq x y=(x == y)
 |[],[]=>rfl
 |[],_::_=>rfl
 |_::_,[]=>rfl
 |a::x,c::y=>by
  have d:=Mi x y;unfold bEq;rw[d,List.cons_beq_cons];cases b:yA a.toNat c.toNat with
  |true=>
   have:a=c:=ADS.1 (A0.1 b);simp[this]
  |false=>
   have:a≠c:=λh=>by rw[h]at b;rw[zU]at b;cases b
   simp[this]
theorem Zp:∀x y:List UInt8,bLt x y=AEQ x y
 |[],[]=>rfl
 |[],_::_=>rfl
 |_::_,[]=>rfl
 |a::x,b::y=>by
  have f:=Zp x y;unfold bLt AEQ;rw[f];cases d:yp a.toNat b.toNat with
  |true=>
   have:a<b:=ACp.2 (BV.1 d);simp[this]
  |false=>
   have:¬a<b:=λh=>by rw[BV.2 (ACp.1 h)]at d;cases d
   cases c:yA a.toNat b.toNat with
   |true=>
    have:a=b:=ADS.1 (A0.1 c);simp[this]
   |false=>
    have e:a≠b:=λh=>by rw[h]at c;rw[zU]at c;cases c
    simp[this,e]
theorem xJ{f:List UInt8->List UInt8->Bool}{x y:O}{i j:xU}(d:AEm φ (x e) i)(g:AEm φ (y e) j)(c:KA f x y F e h=.ok v h'):
  ∃a b,i=.string a/\j=.string b/\v=.bool (f a.data.toList b.data.toList)/\h'=h:=by
 unfold KA ef at c;split at c
 case h_2=>cases c
 rename_i a k;split at c
 case h_2=>cases c
 rename_i b l;rw[k]at d;rw[l]at g;obtain⟨m,n⟩:=Np c;exact⟨a,b,d.AFN,g.AFN,m,n⟩
theorem Il(H:AEp ty φ E h w){f:List UInt8->List UInt8->Bool}{op:ACS}
  (j:(f=bEq/\op=.eql)\/(f=(λa b=> !bEq a b)/\op=.neq)\/(f=bLt/\op=.lss)\/(f=(λa b=>bLt b a)/\op=.gtr)\/(f=(λa b=> !bLt b a)/\op=.leq)\/(f=(λa b=> !bLt a b)/\op=.geq))
  {x y:O}{g i:xU}{t:yu}{X Y:yW}(l:AEm φ (x e) g)(m:AEm φ (y e) i)(k:KA f x y F e h=.ok v h'):Bq ty φ E h w v h' ((CN op t X Y g i).run P w):=by
 obtain⟨a,b,rfl,rfl,rfl,rfl⟩:=xJ l m k;have key:(CN op t X Y (.string a) (.string b)).run P w=.ok (.bool (f a.data.toList b.data.toList)) w:=by
  unfold CN;rw[xr,Yh,xd];rcases j with ⟨rfl,rfl⟩|⟨rfl,rfl⟩|⟨rfl,rfl⟩|⟨rfl,rfl⟩|⟨rfl,rfl⟩|⟨rfl,rfl⟩<;>
   simp only[binOp,Op.stringOp,xu,ADL.injEq,ADe.injEq,and_true,Mi,Zp,AEf]
  all_goals
   rw[bytesLess_eq,bytesLess_eq,zk];simp only[ABT,AC8,Bool.or_eq_true,decide_eq_true_iff,decide_eq_false_iff_not,beq_iff_eq,beq_eq_false_iff_ne]
  ·constructor
   ·rintro⟨c,d⟩
    rcases ADU a.data.toList b.data.toList with h|h|h
    ·exact absurd h c
    ·exact absurd h d
    ·exact h
   ·intro h
    exact⟨λd=>absurd (AEJ h d) (AB0),λd=>by rw[d]at h;exact AB0 h⟩
  ·constructor
   ·rintro (c|c) h
    ·exact AB0 (AEJ h c)
    ·rw[c]at h;exact AB0 h
   ·intro c
    rcases ADU a.data.toList b.data.toList with h|h|h
    ·exact .inl h
    ·exact .inr h
    ·exact absurd h c
 rw[key];exact .same H (.bool _)
theorem NB{a:ByteArray}{l:List UInt8}(h:a.data.toList=l):a=⟨⟨l⟩⟩:=by
 cases a;rename_i b;cases b;simp at h;rw[h]
end
section
variable {P:yx}{ty:TTy}{φ:Phi}{E:Nat->Prop}{h h':Hp}{w:ya}{F:AEh}{e:Env}{v:xU}
theorem GE{x:O}{c:xU}(b:AEm φ (x e) c){a:ABD}(h:EI (x e)=.ok a):∃a',c=.pointer (BY a')/\AF1 φ a a':=by
 rw[IU h]at b;exact b.AFm
theorem G7(a:ABD):(Instr.sureAddr (.pointer (BY a))).run P w=.ok a w:=rfl
theorem Yz(H:AEp ty φ E h w){x:O}{f:xU}{t:yu}{d:TI}(T:AFD P t d)(g:d.k.agg=IT)(n:AEm φ (x e) f)
  (j:∀a,x e=.pointer (BY a)->¬E a.block)(b:AM x F e h=.ok v h'):Bq ty φ E h w v h' ((AA6 t f).run P w):=by
 unfold AM at b;cases c:EI (x e)with
 |no=>rw[c]at b;cases b
 |ok a=>
  rw[c]at b;obtain⟨i,rfl,l⟩:=GE n c;obtain⟨rfl,o,k,m⟩:=ST H b l (j a (IU c));have key:(AA6 t (.pointer (BY i))).run P w=.ok o w:=by
   simp only[AA6,xr,G7,xd,loadVar,T.agg,g,run_load,k,ye,if_false]
  rw[key];exact .same H m
theorem SU(H:AEp ty φ E h w){n:Nat}{a a':ABD}(b:loadN n a h=.ok v h')(d:AF1 φ a a')(c:¬E a.block):
  h'=h/\∃l,AEm φ v (.agg ⟨l⟩)/\(loadCells a' n).run P w=.ok l.toArray w:=by
 unfold loadN at b;split at b
 case h_2=>cases b
 rename_i j m k g;obtain⟨e,b⟩:=B1 b;rw[GK,yF]at b;cases b;obtain⟨l,f,_,i,_⟩:=SV H d c g (As.1 e);exact⟨rfl,l,.agg f,i w rfl⟩
theorem Y1(H:AEp ty φ E h w){x:O}{f:xU}{t:yu}{c:TI}(T:AFD P t c)(g:c.k.agg=IN)(n:AEm φ (x e) f)
  (j:∀a,x e=.pointer (BY a)->¬E a.block)(b:BC c.size x F e h=.ok v h'):Bq ty φ E h w v h' ((AA6 t f).run P w):=by
 unfold BC at b;split at b
 case h_2=>cases b
 rename_i a d;obtain⟨i,rfl,k⟩:=GE n d;obtain⟨rfl,o,m,l⟩:=SU (P:=P) H b k (j a (IU d));have key:(AA6 t (.pointer (BY i))).run P w=.ok (.agg o.toArray) w:=by
  simp only[AA6,xr,G7,xd,loadVar,T.agg,g,T.size,l,if_true,xu]
 rw[key];exact .same H m
def Zc(ty:TTy)(φ:Phi)(E:Nat->Prop)(h:Hp)(w:ya)(v:xU)(h':Hp)(r:Result Unit):Prop:=
 v=AEl/\∃a,r=.ok () a/\AEp ty φ E h' a/\Evo φ h w φ h' a
theorem Qt{a:ABD}{u:xU}{k:Hp->R}(b:DA a (cellsOf u) h k=.ok v h'):known u=IN:=by
 cases u<;>first|rfl|skip
 rename_i d;cases d with
 |some i=>rfl
 |none=>
 exfalso
 unfold DA at b;cases c:rowOf h a.block with
 |no=>rw[c]at b;cases b
 |ok g j e=>
  rw[c]at b;simp only at b;obtain⟨_,b⟩:=B1 b;have f:=(B1 b).1;cases f
theorem Y6(H:AEp ty φ E h w){x y:O}{i d:xU}{t:yu}{c:TI}(T:AFD P t c)(q:AEm φ (x e) i)(r:AEm φ (y e) d)
  (k:∀a,x e=.pointer (BY a)->¬E a.block)(b:AZ c.size x y F e h=.ok v h'):Zc ty φ E h w v h' ((ADy t i d).run P w):=by
 unfold AZ at b;split at b
 case h_2=>cases b
 rename_i a f;obtain⟨s,rfl,n⟩:=GE q f;rw[Ba]at b;obtain⟨l,b⟩:=B1 b;have g:=K1 r (Qt b);obtain⟨u,w1,m,o,j,ev⟩:=Io (P:=P) H b n g (k a (IU f));cases m;refine⟨rfl,w1,?_,j,ev⟩;have p:d.cells.size=c.size:=by
  have:=g.length;rw[<- A0.1 l,Bm,<- this];simp
 simp only[ADy,xr,G7,xd,storeVar,T.size,p,ne_eq,not_true_eq_false,if_false,o,xu]
theorem jy(H:AEp ty φ E h w){x:O}{g:xU}(a:AEm φ (x e) g)(d:Bh x F e h=.ok v h'):
  AEm φ v g/\h'=h/\(g≠.pointer By/\g≠.nilIface/\g≠.nilFunc/\∀m f c,g≠.func (.method m) f c):=by
 unfold Bh Yo at d;split at d
 ·rename_i i b
  cases d;rw[b]at a;obtain⟨n,rfl,l⟩:=a.AFm;exact⟨.ptr l,rfl,by simp⟩
 ·rename_i f i o b
  cases d;rw[b]at a;cases a with|func p j k=>exact⟨.func _ j k,rfl,by simp⟩
 ·rename_i i r c b
  cases d;rw[b]at a;refine⟨a,rfl,?_⟩;cases a<;>simp
 ·rename_i q b
  cases d;rw[b]at a;refine⟨a,rfl,?_⟩;cases a<;>simp
 ·rename_i s t b
  rw[Ba]at d;cases d;rw[b]at a;refine⟨a,rfl,?_⟩;cases a<;>simp
 ·cases d
theorem HP(H:AEp ty φ E h w){cs cs':List xU}{k:Nat->Hp->R}(g:newRow h 0 cs k=.ok v h')(b:AE5 φ cs cs')(t:yu):
  ∃a ψ,k h.next a=.ok v h'/\ψ h.next=BY {blk:=w.heap.size,off:=0,sz:=cs.length,room:=cs.length,es:=1}/\
   AEp ty ψ E a {w with heap:=w.heap.push (.cells ⟨cs'⟩ t)}/\Evo φ h w ψ a {w with heap:=w.heap.push (.cells ⟨cs'⟩ t)}:=by
 have c:=b.length;obtain⟨a,f,d,ev⟩:=PO (cs':=⟨cs'⟩) (t:=t) (fr:=(0,0)) (w':={w with heap:=w.heap.push (.cells ⟨cs'⟩ t)})
  (p:={blk:=w.heap.size,off:=0,sz:=cs.length,room:=cs.length,es:=1}) H g (by simp[c]) ⟨rfl,.inl ⟨rfl,rfl,rfl,.inl rfl⟩⟩ (by simp[c]) (.inl rfl)
  (λi j e=>by simpa using b.get i j e) rfl rfl rfl rfl
 exact⟨a,_,f,Phi.AFX _ _ _,d,ev⟩
theorem Qp{ψ:Phi}{n:Nat}{p:Pl}(b:ψ n=BY p)(a:p.off=0):AEm ψ (.pointer (BY ⟨n,0,By⟩)) (.pointer (BY ⟨p.blk,0,By⟩)):=
 .ptr ⟨rfl,rfl,p,b,rfl,by simp[a]⟩
theorem jk(H:AEp ty φ E h w){x:O}{b:xU}{t:yu}(i:AEm φ (x e) b)(a:CV x F e h=.ok v h'):Bq ty φ E h w v h' ((Instr.box t b).run P w):=by
 unfold CV at a;rw[Ba]at a;obtain⟨f,a⟩:=B1 a;obtain⟨k,j,d,g,c,ev⟩:=HP H a (K1 i f) t;cases d;exact⟨_,_,j,rfl,Qp g rfl,c,ev⟩
theorem Yq(H:AEp ty φ E h w){t:yu}{a:TI}(T:AFD P t a){c:VT}(b:a.zero.length=a.size)(g:Bs .mt 0 a.zero=BY c)(k:BN a.size c F e h=.ok v h'):
  Bq ty φ E h w v h' ((AEF t IN (.tuple #[])).run P w):=by
 obtain⟨p,_,o,m,n⟩:=T.AFs b;have l:newRow h 0 a.zero JW=.ok v h':=by
  unfold newRow Cb;rw[g];simp only[Ao,Bm,b];exact k
 obtain⟨r,q,i,j,d,ev⟩:=HP H l (.plain n) t;cases i;refine⟨_,_,q,?_,Qp j rfl,d,ev⟩;have f:(⟨a.zero⟩:Array xU)=p.cells:=by rw[<- m]
 simp only[AEF,xr,o,xd,newVar,ABP,run_newObj,xu,f]
theorem S7(H:AEp ty φ E h w){a a':ABD}{n:Nat}(d:AF1 φ a a')(b:PW a n h=.ok v h'):h'=h/\AEm φ v (.pointer (BY (a'.add n))):=by
 unfold PW at b;rw[Ao]at b;cases b;obtain⟨c,e,rfl⟩:=d.eq;rw[Addr.AFk];refine⟨rfl,.ptr ⟨rfl,rfl,c,e,rfl,?_⟩⟩;show c.off+a.off+n=c.off+(a.off+n);omega
theorem UW{c:List (Nat×Nat×Nat)}{a:Array Field}(d:a.toList.map (λf=>(f.offset,P.cellsOf f.type,f.type))=c){i o s t:Nat}(hi:nth c i=BY (o,s,t)):
  ∃f,a[i]? =BY f/\f.offset=o/\P.cellsOf f.type=s/\f.type=t:=by
 rw[Gf,<- d,zE]at hi;cases b:a.toList[i]? with
 |none=>rw[b]at hi;cases hi
 |some f=>
  rw[b]at hi;simp only[zX,Option.some.injEq,Prod.mk.injEq]at hi;exact⟨f,by simpa using b,hi.1,hi.2.1,hi.2.2⟩
theorem Oa(H:AEp ty φ E h w){x:O}{l:xU}{t:yu}{k:TI}(T:AFD P t k){f:List (Nat×Nat×Nat)}(hk:k.k=.struct f){i o s n:Nat}(hi:nth f i=BY (o,s+1,n))
  (C:AEm φ (x e) l)(a:AE o x F e h=.ok v h'):Bq ty φ E h w v h' ((ACf t l i).run P w):=by
 unfold AE at a;cases b:EI (x e)with
 |no=>rw[b]at a;cases a
 |ok D=>
  rw[b]at a;obtain⟨c,rfl,z⟩:=GE C b;obtain⟨rfl,B⟩:=S7 H z a;obtain⟨G,p,j⟩:=T.desc;rw[hk]at j;cases j with
  |struct q y=>
   obtain⟨d,g,r,u,I⟩:=UW q hi;have A:(P.info? d.type).isSome=IN:=by
    have:=List.all_eq_true.1 y d (by simpa using Array.mem_of_getElem? g);exact this
   obtain⟨J,m⟩:=ACN.1 A;have key:(ACf t (.pointer (BY c)) i).run P w=.ok (.pointer (BY (c.add o))) w:=by
    simp only[ACf,xr,p,xd,g,G7,fieldPlace,run_sizeOf w m,u,r,ADg,if_false,xu,Nat.add_eq_zero_iff,reduceCtorEq,and_false]
   rw[key];exact .same H B
theorem XF(H:AEp ty φ E h w){n g:Nat}{a a':ABD}{f:O}{j:xU}(hi:AEm φ (f e) j)(l:AF1 φ a a')(b:NR n g (.ok a) (Db (f e)) h=.ok v h'):
  ∃k i,j=.int k (i:Nat)/\i<n/\h'=h/\AEm φ v (.pointer (BY (a'.add (i*g)))):=by
 unfold NR at b;cases c:Db (f e)with
 |no=>rw[c]at b;cases b
 |ok i=>
  rw[c]at b;simp only at b;obtain⟨k,rfl⟩:=FL hi c;cases d:yp i n with
  |false=>rw[d]at b;cases b
  |true=>
   rw[d]at b;simp only at b;obtain⟨m,o⟩:=S7 H l b;exact⟨k,i,rfl,BV.1 d,m,o⟩
theorem VB(H:AEp ty φ E h w){x f:O}{m k:xU}{t el:yu}{l c:TI}(T:AFD P t l){n:Nat}(hk:l.k=.arr n el)(o:AFD P el c)
  (y:AEm φ (x e) m)(hi:AEm φ (f e) k)(a:Cv n c.size x f F e h=.ok v h'):Bq ty φ E h w v h' ((AAy t m k).run P w):=by
 unfold Cv at a;cases d:EI (x e)with
 |no=>
  rw[d]at a;unfold NR at a;cases i:Db (f e)with
  |no=>rw[i]at a;cases a
  |ok b=>rw[i]at a;simp only at a;cases q:yp b n<;>rw[q]at a<;>cases a
 |ok A=>
  rw[d]at a;obtain⟨g,rfl,s⟩:=GE y d;obtain⟨z,b,rfl,C,rfl,u⟩:=XF H hi s a;obtain⟨B,r,j⟩:=T.desc;rw[hk]at j;cases j;have key:(AAy t (.pointer (BY g)) (.int z (b:Nat))).run P w=.ok (.pointer (BY (g.add (b*c.size)))) w:=by
   have p:(0:Int)<=(b:Int)/\(b:Int)<(n:Int):=by omega
   simp only[AAy,asIntOf,xr,xu,r,xd,G7,p,and_self,if_true,o.size,zL,ABQ]
  rw[key];exact .same H u
theorem LZ{a a':ABD}{n c c':Nat}(f:n<=c)(h:AGS φ a c a' c')(h0:0<n):AF1 φ a a':=by
 obtain⟨s1,s2,e,d,b,h|h⟩:=h
 ·exact⟨s1,s2,e,d,b,h.2.1⟩
 ·omega
theorem jr(H:AEp ty φ E h w){x f:O}{o m:xU}{t el:yu}{n d:TI}(T:AFD P t n)(hk:n.k=.slice el)(p:AFD P el d)
  (l:AEm φ (x e) o)(hi:AEm φ (f e) m)(a:CI d.size x f F e h=.ok v h'):Bq ty φ E h w v h' ((AAy t o m).run P w):=by
 unfold CI at a;split at a
 case h_2=>cases a
 rename_i G c I B;rw[B]at l;cases l with
 |@slice _ g _ _ q u z=>
  obtain⟨J,s,k⟩:=T.desc;rw[hk]at k;cases k;cases i:Db (f e)with
  |no=>rw[i]at a;cases a
  |ok C=>
   have y:0<c:=by
    rw[i]at a;unfold NR at a;simp only at a;cases j:yp C c with
    |false=>rw[j]at a;cases a
    |true=>have:=BV.1 j;omega
   obtain⟨D,b,rfl,K,rfl,A⟩:=XF H hi (LZ u z y) a;have key:(AAy t (.slice (BY g) c q) (.int D (b:Nat))).run P w=.ok (.pointer (BY (g.add (b*d.size)))) w:=by
    have r:(0:Int)<=(b:Int)/\(b:Int)<(c:Int):=by omega
    simp only[AAy,asIntOf,xr,xu,s,xd,r,and_self,if_true,p.size,zL,ABQ]
   rw[key];exact .same H A
theorem Ys(H:AEp ty φ E h w){x l:O}{o m:xU}{t:yu}{n:TI}(T:AFD P t n)(hk:n.k=.string)
  (k:AEm φ (x e) o)(hi:AEm φ (l e) m)(a:JR x l F e h=.ok v h'):Bq ty φ E h w v h' ((AC5 t o m).run P w):=by
 unfold JR Km at a;split at a
 case h_2=>cases a
 rename_i b g;obtain⟨s,rfl⟩:=FL hi g;split at a
 case h_2=>cases a
 rename_i c r;rw[r]at k;obtain rfl:=k.AFN;split at a
 case h_2=>cases a
 rename_i i d;obtain⟨rfl,rfl⟩:=Fy a;obtain⟨u,q,j⟩:=T.desc;rw[hk]at j;cases j;rw[Gf]at d;have p:c[b]? =BY i:=by
  have f:b<c.data.toList.length:=by
   rcases yM b c.data.toList.length with h|h
   ·exact h
   ·rw[zR h]at d;cases d
  have g:b<c.size:=f;rw[getElem?_pos c b g];rw[xc f]at d;rw[<- Option.some.inj d];rfl
 have key:(AC5 t (.string c) (.int s (b:Nat))).run P w=.ok (.int .u8 i.toNat) w:=by
  have f:(0:Int)<=(b:Int):=by omega
  simp only[AC5,asIntOf,xr,xu,q,xd,f,if_true,zL,p]
 rw[key];exact .same H (.int _ _)
theorem Sh(H:AEp ty φ E h w){x:O}{d:xU}{i:Nat}(c:AEm φ (x e) d)(a:AU i x F e h=.ok v h'):Bq ty φ E h w v h' ((AB6 d i).run P w):=by
 unfold AU at a;split at a
 case h_2=>cases a
 rename_i vs k;rw[k]at c;cases c with
 |@tuple n l f=>
  split at a
  case h_2=>cases a
  rename_i o b;rw[Ba]at a;cases a;rw[Gf]at b;obtain⟨m,j,g⟩:=f.get i _ b;have:(⟨l⟩:Array xU)[i]? =BY m:=by simpa using j
  simp only[AB6,this,xu];exact .same H g
theorem _root_.Go.Proofs.YtldjiljipddebaaGreat.KOk.AG8{k:TK}{d:AB9}(b:KOk P k d)(hk:k≠.iface)(e:Array (String×yu)):d≠.interface e:=by
 cases b with
 |other c=>intro a;subst a;cases c
 |iface f=>exact absurd rfl hk
 |_=>intro a;cases a
theorem Yx(H:AEp ty φ E h w){x:O}{a:xU}{t:yu}{c:TI}(T:AFD P t c)(hk:c.k≠.iface)
  (i:AEm φ (x e) a)(b:JT t x F e h=.ok v h'):Bq ty φ E h w v h' ((ABn t a).run P w):=by
 unfold JT at b;rw[Ba]at b;cases b;obtain⟨d,f,g⟩:=T.und;have key:(ABn t a).run P w=.ok (.iface t a) w:=by
  simp only[ABn,xr,run_underlying f,xd];cases d<;>first|rfl|exact absurd rfl (g.AG8 hk _)
 rw[key];exact .same H (.iface t i)
theorem js(H:AEp ty φ E h w){t:yu}(f:Y3 F e h=.ok v h'):Bq ty φ E h w v h' ((Instr.makeMap t By).run P w):=by
 unfold Y3 at f;obtain⟨bl,d,b⟩:=Ii f;cases b
 let c:ya:={w with heap:=w.heap.push (.map #[] 0)}
 have k:c.heap.size=w.heap.size+1:=by simp[c]
 have g:∀a,a<w.heap.size->c.heap[a]? =w.heap[a]?:=λa b=>by
  show(w.heap.push _)[a]? =_;rw[ACm b,ACT b]
 refine⟨.map (BY w.heap.size),c,φ.put h.next {blk:=w.heap.size,off:=0,sz:=0,room:=0,es:=1},rfl,.map (Phi.AFX _ _ _),
  H.new d (by omega) (by show w.heap.size<_;omega) (λi j e _=>by have:=(H.dom i j e).2;show _≠w.heap.size;omega) (λa b _=>g a b) ?_,
  .made H d (xW _) (by omega) g rfl rfl rfl⟩
 have:c.heap[w.heap.size]? =BY (.map #[] 0):=by show(w.heap.push _)[w.heap.size]? =_;simp
 rw[this];exact .map .nil
end
inductive AGL (φ:Phi)(e:Env):Option O->Option xU->Prop
 |none:AGL φ e By By
 |some {o:O} {x:xU} (h:AEm φ (o e) x):AGL φ e (BY o) (BY x)
section
variable {P:yx}{ty:TTy}{φ:Phi}{E:Nat->Prop}{h h':Hp}{w:ya}{F:AEh}{e:Env}{v:xU}
theorem Gi{o:O}{x:xU}(h:AEm φ (o e) x){d y:Nat}{k:Nat->R}(a:Cs e (BY o) d y k=.ok v h'):
  ∃n,n<=y/\k n=.ok v h'/\∀Y,n<=Y->∀b w,(ADR x Y b).run P w=.ok n w:=by
 unfold Cs at a;simp only at a;split at a
 case h_2=>cases a
 rename_i n g;obtain⟨f,a⟩:=B1 a;obtain⟨j,rfl⟩:=FL h g;refine⟨n,As.1 f,a,λY i b w=>?_⟩;have c:(0:Int)<=(n:Int)/\(n:Int)<=(Y:Int):=by omega
 simp only[ADR,asIntOf,xr,xu,xd,c,and_self,if_true,zL]
theorem Tv(d y:Nat)(k:Nat->R):Cs e By d y k=k d:=rfl
theorem Ks{lo hi r:Option O}{z u A:Option xU}(d:AGL φ e lo z)(i:AGL φ e hi u)(t:AGL φ e r A){len cap g:Nat}(q:cap<=g)(x:len<=cap)
  {k:Nat->Nat->Nat->R}(a:DY e len cap lo hi r k=.ok v h')(s:Bool):
  ∃l b m,k l b m=.ok v h'/\l<=b/\b<=m/\m<=cap/\(r.isSome=IT->m=cap)/\∀w,(AAI s len g z u A).run P w=.ok (l,b,if r.isSome then m else g) w:=by
 unfold DY at a;cases t with
 |none=>
  simp only at a;cases i with
  |none=>
   rw[Tv]at a;cases d with
   |none=>exact⟨0,len,cap,a,yH _,x,xW _,λ_=>rfl,λw=>rfl⟩
   |some d=>
    obtain⟨l,f,j,n⟩:=Gi (P:=P) d a;exact⟨l,len,cap,j,f,x,xW _,λ_=>rfl,λw=>by
     simp only[AAI,xr,xu,xd,n len f];rfl⟩
  |some i=>
   obtain⟨b,c,a,o⟩:=Gi (P:=P) i a;cases d with
   |none=>exact⟨0,b,cap,a,yH _,c,xW _,λ_=>rfl,λw=>by
     simp only[AAI,xr,xu,xd,o g (yS c q)];rfl⟩
   |some d=>
    obtain⟨l,f,j,n⟩:=Gi (P:=P) d a;exact⟨l,b,cap,j,f,c,xW _,λ_=>rfl,λw=>by
     simp only[AAI,xr,xu,xd,o g (yS c q),n b f];rfl⟩
 |some t=>
  simp only at a;obtain⟨m,p,a,y⟩:=Gi (P:=P) t a;cases i with
  |none=>cases a
  |some i=>
   simp only at a;obtain⟨b,c,a,o⟩:=Gi (P:=P) i a;cases d with
   |none=>exact⟨0,b,m,a,yH _,c,p,λh=>(by cases h),λw=>by
     simp only[AAI,xr,xu,xd,y g (yS p q),o m c];rfl⟩
   |some d=>
    obtain⟨l,f,j,n⟩:=Gi (P:=P) d a;exact⟨l,b,m,j,f,c,p,λh=>(by cases h),λw=>by
     simp only[AAI,xr,xu,xd,y g (yS p q),o m c,n b f];rfl⟩
theorem AGS.le{a a':ABD}{c c':Nat}(h:AGS φ a c a' c'):c<=c':=by
 obtain⟨_,_,b,_,_,h|h⟩:=h
 ·rcases h.2.2 with h|h
  ·exact ABe h.symm
  ·exact h.2.1
 ·omega
theorem JZ(a:Option ABD)(size l b m:Nat)(h:Hp):
  Bz a size l b m h=.ok (.slice (if m=l then a else a.map λa=>if l*size=0 then a else⟨a.block,a.off+l*size,By⟩) (b - l) (m - l)) h:=by
 unfold Bz;rw[Ao,Ao];by_cases d:m=l
 ·subst d;rw[zU,If rfl];rfl
 ·have c:yA m l=IT:=by
   cases c:yA m l
   ·rfl
   ·exact absurd (A0.1 c) d
  rw[c,No d];cases a with
  |none=>rfl
  |some a=>
   have e:yv l size=l*size:=rfl;rw[e];cases g:l*size with
   |zero=>rw[zX,If rfl];rfl
   |succ f=>rw[zX,No (ADg f)];simp only[Ao];rfl
theorem gz{a a':ABD}{c c':Nat}(G:AGS φ a c a' c'){size l b m:Nat}(O:l<=b)(N:b<=m)(P:m<=c){d:Bool}(q:d=IT->m=c)
  (x:d=IT->0<l->∀p,φ a.block=BY p->p.es=size\/(p.room=p.sz/\p.es=1)):
  AEm φ (.slice (if m=l then BY a else(BY a).map λa=>if l*size=0 then a else⟨a.block,a.off+l*size,By⟩) (b - l) (m - l))
   (.slice (if(if d then m else c')=l then BY a' else(BY a').map (·.add (l*size))) (b - l) ((if d then m else c') - l)):=by
 obtain⟨s1,s2,p,e,w,f⟩:=G;obtain⟨k,n,K⟩:=a;obtain⟨I,J,H⟩:=a';simp only at s1 s2 e w f;subst s1;subst s2;subst w;simp only[zX,Addr.AFk];have C:m<=(if d then m else c'):=by
  cases d
  ·have:=q rfl
   simp only[ye,if_false];rcases f with h|h
   ·rcases h.2.2 with h|h<;>omega
   ·omega
  ·simp
 by_cases r:m=l
 ·rw[If r]
  by_cases g:(if d then m else c')=l
  ·rw[If g]
   refine .slice (by omega) ⟨rfl,rfl,p,e,rfl,.inr ⟨by omega,.inl (by omega)⟩⟩
  ·rw[No g]
   cases d with
   |true=>exact absurd r g
   |false=>
    simp only[ye,if_false]at g C ⊢;have t:=q rfl;refine .slice (by omega) ⟨rfl,rfl,p,e,rfl,.inr ⟨by omega,.inr ?_⟩⟩;simp only;rcases yl l with h0|h0
    ·subst h0
     simp only[AAa,zQ,ADh];rcases f with h|h
     ·omega
     ·rcases h.2 with h|h
      ·omega
      ·exact h
    ·rcases f with ⟨_,E,h|⟨i,u,j⟩⟩|h
     ·omega
     ·rcases x rfl h0 p e with o|⟨F,s⟩
      ·have B:c=l:=by omega
       have Q:(c' - l)*p.es+l*p.es=c'*p.es:=by rw[<- ABf];congr 1;omega
       subst B;rw[<- o];omega
      ·rw[s]at i j;omega
     ·omega
 ·have D:¬((if d=IN then m else c')=l):=by omega
  rw[No r,No D];have R:0<c:=by omega
  rcases f with ⟨_,E,A⟩|h
  case inr=>omega
  have y:∀X:ABD,X=(if l*size=0 then(⟨k,n,By⟩:ABD)else⟨k,n+l*size,By⟩)->X=⟨k,n+l*size,By⟩:=by
   intro X z;rw[z];split
   ·rename_i h;rw[h];rfl
   ·rfl
  rw[y _ rfl];refine .slice (by omega) ⟨rfl,rfl,p,e,rfl,.inl ⟨by omega,by simp only;omega,?_⟩⟩;cases d with
  |true=>exact .inl rfl
  |false=>
   simp only[ye,if_false];have t:=q rfl;subst t;rcases A with h|⟨i,u,j⟩
   ·exact .inl (by rw[h])
   ·rcases yl l with h0|h0
    ·subst h0;refine .inr ?_;simp only[AAa,zQ,ADh];exact⟨i,u,j⟩
    ·rcases x rfl h0 p e with o|⟨F,s⟩
     ·refine .inr ?_
      have L:(m - l)*p.es+l*p.es=m*p.es:=by rw[<- ABf];congr 1;omega
      have M:(c' - l)*p.es+l*p.es=c'*p.es:=by rw[<- ABf];congr 1;omega
      rw[<- o];omega
     ·rw[s]at i j;exact .inl (by omega)
theorem im(H:AEp ty φ E h w){el:Nat}{e:TI}(m:ty.get el=BY e){a:ABD}(b:FG el (BY a) h=IN):∀p,φ a.block=BY p->p.es=e.size\/(p.room=p.sz/\p.es=1):=by
 intro p k;unfold FG at b;simp only at b;split at b
 ·rename_i f n g l
  have j:=H.kind a.block p f n g k (Dh l);rcases j.2 with ⟨_,d,c,_⟩|⟨o,q,d,c,i⟩
  ·exact .inr ⟨d,c⟩
  ·subst d
   have:o=el:=A0.1 b;subst this;rw[m]at c;cases c;exact .inl i
 ·cases b
theorem jn(H:AEp ty φ E h w){x:O}{x':xU}{t el:yu}{ti ei:TI}(T:AFD P t ti)(hk:ti.k=.slice el)(hty:ty.get el=BY ei)(TE:AFD P el ei)
  {lo hi mx:Option O}{lo' hi' mx':Option xU}(hx:AEm φ (x e) x')(hl:AGL φ e lo lo')(hh:AGL φ e hi hi')(hm:AGL φ e mx mx')
  (hr:Dr el ei.size x lo hi mx F e h=.ok v h'):Bq ty φ E h w v h' ((AAJ t x' lo' hi' mx').run P w):=by
 unfold Dr at hr;split at hr
 case h_2=>cases hr
 rename_i a n c hxe;rw[hxe]at hx;obtain⟨d,hd,hkd⟩:=T.desc;rw[hk]at hkd;cases hkd;cases hx with
 |AFZ=>
  ·obtain⟨l,b,m,hk2,h1,h2,h3,h4,hs⟩:=Ks (P:=P) hl hh hm (xW 0) (xW 0) hr IN
   have AGJ:Bz By ei.size l b m h=.ok v h':=by
    unfold ES at hk2;split at hk2
    ·exact hk2
    ·split at hk2
     ·exact hk2
     ·exact(B1 hk2).2
   rw[JZ]at AGJ;cases AGJ;have key:(AAJ t (.slice By 0 0) lo' hi' mx').run P w=.ok (.slice By (b - l) (m - l)) w:=by
    have hmm:(if mx.isSome then m else 0)=m:=by
     split
     ·rfl
     ·rename_i hf;exact(h4 (by simpa using hf)).symm
    rw[hmm]at hs;simp only[AAJ,AEE,xr,hd,xd,hs,TE.size,xu,ADM,ite_self]
   rw[key];simp only[ADM,ite_self];have e1:m=0:=by omega
   have e2:b=0:=by omega
   have e3:l=0:=by omega
   subst e1;subst e2;subst e3;exact .same H .AFZ
 |@slice a a' _ _ c' hn hsl=>
  obtain⟨l,b,m,hk2,h1,h2,h3,h4,hs⟩:=Ks (P:=P) hl hh hm hsl.le hn hr IN;have AGJ:Bz (BY a) ei.size l b m h=.ok v h'/\(mx.isSome=IT->0<l->∀p,φ a.block=BY p->p.es=ei.size\/(p.room=p.sz/\p.es=1)):=by
   unfold ES at hk2;split at hk2
   ·rename_i hmx;exact⟨hk2,λhf=>by rw[hmx]at hf;cases hf⟩
   ·split at hk2
    ·exact⟨hk2,λ_ h0=>absurd h0 (Nat.lt_irrefl 0)⟩
    ·obtain⟨hf,hk2⟩:=B1 hk2
     exact⟨hk2,λ_ _=>im H hty hf⟩
  obtain⟨AGJ,hfit⟩:=AGJ;rw[JZ]at AGJ;cases AGJ;have key:(AAJ t (.slice (BY a') n c') lo' hi' mx').run P w=
    .ok (.slice (if(if mx.isSome then m else c')=l then BY a' else(BY a').map (·.add (l*ei.size))) (b - l) ((if mx.isSome then m else c') - l)) w:=by
   simp only[AAJ,AEE,xr,hd,xd,hs,TE.size,xu]
  rw[key];exact .same H (gz hsl h1 h2 h3 h4 hfit)
end
theorem GV{a:Type}(xs:List a):∀n,(BP xs n).length=n*xs.length
 |0=>by simp[BP]
 |n+1=>by
  show(xs++BP xs n).length=_;rw[xY,GV xs n,AAj,ADC]
theorem TG{c:Type}(xs:List c):∀n i,i<n*xs.length->(BP xs n)[i]? =xs[i % xs.length]?
 |0,i,a=>by simp at a
 |n+1,i,a=>by
  show(xs++BP xs n)[i]? =_;rcases yM i xs.length with hl|hl
  ·rw[yL hl,AAA hl]
  ·have b:i - xs.length<n*xs.length:=by rw[AAj]at a;omega
   rw[yR hl,TG xs n _ b,<- Nat.mod_eq_sub_mod hl]
theorem IG{φ:Phi}{l l':List xU}(h:AE5 φ l l'):∀n,AE5 φ (BP l n) (BP l' n)
 |0=>.nil
 |n+1=>h.append (IG h n)
theorem OQ(z:Array xU)(n:Nat):((ABo (n*z.size)).map (λi=>z[i % z.size]!))=⟨BP z.toList n⟩:=by
 apply zT;apply List.ext_getElem?;intro i;simp only[Array.toList_map,zE,Array.toList_range];rcases yM i (n*z.size)with h|h
 ·have a:i<n*z.toList.length:=by simpa using h
  rw[TG _ _ _ a,List.getElem?_range h,zX];have b:0<z.size:=by
   rcases yl z.size with h0|h0
   ·rw[h0]at h;simp at h
   ·exact h0
  have c:i % z.size<z.size:=Nat.mod_lt _ b;simp[c]
 ·rw[zR (by simpa using h),zR (by rw[GV];simpa using h)];rfl
theorem Hc(z:Array xU)(n:Nat):AA9 z n=⟨BP z.toList n⟩:=OQ z n
theorem AFO(cs:List xU)(off:Nat)(vs:List xU):lay cs off vs=cs.take off++vs++cs.drop (off+vs.length):=by
 unfold lay;rw[OH,RR,Bm];rfl
theorem Ur{cs:List xU}{off:Nat}{vs:List xU}(h:off+vs.length<=cs.length):(lay cs off vs).length=cs.length:=by
 rw[AFO];simp;omega
theorem jM{φ:Phi}{cs cs' vs b:List xU}(h:AE5 φ cs cs')(a:AE5 φ vs b)(off:Nat):AE5 φ (lay cs off vs) (lay cs' off b):=by
 rw[AFO,AFO,a.length];exact((h.take off).append a).append (h.drop _)
theorem Oy(off:Nat):∀(vs:List xU) (j:Nat) (cs:Array xU),off+j+vs.length<=cs.size->
  ((vs.zipIdx j).foldl (λcs (c,j)=>cs.setIfInBounds (off+j) c) cs).toList=lay cs.toList (off+j) vs
 |[],j,cs,a=>by rw[AFO];simp
 |v::vs,j,cs,a=>by
  simp only[xh]at a;rw[List.zipIdx_cons,ADn];have:=Oy off vs (j+1) (cs.setIfInBounds (off+j) v) (by simp;omega);rw[this,AFO,AFO];have d:off+j<cs.toList.length:=by simp;omega
  rw[Array.toList_setIfInBounds,show off+(j+1)=off+j+1 by omega];rw[xh,List.take_set,List.drop_set_of_lt (by omega)];have b:(cs.toList.take (off+j+1)).set (off+j) v=cs.toList.take (off+j)++[v]:=by
   rw[List.take_succ_eq_append_getElem d,List.set_append_right _ _ (by simp;omega)];have:(off+j - (cs.toList.take (off+j)).length)=0:=by simp;omega
   rw[this];rfl
  rw[b,show off+j+1+vs.length=off+j+(vs.length+1)by omega];simp
section
variable {φ:Phi}{h':Hp}{e:Env}{v:xU}
inductive AGy (φ:Phi)(e:Env)(place:Nat->Option (Nat×Nat)):List (Nat×Nat×O)->List (Nat×xU)->Prop
 |nil:AGy φ e place [] []
 |cons {i off size:Nat} {o:O} {x:xU} {l:List (Nat×Nat×O)} {l':List (Nat×xU)} (hp:place i=BY (off,size)) (hx:AEm φ (o e) x) (t:AGy φ e place l l'):
  AGy φ e place ((off,size,o)::l) ((i,x)::l')
theorem Jr{i:Nat->Option (Nat×Nat)}{k:List xU->R}:∀{ps:List (Nat×Nat×O)} {ps':List (Nat×xU)},AGy φ e i ps ps'->∀{cs cs':List xU},AE5 φ cs cs'->
  Et cs e k ps=.ok v h'->∃r c,k r=.ok v h'/\AE5 φ r c/\r.length=cs.length/\ACX i ⟨cs'⟩ ps'=BY ⟨c⟩
 |_,_,.nil,cs,cs',b,a=>by
  unfold Et at a;rw[DE]at a;exact⟨cs,cs',a,b,rfl,rfl⟩
 |_,_,.cons (off:=off) (size:=size) (o:=o) (x:=x) w z B,cs,cs',b,a=>by
  unfold Et at a;rw[Ba]at a;obtain⟨t,a⟩:=B1 a;obtain⟨n,a⟩:=B1 a;obtain⟨p,a⟩:=B1 a;have g:=K1 z t;have d:=A0.1 n;have f:=As.1 p;rw[Bm]at d f;have m:=g.length;have D:=b.length;obtain⟨r,c,s,y,u,q⟩:=Jr B (jM b g off) a;have C:off+size<=cs.length:=f;have h:x.cells.size=size:=by rw[<- d,<- m];simp
  refine⟨r,c,s,y,by rw[u,Ur (by omega)],?_⟩;rw[ACX,w];simp only;rw[No (by simp[h];omega)];have j:(x.cells.zipIdx.foldl (λcs (l,A)=>cs.setIfInBounds (off+A) l) (⟨cs'⟩:Array xU))=⟨lay cs' off x.cells.toList⟩:=by
   apply zT;have:=Oy off x.cells.toList 0 ⟨cs'⟩ (by simp[h];omega);rw[<- Array.foldl_toList,Array.toList_zipIdx];exact this
  rw[j];exact q
end
section
variable {P:yx}{ty:TTy}{φ:Phi}{E:Nat->Prop}{h h':Hp}{w:ya}{F:AEh}{e:Env}{v:xU}
theorem Ux(H:AEp ty φ E h w){t:yu}{ti:TI}(T:AFD P t ti){fs:List (Nat×Nat×Nat)}(hk:ti.k=.struct fs)(hz:ti.zero.length=ti.size)
  {ps:List (Nat×Nat×O)}{ps':Array (Nat×xU)}(hp:AGy φ e (Nw fs) ps ps'.toList)
  (hr:BG ti.zero ps F e h=.ok v h'):Bq ty φ E h w v h' ((ABK t ps').run P w):=by
 unfold BG at hr;obtain⟨z,_,hzr,hzc,hzp⟩:=T.AFs hz;obtain⟨r,r',hk2,hrr,hlen,hf⟩:=Jr hp (.plain hzp) hr;cases hk2;obtain⟨d,hd,hkd⟩:=T.desc;rw[hk]at hkd;cases hkd with
 |@struct fs fields hfl hin=>
  have hmap:∀w,(fields.mapM (λf=>(do pure (f.offset,<- sizeOf f.type):Sem (Nat×Nat)))).run P w=.ok (fields.map λf=>(f.offset,P.cellsOf f.type)) w:=by
   intro w;rw[<- Array.toArray_toList (xs:=fields),List.mapM_toArray,List.map_toArray];have:∀l:List Field,l.all (λf=>(P.info? f.type).isSome)=IN->(l.mapM (λf=>(do pure (f.offset,<- sizeOf f.type):Sem (Nat×Nat)))).run P w=.ok (l.map λf=>(f.offset,P.cellsOf f.type)) w:=by
    intro l
    induction l with
    |nil=>intro _;rfl
    |cons f l ih=>
     intro hall;simp only[ABY,yE]at hall;obtain⟨inf,AGr⟩:=ACN.1 hall.1;simp only[AB2,xr,run_sizeOf w AGr,xd,xu,ih hall.2,za]
   simp only[Sem.run_map,this _ hin,xd]
  have AHd:Nw fs=λi=>(fields.map λf=>(f.offset,P.cellsOf f.type))[i]?:=by
   funext i
   unfold Nw;rw[Gf,<- hfl,zE,Array.getElem?_map,<- ABW];cases fields.toList[i]?<;>rfl
  rw[AHd]at hf;have hz':(⟨ti.zero⟩:Array xU)=z.cells:=by rw[<- hzc]
  rw[hz']at hf;have key:(ABK t ps').run P w=.ok (.agg ⟨r'⟩) w:=by
   simp only[ABK,xr,hzr,xd,hd,hmap,hf,xu]
  rw[key];exact .same H (.agg hrr)
theorem Uw(H:AEp ty φ E h w){t el:yu}{a b:TI}(T:AFD P t a){n:Nat}(hk:a.k=.arr n el)(k:AFD P el b)(r:a.zero.length=a.size)
  {ps:List (Nat×Nat×O)}{ps':Array (Nat×xU)}(p:AGy φ e (λi=>BY (yv i b.size,b.size)) ps ps'.toList)
  (f:BG a.zero ps F e h=.ok v h'):Bq ty φ E h w v h' ((ABK t ps').run P w):=by
 unfold BG at f;obtain⟨j,_,y,u,x⟩:=T.AFs r;obtain⟨B,g,o,q,A,c⟩:=Jr p (.plain x) f;cases o;obtain⟨z,l,d⟩:=T.desc;rw[hk]at d;cases d;have s:(⟨a.zero⟩:Array xU)=j.cells:=by rw[<- u]
 rw[s]at c;have m:ACX (λi=>BY (i*b.size,b.size)) j.cells ps'.toList=BY ⟨g⟩:=c;have key:(ABK t ps').run P w=.ok (.agg ⟨g⟩) w:=by
  simp only[ABK,xr,y,xd,l,k.size,m,xu]
 rw[key];exact .same H (.agg q)
theorem Xs{ψ:Phi}{n s l c:Nat}{p:Pl}(e:ψ n=BY p)(d:p.off=0)(b:l<=c)(a:c=0\/0<c):AEm ψ (.slice (BY ⟨n,0,By⟩) l c) (.slice (BY ⟨p.blk,0,By⟩) l c):=by
 refine .slice b ⟨rfl,rfl,p,e,rfl,?_⟩;rcases a with h|h
 ·exact .inr ⟨h,.inl h⟩
 ·exact .inl ⟨h,by simp[d],.inl rfl⟩
theorem Nj(H:AEp ty φ E h w){t el:yu}{q a:TI}(T:AFD P t q)(hk:q.k=.slice el)(d:AFD P el a)(n:a.zero.length=a.size)
  {len:Nat}(L:len*a.size<=16777216){ps:List (Nat×Nat×O)}{ps':Array (Nat×xU)}(z:AGy φ e (λi=>BY (yv i a.size,a.size)) ps ps'.toList)
  (m:Ab len (BP a.zero len) ps F e h=.ok v h'):Bq ty φ E h w v h' ((ABO t len ps').run P w):=by
 unfold Ab at m;obtain⟨c,_,D,o,C⟩:=d.AFs n;obtain⟨N,p,x,B,M,u⟩:=Jr z (IG (.plain C) len) m;obtain⟨K,I,y,A,r,ev⟩:=HP H x B el;cases y;obtain⟨J,g,k⟩:=T.desc;rw[hk]at k;cases k;have G:c.cells.size=a.size:=by rw[<- n,<- o];simp
 have j:ACX (λi=>BY (i*a.size,a.size)) ⟨BP a.zero len⟩ ps'.toList=BY ⟨p⟩:=u;have f:(ABo (len*a.size)).map (λi=>c.cells[i % c.cells.size]!)=⟨BP a.zero len⟩:=by
  rw[<- o,<- G];exact OQ c.cells len
 have l:¬(len*a.size > 2 ^ 24):=by omega
 have key:(ABO t len ps').run P w=.ok (.slice (BY ⟨w.heap.size,0,By⟩) len len) {w with heap:=w.heap.push (.cells ⟨p⟩ el)}:=by
  by_cases b:len*a.size=0
  ·have:(ABo (len*a.size)).map (λi=>(#[]:Array xU)[i % (#[]:Array xU).size]!)=⟨BP a.zero len⟩:=by
    rw[<- f,b];simp
   simp only[ABO,xr,g,xd,d.size,l,b,if_false,if_true,xu,AAn,gt_iff_lt];rw[b]at this;simp only[this,j,ABP,xr,run_newObj,xd,xu]
  ·simp only[ABO,xr,g,xd,d.size,l,b,if_false,D,xu,f,j,ABP,run_newObj]
 rw[key];exact⟨_,_,I,rfl,Xs (s:=0) A rfl (xW _) (yl _),r,ev⟩
theorem IR{n:Nat}(h:n<=9223372036854775807):AAX.wrap (n:Int)=n:=EB .i64 n h
theorem jT:most=1099511627776:=rfl
theorem XV:JP=70368744177664:=rfl
theorem HO{n:Nat}(h:n<=1099511627776):n<=JP:=yS h (by rw[XV];omega)
theorem XW{c b:Nat}(h:yI (yv (xz c) (xz b)) JP=IN):c<=70368744177664/\(c+1)*(b+1)<=70368744177664:=by
 have a:=As.1 h;rw[XV]at a;have d:(c+1)*(b+1)<=70368744177664:=a;refine⟨?_,d⟩;have:c+1<=(c+1)*(b+1):=ACr _ (by omega);omega
theorem jU{c b:Nat}(h:yI (yv (xz c) (xz b)) most=IN):c<=1099511627776/\(c+1)*(b+1)<=1099511627776:=by
 have a:=As.1 h;rw[jT]at a;have d:(c+1)*(b+1)<=1099511627776:=a;refine⟨?_,d⟩;have:c+1<=(c+1)*(b+1):=ACr _ (by omega);omega
theorem dJ(H:AEp ty φ E h w){t el:yu}{y b:TI}(T:AFD P t y)(hk:y.k=.slice el)(g:AFD P el b)(u:b.zero.length=b.size)
  {l c:O}{l' c':xU}(L:AEm φ (l e) l')(J:AEm φ (c e) c')(d:Hi b.bytes b.zero l c F e h=.ok v h'):Bq ty φ E h w v h' ((ABV t l' c').run P w):=by
 unfold Hi SW at d;split at d
 case h_2=>cases d
 rename_i f B;split at d
 case h_2=>cases d
 rename_i a C;obtain⟨U,rfl⟩:=FL L B;obtain⟨V,rfl⟩:=FL J C;obtain⟨D,d⟩:=B1 d;obtain⟨G,d⟩:=B1 d;have M:=As.1 D;obtain⟨a0,a1⟩:=jU G;obtain⟨j,_,R,x,Q⟩:=g.AFs u;have S:j.cells.size=b.size:=by rw[<- u,<- x];simp
 have z:AE5 φ (BP b.zero a) (BP b.zero a):=IG (.plain Q) a;obtain⟨Y,W,K,N,A,ev⟩:=HP H d z el;cases K;obtain⟨X,q,r⟩:=T.desc;rw[hk]at r;cases r;obtain⟨a2,n,hs,p,_⟩:=g.info;have m:(ABo (a*b.size)).map (λk=>j.cells[k % j.cells.size]!)=⟨BP b.zero a⟩:=by
  rw[<- x,<- S];exact OQ j.cells a
 have w1:AAX.wrap (f:Int)=f:=IR (by omega);have w2:AAX.wrap (a:Int)=a:=IR (by omega);have I:¬((b.bytes:Int)*(a:Int) > 2 ^ 48):=by
  have:b.bytes*a<=(a+1)*(b.bytes+1):=by rw[Nat.mul_comm];exact ACb (by omega) (by omega)
  have Z:((b.bytes*a:Nat):Int)<=1099511627776:=by omega
  rw[<- ADx];omega
 have o:((decide ((a:Int)<0) || decide ((b.bytes:Int)*(a:Int) > 2 ^ 48)) || decide ((f:Int)<0) || decide ((f:Int) > (a:Int)))=IT:=by
  simp only[AC8,decide_eq_false_iff_not];refine⟨⟨⟨by omega,I⟩,by omega⟩,by omega⟩
 have key:(ABV t (.int U (f:Nat)) (.int V (a:Nat))).run P w=.ok (.slice (BY ⟨w.heap.size,0,By⟩) f a) {w with heap:=w.heap.push (.cells ⟨BP b.zero a⟩ el)}:=by
  by_cases i:a*b.size=0
  ·have e0:(ABo (a*b.size)).map (λk=>(#[]:Array xU)[k % (#[]:Array xU).size]!)=⟨BP b.zero a⟩:=by
    rw[<- m,i];simp
   rw[i]at e0;simp only[ABV,xr,q,xd,asInt,asIntOf,xu,run_typeInfo _ n,p,w1,w2,o,ye,if_false,run_askRoom,zL,g.size,i,if_true,e0,ABP,run_newObj,ABQ]
  ·simp only[ABV,xr,q,xd,asInt,asIntOf,xu,run_typeInfo _ n,p,w1,w2,o,ye,if_false,run_askRoom,zL,g.size,i,R,m,ABP,run_newObj,ABQ]
 rw[key];exact⟨_,_,W,rfl,Xs (s:=0) N rfl M (yl _),A,ev⟩
end
section
variable {P:yx}{ty:TTy}{φ:Phi}{E:Nat->Prop}{h h':Hp}{w:ya}{F:AEh}{e:Env}{v:xU}
theorem U9(H:AEp ty φ E h w){x:O}{A:xU}{t el:yu}{z b:TI}(T:AFD P t z){n:Nat}(hk:z.k=.arr n el)(B:AFD P el b)
  {lo hi o:Option O}{m k p:Option xU}(S:AEm φ (x e) A)(N:AGL φ e lo m)(M:AGL φ e hi k)(Q:AGL φ e o p)
  (f:GT n b.size x lo hi o F e h=.ok v h'):Bq ty φ E h w v h' ((AAJ t A m k p).run P w):=by
 unfold GT at f;split at f
 case h_2=>cases f
 rename_i C J;obtain⟨g,rfl,s⟩:=GE S J;obtain⟨V,K,r⟩:=T.desc;rw[hk]at r;cases r;obtain⟨a,D,c,q,W,X,Y,G,u⟩:=Ks (P:=P) N M Q (xW n) (xW n) f IT;have R:(if o.isSome then c else n)=c:=by
  split
  ·rfl
  ·rename_i L;exact(G (by simpa using L)).symm
 rw[R]at u;rw[JZ]at q;cases q;have key:(AAJ t (.pointer (BY g)) m k p).run P w=.ok (.slice (BY (if c=a then g else g.add (a*b.size))) (D - a) (c - a)) w:=by
  simp only[AAJ,xr,K,xd,G7,u,B.size,xu]
 rw[key];refine .same H ?_;have s1:=s.1;obtain⟨y,l,rfl⟩:=s.eq;obtain⟨i,j,U⟩:=C;simp only at s1 l;subst s1;simp only[Addr.AFk,zX];by_cases d:c=a
 ·rw[If d,If d]
  exact .slice (by omega) ⟨rfl,rfl,y,l,rfl,.inr ⟨by omega,.inl (by omega)⟩⟩
 ·rw[No d,No d]
  have I:(if a*b.size=0 then(⟨i,j,By⟩:ABD)else⟨i,j+a*b.size,By⟩)=⟨i,j+a*b.size,By⟩:=by
   split
   ·rename_i h;rw[h];rfl
   ·rfl
  rw[I];exact .slice (by omega) ⟨rfl,rfl,y,l,rfl,.inl ⟨by omega,by simp only;omega,.inl rfl⟩⟩
theorem dD(H:AEp ty φ E h w){a:Fn}{f c:List O}{d c':List xU}(i:AE5 φ (vals e f) d)(g:AE5 φ (vals e c) c')(b:EZ a f c F e h=.ok v h'):
  Bq ty φ E h w v h' (.ok (.func a ⟨d⟩ ⟨c'⟩) w):=by
 unfold EZ at b;rw[DE,DE]at b;cases b;exact .same H (.func a i g)
theorem jg(H:AEp ty φ E h w){x:O}{i:xU}{t el:yu}{g:TI}(T:AFD P t g){n:Nat}(hk:g.k=.arr n el)(u:0<n)(f:AEm φ (x e) i)
  (a:Se n x F e h=.ok v h'):Bq ty φ E h w v h' ((ACg t i).run P w):=by
 unfold Se at a;split at a
 case h_2=>cases a
 rename_i q p r o;rw[o]at f;obtain⟨b,a⟩:=B1 a;cases a;have b:=As.1 b;obtain⟨s,k,d⟩:=T.desc;rw[hk]at d;cases d;cases f with
 |@slice _ c _ _ j l m=>
  have key:(ACg t (.slice (BY c) p j)).run P w=.ok (.pointer (BY c)) w:=by
   simp only[ACg,xr,k,xd,ABS.2 b,if_false,xu]
  rw[key];exact .same H (.ptr (LZ l m (by omega)))
theorem PM(H:AEp ty φ E h w){lt:Bool}{x y:O}{f g:xU}(c:AEm φ (x e) f)(d:AEm φ (y e) g)(a:H9 lt (x e) (y e) h=.ok v h'):
  ∃k q m n,f=.int k m/\g=.int q n/\h'=h/\v=.int k (if(if lt then n<m else m<n)then n else m):=by
 unfold H9 at a;split at a
 case h_2=>cases a
 rename_i k m j;split at a
 case h_2=>cases a
 rename_i n l;obtain⟨q,i⟩:=XL l;rw[j]at c;rw[i]at d;refine⟨k,q,m,n,c.AFK,d.AFK,?_⟩;cases lt
 ·simp only[cond_false]at a
  cases b:iLt m n with
  |false=>
   rw[b]at a;cases a;rw[Da]at b;have:=of_decide_eq_false b;refine⟨rfl,?_⟩;simp[this]
  |true=>
   rw[b]at a;cases a;rw[Da]at b;have:=of_decide_eq_true b;refine⟨rfl,?_⟩;simp[this]
 ·simp only[cond_true]at a
  cases b:iLt n m with
  |false=>
   rw[b]at a;cases a;rw[Da]at b;have:=of_decide_eq_false b;refine⟨rfl,?_⟩;simp[this]
  |true=>
   rw[b]at a;cases a;rw[Da]at b;have:=of_decide_eq_true b;refine⟨rfl,?_⟩;simp[this]
theorem jw(H:AEp ty φ E h w){x y:O}{a b:xU}{c:Array yu}{t:yu}(f:AEm φ (x e) a)(g:AEm φ (y e) b)(d:Y4 x y F e h=.ok v h'):
  Bq ty φ E h w v h' ((Builtin.min_ c t #[a,b]).run P w):=by
 obtain⟨i,l,j,k,rfl,rfl,rfl,rfl⟩:=PM H f g d;exact .same H (.int _ _)
theorem ju(H:AEp ty φ E h w){x y:O}{a b:xU}{c:Array yu}{t:yu}(f:AEm φ (x e) a)(g:AEm φ (y e) b)(d:VF x y F e h=.ok v h'):
  Bq ty φ E h w v h' ((Builtin.max_ c t #[a,b]).run P w):=by
 obtain⟨i,l,j,k,rfl,rfl,rfl,rfl⟩:=PM H f g d;exact .same H (.int _ _)
theorem Hf:∀l:List UInt8,C2 l=l.map λb=>.int .u8 (b.toNat:Int)
 |[]=>rfl
 |b::l=>by unfold C2;rw[Ao,Hf l];rfl
theorem Lh(l:List UInt8):AE5 φ (C2 l) (l.map λb=>.int .u8 (b.toNat:Int)):=by
 rw[Hf]
 induction l with
 |nil=>exact .nil
 |cons b l a=>exact .cons (.int _ _) a
theorem GX(H:AEp ty φ E h w){size n:Nat}{x x':xU}(hE:∀a l c,x=.slice (BY a) l c->¬E a.block)(hx:AEm φ x x'){k:List xU->R}(hr:BM h size x n k=.ok v h')
  (hn:∀m,lenV x=.ok m->n<=m):
  ∃cs cs':List xU,k cs=.ok v h'/\AE5 φ cs cs'/\(∀w':ya,w'.heap=w.heap->(zB size n x').run P w'=.ok ⟨cs'⟩ w')/\(∀a l c,x'=.slice (BY a) l c->cs'.length=n*size)/\(∀s,x'=.string s->cs'.length=n/\size=1)/\
   (∀a l c,x=.slice (BY a) l c->0<c->∃p cs t fr,φ a.block=BY p/\w.heap[p.blk]? =BY (.cells cs t fr)/\∀(j:Nat) (u:xU),cs'[j]? =BY u->cs[p.off+a.off+j]? =BY u):=by
 unfold BM at hr;split at hr
 ·cases hx
  exact⟨[],[],hr,.nil,(λ_ _=>rfl),(λ_ _ _ h=>by cases h),(λ_ h=>by cases h),(λ_ _ _ h=>by cases h)⟩
 ·rename_i a l c
  split at hr
  case h_2=>cases hr
  rename_i ct s en hrow;obtain⟨hb,hr⟩:=B1 hr;rw[GK,yF]at hr;cases hx with
  |@slice _ a' _ _ c' hlc hs=>
   rcases yl c with h0|h0
   ·have hl0:l=0:=by omega
    have hn0:n=0:=by have:=hn l rfl;omega
    subst hn0;refine⟨_,[],hr,by simp[AF2];exact .nil,λw' _=>?_,(λ_ _ _ h=>by simp),(λ_ h=>by cases h),(λ_ _ _ h hpos=>by cases h;omega)⟩;simp only[zB,AAa];rfl
   ·obtain⟨s1,s2,p,hp,hbl,hor⟩:=hs
    have ha:AF1 φ a a':=by
     rcases hor with h|h
     ·exact⟨s1,s2,p,hp,hbl,h.2.1⟩
     ·omega
    obtain⟨cs',hcs,hlen,hrun,hcell⟩:=SV (P:=P) H ha (hE _ _ _ rfl) hrow (As.1 hb);exact⟨_,cs',hr,hcs,hrun,(λ_ _ _ _=>hlen),(λ_ h=>by cases h),(λ_ _ _ h _=>by cases h;exact hcell)⟩
 ·rename_i s
  obtain rfl:=hx.AFN;have hn':n<=s.data.toList.length:=by
   have:=hn (Dw s.data.toList) rfl
   rwa [Bm]at this
  obtain⟨hone,hr⟩:=B1 hr;rw[OH]at hr;refine⟨_,_,hr,Lh _,λw' _=>?_,(λ_ _ _ h=>by cases h),(λ_ _=>⟨by simp only[List.length_map,yP];omega,A0.1 hone⟩),(λ_ _ _ h=>by cases h)⟩;simp only[zB,xu]
  congr 1
  apply zT;simp[List.extract_eq_take_drop]
 ·rename_i c
  cases c with
  |none=>cases hr
  |some r=>
   cases hx;have hn0:n=0:=by have:=hn 0 rfl;omega
   subst hn0;exact⟨[],[],hr,.nil,(λw' _=>by simp only[zB,AAa];rfl),(λ_ _ _ h=>by simp),(λ_ h=>by cases h),(λ_ _ _ h=>by cases h)⟩
 ·cases hr
theorem SR{x b:xU}(a:AEm φ x b){n:Nat}(h:lenV x=.ok n):(ACR b).run P w=.ok n w:=by
 unfold lenV at h;split at h
 ·cases h;cases a<;>rfl
 ·cases h
  obtain rfl:=a.AFN;simp only[ACR,xu,Bm];rfl
 ·rename_i c
  cases c with
  |none=>cases h
  |some d=>
   cases h;cases a;rfl
 ·cases h
theorem cy(H:AEp ty φ E h w)(n:∀b,¬E b){d x:O}{D k:xU}{l:Array yu}{G t el:yu}(h0:l[0]? =BY G){Z I:TI}(T:AFD P G Z)(hk:Z.k=.slice el)(B:AFD P el I)
  (j:AEm φ (d e) D)(X:AEm φ (x e) k)(a:J8 I.size d x F e h=.ok v h'):Bq ty φ E h w v h' ((ABG l t #[D,k]).run P w):=by
 unfold J8 RN at a;split at a
 case h_2=>cases a
 rename_i a9 g dc a6;rw[a6]at j;split at a
 case h_2=>cases a
 rename_i c Y;rw[Ao,BU]at a;obtain⟨cs,C,a,J,a3,M,N,_⟩:=GX (P:=P) H (λ_ _ _ _=>n _) X a (λb2 S=>by rw[Y]at S;cases S;exact ABU _ _);have f:=a3 w rfl;obtain⟨dd,K,L⟩:=T.desc;rw[hk]at L;cases L;have Q:=SR (P:=P) (w:=w) X Y;split at a
 ·cases a
  cases j;have key:(ABG l t #[.slice By 0 0,k]).run P w=.ok (goInt ((min c 0:Nat):Int)) w:=by
   simp only[ABG,h0,xr,K,xd,Q,B.size,xu,yV,yf,zD];have:Nat.min c 0=min c 0:=rfl;rw[this,f];rfl
  rw[key];exact .same H (.int _ _)
 ·rename_i p b1
  cases j with
  |@slice _ q _ _ a5 b0 W=>
   have a2:∃m w1,(.ok (.int .i64 (.ofNat (min c g))) m:R)=.ok v h'/\(storeCells q C).run P w=.ok () w1/\AEp ty φ E m w1/\Evo φ h w φ m w1:=by
    rcases yl dc with h0|h0
    ·have a7:g=0:=by omega
     subst a7;have a1:C=[]:=by
      have hz:min c 0=0:=Nat.min_zero _;rw[hz]at f M N;cases k<;>first|(simp only[zB]at f;cases f;done)|skip
      ·exact AAf.1 (N _ rfl).1
      ·rename_i u sl a4
       cases u with
       |none=>simp only[zB,xu]at f;cases f;rfl
       |some u=>exact AAf.1 (by have:=M u sl a4 rfl;simpa using this)
     subst a1;have:cs=[]:=by cases J;rfl
     subst this;unfold DA at a;split at a
     case h_2=>cases a
     rename_i ct b3 en V;obtain⟨_,a⟩:=B1 a;obtain⟨_,a⟩:=B1 a;simp only[Bs]at a;obtain⟨bl,y,o,r⟩:=Fl a;obtain⟨_,_,s,i,_,_⟩:=W;have U:=H.row p.block s i (n _);have A:=Dh V;rw[A]at U;have z:Live h p.block:=by unfold Live;rw[A];intro j;cases j
     exact⟨_,w,r,rfl,H.put (n _) y i z o rfl (λ_ _=>rfl) U,.put (H.AFj i y) i z o (by rw[Dh V];exact .inr ⟨rfl,rfl⟩) rfl (λ_ _=>rfl) rfl rfl rfl⟩
    ·obtain⟨s1,s2,s,i,o,a8⟩:=W
     have ha:AF1 φ p q:=by
      rcases a8 with h|h
      ·exact⟨s1,s2,s,i,o,h.2.1⟩
      ·omega
     exact Io (P:=P) H a ha J (n _)
   obtain⟨m,w1,r,a0,H1,ev⟩:=a2;cases r;have key:(ABG l t #[.slice (BY q) g a5,k]).run P w=.ok (goInt ((min c g:Nat):Int)) w1:=by
    simp only[ABG,h0,xr,K,xd,Q,B.size,xu,yV,yf,zD];have:Nat.min c g=min c g:=rfl;rw[this,f];simp only[xd,a0,xr,xu]
   rw[key];exact⟨_,_,φ,rfl,.int _ _,H1,ev⟩
end
section
variable {P:yx}{ty:TTy}{φ:Phi}{E:Nat->Prop}{h h':Hp}{w:ya}{e:Env}{v:xU}
theorem AEp.of_heap(H:AEp ty φ E h w){w':ya}(a:w'.heap=w.heap):AEp ty φ E h w' where
 dom:=by rw[a];exact H.dom
 inj:=H.inj
 row:=by rw[a];exact H.row
 fresh:=H.fresh
 kind:=H.kind
 inp:=H.inp
theorem ZK(H:AEp ty φ E h w)(m:∀b,¬E b){a a':ABD}{c c' o:Nat}{vs p:List xU}{k:Hp->R}(F:AGS φ a c a' c')(h0:c=0->vs=[])
  (d:DA (Ew a o) vs h k=.ok v h')(z:AE5 φ vs p):
  ∃l w1,k l=.ok v h'/\(storeCells (a'.add o) p).run P w=.ok () w1/\AEp ty φ E l w1/\Evo φ h w φ l w1:=by
 obtain⟨s1,s2,f,e,t,D⟩:=F;have B:(Ew a o).block=a.block:=by unfold Ew;split<;>rfl
 rcases yl c with hc|hc
 ·have:=h0 hc
  subst this;have:p=[]:=by cases z;rfl
  subst this;unfold DA at d;split at d
  case h_2=>cases d
  rename_i L N M n;obtain⟨_,d⟩:=B1 d;obtain⟨_,d⟩:=B1 d;simp only[Bs]at d;obtain⟨bl,i,j,u⟩:=Fl d;rw[B]at n j u i;have y:=H.row a.block f e (m _);have r:=Dh n;rw[r]at y;have q:Live h a.block:=by unfold Live;rw[r];intro C;cases C
  exact⟨_,w,u,rfl,H.put (m _) i e q j rfl (λ_ _=>rfl) y,.put (H.AFj e i) e q j (by rw[Dh n];exact .inr ⟨rfl,rfl⟩) rfl (λ_ _=>rfl) rfl rfl rfl⟩
 ·have x:a'.off=f.off+a.off:=by
   rcases D with h|h
   ·exact h.2.1
   ·omega
  obtain⟨I,J,G⟩:=a';obtain⟨s,g,K⟩:=a;simp only at s1 s2 e t x;subst s1;subst s2;subst t;subst x;have A:Ew ⟨s,g,By⟩ o=⟨s,g+o,By⟩:=by
   unfold Ew;cases o<;>rfl
  rw[A]at d;rw[Addr.AFk];refine Io (P:=P) H d ⟨rfl,rfl,f,e,rfl,?_⟩ z (m _);show f.off+g+o=f.off+(g+o);omega
theorem O5(N:Nat):∀(r c:Nat),c<N->AA4 N r c<=N+(N+768)/4
 |0,c,h=>by unfold AA4;omega
 |r+1,c,h=>by
  unfold AA4;split
  ·omega
  ·rcases yM (c+(c+768)/4) N with a|a
   ·exact O5 N r _ a
   ·cases r with
    |zero=>unfold AA4;omega
    |succ r=>unfold AA4;rw[If a];omega
theorem ja{a cap:Nat}(h:cap<a):AAK a cap<=2*a:=by
 unfold AAK;split
 ·omega
 ·split
  ·omega
  ·have:=O5 a 4 cap h
   omega
theorem NP(H:AEp ty φ E h w){en:Nat}{a:TI}(D:ty.get en=BY a){b c:Nat}(i:0<b)(o:b<=c){cs cs' rest:List xU}(e:AE5 φ cs cs')(u:cs.length=b*a.size)
  (g:rest.length=(c - b)*a.size){w':ya}(F:w'.heap=w.heap.push (.cells ⟨cs'++rest⟩ en))(C:w'.tape=w.tape)(x:w'.os=w.os)(y:w'.output=w.output)
  {t:VT}{n:Nat}(m:∀j,j<cs.length->t.get j=cs.getD j undef)(l:n=cs.length)(z:Cb h (xz en) t n (Gh b b)=.ok v h'):∃ψ,AEm ψ v (.slice (BY ⟨w.heap.size,0,By⟩) b c)/\AEp ty ψ E h' w'/\Evo φ h w ψ h' w':=by
 have f:=e.length;have K:(c - b)*a.size+b*a.size=c*a.size:=by rw[<- ABf];congr 1;omega
 have B:(⟨cs'++rest⟩:Array xU).size=c*a.size:=by simp[f,g,u];omega
 obtain⟨J,s,k,ev⟩:=Nh (cs:=cs) (cs':=⟨cs'++rest⟩) (t:=en) (fr:=(0,0)) (w':=w')
  (p:={blk:=w.heap.size,off:=0,sz:=cs.length,room:=(⟨cs'++rest⟩:Array xU).size,es:=a.size}) H z m l rfl ⟨rfl,.inr ⟨en,a,rfl,D,rfl⟩⟩ (by simp[f]) (.inl rfl)
  (λj G q=>by
   obtain⟨I,d,A⟩:=e.get j G q;refine⟨I,?_,A⟩;have r:j<cs'.length:=by
    rcases yM j cs'.length with h|h
    ·exact h
    ·rw[zR h]at d;cases d
   simp only[yV];rw[yL r];exact d) F C x y
 cases s;refine⟨_,.slice (xW _) ⟨rfl,rfl,_,Phi.AFX _ _ _,rfl,.inl ⟨i,rfl,.inr ⟨?_,o,?_⟩⟩⟩,k,ev⟩
 ·simp only;omega
 ·simp only[B];omega
theorem bi(H:AEp ty φ E h w)(hE:∀b,¬E b){en:Nat}{ei:TI}(hty:ty.get en=BY ei)(hes:0<ei.size){base:Option ABD}{base':Option ABD}{sl sc sc' need:Nat}
  (hsl:AEm φ (.slice base sl sc) (.slice base' sl sc'))(AHg:sc<need){olds news AGM news':List xU}(ho:AE5 φ olds AGM)(hn:AE5 φ news news')
  (hol:olds.length=sl*ei.size)(hnl:(olds++news).length=need*ei.size)(hone:∀v∈news',v.oneCell'=IN)
  (hcell:∀a a',base=BY a->base'=BY a'->0<sc->∃p cs t fr,φ a.block=BY p/\w.heap[p.blk]? =BY (.cells cs t fr)/\∀j u,AGM[j]? =BY u->cs[p.off+a.off+j]? =BY u)
  {tr:VT}{n:Nat}(hT:∀j,j<(olds++news).length->tr.get j=(olds++news).getD j undef)(hN:n=(olds++news).length)(hr:Eu ei.size en base sc need tr n h=.ok v h'):
  (∀c rest,need<=c->rest.length=(c - need)*ei.size->∀w':ya,sc'<need->w'.heap=w.heap.push (.cells ⟨(AGM++news')++rest⟩ en)->w'.tape=w.tape->w'.os=w.os->w'.output=w.output->
   ∃ψ,AEm ψ v (.slice (BY ⟨w.heap.size,0,By⟩) need c)/\AEp ty ψ E h' w'/\Evo φ h w ψ h' w')/\
  (∀a',base'=BY a'->need<=sc'->∃w' ψ,(storeCells (a'.add (sl*ei.size)) news').run P w=.ok () w'/\AEm ψ v (.slice (BY a') need sc')/\AEp ty ψ E h' w'/\Evo φ h w ψ h' w'):=by
 have AFM:=ho.append hn;have AGR:0<need:=by omega
 unfold Eu at hr;split at hr
 ·
  cases hsl;refine⟨λc rest hc AGE w' _ hw' ht hos hout=>NP H hty AGR hc AFM hnl AGE hw' ht hos hout hT hN hr,λa' ha=>by cases ha⟩
 ·rename_i _ a
  cases hsl with
  |@slice _ a' _ _ _ hlc hs=>
  split at hr
  case h_2=>cases hr
  rename_i ct s en0 hrow;obtain⟨s1,s2,p,hp,hbl,hor⟩:=hs;have AHA:=H.kind a.block p ct s en0 hp (Dh hrow);have AFU:Live h a.block:=by unfold Live;rw[Dh hrow];intro hd;cases hd
  have AHh:(p.room=p.sz/\p.es=1)->sc'=sc:=by
   rintro⟨q1,q2⟩;rcases hor with ⟨q3,q4,q5|⟨q5,q6,q7⟩⟩|⟨q3,q4|q4⟩
   ·exact q5
   ·rw[q2]at q5 q7;omega
   ·omega
   ·rw[q2]at q4;omega
  have real:sc'=sc->Cb h (xz en) tr n (Gh need need)=.ok v h'->
    (∀c rest,need<=c->rest.length=(c - need)*ei.size->∀w':ya,sc'<need->w'.heap=w.heap.push (.cells ⟨(AGM++news')++rest⟩ en)->w'.tape=w.tape->w'.os=w.os->w'.output=w.output->
     ∃ψ,AEm ψ v (.slice (BY ⟨w.heap.size,0,By⟩) need c)/\AEp ty ψ E h' w'/\Evo φ h w ψ h' w')/\
    (∀a'',BY a'=BY a''->need<=sc'->∃w' ψ,(storeCells (a''.add (sl*ei.size)) news').run P w=.ok () w'/\AEm ψ v (.slice (BY a'') need sc')/\AEp ty ψ E h' w'/\Evo φ h w ψ h' w'):=by
   intro hsc hr;exact⟨λc rest hc AGE w' _ hw' ht hos hout=>NP H hty AGR hc AFM hnl AGE hw' ht hos hout hT hN hr,λa'' _ h2=>by omega⟩
  split at hr
  ·refine real (AHh ?_) hr
   rcases AHA.2 with ⟨_,q1,q2,_⟩|⟨t,ti,q1,_⟩
   ·exact⟨q1,q2⟩
   ·cases q1
  ·rename_i e0
   obtain⟨hb,hr⟩:=B1 hr;have hen:e0=en:=A0.1 hb;subst hen;have AJE:p.es=ei.size:=by
    rcases AHA.2 with ⟨q0,_⟩|⟨t,ti,q1,q2,q3⟩
    ·cases q0
    ·have:t=e0:=by omega
     subst this;rw[hty]at q2;cases q2;exact q3
   split at hr
   ·obtain⟨bl,AEs,AFe,hr⟩:=Fl hr
    have Hk:=H.kill AFe (lo:=CD h.low a.block) (hi:=C9 h.high a.block) (mk:=h.mark);refine⟨λc rest hc AGE w' _ hw' ht hos hout=>?_,λa'' AJz hcap=>?_⟩
    ·obtain⟨ψ,hv,H2,ev⟩:=NP Hk hty AGR hc AFM hnl AGE hw' ht hos hout hT hN hr
     refine⟨ψ,hv,H2,?_⟩;have evk:Evo φ h w φ {next:=h.next,low:=CD h.low a.block,high:=C9 h.high a.block,mark:=h.mark,bl:=bl} w:={
      le:=.refl _,new:=λ_ _ e=>.inl e,next:=xW _,size:=xW _,tape:=rfl,os:=rfl,output:=rfl,frame:=λ_ _ _=>rfl,
      back:=λi q e hl _=>⟨i,q,e,λhd=>hl (by show bl.get i=_;rw[BT.AEo AFe];split<;>first|rfl|exact hd),rfl,rfl,.inl rfl⟩,
      kept:=λi _ hi=>by
       show bl.get i=_;have hi:i<CD h.low a.block\/C9 h.high a.block<i:=hi;rw[BU,B8]at hi;rw[BT.AEo AFe,No (by omega)],
      low:=by show CD _ _<=_;rw[BU];exact ABU _ _,
      high:=by show _<=C9 _ _;rw[B8];exact Nat.le_max_left _ _,
      shape:=λi _=>by
       show AE2 _ (bl.get i);rw[BT.AEo AFe];split
       ·exact .inl rfl
       ·exact .refl _,
      only:=λi _ h0=>by
       show bl.get i=_;rw[BT.AEo AFe,No (λe=>by rw[e,hp]at h0;cases h0)],
      all:=λ_ h1 h2=>absurd h2 (ABS.2 h1)}
     exact evk.trans ev
    ·cases AJz
     obtain⟨p0,cs,t,fr,hp0,hwc,R⟩:∃p0 cs t fr,φ a.block=BY p0/\w.heap[p0.blk]? =BY (.cells cs t fr)/\AGT ty φ p0 ct s (e0+1) cs fr:=by
      obtain⟨cs,t,fr,q1,q2⟩:=H.rowAt hp (hE _) hrow;exact⟨p,cs,t,fr,hp,q1,q2⟩
     rw[hp]at hp0;cases hp0;obtain⟨ab',ao',AJC⟩:=a';simp only at s2 hbl hor;subst s2;subst hbl;have AIH:p.off<=ao'/\ao'+sc' * ei.size<=p.off+p.room/\(0<sc->ao'=p.off+a.off):=by
      have hz:p.sz<=p.room:=R.room;rw[AJE]at hor;rcases hor with ⟨q3,q4,q5|⟨q5,q6,q7⟩⟩|⟨q3,q4|⟨q4,q5⟩⟩
      ·omega
      ·exact⟨by omega,by omega,λ_=>q4⟩
      ·omega
      ·exact⟨by omega,by omega,λh=>by omega⟩
     have AID:=R.fits;have hmul:need*ei.size<=sc'*ei.size:=AB4 _ hcap;have hlo:=ho.length;have hln:=hn.length;have ALE:olds.length+news.length=need*ei.size:=by rw[<- hnl];simp
     rw[Addr.AFk];have hst:(storeCells ⟨p.blk,ao'+sl*ei.size,By⟩ news').run P w=.ok () (w.setCells p.blk (ao'+sl*ei.size) news'):=by
      refine run_storeCells_cells (P:=P) p.blk (ao'+sl*ei.size) news' 0 w (λj hj=>?_) (λj hj=>?_) hone
      ·rw[Jm hwc];simp;omega
      ·exact Oz hwc R.AJB (by omega)
     obtain⟨cs',e1,e2,e3,e4,e5,e6,e7,e8⟩:=Gg p.blk t fr news' (ao'+sl * ei.size) cs w hwc (by omega);unfold Cb at hr;rw[Ao]at hr;obtain⟨bl2,AGu,hk2⟩:=Ii hr;cases hk2
     let p':Pl:={blk:=p.blk,off:=ao',sz:=need*ei.size,room:=p.off+p.room - ao',es:=ei.size}
     have hB:AFh ty (φ.put h.next p') p' (.cells tr n (e0+1)) ((w.setCells p.blk (ao'+sl*ei.size) news').heap[p'.blk]?):=by
      show AFh ty (φ.put h.next p') p' _ ((w.setCells p.blk (ao'+sl*ei.size) news').heap[p.blk]?);rw[e1,hN,hnl];refine .cells {
       kind:=⟨rfl,.inr ⟨e0,ei,rfl,hty,rfl⟩⟩,room:=(by show need*ei.size<=p.off+p.room - ao';omega),fits:=(by show ao'+(p.off+p.room - ao')<=cs'.size;omega),
       loose:=.inl (by rw[e2];exact R.AJB),cell:=λj hj=>?_}
      have hj2:j<(olds++news).length:=by omega
      rw[hT j hj2];show ∃v,cs'[ao'+j]? =BY v/\_;have hD:(olds++news).getD j undef=(olds++news)[j]:=by
       rw[xe,xc hj2];rfl
      rw[hD];obtain⟨u',hu,hru⟩:=AFM.get j _ (xc hj2);refine⟨u',?_,hru.mono (Phi.AF6 H.AFa)⟩;rw[e3];rcases yM j olds.length with hjo|hjo
      ·rw[No (by omega)]
       rw[yL (by omega)]at hu;have AJF:0<sc:=by
        rcases yl sc with q|q
        ·have:sl=0:=by omega
         rw[this,AAa]at hol;omega
        ·exact q
       obtain⟨p1,cs1,t1,fr1,hp1,hw1,hc1⟩:=hcell a _ rfl rfl AJF;rw[hp]at hp1;cases hp1;rw[hwc]at hw1;cases hw1;rw[AIH.2.2 AJF];exact hc1 j u' hu
      ·rw[If (by omega)]
       rw[yR (by omega)]at hu;rw[<- hu];congr 1;omega
     have AHi:∀j q,φ j=BY q->Live ({next:=h.next,low:=CD h.low a.block,high:=C9 h.high a.block,mark:=h.mark,bl:=bl}:Hp) j->q.blk≠p'.blk:=by
      intro j q hq hl hqb;have hl':bl.get j≠.dead:=hl;rw[BT.AEo AFe]at hl';split at hl'
      ·exact hl' rfl
      ·rename_i hjb
       exact hjb (H.inj j a.block q p hq hp (hE _) (hE _) hl' AFU (.inr (H.AFj hp AEs)) hqb)
     have H2:=Hk.new (lo:=CD h.low a.block) (hi:=C9 h.high a.block) (mk:=h.mark) (w':=w.setCells p.blk (ao'+sl*ei.size) news') (p:=p') AGu (ABe e4.symm) (by rw[e4];exact(H.dom _ _ hp).2) AHi (λk _ hk=>e5 k hk) hB;refine⟨_,_,hst,?_,H2,Evo.grow H (H.AFj hp AEs) rfl hp AFU AFe AGu rfl e4 e5 e6 e7 e8⟩;refine .slice (xW _) ⟨rfl,rfl,p',Phi.AFX _ _ _,rfl,.inl ⟨AGR,rfl,.inr ⟨?_,hcap,?_⟩⟩⟩
     ·show 0+need*ei.size=need*ei.size;omega
     ·show 0+sc'*ei.size<=p.off+p.room - ao';omega
   ·rename_i hend
    refine real ?_ hr;rcases hor with ⟨q3,q4,q5|⟨q5,q6,q7⟩⟩|⟨q3,_⟩
    ·exact q5
    ·exfalso
     unfold Lg at hend;cases sc with
     |zero=>omega
     |succ n=>
      simp only at hend;have:yA (zV a.off (yv (n+1) ei.size)) s=IN:=A0.2 (by rw[<- AHA.1,<- q5,AJE];rfl);rw[this]at hend;cases hend
    ·exfalso
     subst q3;cases hend
end
section
variable {P:yx}{ty:TTy}{φ:Phi}{E:Nat->Prop}{h h':Hp}{w:ya}{F:AEh}{e:Env}{v:xU}
theorem bh{b en:Nat}{base:Option ABD}{sc c:Nat}{cs:List xU}(a:J0 b en base sc c cs h=.ok v h'):
  ∃(t:VT) (m:Nat),(∀j,j<cs.length->t.get j=cs.getD j undef)/\m=cs.length/\Eu b en base sc c t m h=.ok v h':=by
 unfold J0 at a;split at a
 case h_2=>cases a
 rename_i e d;exact⟨e,_,N9 d,Bm _,a⟩
open Classical in
theorem R0{b en:Nat}{base:Option ABD}{sl sc e:Nat}{d:List xU}
  (c:Gs b en base sl sc e d h (BM h b (.slice base sl sc) sl λa=>J0 b en base sc e (a++d) h)=.ok v h'):
  ∃f:List xU->R,BM h b (.slice base sl sc) sl f=.ok v h'/\∀a,f a=.ok v h'->∃(t:VT) (m:Nat),(∀j,j<(a++d).length->t.get j=(a++d).getD j undef)/\
   m=(a++d).length/\Eu b en base sc e t m h=.ok v h':=by
 have i:BM h b (.slice base sl sc) sl (λa=>J0 b en base sc e (a++d) h)=.ok v h'->
   ∃f:List xU->R,BM h b (.slice base sl sc) sl f=.ok v h'/\∀a,f a=.ok v h'->∃(t:VT) (m:Nat),(∀j,j<(a++d).length->t.get j=(a++d).getD j undef)/\
    m=(a++d).length/\Eu b en base sc e t m h=.ok v h':=λc=>⟨_,c,λa h=>bh h⟩
 unfold Gs at c;split at c
 ·exact i c
 ·rename_i _ r
  split at c
  ·rename_i x
   split at c
   ·rename_i g sz A y
    split at c
    ·rename_i s
     have z:sz=sl * b:=A0.1 s;split at c
     case h_2=>cases c
     rename_i t q;refine⟨λa=>if a=AF2 g 0 sz then Eu b en (BY r) sc e t (zV sz (Dw d)) h else .no,?_,λa k=>?_⟩
     ·unfold BM
      simp only[y,x];have w:yI (zV 0 (yv sl b)) sz=IN:=As.2 (by show 0+sl*b<=sz;omega);rw[w,GK,yF];have:yv sl b=sz:=z.symm;rw[this];simp only[cond_true,if_true];exact c
     ·by_cases n:a=AF2 g 0 sz
      ·simp only[n,if_true]at k
       subst n;refine⟨t,_,λj u=>?_,?_,k⟩
       ·have p:(AF2 g 0 sz).length=sz:=GW g 0 sz
        rw[HX _ _ _ _ q j,xe (l:=AF2 g 0 sz++d)];rw[xY,p]at u;rcases yM j sz with o|o
        ·rw[No (by omega),yL (by omega)]
         simp[AF2,o]
        ·rw[If (by omega),yR (by omega),p,<- xe]
       ·rw[xY,GW,Bm];rfl
      ·simp only[n,if_false]at k;cases k
    ·exact i c
   ·exact i c
  ·exact i c
def Ce(elem:yu)(size:Nat)(base:Option ABD)(s:xU)(sLen sCap n:Nat)(AGF:Bool)(x:xU)(AFS:Sem (Array xU)):Sem xU:=do
 let need:=sLen+n
 if need<=sCap then
  let new <- AFS
  if let BY a:=base then storeCells (a.add (sLen*size)) new.toList
  pure (.slice base need sCap)
 else
  if(need:Int) > AAX.max/\(AGF\/(<- typeInfo elem).bytes=0)then runtimePanic (.error "growslice: len out of range")
  if AAK need sCap*(<- typeInfo elem).bytes > 2 ^ 48 then(if AGF then runtimePanic (.error "growslice: len out of range")else do
   if !(<- Builtin.mayShare size sLen n base x)then mark .noRoom
   unsupported (.resourceLimit "append: a slice or a string whose bytes no memory bears"))
  let AGh <- choose (.appendCap need sCap elem)
  askRoom (AGh*(<- typeInfo elem).bytes)
  let old <- zB size sLen s
  let new <- AFS
  let rest:=AA9 (<- zeroValue elem).cells (AGh - need)
  pure (.slice (BY (<- ABP elem (old++new++rest))) need AGh)
theorem Ix(H:AEp ty φ E h w)(hE:∀b,¬E b){en:Nat}{ei:TI}(hty:ty.get en=BY ei)(TE:AFD P en ei)(hes:0<ei.size)(hz:ei.zero.length=ei.size)
  {base base':Option ABD}{sl sc sc' n:Nat}(hs:AEm φ (.slice base sl sc) (.slice base' sl sc')){AGF:Bool}{x':xU}{AFS:Sem (Array xU)}{news news':List xU}
  (hn:AE5 φ news news')(hnl:news.length=n*ei.size)(AHz:∀w':ya,w'.heap=w.heap->AFS.run P w'=.ok ⟨news'⟩ w')
  (hr:(∃k,sl+n<=sc/\k=(match base with
    |none=>(.ok (.slice By (sl+n) sc) h:R)
    |some a=>DA (Ew a (sl*ei.size)) news h λh=>.ok (.slice (BY a) (sl+n) sc) h)/\k=.ok v h')\/
   (sc<sl+n/\yI (yv (xz (sl+n)) (xz ei.bytes)) JP=IN/\Bc news=IN/\
    ∃ALV:List xU->R,BM h ei.size (.slice base sl sc) sl ALV=.ok v h'/\∀olds,ALV olds=.ok v h'->∃(t:VT) (m:Nat),(∀j,j<(olds++news).length->t.get j=(olds++news).getD j undef)/\
     m=(olds++news).length/\Eu ei.size en base sc (sl+n) t m h=.ok v h')):
  Bq ty φ E h w v h' ((Ce en ei.size base' (.slice base' sl sc') sl sc' n AGF x' AFS).run P w):=by
 obtain⟨inf,AGr,hsz,hbt,_⟩:=TE.info;obtain⟨z,_,hzr,hzc,hzp⟩:=TE.AFs hz;have hzs:z.cells.size=ei.size:=by rw[<- hz,<- hzc];simp
 rcases hr with ⟨k,hle,rfl,hr⟩|⟨hlt,AII,hone,ALV,hr,hG⟩
 ·cases hs with
  |AFZ=>
   cases hr;have:n=0:=by omega
   subst this;have key:(Ce en ei.size By (.slice By 0 0) 0 0 0 AGF x' AFS).run P w=.ok (.slice By 0 0) w:=by
    simp only[Ce,xW,if_true,xr,AHz w rfl,xd,xu]
   rw[key];exact .same H .AFZ
  |@slice a a' _ _ _ hlc hs=>
   simp only at hr;have h0:sc=0->news=[]:=λh0=>AAf.1 (by
    have:n=0:=by omega
    rw[hnl,this,AAa])
   obtain⟨h1,w1,hk,hrun,H1,ev⟩:=ZK (P:=P) H hE hs h0 hr hn;cases hk;have hcc:sl+n<=sc':=yS hle hs.le;have key:(Ce en ei.size (BY a') (.slice (BY a') sl sc') sl sc' n AGF x' AFS).run P w=.ok (.slice (BY a') (sl+n) sc') w1:=by
    simp only[Ce,hcc,if_true,xr,AHz w rfl,xd,hrun,xu]
   rw[key];exact⟨_,_,φ,rfl,.slice hle hs,H1,ev⟩
 ·have hs0:=hs
  obtain⟨olds,AGM,hr,ho,hrun,hl1,hl2,hcell⟩:=GX (P:=P) H (λ_ _ _ _=>hE _) hs hr (λm hm=>by cases hm;exact xW _);obtain⟨tr,tn,hT,hN,hr⟩:=hG olds hr;have AIJ:=JB hn hone;obtain⟨hm1,hm2⟩:=XW AII;have hol:olds.length=sl*ei.size:=by
   rw[<- ho.length];cases base' with
   |none=>cases hs;have:=hrun w rfl;simp only[zB,xu]at this;cases this;simp
   |some a'=>exact hl1 a' sl sc' rfl
  have AJ0:(olds++news).length=(sl+n)*ei.size:=by rw[xY,hol,hnl,ABf]
  obtain⟨AJ1,AIK⟩:=bi (P:=P) H hE hty hes hs hlt ho hn hol AJ0 AIJ (λa a' ha ha' hpos=>hcell a sl sc (by rw[ha]) hpos) hT hN hr;rcases yM sc' (sl+n)with hroom|hroom
  ·
   let q:Question:=.appendCap (sl+n) sc' en
   let c:Nat:=q.cut (w.tape w.drawn q)
   let w1:ya:={w with drawn:=w.drawn+1}
   have hc:sl+n<=c:=ADk _ _;have hrl:(BP z.cells.toList (c - (sl+n))).length=(c - (sl+n))*ei.size:=by rw[GV];simp[hzs]
   obtain⟨ψ,hv,H2,ev⟩:=AJ1 c (BP z.cells.toList (c - (sl+n))) hc hrl {w1 with heap:=w.heap.push (.cells ⟨(AGM++news')++BP z.cells.toList (c - (sl+n))⟩ en)} hroom rfl rfl rfl rfl;have AGV:¬((sl+n:Nat):Int) > AAX.max:=by
    have:AAX.max=9223372036854775807:=by decide
    rw[this];omega
   have hnx:¬(AAK (sl+n) sc'*ei.bytes > 2 ^ 48):=by
    have h1:=ja hroom;have h2:AAK (sl+n) sc'*ei.bytes<=(2*(sl+n))*ei.bytes:=AB4 _ h1;have h3:(2*(sl+n))*ei.bytes<=(2*(sl+n+1))*(ei.bytes+1):=ACb (by omega) (by omega);have h4:(2*(sl+n+1))*(ei.bytes+1)=2*((sl+n+1)*(ei.bytes+1)):=by rw[Nat.mul_assoc]
    omega
   have AJ2:¬(sl+n<=sc'):=by omega
   have key:(Ce en ei.size base' (.slice base' sl sc') sl sc' n AGF x' AFS).run P w=.ok (.slice (BY ⟨w.heap.size,0,By⟩) (sl+n) c)
     {w1 with heap:=w.heap.push (.cells ⟨(AGM++news')++BP z.cells.toList (c - (sl+n))⟩ en)}:=by
    have ho1:=hrun w1 rfl;have hn1:=AHz w1 rfl;have AGN:q.forced=IT:=rfl;simp only[Ce,AJ2,if_false,xr,run_typeInfo _ AGr,xd,AGV,false_and,xu,hbt,hnx,ABQ,run_choose,AGN,ye,run_askRoom];show((zB ei.size sl (.slice base' sl sc')).run P w1).andThen _=_;rw[ho1];simp only[xd];show(AFS.run P w1).andThen _=_;rw[hn1];have AIL:∀a b:List xU,(⟨a⟩:Array xU)++(⟨b⟩:Array xU)=⟨a++b⟩:=λa b=>by apply zT;simp
    simp only[xd,hzr,Hc,ABP,xr,run_newObj,xu,AIL];rfl
   rw[key];exact⟨_,_,ψ,rfl,hv,H2,ev⟩
  ·
   cases base' with
   |none=>cases hs;omega
   |some a'=>
    obtain⟨w',ψ,hst,hv,H2,ev⟩:=AIK a' rfl hroom;have key:(Ce en ei.size (BY a') (.slice (BY a') sl sc') sl sc' n AGF x' AFS).run P w=.ok (.slice (BY a') (sl+n) sc') w':=by
     simp only[Ce,hroom,if_true,xr,AHz w rfl,xd,hst,xu]
    rw[key];exact⟨_,_,ψ,rfl,hv,H2,ev⟩
theorem Kl{a:Array yu}{d g t el:yu}(h0:a[0]? =BY d)(k:a[1]? =BY g){h c:TI}(T:AFD P d h)(hk:h.k=.slice el)(j:AFD P g c)(hx:(∃q,c.k=.slice q)\/c.k=.string){b:TI}(i:AFD P el b){base:Option ABD}{sl sc n:Nat}{x:xU}
  (o:(ACR x).run P w=.ok n w):
  (AAY a t #[.slice base sl sc,x]).run P w=(Ce el b.size base (.slice base sl sc) sl sc n IT x (zB b.size n x)).run P w:=by
 obtain⟨p,l,e⟩:=T.desc;rw[hk]at e;cases e;obtain⟨r,m,f⟩:=j.desc;rcases hx with ⟨q,hx⟩|hx<;>rw[hx]at f<;>cases f<;>
 ·unfold AAY Ce
  simp only[xr,l,xd,i.size,xu,h0,k,yV,yf,zD,m,ye,if_false,o,yg,if_true];rfl
theorem Ni(H:AEp ty φ E h w)(z:∀b,¬E b){s x:O}{s' o:xU}{l:Array yu}{y C t el:yu}(h0:l[0]? =BY y)(J:l[1]? =BY C){D p c:TI}(T:AFD P y D)(hk:D.k=.slice el)(G:AFD P C p)(W:(∃q,p.k=.slice q)\/p.k=.string)
  (V:ty.get el=BY c)(r:AFD P el c)(K:0<c.size)(X:c.zero.length=c.size)
  (n:AEm φ (s e) s')(i:AEm φ (x e) o)(a:Bk c.size c.bytes el s x F e h=.ok v h'):Bq ty φ E h w v h' ((AAY l t #[s',o]).run P w):=by
 unfold Bk DL at a;split at a
 case h_2=>cases a
 rename_i a0 sl sc U;rw[U]at n;split at a
 case h_2=>cases a
 rename_i j d;obtain⟨Z,a2,a,A,m,L,M,_⟩:=GX (P:=P) H (λ_ _ _ _=>z _) i a (λa1 g=>by rw[d]at g;cases g;exact xW _);rw[Ao]at a;have N:=SR (P:=P) (w:=w) i d;have f:∃u B,s'=.slice u sl B:=by
  cases n
  ·exact⟨_,_,rfl⟩
  ·exact⟨_,_,rfl⟩
 obtain⟨u,B,rfl⟩:=f;rw[Kl h0 J T hk G W r N];have R:Z.length=j*c.size:=by
  rw[<- A.length];cases o with
  |string s=>obtain⟨q1,q2⟩:=M s rfl;rw[q1,q2,zw]
  |slice k Y I=>
   cases k with
   |some k=>exact L k Y I rfl
   |none=>
    have:=m w rfl;simp only[zB,xu]at this;cases this;have Q:j=0:=by
     generalize x e=xv at i d;cases i
     ·unfold lenV at d;cases d;rfl
     ·unfold lenV at d;cases d
    rw[Q];simp
  |_=>have:=m w rfl;simp only[zB]at this;cases this
 refine Ix (P:=P) H z V r K X n A R m ?_;split at a
 ·rename_i f
  refine .inl ⟨_,As.1 f,rfl,?_⟩;exact a
 ·rename_i f
  obtain⟨g,a⟩:=B1 a;obtain⟨S,a⟩:=B1 a;refine .inr ⟨?_,g,S,R0 a⟩;rcases yM sc (sl+j)with h|h
  ·exact h
  ·exact absurd (As.2 (show zV sl j<=sc from h)) (by rw[f];simp)
theorem L2{ats:Array yu}{dt st t el:yu}(h0:ats[0]? =BY dt)(h1:ats[1]? =BY st){ti xi:TI}(T:AFD P dt ti)(hk:ti.k=.slice el)(TX:AFD P st xi){q:yJ}(hx:xi.k=.int q){ei:TI}(TE:AFD P el ei){base:Option ABD}{sl sc n:Nat}{q':yJ}
  (hn1:n<=70368744177664)(hn2:n*ei.bytes<=70368744177664):
  (AAY ats t #[.slice base sl sc,.int q' (n:Nat)]).run P w=(Ce el ei.size base (.slice base sl sc) sl sc n IN (.int q' (n:Nat))
   (if n*ei.size=0 then pure #[]else do pure (AA9 (<- zeroValue el).cells n))).run P w:=by
 obtain⟨d,hd,hkd⟩:=T.desc;rw[hk]at hkd;cases hkd;obtain⟨dx,hdx,hkx⟩:=TX.desc;rw[hx]at hkx;cases hkx;obtain⟨inf,AGr,hsz,hbt,_⟩:=TE.info;have w1:AAX.wrap (n:Int)=n:=IR (by omega);have q0:¬((n:Int)<0):=by omega
 have q1:¬((n:Int)*(ei.bytes:Int) > 2 ^ 48):=by rw[<- ADx];omega
 unfold AAY Ce;simp only[xr,hd,xd,TE.size,xu,yV,yf,zD,h0,h1,hdx,if_true,asInt,asIntOf,w1,q0,if_false,run_typeInfo _ AGr,hbt,q1,zL,yY,ye];rfl
theorem Sd(H:AEp ty φ E h w)(hE:∀b,¬E b){s x:O}{s' x':xU}{ats:Array yu}{dt st t el:yu}(h0:ats[0]? =BY dt)(h1:ats[1]? =BY st){ti xi ei:TI}(T:AFD P dt ti)(hk:ti.k=.slice el)(TX:AFD P st xi){q:yJ}(hxk:xi.k=.int q)
  (hty:ty.get el=BY ei)(TE:AFD P el ei)(hes:0<ei.size)(hz:ei.zero.length=ei.size)
  (hs:AEm φ (s e) s')(hx:AEm φ (x e) x')(hr:FM ei.size ei.bytes el ei.zero s x F e h=.ok v h'):Bq ty φ E h w v h' ((AAY ats t #[s',x']).run P w):=by
 unfold FM IV at hr;split at hr
 case h_2=>cases hr
 rename_i base sl sc hse;rw[hse]at hs;split at hr
 case h_2=>cases hr
 rename_i n hn;obtain⟨q',rfl⟩:=FL hx hn;rw[Ao]at hr;have hb:∃base' sc',s'=.slice base' sl sc':=by
  cases hs
  ·exact⟨_,_,rfl⟩
  ·exact⟨_,_,rfl⟩
 obtain⟨base',sc',rfl⟩:=hb;obtain⟨hm,hr⟩:=B1 hr;obtain⟨hone,hr⟩:=B1 hr;obtain⟨hm1,hm2⟩:=XW hm;have ALF:sl+n<=70368744177664:=hm1;have ALG:(sl+n+1)*(ei.bytes+1)<=70368744177664:=hm2;have hnb:n*ei.bytes<=(sl+n+1)*(ei.bytes+1):=ACb (by omega) (by omega);rw[L2 h0 h1 T hk TX hxk TE (by omega) (by omega)];obtain⟨z,_,hzr,hzc,hzp⟩:=TE.AFs hz;have hzs:z.cells.size=ei.size:=by rw[<- hz,<- hzc];simp
 have AFM:AE5 φ (BP ei.zero n) (BP ei.zero n):=IG (.plain hzp) n;have hnl:(BP ei.zero n).length=n*ei.size:=by rw[GV,hz]
 have AIM:Bc (BP ei.zero n)=IN:=by
  have app:∀a b:List xU,Bc a=IN->Bc b=IN->Bc (a++b)=IN:=by
   intro a
   induction a with
   |nil=>intro b _ h;exact h
   |cons u a ih=>
    intro b h1 h2;unfold Bc at h1;cases hu:oneCell u with
    |false=>rw[hu]at h1;cases h1
    |true=>
     rw[hu]at h1;show(bif oneCell u then Bc (a++b)else IT)=IN;rw[hu];exact ih b h1 h2
  have:∀n,Bc (BP ei.zero n)=IN:=by
   intro n
   induction n with
   |zero=>rfl
   |succ n ih=>exact app _ _ hone ih
  exact this n
 refine Ix (P:=P) H hE hty TE hes hz hs AFM hnl (λw' _=>?_) ?_
 ·by_cases h0:n*ei.size=0
  ·rw[If h0]
   have:BP ei.zero n=[]:=AAf.1 (by rw[hnl,h0]);rw[this];rfl
  ·rw[No h0]
   simp only[xr,hzr,xd,Hc,hzc,xu]
 ·split at hr
  ·rename_i hb
   exact .inl ⟨_,As.1 hb,rfl,hr⟩
  ·rename_i hb
   refine .inr ⟨?_,hm,AIM,R0 hr⟩;rcases yM sc (sl+n)with h|h
   ·exact h
   ·exact absurd (As.2 (show zV sl n<=sc from h)) (by rw[hb];simp)
end
section
variable {P:yx}{ty:TTy}{φ:Phi}{E:Nat->Prop}{h h':Hp}{w:ya}{F:AEh}{e:Env}{v:xU}
theorem Mq:∀{cs cs':List xU} {bs:List UInt8},AE5 φ cs cs'->FA cs=BY bs->
  ∃ns:List Int,cs'=ns.map (yy .u8)/\∀s:ByteArray,(ns.foldl (λr n=>r.push (AAw n.toNat)) s).data.toList=s.data.toList++bs
 |_,_,bs,.nil,a=>by
  cases a;exact⟨[],rfl,λs=>by simp⟩
 |_,_,bs,.cons (v:=m) (v':=o) (l:=l) (l':=l') h i,a=>by
  unfold FA at a;split at a
  ·cases ‹_::_=[]›
  ·rename_i n k e
   injection e with b c
   subst b;subst c;split at a
   ·rename_i j d
    rw[Ao]at a;cases a;obtain⟨ns,g,f⟩:=Mq i d;have:=h.AFK;subst this;refine⟨(n:Int)::ns,by rw[g];rfl,λs=>?_⟩;rw[ADn,f];simp
   ·cases a
  ·cases a
theorem Y8(H:AEp ty φ E h w){x:O}(hE:∀a l c,x e=.slice (BY a) l c->¬E a.block){x':xU}{src dst el:yu}{si di ei:TI}(TS:AFD P src si)(hs:si.k=.slice el)(TD:AFD P dst di)(hd:di.k=.string)(TE:AFD P el ei)(he:ei.k=.int .u8)
  (hx:AEm φ (x e) x')(hr:Fw x F e h=.ok v h'):Bq ty φ E h w v h' ((convert src dst x').run P w):=by
 obtain⟨d1,h1,k1⟩:=TS.und;obtain⟨d2,h2,k2⟩:=TD.und;obtain⟨d3,h3,k3⟩:=TE.und;rw[hs]at k1;cases k1;rw[hd]at k2;cases k2;rw[he]at k3;cases k3;unfold Fw at hr;split at hr
 case h_3=>cases hr
 case h_2=>
  rename_i r hxe;rw[hxe]at hx;cases r with
  |none=>cases hr
  |some r=>
   cases hr;cases hx;rw[run_convert_bytes_string w src dst el (BY _) 0 0 h1 h3 h2,run_bytesToString w _ 0 0 [] rfl];exact .same H (.string _)
 rename_i a n c hxe;rw[hxe]at hx;have hx0:=hx;obtain⟨cs,cs',hr,hcs,hrun,hl1,hl2,_⟩:=GX (P:=P) H (λa l c heq=>by cases heq;exact hE _ _ _ hxe) hx hr (λm hm=>by cases hm;exact xW _);split at hr
 case h_2=>cases hr
 rename_i bs hbs;cases hr;obtain⟨ns,hns,hf⟩:=Mq hcs hbs;have AHj:=hf AC7;have AJG:=NB (a:=ns.foldl (λr n=>r.push (AAw n.toNat)) AC7) (l:=bs) (by rw[AHj];rfl);cases hx with
 |AFZ=>
  rw[run_convert_bytes_string w src dst el By 0 0 h1 h3 h2];have:=hrun w rfl;simp only[zB,xu]at this;have AHS:cs'=[]:=by cases this;rfl
  have AJ3:ns=[]:=by
   rw[AHS]at hns;cases ns with
   |nil=>rfl
   |cons _ _=>cases hns
  subst AJ3;rw[<- AJG];exact .same H (.string _)
 |@slice _ a' _ _ c' hlc hsl=>
  rw[run_convert_bytes_string w src dst el (BY a') n c' h1 h3 h2];have hld:(loadCells a' n).run P w=.ok (ns.map (yy .u8)).toArray w:=by
   have:=hrun w rfl;rw[hns]at this;simp only[zB,zw]at this;exact this
  rw[run_bytesToString w a' n c' ns hld,AJG];exact .same H (.string _)
theorem SY(A:Array Obj)(x:Obj)(f:Obj->Obj):(A.push x).modify A.size f=A.push (f x):=by
 apply Array.ext_getElem?;intro b;rw[AAv,AC9,AC9];by_cases a:b=A.size
 ·subst a;simp
 ·rw[No (AEW a),No a,No a]
theorem cV(w:ya)(A:Array xU)(el:yu):(markStringish ⟨w.heap.size,0,By⟩).run P {w with heap:=w.heap.push (.cells A el)}=
  .ok () {w with heap:=w.heap.push (.cells A el (A.size,A.size+1))}:=by
 have a:ACn {w with heap:=w.heap.push (.cells A el)} w.heap.size=BY (el,A.size):=by simp[ACn]
 simp only[markStringish,xr,run_shape,xd,a,run_freeze,ACo,ACP,if_false,SY];rfl
theorem Sm(H:AEp ty φ E h w){x:O}{C:xU}{src j el:yu}{B n f:TI}(TS:AFD P src B)(Y:B.k=.string)(J:AFD P j n)(R:n.k=.slice el)(K:AFD P el f)(S:f.k=.int .u8)
  (Z:ty.get el=BY f)(hz:f.size=1)(s:AEm φ (x e) C)(c:KC el x F e h=.ok v h'):Bq ty φ E h w v h' ((convert src j C).run P w):=by
 obtain⟨d1,M,u⟩:=TS.und;obtain⟨d2,N,y⟩:=J.und;obtain⟨d3,Q,z⟩:=K.und;rw[Y]at u;cases u;rw[R]at y;cases y;rw[S]at z;cases z;unfold KC at c;split at c
 case h_2=>cases c
 rename_i a a0;rw[a0]at s;obtain rfl:=s.AFN;rw[Ao,Bm]at c;obtain⟨hb,c⟩:=B1 c
 let A:Question:=.appendCap a.size 0 el
 let b:Nat:=A.cut (w.tape w.drawn A)
 have o:a.size<=b:=ADk _ _
 let cells:List xU:=a.data.toList.map λd=>.int .u8 (d.toNat:Int)
 let rest:List xU:=List.replicate (b - a.size) (.int .u8 0)
 have q:cells.length=a.size:=by simp[cells]
 let w':ya:={w with drawn:=w.drawn+1,heap:=w.heap.push (.cells ⟨cells++rest⟩ el (b,b+1))}
 have g:(⟨cells++rest⟩:Array xU).size=b:=by simp[rest,q];omega
 have m:AE5 φ (C2 a.data.toList) cells:=Lh _;have i:(C2 a.data.toList).length=a.size:=by rw[<- m.length,q]
 obtain⟨a3,V,I,ev⟩:=PO (cs':=⟨cells++rest⟩) (t:=el) (fr:=(b,b+1)) (w':=w')
  (p:={blk:=w.heap.size,off:=0,sz:=(C2 a.data.toList).length,room:=(⟨cells++rest⟩:Array xU).size,es:=1}) H c rfl ⟨rfl,.inr ⟨el,f,rfl,Z,hz.symm⟩⟩ (by rw[i,g];exact o) (.inr (by rw[g];exact xW _))
  (λl a1 T=>by
   obtain⟨u',k,X⟩:=m.get l a1 T;refine⟨u',?_,X⟩;have U:l<cells.length:=by
    rcases yM l cells.length with h|h
    ·exact h
    ·rw[zR h]at k;cases k
   simp only[yV];rw[yL U];exact k) rfl rfl rfl rfl
 cases V;have key:(convert src j (.string a)).run P w=.ok (.slice (BY ⟨w.heap.size,0,By⟩) a.size b) w':=by
  have D:(Question.appendCap a.size 0 el).forced=IT:=rfl;have G:(a.data.map λd=>(yy .u8 (d.toNat:Int)))++ADc (b - a.size) (yy .u8 0)=⟨cells++rest⟩:=by
   apply zT;simp[cells,rest]
  have r:=cV (P:=P) {w with drawn:=w.drawn+1} ⟨cells++rest⟩ el;rw[g]at r;simp only[convert,xr,run_underlying M,run_underlying N,run_underlying Q,xd,Conv.stringToBytes,run_choose,D,ye,if_false,ABP,run_newObj,xu];show(((markStringish ⟨w.heap.size,0,By⟩).run P {w with drawn:=w.drawn+1,heap:=w.heap.push (.cells ((a.data.map λd=>(yy .u8 (d.toNat:Int)))++ADc (b - a.size) (yy .u8 0)) el)}).andThen
   λ_ a2=>ADL (Value.slice (BY ⟨w.heap.size,0,By⟩) a.size b) a2)=_
  rw[G];have W:(markStringish ⟨w.heap.size,0,By⟩).run P {w with drawn:=w.drawn+1,heap:=w.heap.push (.cells ⟨cells++rest⟩ el)}=.ok () w':=r;rw[W];rfl
 rw[key];refine⟨_,_,_,rfl,?_,I,ev⟩;have L:a.data.toList.length=a.size:=rfl;rw[L];refine .slice (xW _) ⟨rfl,rfl,_,Phi.AFX _ _ _,rfl,?_⟩;rcases yl a.size with h0|h0
 ·refine .inr ⟨h0,.inr ⟨?_,?_⟩⟩
  ·simp only[i,h0]
  ·simp only[i,g,h0];omega
 ·refine .inl ⟨h0,rfl,.inr ⟨?_,o,?_⟩⟩
  ·simp only[i];omega
  ·simp only[g];omega
end
section
variable {P:yx}{ty:TTy}{φ:Phi}{h:Hp}{w:ya}{e:Env}{v:xU}{f:Fr}
def F7:xU->Lit
 |.bool a=>.bool a
 |.int c b=>.int c b
 |.string d=>.string d.data.toList
 |_=>.bool IT
theorem sO{k:yJ}{n:Int}(h:inK k n=IN):(Lit.int k n).wf=IN:=by
 unfold Lit.wf;simp only[yE,decide_eq_true_eq];cases n with
 |ofNat a=>
  have h:yI a (BE k)=IN:=h;have:=As.1 h;cases k<;>simp[ADv,ADw,ADQ,ADp,BE]at this ⊢<;>omega
 |negSucc a=>
  cases k<;>simp only[inK]at h<;>first|(cases h;done)|skip
  all_goals
   have:=As.1 h;simp[ADv,ADw,ADQ,ADp,BE]at this ⊢;omega
theorem Hu{k:yJ}{v:xU}(h:L3 (.i k) v=IN):∃n,v=.int k n/\(Lit.int k n).wf=IN:=by
 unfold L3 at h;simp only at h;split at h
 ·split at h
  ·rename_i a
   exact⟨_,by rw[II a],sO h⟩
  ·cases h
 ·cases h
theorem Gq{v:xU}(h:L3 .b v=IN):∃b,v=.bool b:=by
 unfold L3 at h;simp only at h;split at h
 ·exact⟨_,rfl⟩
 ·cases h
theorem Hv{v:xU}(h:L3 .s v=IN):∃s,v=.string s/\s.size<=maxLen:=by
 unfold L3 at h;simp only at h;split at h
 ·rename_i s
  refine⟨s,rfl,?_⟩;have:=As.1 h;rw[Bm]at this;have e:s.data.toList.length=s.size:=by simp
  have a:most<=maxLen:=by unfold most maxLen;omega
  omega
 ·cases h
theorem De{l:List xU}(h:E3 [] l=IN):l=[]:=by
 cases l with
 |nil=>rfl
 |cons=>cases h
theorem C5{c:CK}{ks:List CK}{l:List xU}(h:E3 (c::ks) l=IN):∃v r,l=v::r/\L3 c v=IN/\E3 ks r=IN:=by
 cases l with
 |nil=>cases h
 |cons v r=>
  unfold E3 at h;split at h
  ·rename_i a;exact⟨v,r,rfl,a,h⟩
  ·cases h
theorem Jx:∀{ks:List CK} {l:List xU},E3 ks l=IN->l.length=ks.length
 |[],l,h=>by rw[De h];rfl
 |c::ks,l,h=>by
  obtain⟨v,b,rfl,_,a⟩:=C5 h;simp[Jx a]
theorem Hw:∀{a b:List CK} {l:List xU},E3 (a++b) l=IN->E3 a (l.take a.length)=IN/\E3 b (l.drop a.length)=IN
 |[],b,l,h=>⟨rfl,h⟩
 |c::a,b,l,h=>by
  obtain⟨v,i,rfl,f,g⟩:=C5 h;obtain⟨d,e⟩:=Hw g;refine⟨?_,by simpa using e⟩;show E3 (c::a) (v::i.take a.length)=IN;unfold E3;rw[f];exact d
theorem JL{c:CK}{v:xU}(h:L3 c v=IN):∃l:Lit,F7 v=l/\v=l.toCell/\l.keyWf:=by
 cases c with
 |i e=>obtain⟨f,rfl,d⟩:=Hu h;exact⟨.int e f,rfl,rfl,d⟩
 |b=>obtain⟨b,rfl⟩:=Gq h;exact⟨.bool b,rfl,rfl,OF⟩
 |s=>obtain⟨s,rfl,a⟩:=Hv h;exact⟨.string s.data.toList,rfl,rfl,by show s.data.toList.length<=maxLen;simpa using a⟩
theorem Rh{ks:List CK}:∀{l l':List xU},E3 ks l=IN->AE5 φ l l'->l'=l:=by
 induction ks with
 |nil=>intro l l' h a;rw[De h]at a ⊢;cases a;rfl
 |cons f ks k=>
  intro l l' h a;obtain⟨v,n,rfl,c,g⟩:=C5 h;cases a with
  |cons d j=>
   rw[k g j]
   congr 1
   cases f with
   |i m=>obtain⟨e,rfl,_⟩:=Hu c;exact d.AFK
   |b=>obtain⟨e,rfl⟩:=Gq c;exact d.AFc
   |s=>obtain⟨e,rfl,_⟩:=Hv c;exact d.AFN
theorem GF{x:xU}(a:∀l,x≠.agg l):cellsOf x=[x]:=by
 unfold cellsOf;split
 ·rename_i l;exact absurd rfl (a l)
 ·rfl
theorem DZ{K:KS}{x:xU}(h:Gc K x=IN):E3 K.ks (cellsOf x)=IN/\cellsOf x=x.cells.toList/\((K.agg=IN/\∃l,x=.agg ⟨l⟩)\/(K.agg=IT/\(∀l,x≠.agg l)/\∀l,x≠.tuple l)):=by
 unfold Gc at h;split at h
 ·rename_i i
  split at h
  ·rename_i c
   exact⟨h,rfl,.inl ⟨c,i.toList,rfl⟩⟩
  ·cases h
 ·rename_i j
  split at h
  ·cases h
  ·rename_i c
   have b:∀l,x≠.agg l:=λl e=>j l e
   have a:cellsOf x=[x]:=by
    unfold cellsOf;split
    ·rename_i l;exact absurd rfl (b l)
    ·rfl
   have f:∀l,x≠.tuple l:=by
    intro l e;subst e;cases d:K.ks with
    |nil=>rw[d]at h;cases h
    |cons g ks=>
     rw[d]at h;obtain⟨v,k,e,a,_⟩:=C5 h;cases e;cases g<;>cases a
   refine⟨by rw[a];exact h,?_,.inr ⟨c,b,f⟩⟩;rw[a];cases x<;>first|rfl|exact absurd rfl (b _)|exact absurd rfl (f _)
theorem Jw{K:KS}{x c:xU}(h:Gc K x=IN)(a:AEm φ x c):c=x:=by
 obtain⟨b,g,d⟩:=DZ h;rcases d with ⟨_,j,rfl⟩|⟨_,f,i⟩
 ·cases a with
  |agg a=>rw[Rh b a];rfl
 ·have e:cellsOf x=[x]:=GF f
  rw[e]at b;have:=Rh b (.cons a .nil);exact ADo.inj this |>.1
theorem Nd{b c:Type}{f:b->Option c}{g:b->c}:∀{a:List b},(∀x∈a,f x=BY (g x))->a.mapM f=BY (a.map g)
 |[],_=>rfl
 |x::a,h=>by
  rw[AB2,h x (by simp),Nd λe d=>h e (by simp[d])];rfl
theorem Ri{ks:List CK}:∀{m:Nat} {cs:List xU},E3 (BP ks m) cs=IN->cs.length=m*ks.length/\∀i,i<m->E3 ks ((cs.drop (i*ks.length)).take ks.length)=IN
 |0,cs,h=>by
  refine⟨?_,λi b=>absurd b (AAn _)⟩;rw[De h];simp
 |m+1,cs,h=>by
  have h:E3 (ks++BP ks m) cs=IN:=h;obtain⟨a,c⟩:=Hw h;obtain⟨d,e⟩:=Ri c;have f:=Jx a;refine⟨?_,λi b=>?_⟩
  ·simp only[yP,List.length_drop]at f d
   rw[AAj];omega
  ·cases i with
   |zero=>simpa using a
   |succ i=>
    have:=e i (by omega);rw[ABN]at this;rw[AAj,ADC];exact this
theorem Rp{P:yx}{rec:Nat->Option (List CK)}:∀{d:List Field} {off:Nat} {ks:List CK},flatK.flatF rec off (d.map λf=>(f.offset,P.cellsOf f.type,f.type))=BY ks->
  (∀f∈d,∃c,rec f.type=BY c)/\
  ∀cs:List xU,E3 ks (cs.drop off)=IN->(∀f∈d,∀c,rec f.type=BY c->E3 c ((cs.drop f.offset).take (P.cellsOf f.type))=IN)/\
   ((d.map λf=>(cs.drop f.offset).take (P.cellsOf f.type)).flatten=cs.drop off)
 |[],off,ks,a=>by
  cases a;refine⟨(λf j=>by cases j),λcs h=>⟨(λf j=>by cases j),?_⟩⟩;rw[De h];rfl
 |f::d,off,ks,a=>by
  rw[za]at a;unfold flatK.flatF at a;split at a
  case h_2=>cases a
  rename_i e;split at a
  case h_2=>cases a
  rename_i c n;split at a
  case h_2=>cases a
  rename_i l;split at a
  case h_2=>cases a
  rename_i u o;cases a;have e:f.offset=off:=A0.1 e;have l:c.length=P.cellsOf f.type:=by rw[<- A0.1 l,Bm]
  obtain⟨p,q⟩:=Rp o;refine⟨λg b=>?_,λcs h=>?_⟩
  ·rcases yC.1 b with rfl|b
   ·exact⟨c,n⟩
   ·exact p g b
  ·obtain⟨m,i⟩:=Hw h
   rw[l]at m i;rw[ABN]at i;obtain⟨r,s⟩:=q cs i;refine⟨λg b t k=>?_,?_⟩
   ·rcases yC.1 b with rfl|b
    ·rw[n]at k;cases k
     rw[e];exact m
    ·exact r g b t k
   ·rw[za,List.flatten_cons,s,e]
    have:cs.drop (zV off (P.cellsOf f.type))=(cs.drop off).drop (P.cellsOf f.type):=by rw[ABN];rfl
    rw[this,List.take_append_drop]
theorem QF{t:Nat}{b:Array Field}(h:P.underlying t=BY (.struct b))(a:AGt P t=IN):
  (∀f∈b.toList,(f.name != "_")=IN)/\(!(P.cutTypes.any (·.2 == t)) && !P.stoodInHeld t)=IN:=by
 unfold AGt at a;rw[h]at a;simp only[yE,zr]at a;obtain⟨⟨c,d⟩,e⟩:=a;exact⟨λf g=>c f (zx.1 g),by rw[d,e];rfl⟩
theorem FH(r:DO P ty):∀(n t:Nat) (ks:List CK),flatK ty n t=BY ks->
  P.keyTypeAt n t=IN/\(∀d,n<=d->P.eqGuardType d t=IT)/\(∀p,ty.get t=BY p->p.k.agg=IN->ks.length=p.size)/\
  ∀cs,E3 ks cs=IN->P.keyLits n t cs=BY (cs.map F7)
 |0,t,ks,h=>by cases h
 |n+1,t,ks,h=>by
  unfold flatK at h;cases D:ty.get t with
  |none=>rw[D]at h;cases h
  |some p=>
   simp only[D]at h;have B:=r t p D;obtain⟨d,a,l⟩:=B.und;have L:=B.cells;have plain:∀{d:AB9},(match d with|.interface _=>IN|.struct _=>IN|.array _ _=>IN|_=>IT)=IT->P.underlying t=BY d->∀e,n+1<=e->P.eqGuardType e t=IT:=by
    intro d T a e N;cases e with
    |zero=>omega
    |succ e=>unfold ABZ;rw[a];cases d<;>first|rfl|cases T
   cases b:p.k with
   |int a0=>
    simp only[b]at h;rw[b]at l;cases l;cases h;refine⟨by unfold AAh;rw[a],plain rfl a,(λA m j=>by cases m;rw[b]at j;cases j),λcs k=>?_⟩;obtain⟨v,Q,rfl,w,x⟩:=C5 k;obtain rfl:=De x;obtain⟨c,rfl,H⟩:=Hu w;unfold AAx;rw[a];simp[H,F7]
   |bool=>
    simp only[b]at h;rw[b]at l;cases l;cases h;refine⟨by unfold AAh;rw[a],plain rfl a,(λA m j=>by cases m;rw[b]at j;cases j),λcs k=>?_⟩;obtain⟨v,Q,rfl,w,x⟩:=C5 k;obtain rfl:=De x;obtain⟨c,rfl⟩:=Gq w;unfold AAx;rw[a];simp[F7]
   |string=>
    simp only[b]at h;rw[b]at l;cases l;cases h;refine⟨by unfold AAh;rw[a],plain rfl a,(λA m j=>by cases m;rw[b]at j;cases j),λcs k=>?_⟩;obtain⟨v,Q,rfl,w,x⟩:=C5 k;obtain rfl:=De x;obtain⟨c,rfl,H⟩:=Hv w;unfold AAx;rw[a];simp[H,F7]
   |arr c o=>
    simp only[b]at h;rw[b]at l;cases l;split at h
    case h_2=>cases h
    rename_i C V;split at h
    case h_2=>cases h
    rename_i z Y;split at h
    case h_2=>cases h
    rename_i i;split at h
    case h_2=>cases h
    rename_i g;cases h;obtain⟨Z,i2,_,i3⟩:=FH r n o z Y;have K:=(r o C V).cells;have i:z.length=C.size:=by rw[<- A0.1 i,Bm]
    have g:c*C.size=p.size:=A0.1 g;have R:∀c,(BP z c).length=c*z.length:=by
     intro c
     induction c with
     |zero=>simp[BP]
     |succ c ih=>rw[BP,xY,ih,AAj];omega
    refine⟨by unfold AAh;rw[a];exact Z,λe N=>?_,(λA m j=>by cases m;rw[R,i,g]),λcs k=>?_⟩
    ·cases e with
     |zero=>omega
     |succ e=>unfold ABZ;rw[a];exact i2 e (by omega)
    ·obtain⟨J,S⟩:=Ri k
     have F:cs.length=P.cellsOf t:=by rw[L,<- g,J,i]
     have G:(zP c).mapM (λq=>P.keyLits n o ((cs.drop (q*P.cellsOf o)).take (P.cellsOf o)))=BY ((zP c).map λq=>((cs.drop (q*P.cellsOf o)).take (P.cellsOf o)).map F7):=
      Nd λq E=>by
       rw[K,<- i];exact i3 _ (S q (List.mem_range.1 E))
     unfold AAx;rw[a];simp only[F,if_true,G,zX]
     congr 1
     have:=chunks_flatten (P.cellsOf o) c cs (by rw[K,<- i];exact J)
     conv=>rhs;rw[<- this]
     rw[ADX,ACs];rfl
   |struct fs=>
    simp only[b]at h;rw[b]at l;cases l with
    |@struct _ y X _=>
     split at h
     case h_2=>cases h
     rename_i a1 M;split at h
     case h_2=>cases h
     rename_i i;cases h;have i:ks.length=p.size:=by rw[<- A0.1 i,Bm]
     rw[<- X]at M;obtain⟨I,j2⟩:=Rp M;obtain⟨O,n2⟩:=QF a B.AJv;refine⟨?_,λe N=>?_,(λA m j=>by cases m;exact i),λcs k=>?_⟩
     ·unfold AAh
      rw[a];simp only[Bool.and_assoc,n2,AD9];rw[zr];intro f g;obtain⟨u,s⟩:=I f (zx.2 g);rw[O f (zx.2 g),(FH r n f.type u s).1];rfl
     ·cases e with
      |zero=>omega
      |succ e=>
       unfold ABZ;rw[a];simp only;rw[Array.any_eq_false];intro q E;obtain⟨u,s⟩:=I y[q] (zx.2 (Array.getElem_mem E));rw[(FH r n _ u s).2.1 e (by omega)];simp
     ·have W:E3 ks (cs.drop 0)=IN:=k
      obtain⟨k1,k2⟩:=j2 cs W;have F:cs.length=P.cellsOf t:=by rw[L,<- i,Jx k]
      have G:y.toList.mapM (λf=>P.keyLits n f.type ((cs.drop f.offset).take (P.cellsOf f.type)))=BY (y.toList.map λf=>((cs.drop f.offset).take (P.cellsOf f.type)).map F7):=
       Nd λf g=>by
        obtain⟨u,s⟩:=I f g;exact(FH r n f.type u s).2.2.2 _ (k1 f g u s)
      have U:y.all (·.name != "_")=IN:=by
       rw[zr];intro f g;exact O f (zx.2 g)
      unfold AAx;rw[a];simp only[F,U,and_self,if_true,G,zX]
      congr 1
      have:cs=cs.drop 0:=rfl
      conv=>rhs;rw[this,<- k2]
      rw[ADX,ACs];rfl
   |_=>simp only[b]at h;cases h
theorem Ky{c:CK}{a b:xU}(e:L3 c a=IN)(f:L3 c b=IN){r:Bool}(d:Mt a b=BY r):r=IN↔F7 a=F7 b:=by
 cases c with
 |i j=>
  obtain⟨g,rfl,_⟩:=Hu e;obtain⟨h,rfl,_⟩:=Hu f;unfold Mt at d;simp only at d;split at d
  ·cases d;rw[Dv];simp[F7]
  ·cases d
 |b=>
  obtain⟨g,rfl⟩:=Gq e;obtain⟨h,rfl⟩:=Gq f;unfold Mt at d;cases d;simp[F7]
 |s=>
  obtain⟨g,rfl,_⟩:=Hv e;obtain⟨h,rfl,_⟩:=Hv f;unfold Mt at d;cases d;rw[Mi];simp[F7]
theorem Mw:∀{ks:List CK} {a b:List xU},E3 ks a=IN->E3 ks b=IN->∀{r:Bool},HF a b=BY r->(r=IN↔a.map F7=b.map F7)
 |[],a,b,e,f,r,d=>by
  rw[De e,De f]at *;cases d;simp
 |c::ks,a,b,e,f,r,d=>by
  obtain⟨l,a,rfl,j,e⟩:=C5 e;obtain⟨m,b,rfl,k,f⟩:=C5 f;unfold HF at d;split at d
  ·rename_i g
   have i:=(Ky j k g).1 rfl;rw[Mw e f d];simp[i]
  ·rename_i g
   cases d;have i:=Ky j k g;simp only[za,ADo.injEq];constructor
   ·intro h;cases h
   ·intro h;exact i.2 h.1
  ·cases d
structure AFn (P:yx)(ty:TTy)(t:Nat)(K:KS):Prop where
 ti:∃ti,ty.get t=BY ti/\K.agg=ti.k.agg
 flat:flatK ty 8 t=BY K.ks
theorem AFn.formed(g:DO P ty){t:Nat}{K:KS}(f:AFn P ty t K){x:xU}(y:Gc K x=IN):x.formed P t=IN/\P.keyLits 8 t x.cells.toList=BY ((cellsOf x).map F7):=by
 obtain⟨c,j,h⟩:=f.ti;obtain⟨_,_,m,f4⟩:=FH g 8 t K.ks f.flat;obtain⟨e,n,o⟩:=DZ y;have d:=g t c j;obtain⟨l,i,b⟩:=d.und;refine⟨?_,by rw[<- n];exact f4 _ e⟩;rcases o with ⟨a,k,rfl⟩|⟨a,q,r⟩
 ·rw[h]at a
  have u:=m c j a;have p:=Jx e;unfold AD0;rw[i];have w:(Array.mk k).size=P.cellsOf t:=by
   have:k.length=K.ks.length:=p;rw[d.cells,<- u,<- this];rfl
  generalize c.k=z at b a;cases b<;>first|(cases a;done)|(simp only[w];exact beq_self_eq_true _)
 ·rw[h]at a
  have:(match P.underlying t with|some (.struct _)=>IT|some (.array _ _)=>IT|_=>IN)=IN:=by
   rw[i];generalize c.k=z at b a;cases b<;>first|rfl|(cases a;done)|skip
   rename_i s;cases l<;>first|rfl|cases s
  unfold AD0;cases x<;>first|exact absurd rfl (q _)|exact absurd rfl (r _)|exact this
theorem AFn.equal(b:DO P ty){t:Nat}{K:KS}(a:AFn P ty t K){x y:xU}(c:Gc K x=IN)(d:Gc K y=IN){r:Bool}(i:HF (cellsOf x) (cellsOf y)=BY r)(w:ya):
  (ACO t x y).run P w=.ok r w:=by
 obtain⟨f,g⟩:=a.formed b c;obtain⟨g1,g2⟩:=a.formed b d;obtain⟨k,_⟩:=FH b 8 t K.ks a.flat;obtain⟨l,j,h⟩:=run_equalIn_deep (P:=P) 9992 8 t k w _ _ x y _ _ f g1 g g2;have:=Mw (DZ c).1 (DZ d).1 i;have e:l=r:=by
  rw[zk,h,this]
 rw[<- e];exact j
theorem AFn.check(c:DO P ty){t:Nat}{K:KS}(b:AFn P ty t K){x:xU}(f:Gc K x=IN)(a:Bool)(w:ya):(Instr.checkKey a 10000 t x).run P w=.ok () w:=by
 obtain⟨d,e⟩:=b.formed c f;obtain⟨g,_⟩:=FH c 8 t K.ks b.flat;exact run_checkKey_deep (P:=P) a 9992 8 t g w _ x _ d e
theorem QE{t:Nat}{d:AB9}(f:P.underlying t=BY d)(n:Nat){a b:xU}{c:Bool}(e:ACc d a b=BY c)(w:ya):(ABk (n+1) t a b).run P w=.ok c w:=by
 unfold ACc at e;split at e
 ·split at e
  ·rename_i g
   cases e;simp[ABk,run_underlying f,g]
  ·cases e
 ·cases e;simp[ABk,run_underlying f]
 ·cases e;simp[ABk,run_underlying f]
 ·cases e
theorem Js{t:Nat}{d:AB9}(g:P.underlying t=BY d){k:xU}:∀{es:List zH} {i:Nat} {r:Option (Nat×xU)},ACd d k es i=BY r->∀w:ya,(yr t k es i).run P w=.ok r w
 |[],i,r,h,w=>by cases h;simp[yr]
 |e::es,i,r,h,w=>by
  have same:∀{b c:xU} {f:Bool},ACc d b c=BY f->(ACO t b c).run P w=.ok f w:=λa=>QE g 9999 a w
  unfold ACd at h;split at h
  ·rename_i a
   cases h;simp[yr,same a]
  ·rename_i a
   have:=Js g h w;simp[yr,same a,this]
  ·cases h
theorem Fs{t:Nat}{d:AB9}(a:P.underlying t=BY d){k:xU}{es:List zH}{r:Option (Nat×xU)}(b:(yr t k es 0).run P w=.ok r w):(ACe t k es).run P w=.ok r w:=by
 unfold ACe;simp only[xr,run_underlying a,xd];cases c:ACd d k es 0 with
 |none=>exact b
 |some e=>
  have:=Js a c w;rw[b]at this;cases this;simp
theorem H6(e:DO P ty){t:Nat}{K:KS}(d:AFn P ty t K){x y c:xU}(f:Gc K x=IN)(g:AEm φ y c){r:Bool}(a:Gw K x y=BY r)(w:ya):(ACO t x c).run P w=.ok r w/\Gc K y=IN/\c=y:=by
 unfold Gw at a;split at a
 ·rename_i b
  have:=Jw b g;subst this;exact⟨d.equal e f b a w,b,rfl⟩
 ·cases a
theorem NJ(f:DO P ty){t:Nat}{K:KS}(d:AFn P ty t K){x:xU}(j:Gc K x=IN)(w:ya):∀{es:List Ent} {c:List zH} (i:Nat),AFg φ es c->∀{r:Option Ent},NH K x es=BY r->
  match r with
  |none=>(yr t x c i).run P w=.ok By w
  |some e=>∃m v',(yr t x c i).run P w=.ok (BY (m,v')) w/\AEm φ e.val v'
 |_,_,i,.nil,r,h=>by cases h;simp[yr]
 |_,_,i,.cons (k:=k) (k':=k') (v:=v) (v':=v') (b:=b) (l:=l) (l':=l') n u q,r,h=>by
  unfold NH at h;split at h
  ·rename_i g
   cases h;obtain⟨a,_⟩:=H6 f d j n g w;exact⟨i,v',by simp[yr,a],u⟩
  ·rename_i g
   obtain⟨a,_⟩:=H6 f d j n g w;have o:=NJ f d j w (i+1) q h;cases r with
   |none=>simpa [yr,a] using o
   |some e=>
    obtain⟨m,y,p,s⟩:=o;exact⟨m,y,by simp[yr,a,p],s⟩
  ·cases h
theorem Rj{c:CK}{x:xU}(h:L3 c x=IN)(n:Nat):ABj n x x=IN:=by
 obtain⟨b,_,rfl,a⟩:=JL h;exact sameBits_toCell a n
theorem Ye{ks:List CK}(n:Nat):∀{l:List xU},E3 ks l=IN->(l.zip l).all (λ(x,y)=>ABj n x y)=IN:=by
 induction ks with
 |nil=>intro l h;rw[De h];rfl
 |cons d ks c=>
  intro l h;obtain⟨v,e,rfl,a,b⟩:=C5 h;simp only[List.zip_cons_cons,ABY,Rj a,c b,Bool.and_self]
theorem Yd{K:KS}{x:xU}(h:Gc K x=IN)(n:Nat):ABj (n+1) x x=IN:=by
 obtain⟨a,_,c⟩:=DZ h;rcases c with ⟨_,k,rfl⟩|⟨_,g,j⟩
 ·unfold ABj
  simp only[beq_self_eq_true,Bool.true_and];exact Ye n a
 ·have d:cellsOf x=[x]:=GF g
  rw[d]at a;cases b:K.ks with
  |nil=>rw[b]at a;cases a
  |cons i ks=>
   rw[b]at a;obtain⟨v,l,e,f,_⟩:=C5 a;cases e;exact Rj f _
theorem Mv:∀{ks:List CK} {a b:List xU},E3 ks a=IN->E3 ks b=IN->HF a b=BY IN->a=b
 |[],a,b,d,e,_=>by rw[De d,De e]
 |c::ks,a,b,d,e,f=>by
  obtain⟨q,a,rfl,g,d⟩:=C5 d;obtain⟨r,b,rfl,h,e⟩:=C5 e;unfold HF at f;split at f
  ·rename_i m
   have n:=(Ky g h m).1 rfl;rw[Mv d e f];obtain⟨o,i,j,_⟩:=JL g;obtain⟨p,k,l,_⟩:=JL h;rw[j,l,<- i,<- k,n]
  ·cases f
  ·cases f
theorem Uq{K:KS}{x y:xU}(k:Gc K x=IN)(b:Gw K x y=BY IN):x=y:=by
 unfold Gw at b;split at b
 ·rename_i i
  obtain⟨g,o,h⟩:=DZ k;obtain⟨g1,g2,g3⟩:=DZ i;have:=Mv g g1 b;rcases h with ⟨c,l,rfl⟩|⟨c,j,p⟩
  ·rcases g3 with ⟨_,m,rfl⟩|⟨a,_⟩
   ·have:l=m:=this
    rw[this]
   ·rw[c]at a;cases a
  ·rcases g3 with ⟨a,_⟩|⟨_,f,n⟩
   ·rw[c]at a;cases a
   ·have d:cellsOf x=[x]:=GF j
    have e:cellsOf y=[y]:=GF f;rw[d,e]at this;exact ADo.inj this |>.1
 ·cases b
theorem MY(m:DO P ty){t:Nat}{K:KS}(j:AFn P ty t K){x:xU}(c:Gc K x=IN){u A:xU}(s:AEm φ u A)(y:AEm φ x x)(w:ya):∀{es:List Ent} {a:List zH} (i:Nat),AFg φ es a->∀{r:Option (List Ent)},Od K x u es=BY r->
  match r with
  |none=>(yr t x a i).run P w=.ok By w
  |some z=>∃d v' f,(yr t x a i).run P w=.ok (BY (i+d,v')) w/\a[d]? =BY f/\f.key=x/\AFg φ z (a.modify d λe=>{e with key:=x,val:=A})
 |_,_,i,.nil,r,h=>by cases h;simp[yr]
 |_,_,i,.cons (k:=k) (k':=k') (v:=v) (v':=v') (b:=b) (l:=l) (l':=l') o H q,r,h=>by
  unfold Od at h;split at h
  ·rename_i n
   cases h;obtain⟨g,_,F⟩:=H6 m j c o n w;have G:=Uq c n;exact⟨0,v',⟨k',v',b⟩,by simp[yr,g],rfl,by simp only;rw[F];exact G.symm,by simpa using AFg.cons y s q⟩
  ·rename_i n
   obtain⟨g,_⟩:=H6 m j c o n w;split at h
   ·rename_i z p
    cases h;obtain⟨d,I,f,B,C,D,E⟩:=MY m j c s y w (i+1) q p;refine⟨d+1,I,f,?_,by simpa using C,D,by simpa using AFg.cons o H E⟩;simp only[yr,xr,g,xd,ye,if_false];rw[B];congr 3;omega
   ·rename_i p
    cases h;have:=MY m j c s y w (i+1) q p
    simpa [yr,g] using this
   ·cases h
  ·cases h
theorem Vr{x:Ent}:∀{es:List Ent},YL x es=es++[x]
 |[]=>rfl
 |e::es=>by unfold YL;rw[Vr];rfl
theorem AFg.append{x:Ent}{c:zH}(b:AFg φ [x] [c]):∀{es:List Ent} {a:List zH},AFg φ es a->AFg φ (es++[x]) (a++[c])
 |_,_,.nil=>b
 |_,_,.cons d e f=>.cons d e (AFg.append b f)
theorem UY{K:KS}{x b:xU}(h:Gc K x=IN)(a:AEm φ x b):b=x/\AEm φ x x:=by
 have:=Jw h a;subst this;exact⟨rfl,a⟩
end
section
variable {P:yx}{ty:TTy}{φ:Phi}{E:Nat->Prop}{h h':Hp}{w:ya}{F:AEh}{e:Env}{v:xU}
def XB:xU->Bool
 |.bool _|.pointer _|.slice _ _ _|.map _|.func _ _ _|.nilFunc=>IN
 |_=>IT
theorem Zr{op:ACS}{neg:Bool}(hop:(op=.eql/\neg=IT)\/(op=.neq/\neg=IN)){t:yu}{X Y:yW}{a b:xU}(ha:XB a=IN\/∃l,a=.agg l)(hg:(eqGuard op t X Y a b).run P w=.ok () w)
  {r:Bool}(hr:(ACO t a b).run P w=.ok r w):(CN op t X Y a b).run P w=.ok (.bool (neg != r)) w:=by
 unfold CN;rw[xr,hg,xd];have:binOp op t a b=(do pure (.bool (neg != (<- ACO t a b)))):=by
  rcases hop with ⟨rfl,rfl⟩|⟨rfl,rfl⟩
  ·rcases ha with ha|⟨l,rfl⟩
   ·cases a<;>first|(cases ha;done)|skip
    all_goals (simp[binOp];try rfl)
   ·simp[binOp]
  ·rcases ha with ha|⟨l,rfl⟩
   ·cases a<;>first|(cases ha;done)|skip
    all_goals (simp[binOp];try rfl)
   ·simp[binOp]
 rw[this,xr,hr,xd,xu]
theorem Ud{op:ACS}{t:yu}{X Y:yW}{a b:xU}(c:XB a=IN):(eqGuard op t X Y a b).run P w=.ok () w:=by
 cases op<;>first|rfl|skip
 all_goals (cases a<;>first|(cases c;done)|rfl)
theorem Yg{op:ACS}{t:yu}{X Y:yW}{a b:Array xU}(c:P.eqGuardType P.depth t=IT):(eqGuard op t X Y (.agg a) (.agg b)).run P w=.ok () w:=by
 cases op<;>first|rfl|skip
 all_goals (simp[eqGuard,c])
theorem rV(n:Nat){k:TK}{x y b c:xU}{r:Bool}(a:eqV k x y=BY r)(g:AEm φ x b)(h:AEm φ y c){t:Nat}{d:AB9}(e:P.underlying t=BY d)(hk:KOk P k d)(w:ya):
  XB b=IN/\(ABk (n+1) t b c).run P w=.ok r w:=by
 unfold eqV at a;split at a
 case h_12=>cases a
 all_goals (cases a;cases hk;first|skip|(rename_i f;cases f))
 all_goals (cases g;cases h)
 all_goals (refine⟨rfl,?_⟩;simp[ABk,run_underlying e])
theorem rW{k:TK}{x y a b:xU}{r:Bool}(e:eqV k x y=BY r)(f:AEm φ x a)(g:AEm φ y b){t:Nat}{d:AB9}(c:P.underlying t=BY d)(hk:KOk P k d)(w:ya):
 XB a=IN/\(ACO t a b).run P w=.ok r w:=rV 9999 e f g c hk w
theorem cz(H:AEp ty φ E h w){k:TK}{op:ACS}{b:Bool}(m:(op=.eql/\b=IT)\/(op=.neq/\b=IN)){t:Nat}{f:TI}(T:AFD P t f)(hk:f.k=k){X Y:yW}{x y:O}{g i:xU}
  (o:AEm φ (x e) g)(p:AEm φ (y e) i)(a:oEq k b x y F e h=.ok v h'):Bq ty φ E h w v h' ((CN op t X Y g i).run P w):=by
 obtain⟨q,l,d⟩:=T.und;rw[hk]at d;unfold oEq at a;split at a
 case h_2=>cases a
 rename_i r n;obtain⟨rfl,rfl⟩:=Np a;obtain⟨c,j⟩:=rW n o p l d w;rw[Zr m (.inl c) (Ud c) j];exact .same H (.bool _)
theorem MR(f:DO P ty)(H:AEp ty φ E h w){K:KS}{op:ACS}{j:Bool}(D:(op=.eql/\j=IT)\/(op=.neq/\j=IN)){t:Nat}{d:TI}(q:ty.get t=BY d)(hk:d.k.agg=IN)(o:flatK ty 8 t=BY K.ks)(g:K.agg=IN)
  {X Y:yW}{x y:O}{k l:xU}(G:AEm φ (x e) k)(I:AEm φ (y e) l)(c:OX K j x y F e h=.ok v h'):Bq ty φ E h w v h' ((CN op t X Y k l).run P w):=by
 have r:=f t d q;have u:AFn P ty t K:=⟨⟨d,q,by rw[g,hk]⟩,o⟩;unfold OX eqC at c;split at c
 case h_2=>cases c
 rename_i M i;split at i
 case h_2=>cases i
 rename_i b;obtain⟨rfl,rfl⟩:=Np c;have m:=Jw b G;obtain⟨n,z,s⟩:=H6 f u b I i w;rw[<- m]at b;have B:=(FH f 8 t K.ks o).2.1 P.depth r.deep;obtain⟨_,_,g1⟩:=DZ b;obtain⟨_,_,g2⟩:=DZ z;rw[<- s]at g2;rcases g1 with ⟨_,J,p⟩|⟨a,_⟩
 ·rcases g2 with ⟨_,L,C⟩|⟨a,_⟩
  ·rw[<- m]at n
   have A:(eqGuard op t X Y k l).run P w=.ok () w:=by rw[p,C];exact Yg B
   rw[Zr D (.inr ⟨_,p⟩) A n];exact .same H (.bool _)
  ·rw[g]at a;cases a
 ·rw[g]at a;cases a
end
section
variable {P:yx}{ty:TTy}{φ:Phi}{E:Nat->Prop}{h h':Hp}{w:ya}{F:AEh}{e:Env}{v:xU}{f:Fr}
theorem Bl{t:Nat}{k:TI->OpF}(a:wTy ty t k F e h=.ok v h'):∃b,ty.get t=BY b/\k b F e h=.ok v h':=by
 unfold wTy at a;cases c:ty.get t with
 |none=>rw[c]at a;cases a
 |some b=>rw[c]at a;exact⟨b,rfl,a⟩
theorem DX{x:yW}{k:O->OpF}(a:w1 f x k F e h=.ok v h'):∃y,cO f x=BY y/\k y F e h=.ok v h':=by
 unfold w1 at a;cases b:cO f x with
 |none=>rw[b]at a;cases a
 |some y=>rw[b]at a;exact⟨y,rfl,a⟩
theorem Ke{x y:yW}{k:O->O->OpF}(a:w2 f x y k F e h=.ok v h'):∃b c,cO f x=BY b/\cO f y=BY c/\k b c F e h=.ok v h':=by
 unfold w2 at a;obtain⟨b,d,a⟩:=DX a;obtain⟨c,g,a⟩:=DX a;exact⟨b,c,d,g,a⟩
theorem JA{b:TI}{k:OpF}(a:wZ b k F e h=.ok v h'):b.zero.length=b.size/\k F e h=.ok v h':=by
 unfold wZ at a;cases c:yA (Dw b.zero) b.size with
 |false=>rw[c]at a;cases a
 |true=>rw[c]at a;exact⟨by rw[<- A0.1 c,Bm],a⟩
theorem E5(a:oNo F e h=.ok v h'):False:=by cases a
def Dn(P:yx)(ty:TTy)(F:AEh):Prop:=∀b d h v h',F b d h=.ok v h'->
 (∃a,P.funcs[b]? =BY a/\a.name≠"runtime.NumGoroutine" /\a.body.isNone=IT)/\
 ∀φ w e,AE5 φ d e->AEp ty φ (λ_=>False) h w->
  Calls P b ⟨e⟩ w λi g=>∃f c,i=.returned f/\AEm c v f/\AEp ty c (λ_=>False) h' g/\Evo φ h w c h' g
def FR(P:yx)(ty:TTy)(φ:Phi)(E:Nat->Prop)(h:Hp)(v:xU)(h':Hp)(o:AAD)(a:Act)(w:ya):Prop:=
 ∀(next:Act->ya->Prop) (e:Exit->Act->ya->Prop),
  (∀c d b,AEm c v d->AEp ty c E h' b->Evo φ h w c h' b->next (a.put o.dst d) b)->o.wp P a w next e
theorem FR.AEj{o:AAD}{a:Act}{s:Sem xU}(hx:execOp a.eval o=(do pure (.value (<- s))))(hg:Bq ty φ E h w v h' (s.run P w)):FR P ty φ E h v h' o a w:=by
 intro next Q hn
 obtain⟨v',w',ψ,hs,hv,H,ev⟩:=hg;unfold ADf;rw[hx,xr,hs,xd,xu,ABp];exact hn ψ v' w' hv H ev
theorem FR.AF9{o:AAD}{a:Act}{s:Sem Unit}(hx:execOp a.eval o=(do s;pure .skip))(hg:Zc ty φ E h w v h' (s.run P w)):FR P ty φ E h v h' o a w:=by
 intro next Q hn
 obtain⟨rfl,w',hs,H,ev⟩:=hg;unfold ADf;rw[hx,xr,hs,xd,xu,Oper.upon_skip];exact hn φ undef w' (.tuple .nil) H ev
theorem KD{c:Nat->Option (Nat×Nat)}{ρ:yW->xU}:∀{l:List (Nat×yW)} {ps:List (Nat×Nat×O)},HT f c l=BY ps->
  (∀p∈l,∀y,cO f p.2=BY y->AEm φ (y e) (ρ p.2))->AGy φ e c ps (l.map λ(i,x)=>(i,ρ x))
 |[],ps,a,_=>by cases a;exact .nil
 |(i,x)::l,ps,a,b=>by
  unfold HT at a;split at a
  ·rename_i j size d
   split at a
   ·rename_i y h
    split at a
    ·rename_i k g
     cases a;exact .cons d (b (i,x) (by simp) y h) (KD g λp a=>b p (by simp[a]))
    ·cases a
   ·cases a
  ·cases a
theorem Py{ρ:yW->xU}:∀{l:List yW} {ys:List O},cOs f l=BY ys->(∀x∈l,∀y,cO f x=BY y->AEm φ (y e) (ρ x))->AE5 φ (vals e ys) (l.map ρ)
 |[],ys,h,_=>by cases h;exact .nil
 |x::l,ys,h,a=>by
  unfold cOs at h;split at h
  ·rename_i y d
   split at h
   ·rename_i g b
    cases h;exact .cons (a x (by simp) y d) (Py b λx c=>a x (by simp[c]))
   ·cases h
  ·cases h
theorem Tx{ρ:yW->xU}{x:Option yW}{y:Option O}(h:cOo f x=BY y)(a:∀z,x=BY z->∀y,cO f z=BY y->AEm φ (y e) (ρ z)):AGL φ e y (x.map ρ):=by
 unfold cOo at h;split at h
 ·cases h;exact .none
 ·rename_i x
  split at h
  ·rename_i y b;cases h;exact .some (a x rfl y b)
  ·cases h
def mH(φ:Phi)(f:Fr)(e:Env)(ρ:yW->xU)(op:Op):Prop:=∀a∈op.operands.toList,∀b,cO f a=BY b->AEm φ (b e) (ρ a)
def Hm(ty:TTy)(f:Fr)(e:Env)(E:Nat->Prop)(op:Op):Prop:=match kd ty op with
 |.p=>True
 |.a=>True
 |.r c=>∀b,cO f c=BY b->∀a,AE9 (b e)=.ok a->¬E a
 |.w _=>∀a,¬E a
 |.q=>∀a,¬E a
theorem nt(hT:DO P ty)(H:AEp ty φ E h w){op:ACS}{t yt:yu}{x y:yW}{o:AAD}{a:Act}(ho:o.op=.binOp op t x y yt)(hst:mH φ f e a.eval o.op)(hr:Zq ty f op t x y F e h=.ok v h'):FR P ty φ E h v h' o a w:=by
 have hx:execOp a.eval o=(do pure (.value (<- CN op t x y (a.eval x) (a.eval y)))):=by unfold execOp;rw[ho];rfl
 unfold Zq at hr;obtain⟨ti,hti,hr⟩:=Bl hr;obtain⟨x',y',hx',hy',hr⟩:=Ke hr;have r1:=hst x (by rw[ho];simp[yQ]) x' hx';have r2:=hst y (by rw[ho];simp[yQ]) y' hy';cases hk:ti.k with
 |int k=>
  rw[hk]at hr;cases op with
  |add=>exact .AEj hx (jd H r1 r2 hr)
  |sub=>exact .AEj hx (XY H (.inl ⟨rfl,rfl⟩) r1 r2 hr)
  |mul=>exact .AEj hx (XY H (.inr ⟨rfl,rfl⟩) r1 r2 hr)
  |quo=>exact .AEj hx (jp H r1 r2 hr)
  |rem=>exact .AEj hx (j7 H r1 r2 hr)
  |and=>exact .AEj hx (Qd H (.inl ⟨rfl,rfl⟩) r1 r2 hr)
  |or=>exact .AEj hx (Qd H (.inr (.inl ⟨rfl,rfl⟩)) r1 r2 hr)
  |xor=>exact .AEj hx (Qd H (.inr (.inr ⟨rfl,rfl⟩)) r1 r2 hr)
  |shl=>exact .AEj hx (j9 H r1 r2 hr)
  |shr=>exact .AEj hx (kB H r1 r2 hr)
  |andNot=>cases hr
  |eql=>exact .AEj hx (Ik H (.inl ⟨rfl,rfl⟩) r1 r2 hr)
  |neq=>exact .AEj hx (Ik H (.inr (.inl ⟨rfl,rfl⟩)) r1 r2 hr)
  |lss=>exact .AEj hx (Ik H (.inr (.inr (.inl ⟨rfl,rfl⟩))) r1 r2 hr)
  |leq=>exact .AEj hx (Ik H (.inr (.inr (.inr (.inl ⟨rfl,rfl⟩)))) r1 r2 hr)
  |gtr=>exact .AEj hx (Ik H (.inr (.inr (.inr (.inr (.inl ⟨rfl,rfl⟩))))) r1 r2 hr)
  |geq=>exact .AEj hx (Ik H (.inr (.inr (.inr (.inr (.inr ⟨rfl,rfl⟩))))) r1 r2 hr)
 |string=>
  rw[hk]at hr;cases op with
  |add=>exact(E5 hr).elim
  |eql=>exact .AEj hx (Il H (.inl ⟨rfl,rfl⟩) r1 r2 hr)
  |neq=>exact .AEj hx (Il H (.inr (.inl ⟨rfl,rfl⟩)) r1 r2 hr)
  |lss=>exact .AEj hx (Il H (.inr (.inr (.inl ⟨rfl,rfl⟩))) r1 r2 hr)
  |gtr=>exact .AEj hx (Il H (.inr (.inr (.inr (.inl ⟨rfl,rfl⟩)))) r1 r2 hr)
  |leq=>exact .AEj hx (Il H (.inr (.inr (.inr (.inr (.inl ⟨rfl,rfl⟩))))) r1 r2 hr)
  |geq=>exact .AEj hx (Il H (.inr (.inr (.inr (.inr (.inr ⟨rfl,rfl⟩))))) r1 r2 hr)
  |_=>cases hr
 |struct fs=>
  rw[hk]at hr;simp only at hr;cases hf:flatK ty 8 t with
  |none=>rw[hf]at hr;cases hr
  |some ks=>
   rw[hf]at hr;have hag:ti.k.agg=IN:=by rw[hk];rfl
   cases op with
   |eql=>exact .AEj hx (MR hT H (K:=⟨IN,ks⟩) (.inl ⟨rfl,rfl⟩) hti hag hf rfl r1 r2 hr)
   |neq=>exact .AEj hx (MR hT H (K:=⟨IN,ks⟩) (.inr ⟨rfl,rfl⟩) hti hag hf rfl r1 r2 hr)
   |_=>cases hr
 |arr n el=>
  rw[hk]at hr;simp only at hr;cases hf:flatK ty 8 t with
  |none=>rw[hf]at hr;cases hr
  |some ks=>
   rw[hf]at hr;have hag:ti.k.agg=IN:=by rw[hk];rfl
   cases op with
   |eql=>exact .AEj hx (MR hT H (K:=⟨IN,ks⟩) (.inl ⟨rfl,rfl⟩) hti hag hf rfl r1 r2 hr)
   |neq=>exact .AEj hx (MR hT H (K:=⟨IN,ks⟩) (.inr ⟨rfl,rfl⟩) hti hag hf rfl r1 r2 hr)
   |_=>cases hr
 |iface=>
  rw[hk]at hr;have hr:(match QT y with|true=>(match op with|.eql=>oNo|.neq=>oNo|_=>oNo)|false=>oNo) F e h=.ok v h':=hr;cases hn:QT y with
  |false=>rw[hn]at hr;cases hr
  |true=>
   rw[hn]at hr;have hy:y=.const .nilIface:=by
    unfold QT at hn;split at hn
    ·split at hn
     ·rfl
     ·cases hn
    ·cases hn
   subst hy;cases op with
   |eql=>exact(E5 hr).elim
   |neq=>exact(E5 hr).elim
   |_=>cases hr
 |_=>
  rw[hk]at hr;cases op with
  |eql=>exact .AEj hx (cz H (.inl ⟨rfl,rfl⟩) (hT t ti hti) hk r1 r2 hr)
  |neq=>exact .AEj hx (cz H (.inr ⟨rfl,rfl⟩) (hT t ti hti) hk r1 r2 hr)
  |_=>cases hr
end
section
variable {P:yx}{ty:TTy}{φ:Phi}{E:Nat->Prop}{h h':Hp}{w:ya}{F:AEh}{e:Env}{v:xU}
theorem AEp.less(H:AEp ty φ E h w)(c:∀b,¬E b){f:Nat->Prop}:AEp ty φ f h w where
 dom:=H.dom
 inj:=λa e d k g i _ _=>H.inj a e d k g i (c a) (c e)
 row:=λa d j _=>H.row a d j (c a)
 fresh:=H.fresh
 kind:=H.kind
 inp:=H.inp
theorem WM(l:Dn P ty F)(H:AEp ty φ E h w)(k:∀b,¬E b){g:Nat}{d c:List xU}(m:AE5 φ d c)(u:F g d h=.ok v h'){o:AAD}{a:Act}
  (y:(execOp a.eval o).run P w=(callFunc g ⟨c⟩).run P w):FR P ty φ E h v h' o a w:=by
 intro next C s
 obtain⟨⟨j,r,t,n⟩,p⟩:=l g d h v h' u;have e:(callFunc g ⟨c⟩).run P w=.ok (.enter g ⟨c⟩) w:=by
  have f:(j.name == "runtime.NumGoroutine")=IT:=by simpa using t
  simp only[callFunc,xr,run_program,xd,r,f,ye,if_false,n,xu,ABQ]
 unfold ADf;rw[y,e,Oper.upon_enter];refine(p φ w c m (H.less k)).mono λD A ⟨z,B,q,x,i,ev⟩=>?_
 subst q;exact s B z A x (i.less (λ_ h=>h)) ev
theorem co(k:Dn P ty F)(H:AEp ty φ E h w)(j:∀b,¬E b){g:Nat}{c:Call}(m:c.callee=.value (.func g)){o:AAD}{a:Act}(n:o.op=.call c){f:List O}
  (l:AE5 φ (vals e f) (c.args.toList.map a.eval))(d:AS g f F e h=.ok v h'):FR P ty φ E h v h' o a w:=by
 unfold AS at d;rw[DE]at d;refine WM k H j l d ?_;have i:c.args.map a.eval=⟨c.args.toList.map a.eval⟩:=by apply zT;simp
 unfold execOp;rw[n];simp only[resolve,m,i,Act.eval,AC6,xr,xu,xd,invoke]
 congr 2
 apply zT;simp
theorem LT(n:Dn P ty F)(H:AEp ty φ E h w)(m:∀b,¬E b){x:yW}{g:O}{c:Call}(q:c.callee=.value x){o:AAD}{a:Act}(s:o.op=.call c){i:List O}
  (f:AEm φ (g e) (a.eval x))(p:AE5 φ (vals e i) (c.args.toList.map a.eval))(d:B4 g i F e h=.ok v h'):FR P ty φ E h v h' o a w:=by
 unfold B4 at d;split at d
 case h_2=>cases d
 rename_i u first cap r
 rw[r]at f;rw[DE]at d;generalize t:a.eval x=y at f;cases f with
 |func _ k l=>
  refine WM n H m (k.append (p.append l)) d ?_;have j:c.args.map a.eval=⟨c.args.toList.map a.eval⟩:=by apply zT;simp
  unfold execOp;rw[s];simp only[resolve,q,j,t,AC6,xr,xu,xd,invoke]
  congr 2
  apply zT;simp
theorem CR{b:Nat}{ob:Obj}(a:w.heap[b]? =BY ob)(h2:(match ob with|.cells .. =>IN|_=>IT)=IT):(getObj b).run P w=.ok ob w:=by
 unfold getObj;simp only[Sem.run,a];cases ob<;>first|rfl|cases h2
theorem AFg.length:∀{l:List Ent} {l':List zH},AFg φ l l'->l'.length=l.length
 |_,_,.nil=>rfl
 |_,_,.cons _ _ a=>congrArg (· +1) a.length
theorem Ib{r:Nat}{es:List Ent}{c:Nat}(hr:Bp h r=.ok es c):h.bl.get r=.map es c:=by
 unfold Bp rT at hr;split at hr
 ·cases hr;assumption
 ·cases hr
theorem AEp.AFx(H:AEp ty φ E h w){r:Nat}{p:Pl}(d:φ r=BY p)(b:¬E r){es:List Ent}{c:Nat}(e:Bp h r=.ok es c):
  ∃a,w.heap[p.blk]? =BY (.map ⟨a⟩ c)/\AFg φ es a:=by
 have:=H.row r p d b;rw[Ib e]at this;generalize w.heap[p.blk]? =f at this;cases this with
 |map h=>exact⟨_,rfl,h⟩
theorem dF(H:AEp ty φ E h w){x:O}{f:xU}{c:Array yu}{t j el:yu}(h0:c[0]? =BY t){k:TI}(T:AFD P t k)(hk:k.k=.slice el)(d:AEm φ (x e) f)(b:BZ x F e h=.ok v h'):
  Bq ty φ E h w v h' ((zo c j #[f]).run P w):=by
 unfold BZ at b;split at b
 case h_3=>cases b
 case h_2=>
  rename_i p i;rw[i]at d;cases b;obtain⟨l,g,a⟩:=T.desc;rw[hk]at a;cases a;have key:(zo c j #[f]).run P w=.ok (goInt ((0:Nat):Int)) w:=by
   cases d<;>simp only[zo,h0,xr,g,xd,xu,yV,yf]
  rw[key];exact .same H (.int _ _)
 rename_i n m o i;rw[i]at d;cases b;obtain⟨l,g,a⟩:=T.desc;rw[hk]at a;cases a;have key:(zo c j #[f]).run P w=.ok (goInt m) w:=by
  cases d<;>simp only[zo,h0,xr,g,xd,xu,yV,yf]
 rw[key];exact .same H (.int _ _)
theorem cr(H:AEp ty φ E h w){x:O}{c:xU}{b:Array yu}{t g el:yu}(h0:b[0]? =BY t){i:TI}(T:AFD P t i)(hk:i.k=.slice el)(f:AEm φ (x e) c)(a:Nk x F e h=.ok v h'):
  Bq ty φ E h w v h' ((ABx b g #[c]).run P w):=by
 unfold Nk at a;split at a
 case h_2=>cases a
 rename_i k;rw[k]at f;cases a;obtain⟨l,j,d⟩:=T.desc;rw[hk]at d;cases d;have key:(ABx b g #[c]).run P w=.ok (goInt 0) w:=by
  cases f<;>simp only[ABx,h0,xr,j,xd,xu,yV,yf]<;>rfl
 rw[key];exact .same H (.int _ _)
theorem dH(H:AEp ty φ E h w){x:O}{j:xU}{b:Array yu}{t g:yu}(h0:b[0]? =BY t){i:TI}(T:AFD P t i)(hk:i.k=.string)(d:AEm φ (x e) j)(a:PR x F e h=.ok v h'):
  Bq ty φ E h w v h' ((zo b g #[j]).run P w):=by
 unfold PR at a;split at a
 case h_2=>cases a
 rename_i f l;rw[l]at d;rw[Ao,Bm]at a;cases a;obtain⟨m,k,c⟩:=T.desc;rw[hk]at c;cases c;obtain rfl:=d.AFN;have key:(zo b g #[.string f]).run P w=.ok (goInt f.size) w:=by
  simp only[zo,h0,xr,k,xd,xu,yV,yf]
 rw[key];exact .same H (.int _ _)
theorem jN{f:xU}{a:Array yu}{t e el:yu}{n:Nat}(h0:a[0]? =BY t){c:TI}(T:AFD P t c)(hk:c.k=.arr n el):(zo a e #[f]).run P w=.ok (goInt n) w:=by
 obtain⟨g,d,b⟩:=T.desc;rw[hk]at b;cases b;simp only[zo,h0,xr,d,xd,xu,yV,yf]
theorem F1{b:Nat}{ob ob':Obj}(a:w.heap[b]? =BY ob)(h2:(match ob with|.cells .. =>IN|_=>IT)=IT):
  (setObj b ob').run P w=.ok () {w with heap:=w.heap.setIfInBounds b ob'}:=by
 unfold setObj;simp only[Sem.run,a];cases ob<;>first|rfl|cases h2
theorem In(H:AEp ty φ E h w){r:Nat}{p:Pl}(m:¬E r)(a:φ r=BY p)(i:Live h r){o:Blk}{ob:Obj}{k:Hp->R}(q:E8 h r o k=.ok v h')(s:AE2 (h.bl.get r) o)(l:AFh ty φ p o (BY ob)):
  ∃b,k b=.ok v h'/\AEp ty φ E b {w with heap:=w.heap.setIfInBounds p.blk ob}/\Evo φ h w φ b {w with heap:=w.heap.setIfInBounds p.blk ob}:=by
 obtain⟨bl,d,g,c⟩:=Fl q;have n:=(H.dom r p a).2;have e:(w.heap.setIfInBounds p.blk ob).size=w.heap.size:=by simp
 have f:∀k,k≠p.blk->(w.heap.setIfInBounds p.blk ob)[k]? =w.heap[k]?:=λk c=>by
  rw[zY,No (AEW c)]
 have j:(w.heap.setIfInBounds p.blk ob)[p.blk]? =BY ob:=by rw[zY,If rfl,If n]
 exact⟨_,c,H.put m d a i g e f (by show AFh ty φ p o ((w.heap.setIfInBounds p.blk ob)[p.blk]?);rw[j];exact l),.put (H.AFj a d) a i g s e f rfl rfl rfl⟩
theorem LN{r:Nat}{es:List Ent}{c:Nat}(b:Bp h r=.ok es c):Live h r:=by
 unfold Live;rw[Ib b];intro a;cases a
theorem Qe(H:AEp ty φ E h w)(k:∀b,¬E b){x:O}{p:xU}{c:Array yu}{t i:yu}{u:TI}(h0:c[0]? =BY t)(T:AFD P t u)(d:AEm φ (x e) p)(a:Fj x F e h=.ok v h'):
  Bq ty φ E h w v h' ((zW c i #[p]).run P w):=by
 obtain⟨z,l,_⟩:=T.desc;unfold Fj at a;split at a
 ·rename_i g
  rw[g]at d;cases a;cases d;have key:(zW c i #[.map By]).run P w=.ok AEl w:=by
   simp only[zW,h0,xr,l,xd,xu,yV,yf];rfl
  rw[key];exact .same H (.tuple .nil)
 ·rename_i s g
  rw[g]at d;cases d with
  |@map _ o m=>
   split at a
   case h_2=>cases a
   rename_i A j f;obtain⟨B,n,y⟩:=H.AFx m (k s) f;obtain⟨C,r,q,ev⟩:=In (ob:=.map #[] j) H (k _) m (LN f) a (by rw[Ib f];exact .inr trivial) (.map .nil);cases r;have key:(zW c i #[.map (BY o.blk)]).run P w=.ok AEl {w with heap:=w.heap.setIfInBounds o.blk (.map #[] j)}:=by
    simp only[zW,h0,xr,l,xd,xu,yV,yf,CR n rfl,F1 n rfl];rfl
   rw[key];exact⟨_,_,φ,rfl,.tuple .nil,q,ev⟩
 ·cases a
theorem Yu(H:AEp ty φ E h w)(u:∀b,¬E b){x:O}{p:xU}{f:Array yu}{t i el:yu}{o c:TI}(h0:f[0]? =BY t)(T:AFD P t o)(hk:o.k=.slice el)(s:AFD P el c)(D:c.zero.length=c.size)
  (g:AEm φ (x e) p)(d:Nl c.zero x F e h=.ok v h'):Bq ty φ E h w v h' ((zW f i #[p]).run P w):=by
 obtain⟨N,j,n⟩:=T.desc;rw[hk]at n;cases n;obtain⟨K,_,J,G,I⟩:=s.AFs D;unfold Nl at d;split at d
 ·rename_i k
  rw[k]at g;cases d;cases g;have key:(zW f i #[.slice By 0 0]).run P w=.ok AEl w:=by
   simp only[zW,h0,xr,j,xd,xu,yV,yf];rfl
  rw[key];exact .same H (.tuple .nil)
 ·rename_i L a M k
  rw[k]at g;cases g with
  |@slice _ l _ _ m A C=>
   cases a with
   |zero=>
    cases d;have key:(zW f i #[.slice (BY l) 0 m]).run P w=.ok AEl w:=by
     simp only[zW,h0,xr,j,xd,xu,yV,yf];rfl
    rw[key];exact .same H (.tuple .nil)
   |succ a=>
    have q:AE5 φ (BP c.zero (a+1)) (BP c.zero (a+1)):=IG (.plain I) (a+1);obtain⟨Q,w1,z,B,r,ev⟩:=Io (P:=P) H d (LZ A C (ABE a)) q (u _);cases z;have y:(AA9 K.cells (a+1)).toList=BP c.zero (a+1):=by rw[Hc,G]
    have key:(zW f i #[.slice (BY l) (a+1) m]).run P w=.ok AEl w1:=by
     simp only[zW,h0,xr,j,xd,xu,yV,yf,J,y,B];rfl
    rw[key];exact⟨_,_,φ,rfl,.tuple .nil,r,ev⟩
 ·cases d
theorem Yt(H:AEp ty φ E h w)(D:∀b,¬E b){x:O}{N:xU}{t el:yu}{M C:TI}(T:AFD P t M)(hk:M.k=.slice el)(S:AFD P el C)(he:C.k=.int .u8)(s:AEm φ (x e) N)(g:Uy x F e h=.ok v h'):
  Bq ty φ E h w v h' ((convert t t N).run P w):=by
 obtain⟨a7,p,I⟩:=T.und;rw[hk]at I;cases I;obtain⟨d3,Y,K⟩:=S.und;rw[he]at K;cases K;unfold Uy at g;split at g
 case h_2=>cases g
 rename_i U L a6 a4;rw[a4]at s;have a3:=s;cases s with
 |@slice _ d _ _ z a8 hs=>
  split at g
  case h_2=>cases g
  rename_i V a5 X r;obtain⟨s1,s2,j,i,G,a9⟩:=hs;obtain⟨a,l,fr,J,R⟩:=H.rowAt i (D _) r;have u:Live h U.block:=by unfold Live;rw[Dh r];intro p;cases p
  obtain⟨bl,m,y,a0⟩:=Fl g;cases a0
  let f:Nat×Nat:=if fr.1 == fr.2 then(a.size,a.size+1)else(min fr.1 a.size,max fr.2 (a.size+1))
  let c:ya:=w.freeze ⟨d.block,a.size,By⟩ 1
  have hf:∃o:Obj->Obj,c.heap=w.heap.modify j.blk o/\o (.cells a l fr)=.cells a l f:=by
   obtain⟨lo,hi⟩:=fr;refine⟨_,by show(w.freeze ⟨d.block,a.size,By⟩ 1).heap=_;unfold ACo;rw[No ACP,G],rfl⟩
  obtain⟨o,q,hg⟩:=hf;have A:c.heap.size=w.heap.size:=by rw[q];simp
  have B:∀k,k≠j.blk->c.heap[k]? =w.heap[k]?:=λk hk=>by
   rw[q,AAv,No (AEW hk)]
  have W:c.heap[j.blk]? =BY (.cells a l f):=by
   rw[q,AAv,If rfl,J,zX,hg]
  have n:c.tape=w.tape/\c.os=w.os/\c.output=w.output:=by
   show(w.freeze ⟨d.block,a.size,By⟩ 1).tape=_/\(w.freeze ⟨d.block,a.size,By⟩ 1).os=_/\(w.freeze ⟨d.block,a.size,By⟩ 1).output=_;unfold ACo;rw[No ACP];exact⟨rfl,rfl,rfl⟩
  have Z:AFh ty φ j (.cells V a5 X) c.heap[j.blk]?:=by
   rw[W];refine .cells {R with loose:=.inl ?_};have:=R.AJw (H.AFj i m);show f.1=f.2\/a.size<=f.1;refine .inr ?_;simp only[f];split
   ·exact xW _
   ·rename_i a1
    have Q:fr.1≠fr.2:=by simpa using a1
    rcases this with h|h
    ·exact absurd h Q
    ·show a.size<=min fr.1 a.size
     omega
  have key:(convert t t (.slice (BY d) L z)).run P w=.ok (.slice (BY d) L z) c:=by
   have a2:w.shape? d.block=BY (l,a.size):=by rw[G];simp[ACn,J]
   simp only[convert,xr,run_underlying p,run_underlying Y,xd,beq_self_eq_true,markStringish,run_shape,a2,run_freeze,xu];rfl
  rw[key];exact⟨_,c,φ,rfl,a3,H.put (D _) m i u y A B Z,.put (H.AFj i m) i u y (by rw[Dh r];exact .inr ⟨rfl,rfl⟩) A B n.1 n.2.1 n.2.2⟩
end
section
variable {P:yx}{ty:TTy}{φ:Phi}{E:Nat->Prop}{h h':Hp}{w:ya}{F:AEh}{e:Env}{v:xU}
theorem PN(H:AEp ty φ E h w){o:Blk}{ob:Obj}(i:Gd h o JW=.ok v h')
  (g:AFh ty (φ.put h.next {blk:=w.heap.size,off:=0,sz:=0,room:=0,es:=1}) {blk:=w.heap.size,off:=0,sz:=0,room:=0,es:=1} o (BY ob)):
  Bq ty φ E h w v h' (.ok (.pointer (BY ⟨w.heap.size,0,By⟩)) {w with heap:=w.heap.push ob}):=by
 obtain⟨bl,d,b⟩:=Ii i;cases b
 let c:ya:={w with heap:=w.heap.push ob}
 have l:c.heap.size=w.heap.size+1:=by simp[c]
 have f:∀a,a<w.heap.size->c.heap[a]? =w.heap[a]?:=λa b=>by
  show(w.heap.push _)[a]? =_;rw[ACm b,ACT b]
 refine⟨_,c,φ.put h.next {blk:=w.heap.size,off:=0,sz:=0,room:=0,es:=1},rfl,Qp (Phi.AFX _ _ _) rfl,
  H.new d (by omega) (by show w.heap.size<_;omega) (λj k e _=>by have:=(H.dom j k e).2;show _≠w.heap.size;omega) (λa b _=>f a b) ?_,
  .made H d (xW _) (by omega) f rfl rfl rfl⟩
 have:c.heap[w.heap.size]? =BY ob:=by show(w.heap.push _)[w.heap.size]? =_;simp
 rw[this];exact g
theorem Y5(H:AEp ty φ E h w)(n:∀b,¬E b){x:O}{m:xU}{t q el:yu}{l:TI}(T:AFD P t l)(hk:l.k=.map q el)(c:AEm φ (x e) m)(a:LV x F e h=.ok v h'):
  Bq ty φ E h w v h' ((ABm t m).run P w):=by
 obtain⟨u,g,i⟩:=T.desc;rw[hk]at i;cases i;unfold LV at a;split at a
 ·rename_i d
  rw[d]at c;cases c;have key:(ABm t (.map By)).run P w=.ok (.pointer (BY ⟨w.heap.size,0,By⟩)) {w with heap:=w.heap.push (.mapIter By 0 #[] 0)}:=by
   simp only[ABm,xr,g,xd,xu,run_newObj]
  rw[key];exact PN H a (.AGU rfl)
 ·rename_i r d
  rw[d]at c;cases c with
  |@map _ k j=>
   split at a
   case h_2=>cases a
   rename_i y f o;obtain⟨z,p,s⟩:=H.AFx j (n r) o;have key:(ABm t (.map (BY k.blk))).run P w=.ok (.pointer (BY ⟨w.heap.size,0,By⟩)) {w with heap:=w.heap.push (.mapIter (BY k.blk) f #[] f)}:=by
    simp only[ABm,xr,g,xd,CR p rfl,xu,run_newObj]
   rw[key];exact PN H a (.iter rfl (Phi.AF6 H.AFa _ _ j))
 ·cases a
theorem MO(n:Nat):∀l:List Nat,GD n l=l.contains n
 |[]=>rfl
 |x::l=>by
  unfold GD;rw[MO n l,List.contains_cons];cases a:yA x n with
  |true=>
   have:x=n:=A0.1 a;subst this;simp
  |false=>
   have:¬n=x:=λh=>by rw[h,zU]at a;cases a
   simp[this]
theorem Nz(n:Nat):∀l:List Nat,KE n l=l++[n]
 |[]=>rfl
 |x::l=>congrArg (x:: ·) (Nz n l)
theorem SQ{a:Nat}{seen:List Nat}:∀{es:List Ent} {f:List zH} {l:List Ent},AFg φ es f->Lp a seen es=BY l->
  ∃l',AFg φ l l'/\f.filter (λe=> !seen.contains e.born)=l'/\l'.filter (λe=>decide (e.born<a))=l'/\l'.filter (λe=>decide (e.born>=a))=[]
 |_,_,l,.nil,h=>by cases h;exact⟨[],.nil,rfl,rfl,rfl⟩
 |_,_,l,.cons (b:=b) n p q,h=>by
  unfold Lp at h;split at h
  ·rename_i r o
   obtain⟨l',g,i,j,k⟩:=SQ q o;rw[MO]at h;cases d:seen.contains b with
   |true=>
    simp only[d,cond_true]at h;cases h;exact⟨l',g,by rw[ABR];simp only[d,yY,ye,if_false];exact i,j,k⟩
   |false=>
    simp only[d,cond_false]at h;obtain⟨c,h⟩:yp b a=IN/\_=BY l:=by
     cases c:yp b a with
     |true=>rw[c]at h;exact⟨rfl,h⟩
     |false=>rw[c]at h;cases h
    cases h;have m:=BV.1 c;refine⟨_,.cons n p g,by rw[ABR];simp only[d,yg,if_true];rw[i],?_,?_⟩
    ·rw[ABR];simp[m,j]
    ·rw[ABR];simp[Nat.not_le.2 m,k]
  ·cases h
theorem Lf{a:Nat}:∀{es:List Ent} {d:List zH},AFg φ es d->d.all (λe=>decide (e.born>=a))=Fo a es
 |_,_,.nil=>rfl
 |_,_,.cons (b:=b) g i f=>by
  unfold Fo;rw[ABY,Lf f];cases c:yI a b with
  |true=>simp[As.1 c]
  |false=>
   have:¬a<=b:=λh=>by rw[As.2 h]at c;cases c
   simp[this]
theorem Ie{b:Nat}{m:Option Nat}{s:Nat}{l:List Nat}{t:Nat}(hr:Ej (h.bl.get b)=.ok m s l t):h.bl.get b=.iter m s l t:=by
 unfold Ej at hr;split at hr<;>first|(cases hr;assumption)|cases hr
theorem qF{b m s t:Nat}(hr:Ej (h.bl.get b)=.cur m s t):h.bl.get b=.cur m s t:=by
 unfold Ej at hr;split at hr<;>first|(cases hr;assumption)|cases hr
theorem kW{b m s t:Nat}{sn:Option (List Nat)}(hr:Ej (h.bl.get b)=.pick m s t sn):h.bl.get b=.pick m s t sn:=by
 unfold Ej at hr;split at hr<;>first|(cases hr;assumption)|cases hr
theorem Su:AEm φ (.tuple ⟨[.bool IT]⟩) (.tuple #[.bool IT]):=.tuple (.cons (.bool _) .nil)
theorem dK(H:AEp ty φ E h w)(k:∀b,¬E b){x:O}{Q:xU}{t:yu}(hx:AEm φ (x e) Q)(a:Hj x F e h=.ok v h'):Bq ty φ E h w v h' ((zz Q IT t).run P w):=by
 unfold Hj at a;split at a
 case h_2=>cases a
 rename_i f W;obtain⟨Y,a⟩:=B1 a;obtain⟨a',rfl,a3⟩:=GE hx W;obtain⟨c,p,rfl⟩:=a3.eq;have K:f.off=0:=A0.1 Y;unfold Gz at a;split at a
 ·rename_i a6 a5 D j
  cases a;have d:=H.row f.block c p (k _);rw[Ie j]at d;generalize l:w.heap[c.blk]? =ob at d;cases d with
  |AGU q=>
   have key:(zz (.pointer (BY ⟨c.blk,c.off+f.off,By⟩)) IT t).run P w=.ok (.tuple #[.bool IT]) w:=by
    rw[q,K];simp only[zz,xr,CR l rfl,xd,xu]
   rw[key];exact .same H Su
 ·rename_i B i seen m j
  have d:=H.row f.block c p (k _);rw[Ie j]at d;generalize l:w.heap[c.blk]? =ob at d;cases d with
  |@iter _ C _ _ _ q L=>
   split at a
   case h_2=>cases a
   rename_i y n a0;obtain⟨o,N,s⟩:=H.AFx L (k B) a0;rw[q,K];have U:∃A:R,A=.ok v h'/\(!(⟨seen⟩:Array Nat).isEmpty && !(⟨o⟩:Array zH).isEmpty && (⟨o⟩:Array zH).all (λe=>decide (e.born>=m)))=IT/\
     A=(match Lp i seen y with
      |some []=>dX h
      |some [x]=>E8 h f.block (.iter (BY B) i (KE x.born seen) n) λh=>.ok (.tuple ⟨[.bool IN,x.key,x.val]⟩) h
      |_=>.no):=by
    have X:(⟨o⟩:Array zH).all (λe=>decide (e.born>=m))=Fo m y:=by
     rw[<- Lf s];simp
    cases seen with
    |nil=>exact⟨_,a,by simp,rfl⟩
    |cons s0 sl=>
     cases s with
     |nil=>exact⟨_,a,by simp,rfl⟩
     |cons g hv D=>
      simp only at a;rw[X];generalize hy:Fo m _=a7 at a ⊢;cases a7 with
      |true=>cases a
      |false=>exact⟨_,a,by simp,rfl⟩
   obtain⟨A,g,M,rfl⟩:=U;cases z:Lp i seen y with
   |none=>rw[z]at g;cases g
   |some a5=>
    rw[z]at g;obtain⟨r,q1,q2,q3,q4⟩:=SQ s z;have G:(⟨o⟩:Array zH).filter (λe=> !(⟨seen⟩:Array Nat).contains e.born)=⟨r⟩:=by
     rw[<- q2];apply zT;simp
    have I:(⟨r⟩:Array zH).filter (λe=>decide (e.born<i))=⟨r⟩:=by
     apply zT;rw[ABy];exact q3
    have J:(⟨r⟩:Array zH).filter (λe=>decide (e.born>=i))= #[]:=by
     apply zT;rw[ABy];exact q4
    cases q1 with
    |nil=>
     cases g;have key:(zz (.pointer (BY ⟨c.blk,0,By⟩)) IT t).run P w=.ok (.tuple #[.bool IT]) w:=by
      simp only[zz,xr,CR l rfl,xd,CR N rfl,M,ye,if_false,G,I,J];simp[run_choose,ABL]
     have:c.off+f.off=0:=by omega
     rw[show(0:Nat)+0=0 from rfl,key];exact .same H Su
    |cons a2 a4 D=>
     cases D with
     |cons _ _ _=>cases g
     |nil=>
      rename_i k0 k1 v0 v1 u;have T:Live h f.block:=by unfold Live;rw[Ie j];intro Z;cases Z
      simp only at g;obtain⟨h1,a1,V,ev⟩:=In (ob:=.mapIter (BY C.blk) i ⟨seen++[u]⟩ n) H (k _) p T g (by rw[Ie j];exact .inr trivial) (by rw[Nz];exact .iter q L);cases a1;have key:(zz (.pointer (BY ⟨c.blk,0,By⟩)) IT t).run P w=.ok (.tuple #[.bool IN,k1,v1]) {w with heap:=w.heap.setIfInBounds c.blk (.mapIter (BY C.blk) i ⟨seen++[u]⟩ n)}:=by
       have S:=F1 (P:=P) (ob':=.mapIter (BY C.blk) i ⟨seen++[u]⟩ n) l rfl;simp only[zz,xr,CR l rfl,xd,CR N rfl,M,ye,if_false,G,I,J];simp[run_choose,ABL,S]
      rw[key];exact⟨_,_,φ,rfl,.tuple (.cons (.bool _) (.cons a2 (.cons a4 .nil))),V,ev⟩
 ·cases a
 ·cases a
 ·rename_i B a6 m j
  have d:=H.row f.block c p (k _);rw[kW j]at d;cases d
theorem SP:∀l:List Nat,SO l=l.getLast?
 |[]=>rfl
 |[x]=>rfl
 |x::a::l=>by
  show SO (a::l)=_;rw[SP (a::l)];rfl
theorem RZ{n:Nat}:∀{es:List Ent} {d:List zH} {x:Ent},AFg φ es d->Gl n es=BY x->∃c,d.find? (λe=>e.born == n)=BY c/\AEm φ x.key c.key/\AEm φ x.val c.val
 |_,_,x,.nil,h=>by cases h
 |_,_,x,.cons (k':=k') (v':=v') (b:=b) g j m,h=>by
  unfold Gl at h;rw[List.find?_cons];cases a:yA b n with
  |true=>
   simp only[a,cond_true]at h;cases h;have:b=n:=A0.1 a;subst this;refine⟨⟨k',v',b⟩,?_,g,j⟩;simp only[beq_self_eq_true]
  |false=>
   simp only[a,cond_false]at h;have i:(b == n)=IT:=by
    rw[beq_eq_false_iff_ne];intro f;rw[f,zU]at a;cases a
   obtain⟨c,k,l⟩:=RZ m h;exact⟨c,by simp only[i];exact k,l⟩
theorem UV(H:AEp ty φ E h w)(k:∀b,¬E b){m s i:Nat}{q:Pl}(p:φ m=BY q)(a:IZ m s i h=.ok v h'):
  h'=h/\∃(f:List zH) (c:Nat) (d:zH) (g v0:xU),w.heap[q.blk]? =BY (.map ⟨f⟩ c)/\c=i/\(⟨f⟩:Array zH).find? (λe=>e.born == s)=BY d/\v=.tuple ⟨[g,v0]⟩/\AEm φ g d.key/\AEm φ v0 d.val:=by
 unfold IZ at a;split at a
 case h_2=>cases a
 rename_i z c o;obtain⟨l,a⟩:=B1 a;split at a
 case h_2=>cases a
 rename_i y n;cases a;obtain⟨f,r,j⟩:=H.AFx p (k m) o;obtain⟨d,t,u,x⟩:=RZ j n;exact⟨rfl,f,c,d,_,_,r,A0.1 l,by rw[<- t];simp,rfl,u,x⟩
theorem Yv(H:AEp ty φ E h w)(o:∀b,¬E b){x:O}{y:xU}(K:AEm φ (x e) y)(a:JS x F e h=.ok v h'):Bq ty φ E h w v h' ((ACH y).run P w):=by
 unfold JS at a;split at a
 case h_2=>cases a
 rename_i l A;obtain⟨B,a⟩:=B1 a;obtain⟨R,rfl,G⟩:=GE K A;obtain⟨c,s,rfl⟩:=G.eq;have D:l.off=0:=A0.1 B;have t:∀{k n j:Nat} {m:Pl} {u:Nat} {seen:List Nat},φ k=BY m->c.off=0->w.heap[c.blk]? =BY (.mapIter (BY m.blk) u ⟨seen⟩ j)->seen.getLast? =BY n->IZ k n j h=.ok v h'->
   Bq ty φ E h w v h' ((ACH (.pointer (BY ⟨c.blk,c.off+l.off,By⟩))).run P w):=by
  intro k n j m u seen g f i q a;obtain⟨rfl,T,S,r,U,v0,J,rfl,C,rfl,M,N⟩:=UV H o g a;have z:(⟨seen⟩:Array Nat).back? =BY n:=by
   rw[<- q];simp[Array.back?_eq_getElem?,List.getLast?_eq_getElem?]
  rw[f,D];have key:(ACH (.pointer (BY ⟨c.blk,0,By⟩))).run P w=.ok (.tuple #[r.key,r.val]) w:=by
   simp only[ACH,xr,CR i rfl,xd,z,CR J rfl,bne_self_eq_false,ye,if_false,C,xu]
  rw[key];exact .same H (.tuple (.cons M (.cons N .nil)))
 unfold K8 at a;split at a
 ·rename_i k V seen j p
  have d:=H.row l.block c s (o _);rw[Ie p]at d;generalize i:w.heap[c.blk]? =L at d;cases d with
  |@iter _ m _ _ _ f g=>
   split at a
   case h_2=>cases a
   rename_i Q I;exact t g f i (by rw[<- SP];exact I) a
 ·rename_i k Q j p
  have d:=H.row l.block c s (o _);rw[qF p]at d;generalize i:w.heap[c.blk]? =L at d;cases d with
  |cur f g q=>exact t g f i q a
 ·cases a
end
section
variable {P:yx}{ty:TTy}{φ:Phi}{E:Nat->Prop}{h h':Hp}{w:ya}{F:AEh}{e:Env}{v:xU}
theorem Mb{t:Nat}{k:KS->OpF}(a:wKey ty t k F e h=.ok v h'):∃c b el K,ty.get t=BY c/\c.k=.map b el/\AFn P ty b K/\k K F e h=.ok v h':=by
 unfold wKey at a;obtain⟨c,j,a⟩:=Bl a;cases f:c.k with
 |map b el=>
  simp only[f]at a;obtain⟨g,i,a⟩:=Bl a;cases d:flatK ty 8 b with
  |none=>rw[d]at a;cases a
  |some ks=>
   rw[d]at a;exact⟨c,b,el,⟨g.k.agg,ks⟩,j,f,⟨⟨g,i,rfl⟩,d⟩,a⟩
 |_=>simp only[f]at a;cases a
theorem AFn.und(b:DO P ty){t:Nat}{K:KS}(a:AFn P ty t K):∃d,P.underlying t=BY d:=by
 obtain⟨f,e,_⟩:=a.ti;obtain⟨d,c,_⟩:=(b t f e).und;exact⟨d,c⟩
theorem XS{t:Nat}{c:TI}(T:AFD P t c){b el:Nat}(hk:c.k=.map b el):P.underlying t=BY (.map b el):=by
 obtain⟨e,d,a⟩:=T.und;rw[hk]at a;cases a;exact d
theorem JO{ok:Bool}{u:xU}{b:Bool}(a:FC ok u b h=.ok v h'):h'=h/\v=(if ok then .tuple ⟨[u,.bool b]⟩else u):=by
 unfold FC at a;cases ok<;>simp only[Ba]at a<;>cases a<;>exact⟨rfl,rfl⟩
theorem H8{ok:Bool}{u a:xU}{b:Bool}(c:AEm φ u a):AEm φ (if ok then .tuple ⟨[u,.bool b]⟩else u) (if ok then .tuple #[a,.bool b]else a):=by
 cases ok
 ·exact c
 ·exact .tuple (.cons c (.cons (.bool b) .nil))
theorem VD(d:DO P ty)(H:AEp ty φ E h w){t s el:Nat}{I k:TI}(T:AFD P t I)(hk:I.k=.map s el)(M:AFD P el k)(X:k.zero.length=k.size){z:xU}(b:zeroV k=BY z){K:KS}(c:AFn P ty s K)
  {ok:Bool}{x g:O}{L D:xU}(l:AEm φ (x e) L)(S:AEm φ (g e) D)(N:∀r,x e=.map (BY r)->¬E r)(a:HQ K z ok x g F e h=.ok v h'):
  Bq ty φ E h w v h' ((AAm t L D ok).run P w):=by
 obtain⟨z0,B,C,_,n⟩:=M.AFs X;rw[b]at B;cases B;have A:AEm φ z z:=by
  unfold zeroV at b;split at b
  ·cases b;exact .agg (.plain n)
  ·split at b
   ·rename_i a2 j
    cases b;rw[j]at n;simp only[ABY,List.all_nil,AD9]at n;exact .plain n
   ·cases b
 obtain⟨kd,q⟩:=c.und d;have j:=XS T hk;unfold HQ Ig at a;split at a
 case h_2=>cases a
 rename_i f;have Q:=Jw f S;subst Q;split at a
 ·rename_i m
  rw[m]at l;cases l;obtain⟨rfl,rfl⟩:=JO a;have i:(ACe s (g e) []).run P w=.ok By w:=Fs q (by simp[yr]);have key:(AAm t (.map By) (g e) ok).run P w=.ok (if ok then .tuple #[z,.bool IT]else z) w:=by
   simp only[AAm,xr,run_underlying j,xd,xu,c.check d f,i,C]
  rw[key];exact .same H (H8 A)
 ·rename_i r m
  rw[m]at l;cases l with
  |@map _ G U=>
   split at a
   case h_2=>cases a
   rename_i es Y R;obtain⟨a0,W,u⟩:=H.AFx U (N r m) R;have y:=CR (P:=P) W rfl;split at a
   ·rename_i Z p
    obtain⟨rfl,rfl⟩:=JO a;obtain⟨a1,J,o,V⟩:=NJ d c f w 0 u p;have i:=Fs q o;have key:(AAm t (.map (BY G.blk)) (g e) ok).run P w=.ok (if ok then .tuple #[J,.bool IN]else J) w:=by
     simp only[AAm,xr,run_underlying j,xd,xu,y,c.check d f,i]
    rw[key];exact .same H (H8 V)
   ·rename_i p
    obtain⟨rfl,rfl⟩:=JO a;have o:=NJ d c f w 0 u p;have i:=Fs q o;have key:(AAm t (.map (BY G.blk)) (g e) ok).run P w=.ok (if ok then .tuple #[z,.bool IT]else z) w:=by
     simp only[AAm,xr,run_underlying j,xd,xu,y,c.check d f,i,C]
    rw[key];exact .same H (H8 A)
   ·cases a
 ·cases a
theorem Nn(k:DO P ty)(H:AEp ty φ E h w)(r:∀b,¬E b){t N el:Nat}{R:TI}(T:AFD P t R)(hk:R.k=.map N el){K:KS}(j:AFn P ty N K)
  {m key x:O}{Q M g:xU}(J:AEm φ (m e) Q)(Z:AEm φ (key e) M)(D:AEm φ (x e) g)(a:Fa K m key x F e h=.ok v h'):
  Zc ty φ E h w v h' ((ACG t Q M g).run P w):=by
 obtain⟨kd,I⟩:=j.und k;have L:=XS T hk;unfold Fa at a;simp only[Ba]at a;unfold Ma at a;split at a
 case h_2=>cases a
 rename_i f;obtain⟨W,z⟩:=UY f Z;subst W;split at a
 case h_2=>cases a
 rename_i a1 a0;rw[a0]at J;cases J with
 |@map _ a3 A=>
  split at a
  case h_2=>cases a
  rename_i es c l;obtain⟨d,C,p⟩:=H.AFx A (r a1) l;have G:=CR (P:=P) C rfl;split at a
  ·rename_i a2 B
   obtain⟨n,u',i,u,Y,X,S⟩:=MY k j f D z w 0 p B;have s:=Fs I u;obtain⟨V,y,q,ev⟩:=In (ob:=.map ⟨d.modify (0+n) λi=>{i with key:=key e,val:=g}⟩ c) H (r _) A (LN l) a (by rw[Ib l];exact .inr trivial) (.map (by rw[xZ];exact S));cases y;refine⟨rfl,_,?_,q,ev⟩;have U:(ADG (((⟨d⟩:Array zH)[0+n]?.map (·.key)).getD (key e)) (key e)).run P w=.ok (key e) w:=by
    have:(⟨d⟩:Array zH)[0+n]? =BY i:=by rw[xZ];simpa using Y
    rw[this];simp only[zX,Option.getD_some,X];unfold ADG;rw[Yd f 9999];simp
   have o:=F1 (P:=P) (ob':=.map ⟨d.modify (0+n) λi=>{i with key:=key e,val:=g}⟩ c) C rfl;simp only[ACG,xr,run_underlying L,xd,G,j.check k f,s,U];rw[<- o];congr 3;apply zT;simp
  ·rename_i B
   have u:=MY k j f D z w 0 p B;have s:=Fs I u;obtain⟨V,y,q,ev⟩:=In (ob:=.map ⟨d++[{key:=key e,val:=g,born:=c}]⟩ (c+1)) H (r _) A (LN l) a (by rw[Ib l];exact .inr trivial) (.map (by rw[Vr];exact AFg.append (.cons z D .nil) p));cases y;refine⟨rfl,_,?_,q,ev⟩;have o:=F1 (P:=P) (ob':=.map ⟨d++[{key:=key e,val:=g,born:=c}]⟩ (c+1)) C rfl;simp only[ACG,xr,run_underlying L,xd,G,j.check k f,s];rw[<- o];congr 2;simp
  ·cases a
end
section
variable {P:yx}{ty:TTy}{φ:Phi}{E:Nat->Prop}{h h':Hp}{w:ya}{F:AEh}{e:Env}{v:xU}{f:Fr}
theorem X7{op:Op}{x:yW}(hk:kd ty op=.r x)(b:Hm ty f e E op){y:O}(d:cO f x=BY y):∀a,y e=.pointer (BY a)->¬E a.block:=by
 intro a c;unfold Hm at b;rw[hk]at b;exact b y d a.block (by rw[c];rfl)
theorem MZ{op:Op}{x:yW}(hk:kd ty op=.w x)(a:Hm ty f e E op):∀b,¬E b:=by
 unfold Hm at a;rw[hk]at a;exact a
theorem GY{op:Op}(hk:kd ty op=.q)(a:Hm ty f e E op):∀b,¬E b:=by
 unfold Hm at a;rw[hk]at a;exact a
theorem Zj{a:List O}{x:O}(d:a=[x]){l:List yW}{ρ:yW->xU}(b:AE5 φ (vals e a) (l.map ρ)):∃c,l.map ρ=[c]/\AEm φ (x e) c:=by
 subst d;generalize l.map ρ=g at b;cases b with|cons h f=>cases f;exact⟨_,rfl,h⟩
theorem RB{b:List O}{x y:O}(i:b=[x,y]){l:List yW}{ρ:yW->xU}(c:AE5 φ (vals e b) (l.map ρ)):∃d f,l.map ρ=[d,f]/\AEm φ (x e) d/\AEm φ (y e) f:=by
 subst i;generalize l.map ρ=j at c;cases c with|cons h a=>cases a with|cons g a=>cases a;exact⟨_,_,rfl,h,g⟩
theorem Z3(hT:DO P ty)(H:AEp ty φ E h w){b:Builtin}{c:Call}(hc:c.callee=.builtin b){o:AAD}{a:Act}(ho:o.op=.call c){args:List O}
  (ha:AE5 φ (vals e args) (c.args.toList.map a.eval))(hE:(∀b,¬E b)\/b=.min\/b=.max\/(b=.len/\∀x,args=[x]->∀t ti,c.argTypes[0]? =BY t->ty.get t=BY ti->(∃k q,ti.k=.map k q)->∀r,x e=.map (BY r)->¬E r))
  (hr:Kv ty b c.argTypes.toList args F e h=.ok v h'):FR P ty φ E h v h' o a w:=by
 have AIL:c.args.map a.eval=⟨c.args.toList.map a.eval⟩:=by apply zT;simp
 have AHT:∀t l,c.argTypes.toList=t::l->c.argTypes[0]? =BY t:=λt l hl=>by rw[<- ABW,hl];rfl
 have AJ7:∀t t2 l,c.argTypes.toList=t::t2::l->c.argTypes[1]? =BY t2:=λt t2 l hl=>by rw[<- ABW,hl];rfl
 have hex:∀s:Sem xU,(∀cs,builtin b c.argTypes o.type cs ⟨c.args.toList.map a.eval⟩=(do pure (.value (<- s))))->∀{vv:xU} {hh:Hp},Bq ty φ E h w vv hh (s.run P w)->FR P ty φ E h vv hh o a w:=by
  intro s hs vv hh hg;refine .AEj (s:=s) ?_ hg;unfold execOp;rw[ho];simp only[resolve,hc,AIL];exact hs _
 cases b with
 |len=>
  match args,ha,hE,hr with
  |[x],ha,hE,hr=>
   obtain⟨x',he,hx⟩:=Zj rfl ha;cases hl:c.argTypes.toList with
   |nil=>rw[hl]at hr;cases hr
   |cons t l=>
    rw[hl]at hr;obtain⟨ti,hti,hr⟩:=Bl hr;have h0:=AHT t l hl;cases hk:ti.k with
    |slice el=>simp only[hk]at hr;exact hex _ (λcs=>by rw[he];rfl) (dF H h0 (hT t ti hti) hk hx hr)
    |string=>simp only[hk]at hr;exact hex _ (λcs=>by rw[he];rfl) (dH H h0 (hT t ti hti) hk hx hr)
    |map k q=>
     simp only[hk]at hr;exact(E5 hr).elim
    |arr n el=>
     simp only[hk]at hr;refine hex (zo c.argTypes o.type #[x']) (λcs=>by rw[he];rfl) ?_;rw[jN h0 (hT t ti hti) hk];have:v=.int .i64 (.ofNat n)/\h'=h:=by
      unfold AP W at hr;rw[FK]at hr;cases hr;exact⟨rfl,rfl⟩
     obtain⟨rfl,rfl⟩:=this;exact .same H (.int _ _)
    |_=>simp only[hk]at hr;cases hr
  |[],_,_,hr=>cases hr
  |_::_::_,_,_,hr=>cases hr
 |cap=>
  match args,ha,hr with
  |[x],ha,hr=>
   obtain⟨x',he,hx⟩:=Zj rfl ha;cases hl:c.argTypes.toList with
   |nil=>rw[hl]at hr;cases hr
   |cons t l=>
    rw[hl]at hr;obtain⟨ti,hti,hr⟩:=Bl hr;have h0:=AHT t l hl;cases hk:ti.k with
    |slice el=>simp only[hk]at hr;exact hex (ABx c.argTypes o.type #[x']) (λcs=>by rw[he];rfl) (cr H h0 (hT t ti hti) hk hx hr)
    |_=>simp only[hk]at hr;cases hr
  |[],_,hr=>cases hr
  |_::_::_,_,hr=>cases hr
 |min=>
  match args,ha,hr with
  |[x,y],ha,hr=>
   obtain⟨x',y',he,hx,hy⟩:=RB rfl ha;exact hex _ (λcs=>by rw[he];rfl) (jw (F:=F) H hx hy hr)
  |[],_,hr=>cases hr
  |[_],_,hr=>cases hr
  |_::_::_::_,_,hr=>cases hr
 |max=>
  match args,ha,hr with
  |[x,y],ha,hr=>
   obtain⟨x',y',he,hx,hy⟩:=RB rfl ha;exact hex _ (λcs=>by rw[he];rfl) (ju (F:=F) H hx hy hr)
  |[],_,hr=>cases hr
  |[_],_,hr=>cases hr
  |_::_::_::_,_,hr=>cases hr
 |copy=>
  have hE':∀b,¬E b:=by
   rcases hE with h|h|h|⟨h,_⟩
   ·exact h
   all_goals cases h
  match args,ha,hr with
  |[d,x],ha,hr=>
   obtain⟨d',x',he,hd,hx⟩:=RB rfl ha;cases hl:c.argTypes.toList with
   |nil=>rw[hl]at hr;cases hr
   |cons t l=>
    rw[hl]at hr;obtain⟨ti,hti,hr⟩:=Bl hr;cases hk:ti.k with
    |slice el=>
     simp only[hk]at hr;obtain⟨ei,hei,hr⟩:=Bl hr;exact hex _ (λcs=>by rw[he];rfl) (cy H hE' (AHT t l hl) (hT t ti hti) hk (hT el ei hei) hd hx hr)
    |_=>simp only[hk]at hr;cases hr
  |[],_,hr=>cases hr
  |[_],_,hr=>cases hr
  |_::_::_::_,_,hr=>cases hr
 |clear=>
  have hE':∀b,¬E b:=by
   rcases hE with h|h|h|⟨h,_⟩
   ·exact h
   all_goals cases h
  match args,ha,hr with
  |[x],ha,hr=>
   obtain⟨x',he,hx⟩:=Zj rfl ha;cases hl:c.argTypes.toList with
   |nil=>rw[hl]at hr;cases hr
   |cons t l=>
    rw[hl]at hr;obtain⟨ti,hti,hr⟩:=Bl hr;cases hk:ti.k with
    |slice el=>
     simp only[hk]at hr;obtain⟨ei,hei,hr⟩:=Bl hr;obtain⟨hz,hr⟩:=JA hr;exact hex _ (λcs=>by rw[he];rfl) (Yu H hE' (AHT t l hl) (hT t ti hti) hk (hT el ei hei) hz hx hr)
    |map k q=>
     simp only[hk]at hr;exact hex _ (λcs=>by rw[he];rfl) (Qe H hE' (AHT t l hl) (hT t ti hti) hx hr)
    |_=>simp only[hk]at hr;cases hr
  |[],_,hr=>cases hr
  |_::_::_,_,hr=>cases hr
 |append=>
  have hE':∀b,¬E b:=by
   rcases hE with h|h|h|⟨h,_⟩
   ·exact h
   all_goals cases h
  match args,ha,hr with
  |[s,x],ha,hr=>
   obtain⟨s',x',he,hs,hx⟩:=RB rfl ha;cases hl:c.argTypes.toList with
   |nil=>rw[hl]at hr;cases hr
   |cons t l=>
    cases l with
    |nil=>rw[hl]at hr;cases hr
    |cons t2 l=>
     rw[hl]at hr;obtain⟨ti,hti,hr⟩:=Bl hr;obtain⟨xi,hxi,hr⟩:=Bl hr;have h0:=AHT t _ hl;have h1:=AJ7 t t2 l hl;cases hk:ti.k with
     |slice en=>
      cases hk2:xi.k with
      |slice q=>
       simp only[hk,hk2]at hr;obtain⟨ei,hei,hr⟩:=Bl hr;cases hsz:ei.size with
       |zero=>simp only[hsz]at hr;cases hr
       |succ n=>
        simp only[hsz]at hr;obtain⟨hz,hr⟩:=JA hr;have hs2:n.succ=ei.size:=hsz.symm;rw[hs2]at hr;exact hex _ (λcs=>by rw[he];rfl) (Ni H hE' h0 h1 (hT t ti hti) hk (hT t2 xi hxi) (.inl ⟨q,hk2⟩) hei (hT en ei hei) (by omega) hz hs hx hr)
      |string=>
       simp only[hk,hk2]at hr;obtain⟨ei,hei,hr⟩:=Bl hr;cases hsz:ei.size with
       |zero=>simp only[hsz]at hr;cases hr
       |succ n=>
        simp only[hsz]at hr;obtain⟨hz,hr⟩:=JA hr;have hs2:n.succ=ei.size:=hsz.symm;rw[hs2]at hr;exact hex _ (λcs=>by rw[he];rfl) (Ni H hE' h0 h1 (hT t ti hti) hk (hT t2 xi hxi) (.inr hk2) hei (hT en ei hei) (by omega) hz hs hx hr)
      |int q=>
       simp only[hk,hk2]at hr;obtain⟨ei,hei,hr⟩:=Bl hr;cases hsz:ei.size with
       |zero=>simp only[hsz]at hr;cases hr
       |succ n=>
        simp only[hsz]at hr;obtain⟨hz,hr⟩:=JA hr;have hs2:n.succ=ei.size:=hsz.symm;rw[hs2]at hr;exact hex _ (λcs=>by rw[he];rfl) (Sd H hE' h0 h1 (hT t ti hti) hk (hT t2 xi hxi) hk2 hei (hT en ei hei) (by omega) hz hs hx hr)
      |_=>simp only[hk,hk2]at hr;cases hr
     |_=>simp only[hk]at hr;cases hr
  |[],_,hr=>cases hr
  |[_],_,hr=>cases hr
  |_::_::_::_,_,hr=>cases hr
 |delete=>
  have hE':∀b,¬E b:=by
   rcases hE with h|h|h|⟨h,_⟩
   ·exact h
   all_goals cases h
  match args,ha,hr with
  |[m,key],ha,hr=>
   obtain⟨m',key',he,hm,hkey⟩:=RB rfl ha;cases hl:c.argTypes.toList with
   |nil=>rw[hl]at hr;cases hr
   |cons t l=>
    rw[hl]at hr;obtain⟨ti,kt,el,K,hti,hk,hK,hr⟩:=Mb (P:=P) (k:=λ_=>oNo) hr;exact(E5 hr).elim
  |[],_,hr=>cases hr
  |[_],_,hr=>cases hr
  |_::_::_::_,_,hr=>cases hr
 |_=>cases hr
theorem tE(hT:DO P ty)(hF:Dn P ty F)(H:AEp ty φ E h w){o:AAD}{a:Act}(hst:mH φ f e a.eval o.op)(hE:Hm ty f e E o.op)(hr:opC ty f o.op F e h=.ok v h'):
  FR P ty φ E h v h' o a w:=by
 cases ho:o.op with
 |move x=>
  rw[ho]at hr hst;obtain⟨x',hx',hr⟩:=DX hr;exact .AEj (s:=pure (a.eval x)) (by unfold execOp;rw[ho];rfl) (Si H (hst x (by simp[yQ]) x' hx') hr)
 |assign x=>
  rw[ho]at hr hst;obtain⟨x',hx',hr⟩:=DX hr;exact .AEj (s:=pure (a.eval x)) (by unfold execOp;rw[ho];rfl) (Si H (hst x (by simp[yQ]) x' hx') hr)
 |pick c x y=>
  rw[ho]at hr hst;obtain⟨c',hc',hr⟩:=DX hr;obtain⟨x',y',hx',hy',hr⟩:=Ke hr;refine .AEj (s:=(do pure (if <- asBool (a.eval c)then a.eval x else a.eval y))) ?_ (dM H (hst c (by simp[yQ]) c' hc') (hst x (by simp[yQ]) x' hx') (hst y (by simp[yQ]) y' hy') hr);unfold execOp;rw[ho];simp
 |alloc t=>
  rw[ho]at hr hst;obtain⟨ti,hti,hr⟩:=Bl hr;obtain⟨hz,hr⟩:=JA hr;cases hc:Bs .mt 0 ti.zero with
  |none=>rw[hc]at hr;cases hr
  |some c=>
   rw[hc]at hr;exact .AEj (by unfold execOp;rw[ho]) (Yq H (hT t ti hti) hz hc hr)
 |box t x=>
  rw[ho]at hr hst;obtain⟨x',hx',hr⟩:=DX hr;exact .AEj (by unfold execOp;rw[ho]) (jk H (hst x (by simp[yQ]) x' hx') hr)
 |build t parts=>
  rw[ho]at hr hst;obtain⟨ti,hti,hr⟩:=Bl hr;obtain⟨hz,hr⟩:=JA hr;have hps:∀p∈parts.toList,∀y,cO f p.2=BY y->AEm φ (y e) (a.eval p.2):=λp hp=>hst p.2 (by simp only[yQ,zI];exact⟨p,hp,rfl⟩)
  cases hk:ti.k with
  |struct fs=>
   simp only[hk]at hr;cases hp:HT f (Nw fs) parts.toList with
   |none=>rw[hp]at hr;cases hr
   |some ps=>
    rw[hp]at hr;exact .AEj (by unfold execOp;rw[ho]) (Ux H (hT t ti hti) hk hz (ps':=parts.map λ(i,x)=>(i,a.eval x)) (by simpa using KD (ρ:=a.eval) hp hps) hr)
  |arr n el=>
   simp only[hk]at hr;obtain⟨ei,hei,hr⟩:=Bl hr;cases hp:HT f (λi=>BY (yv i ei.size,ei.size)) parts.toList with
   |none=>rw[hp]at hr;cases hr
   |some ps=>
    rw[hp]at hr;exact .AEj (by unfold execOp;rw[ho]) (Uw H (hT t ti hti) hk (hT el ei hei) hz (ps':=parts.map λ(i,x)=>(i,a.eval x)) (by simpa using KD (ρ:=a.eval) hp hps) hr)
  |_=>simp only[hk]at hr;cases hr
 |buildSlice t len parts=>
  rw[ho]at hr hst;obtain⟨ti,hti,hr⟩:=Bl hr;have hps:∀p∈parts.toList,∀y,cO f p.2=BY y->AEm φ (y e) (a.eval p.2):=λp hp=>hst p.2 (by simp only[yQ,zI];exact⟨p,hp,rfl⟩)
  cases hk:ti.k with
  |slice el=>
   simp only[hk]at hr;obtain⟨ei,hei,hr⟩:=Bl hr;obtain⟨hz,hr⟩:=JA hr;cases hp:HT f (λi=>BY (yv i ei.size,ei.size)) parts.toList with
   |none=>rw[hp]at hr;cases hr
   |some ps=>
    rw[hp]at hr;simp only at hr;cases hb:yI (yv len ei.size) 16777216 with
    |false=>rw[hb]at hr;cases hr
    |true=>
     rw[hb]at hr;exact .AEj (by unfold execOp;rw[ho]) (Nj H (hT t ti hti) hk (hT el ei hei) hz (As.1 hb) (ps':=parts.map λ(i,x)=>(i,a.eval x)) (by simpa using KD (ρ:=a.eval) hp hps) hr)
  |_=>simp only[hk]at hr;cases hr
 |load t x=>
  rw[ho]at hr hst hE;obtain⟨ti,hti,hr⟩:=Bl hr;obtain⟨x',hx',hr⟩:=DX hr;have hx:=hst x (by simp[yQ]) x' hx';cases hk:ti.k.agg with
  |true=>rw[hk]at hr;exact .AEj (by unfold execOp;rw[ho]) (Y1 H (hT t ti hti) hk hx (X7 rfl hE hx') hr)
  |false=>rw[hk]at hr;exact .AEj (by unfold execOp;rw[ho]) (Yz H (hT t ti hti) hk hx (X7 rfl hE hx') hr)
 |store t x y=>
  rw[ho]at hr hst hE;obtain⟨ti,hti,hr⟩:=Bl hr;obtain⟨x',y',hx',hy',hr⟩:=Ke hr;exact .AF9 (by unfold execOp;rw[ho]) (Y6 H (hT t ti hti) (hst x (by simp[yQ]) x' hx') (hst y (by simp[yQ]) y' hy') (λa _=>MZ (x:=x) rfl hE _) hr)
 |nilCheck x=>
  rw[ho]at hr hst;obtain⟨x',hx',hr⟩:=DX hr;obtain⟨hv,rfl,hne⟩:=jy H (hst x (by simp[yQ]) x' hx') hr;refine .AEj (s:=pure (a.eval x)) ?_ (.same H hv);unfold execOp;rw[ho];obtain⟨h1,h2,h3,h4⟩:=hne;simp only;generalize a.eval x=z at h1 h2 h3 h4 ⊢;cases z<;>first|rfl|(exact absurd rfl h2)|(exact absurd rfl h3)|skip
 |binOp op t x y yt=>rw[ho]at hr hst;exact nt hT H ho (by rw[ho];exact hst) hr
 |unOp op t x=>
  rw[ho]at hr hst;obtain⟨ti,hti,hr⟩:=Bl hr;obtain⟨x',hx',hr⟩:=DX hr;have hx:=hst x (by simp[yQ]) x' hx';have hex:execOp a.eval o=(do pure (.value (<- Op.unary op (a.eval x)))):=by unfold execOp;rw[ho]
  cases op with
  |not=>exact .AEj hex (j0 H hx (by revert hr;cases ti.k<;>exact id))
  |neg=>
   cases hk:ti.k with
   |int k=>simp only[hk]at hr;exact(E5 hr).elim
   |_=>simp only[hk]at hr;cases hr
  |plus=>revert hr;cases ti.k<;>intro hr<;>cases hr
  |xor=>
   cases hk:ti.k with
   |int k=>cases k<;>simp only[hk]at hr<;>first|cases hr;done|exact(E5 hr).elim
   |_=>simp only[hk]at hr;cases hr
 |fieldAddr t x i=>
  rw[ho]at hr hst;obtain⟨ti,hti,hr⟩:=Bl hr;obtain⟨x',hx',hr⟩:=DX hr;have hx:=hst x (by simp[yQ]) x' hx';cases hk:ti.k with
  |struct fs=>
   simp only[hk]at hr;cases hn:nth fs i with
   |none=>rw[hn]at hr;cases hr
   |some q=>
    obtain⟨off,s,ft⟩:=q;rw[hn]at hr;cases s with
    |zero=>cases hr
    |succ s=>exact .AEj (by unfold execOp;rw[ho]) (Oa H (hT t ti hti) hk hn hx hr)
  |_=>simp only[hk]at hr;cases hr
 |field t x i=>
  rw[ho]at hr hst;obtain⟨ti,hti,hr⟩:=Bl hr;obtain⟨x',hx',hr⟩:=DX hr;have hx:=hst x (by simp[yQ]) x' hx';cases hk:ti.k with
  |struct fs=>
   simp only[hk]at hr;cases hn:nth fs i with
   |none=>rw[hn]at hr;cases hr
   |some q=>
    obtain⟨off,s,ft⟩:=q;rw[hn]at hr;obtain⟨fi,hfi,hr⟩:=Bl hr;exact(E5 hr).elim
  |_=>simp only[hk]at hr;cases hr
 |indexAddr t x ix=>
  rw[ho]at hr hst;obtain⟨ti,hti,hr⟩:=Bl hr;obtain⟨x',y',hx',hy',hr⟩:=Ke hr;have hx:=hst x (by simp[yQ]) x' hx';have hy:=hst ix (by simp[yQ]) y' hy';cases hk:ti.k with
  |arr n el=>
   simp only[hk]at hr;obtain⟨ei,hei,hr⟩:=Bl hr;exact .AEj (by unfold execOp;rw[ho]) (VB H (hT t ti hti) hk (hT el ei hei) hx hy hr)
  |slice el=>
   simp only[hk]at hr;obtain⟨ei,hei,hr⟩:=Bl hr;exact .AEj (by unfold execOp;rw[ho]) (jr H (hT t ti hti) hk (hT el ei hei) hx hy hr)
  |_=>simp only[hk]at hr;cases hr
 |index t x ix=>
  rw[ho]at hr hst;obtain⟨ti,hti,hr⟩:=Bl hr;obtain⟨x',y',hx',hy',hr⟩:=Ke hr;have hx:=hst x (by simp[yQ]) x' hx';have hy:=hst ix (by simp[yQ]) y' hy';cases hk:ti.k with
  |arr n el=>
   simp only[hk]at hr;obtain⟨ei,hei,hr⟩:=Bl hr;exact(E5 hr).elim
  |string=>
   simp only[hk]at hr;exact .AEj (by unfold execOp;rw[ho]) (Ys H (hT t ti hti) hk hx hy hr)
  |_=>simp only[hk]at hr;cases hr
 |extract x i=>
  rw[ho]at hr hst;obtain⟨x',hx',hr⟩:=DX hr;exact .AEj (by unfold execOp;rw[ho]) (Sh H (hst x (by simp[yQ]) x' hx') hr)
 |makeInterface t x=>
  rw[ho]at hr hst;obtain⟨ti,hti,hr⟩:=Bl hr;obtain⟨x',hx',hr⟩:=DX hr;have hx:=hst x (by simp[yQ]) x' hx';have hne:ti.k≠.iface:=by intro hk;rw[hk]at hr;cases hr
  have hr':JT t x' F e h=.ok v h':=by revert hr hne;cases ti.k<;>intro hr hne<;>first|exact hr|exact absurd rfl hne
  exact .AEj (by unfold execOp;rw[ho]) (Yx H (hT t ti hti) hne hx hr')
 |makeFunc fn first cap=>
  rw[ho]at hr hst;simp only[opC]at hr;cases h1:cOs f first.toList with
  |none=>simp only[h1]at hr;cases hr
  |some fs=>
   cases h2:cOs f cap.toList with
   |none=>simp only[h1,h2]at hr;cases hr
   |some cs=>
    simp only[h1,h2]at hr;refine .AEj (s:=Instr.makeFunc fn (first.map a.eval) (cap.map a.eval)) (by unfold execOp;rw[ho]) ?_;have e1:first.map a.eval=⟨first.toList.map a.eval⟩:=by apply zT;simp
    have e2:cap.map a.eval=⟨cap.toList.map a.eval⟩:=by apply zT;simp
    rw[e1,e2];exact dD H (Py h1 λx hx=>hst x (by simp[yQ]at hx ⊢;exact .inl hx)) (Py h2 λx hx=>hst x (by simp[yQ]at hx ⊢;exact .inr hx)) hr
 |makeMap t r=>
  rw[ho]at hr hst;cases r with
  |some _=>cases hr
  |none=>exact .AEj (by unfold execOp;rw[ho];rfl) (js (F:=F) (e:=e) H (t:=t) hr)
 |makeSlice t l c=>
  rw[ho]at hr hst;obtain⟨ti,hti,hr⟩:=Bl hr;cases hk:ti.k with
  |slice el=>
   simp only[hk]at hr;obtain⟨ei,hei,hr⟩:=Bl hr;obtain⟨hz,hr⟩:=JA hr;obtain⟨l',c',hl',hc',hr⟩:=Ke hr;exact .AEj (by unfold execOp;rw[ho]) (dJ H (hT t ti hti) hk (hT el ei hei) hz (hst l (by simp[yQ]) l' hl') (hst c (by simp[yQ]) c' hc') hr)
  |_=>simp only[hk]at hr;cases hr
 |sliceToArrayPointer t x=>
  rw[ho]at hr hst;obtain⟨ti,hti,hr⟩:=Bl hr;cases hk:ti.k with
  |arr n el=>
   simp only[hk]at hr;cases n with
   |zero=>cases hr
   |succ n=>
    obtain⟨x',hx',hr⟩:=DX hr;exact .AEj (by unfold execOp;rw[ho]) (jg H (hT t ti hti) hk (ABE _) (hst x (by simp[yQ]) x' hx') hr)
  |_=>simp only[hk]at hr;cases hr
 |slice t x lo hi mx=>
  rw[ho]at hr hst;obtain⟨ti,hti,hr⟩:=Bl hr;obtain⟨x',hx',hr⟩:=DX hr;have hx:=hst x (by simp[yQ]) x' hx';cases h1:cOo f lo with
  |none=>simp only[h1]at hr;cases hr
  |some lo'=>
   cases h2:cOo f hi with
   |none=>simp only[h1,h2]at hr;cases hr
   |some hi'=>
    cases h3:cOo f mx with
    |none=>simp only[h1,h2,h3]at hr;cases hr
    |some mx'=>
     simp only[h1,h2,h3]at hr;have r1:AGL φ e lo' (lo.map a.eval):=Tx h1 λz hz=>hst z (by rw[hz];simp[yQ])
     have r2:AGL φ e hi' (hi.map a.eval):=Tx h2 λz hz=>hst z (by rw[hz];simp[yQ])
     have r3:AGL φ e mx' (mx.map a.eval):=Tx h3 λz hz=>hst z (by rw[hz];simp[yQ])
     cases hk:ti.k with
     |string=>
      simp only[hk]at hr;cases mx' with
      |some _=>cases hr
      |none=>
       have AGJ:oNo F e h=.ok v h':=hr;have hmx:mx=By:=by
        cases mx with
        |none=>rfl
        |some z=>cases r3
       subst hmx;exact(E5 AGJ).elim
     |slice el=>
      simp only[hk]at hr;obtain⟨ei,hei,hr⟩:=Bl hr;exact .AEj (by unfold execOp;rw[ho]) (jn H (hT t ti hti) hk hei (hT el ei hei) hx r1 r2 r3 hr)
     |arr n el=>
      simp only[hk]at hr;obtain⟨ei,hei,hr⟩:=Bl hr;exact .AEj (by unfold execOp;rw[ho]) (U9 H (hT t ti hti) hk (hT el ei hei) hx r1 r2 r3 hr)
     |_=>simp only[hk]at hr;cases hr
 |convert src dst x=>
  rw[ho]at hr hst hE;obtain⟨si,hsi,hr⟩:=Bl hr;obtain⟨di,hdi,hr⟩:=Bl hr;obtain⟨x',hx',hr⟩:=DX hr;have hx:=hst x (by simp[yQ]) x' hx';have hex:execOp a.eval o=(do pure (.value (<- convert src dst (a.eval x)))):=by unfold execOp;rw[ho]
  obtain⟨ds,hds,ks⟩:=(hT src si hsi).und;obtain⟨dd,hdd,kd⟩:=(hT dst di hdi).und;cases hk:di.k with
  |int k=>
   cases hk2:si.k with
   |int k2=>
    simp only[hk,hk2]at hr;obtain⟨q,n,hxe,hg⟩:=cw (P:=P) H hx hr;rw[hk]at kd;cases kd;rw[hk2]at ks;cases ks;refine .AEj hex ?_;rw[hxe];have:(convert src dst (.int q n)).run P w=(AD8 k n).run P w:=by
     simp only[convert,xr,run_underlying hds,run_underlying hdd,xd]
    rw[this];exact hg
   |_=>simp only[hk,hk2]at hr;cases hr
  |string=>
   cases hk2:si.k with
   |string=>
    simp only[hk,hk2]at hr;exact(E5 hr).elim
   |slice el=>
    simp only[hk,hk2]at hr;obtain⟨ei,hei,hr⟩:=Bl hr;cases hk3:ei.k with
    |int k3=>
     cases k3<;>simp only[hk3]at hr<;>first|(cases hr;done)|skip
     refine .AEj hex (Y8 H (λa l c hxe=>?_) (hT src si hsi) hk2 (hT dst di hdi) hk (hT el ei hei) hk3 hx hr);cases hb:yA src dst with
     |true=>exact GY (by simp only[Go.Proofs.YtldjiljipddebaaGreat.kd,hb]) hE _
     |false=>
      have hi:NV ty src=IT:=by unfold NV;rw[hsi];simp only[hk2]
      have hi2:H4 ty dst=IT:=by unfold H4;rw[hdi];simp only[hk]
      have hkd:Go.Proofs.YtldjiljipddebaaGreat.kd ty (.convert src dst x)=.r x:=by simp only[Go.Proofs.YtldjiljipddebaaGreat.kd,hb,hi,hi2]
      unfold Hm at hE;rw[hkd]at hE;exact hE x' hx' _ (by rw[hxe];rfl)
    |_=>simp only[hk3]at hr;cases hr
   |_=>simp only[hk,hk2]at hr;cases hr
  |slice el=>
   cases hk2:si.k with
   |string=>
    simp only[hk,hk2]at hr;obtain⟨ei,hei,hr⟩:=Bl hr;cases hk3:ei.k with
    |int k3=>
     cases k3<;>simp only[hk3]at hr<;>first|(cases hr;done)|skip
     cases hb:yA ei.size 1 with
     |false=>rw[hb]at hr;cases hr
     |true=>
      rw[hb]at hr;exact .AEj hex (Sm H (hT src si hsi) hk2 (hT dst di hdi) hk (hT el ei hei) hk3 hei (A0.1 hb) hx hr)
    |_=>simp only[hk3]at hr;cases hr
   |slice el2=>
    simp only[hk,hk2]at hr;cases hb:yA src dst with
    |false=>rw[hb]at hr;cases hr
    |true=>
     rw[hb]at hr;have heq:src=dst:=A0.1 hb;have hE':=GY (by simp only[Go.Proofs.YtldjiljipddebaaGreat.kd,hb]) hE;obtain⟨ei,hei,hr⟩:=Bl hr;cases hk3:ei.k with
     |int k3=>
      cases k3<;>simp only[hk3]at hr<;>first|(cases hr;done)|skip
      have hg:=Yt (P:=P) H hE' (hT dst di hdi) hk (hT el ei hei) hk3 hx hr;rw[heq]at hex;exact .AEj hex hg
     |_=>simp only[hk3]at hr;cases hr
   |_=>simp only[hk,hk2]at hr;cases hr
  |_=>simp only[hk]at hr;cases hr
 |call c=>
  rw[ho]at hr hst hE;simp only[opC]at hr;cases h1:cOs f c.args.toList with
  |none=>simp only[h1]at hr;cases hr
  |some args=>
   simp only[h1]at hr;have ha:AE5 φ (vals e args) (c.args.toList.map a.eval):=Py h1 λx hx=>hst x (by
    unfold yQ ABw;cases hc:c.callee<;>simp[hc]<;>first|exact Or.inr (by simpa using hx)|exact(by simpa using hx))
   cases hc:c.callee with
   |builtin b=>
    simp only[hc]at hr;refine Z3 hT H hc ho ha ?_ hr;cases b with
    |len=>
     refine .inr (.inr (.inr ⟨rfl,λx hx t ti ht hti hm r hxr=>?_⟩));subst hx;cases hl:c.args.toList with
     |nil=>rw[hl]at h1;cases h1
     |cons x0 l=>
      cases l with
      |cons x1 l=>
       rw[hl]at h1;unfold cOs at h1;cases hx0:cO f x0 with
       |none=>rw[hx0]at h1;cases h1
       |some y0=>
        rw[hx0]at h1;cases hx1:cOs f (x1::l)with
        |none=>rw[hx1]at h1;cases h1
        |some ys=>
         rw[hx1]at h1;cases h1;unfold cOs at hx1;cases hq:cO f x1 with
         |none=>rw[hq]at hx1;cases hx1
         |some y1=>
          rw[hq]at hx1;cases hq2:cOs f l with
          |none=>rw[hq2]at hx1;cases hx1
          |some ys=>rw[hq2]at hx1;cases hx1
      |nil=>
       rw[hl]at h1;have hx0:cO f x0=BY x:=by
        unfold cOs at h1;cases hx0:cO f x0 with
        |none=>rw[hx0]at h1;cases h1
        |some y0=>rw[hx0]at h1;cases h1;rfl
       obtain⟨k,q,hm⟩:=hm;have hmap:Ui ty (c.argTypes.getD 0 0)=IN:=by
        have:c.argTypes.getD 0 0=t:=by rw[yw,ht];rfl
        rw[this];unfold Ui;rw[hti];simp only[hm]
       have hk:kd ty (.call c)=.r x0:=by simp only[kd,hc,hl,hmap]
       unfold Hm at hE;rw[hk]at hE;exact hE x hx0 r (by rw[hxr];rfl)
    |min=>exact .inr (.inl rfl)
    |max=>exact .inr (.inr (.inl rfl))
    |_=>
     refine .inl ?_;cases hl:c.args.toList with
     |nil=>exact GY (by simp only[kd,hc,hl]) hE
     |cons x l=>exact MZ (x:=x) (by simp only[kd,hc,hl]) hE
   |value g=>
    simp only[hc]at hr;have hE':∀b,¬E b:=GY (by simp only[kd,hc]) hE;cases g with
    |func g=>exact co hF H hE' hc ho ha hr
    |tmp t=>
     obtain⟨g',hg',hr⟩:=DX hr;exact LT hF H hE' hc ho (hst (.tmp t) (by unfold yQ ABw;simp[hc]) g' hg') ha hr
    |const t=>
     obtain⟨g',hg',hr⟩:=DX hr;exact LT hF H hE' hc ho (hst (.const t) (by unfold yQ ABw;simp[hc]) g' hg') ha hr
    |global t=>
     obtain⟨g',hg',hr⟩:=DX hr;exact LT hF H hE' hc ho (hst (.global t) (by unfold yQ ABw;simp[hc]) g' hg') ha hr
   |invoke recv name=>
    simp only[hc]at hr;have hE':∀b,¬E b:=GY (by simp only[kd,hc]) hE;obtain⟨x',hx',hr⟩:=DX hr;exact(E5 hr).elim
 |lookup t x ix ok=>
  rw[ho]at hr hst hE;obtain⟨ti,hti,hr⟩:=Bl hr;obtain⟨x',ix',hx',AJ8,hr⟩:=Ke hr;cases hk:ti.k with
  |map kt el=>
   simp only[hk]at hr;obtain⟨ei,hei,hr⟩:=Bl hr;obtain⟨hz,hr⟩:=JA hr;unfold wZero at hr;cases hzv:zeroV ei with
   |none=>rw[hzv]at hr;cases hr
   |some z=>
    rw[hzv]at hr;obtain⟨ti2,kt2,el2,K,AJH,hk2,hK,hr⟩:=Mb hr;rw[hti]at AJH;cases AJH;rw[hk]at hk2;cases hk2;refine .AEj (by unfold execOp;rw[ho]) (VD hT H (hT t ti hti) hk (hT el ei hei) hz hzv hK (hst x (by simp[yQ]) x' hx') (hst ix (by simp[yQ]) ix' AJ8) (λr hxr=>?_) hr);have hkd:kd ty (.lookup t x ix ok)=.r x:=rfl;unfold Hm at hE;rw[hkd]at hE;exact hE x' hx' r (by rw[hxr];rfl)
  |_=>simp only[hk]at hr;cases hr
 |mapUpdate t m k x=>
  rw[ho]at hr hst hE;obtain⟨ti,kt,el,K,hti,hk,hK,hr⟩:=Mb (k:=λks=>w1 f m λm=>w2 f k x λkey x=>Fa ks m key x) hr;obtain⟨m',hm',hr⟩:=DX hr;obtain⟨k',x',hk',hx',hr⟩:=Ke hr;exact .AF9 (by unfold execOp;rw[ho]) (Nn hT H (MZ (x:=m) rfl hE) (hT t ti hti) hk hK (hst m (by simp[yQ]) m' hm') (hst k (by simp[yQ]) k' hk') (hst x (by simp[yQ]) x' hx') hr)
 |insert t m k x=>
  rw[ho]at hr hst hE;obtain⟨ti,kt,el,K,hti,hk,hK,hr⟩:=Mb (k:=λks=>w1 f m λm=>w2 f k x λkey x=>Fa ks m key x) hr;obtain⟨m',hm',hr⟩:=DX hr;obtain⟨k',x',hk',hx',hr⟩:=Ke hr;exact .AF9 (by unfold execOp;rw[ho]) (Nn hT H (MZ (x:=m) rfl hE) (hT t ti hti) hk hK (hst m (by simp[yQ]) m' hm') (hst k (by simp[yQ]) k' hk') (hst x (by simp[yQ]) x' hx') hr)
 |range t x=>
  rw[ho]at hr hst hE;obtain⟨ti,hti,hr⟩:=Bl hr;cases hk:ti.k with
  |map k q=>
   simp only[hk]at hr;obtain⟨x',hx',hr⟩:=DX hr;exact .AEj (by unfold execOp;rw[ho]) (Y5 H (GY rfl hE) (hT t ti hti) hk (hst x (by simp[yQ]) x' hx') hr)
  |_=>simp only[hk]at hr;cases hr
 |next x s=>
  rw[ho]at hr hst hE;cases s with
  |true=>cases hr
  |false=>
   obtain⟨x',hx',hr⟩:=DX hr;exact .AEj (by unfold execOp;rw[ho]) (dK (t:=o.type) H (GY rfl hE) (hst x (by simp[yQ]) x' hx') hr)
 |entry x=>
  rw[ho]at hr hst hE;obtain⟨x',hx',hr⟩:=DX hr;exact .AEj (by unfold execOp;rw[ho]) (Yv H (GY rfl hE) (hst x (by simp[yQ]) x' hx') hr)
 |typeAssert x xt t ok=>
  rw[ho]at hr hst hE;obtain⟨ti,hti,hr⟩:=Bl hr;obtain⟨x',hx',hr⟩:=DX hr;have hr2:ti.k≠.iface/\wZ ti (wZero ti λz=>oNo) F e h=.ok v h':=by
   cases hk:ti.k with
   |iface=>simp only[hk]at hr;cases hr
   |_=>simp only[hk]at hr;exact⟨nofun,hr⟩
  obtain⟨hki,hr⟩:=hr2;obtain⟨hz,hr⟩:=JA hr;unfold wZero at hr;cases hzv:zeroV ti with
  |none=>rw[hzv]at hr;cases hr
  |some z=>
   rw[hzv]at hr;exact(E5 hr).elim
 |_=>rw[ho]at hr;cases hr
end
def vF(h:Hp):R->R
 |.ok v _=>.ok v h
 |.no=>.no
def Kr(g:Hp->R):Prop:=∀b a:Hp,a.bl=b.bl->g a=vF a (g b)
def Kp(g:OpF):Prop:=∀a b,Kr (g a b)
theorem Kr.same{g:Hp->R}(k:Kr g){h h':Hp}{v:xU}(a:g h=.ok v h'):h'=h:=by
 have:=k h h rfl;rw[a]at this;have:(R.ok v h')=.ok v h:=this;cases this;rfl
theorem Kr.at{g:Hp->R}(k:Kr g){h h':Hp}{v:xU}(b:g h=.ok v h')(h2:Hp)(a:h2.bl=h.bl):g h2=.ok v h2:=by
 rw[k h h2 a,b];rfl
theorem Kr.no:Kr λ_=>.no:=λ_ _ _=>rfl
theorem Kr.ok(v:xU):Kr λh=>.ok v h:=λ_ _ _=>rfl
theorem Kr.bif{c:Bool}{a b:Hp->R}(d:Kr a)(e:Kr b):Kr λh=>bif c then a h else b h:=by
 cases c
 ·exact e
 ·exact d
theorem Kr.AEw{v:xU}{k:xU->Hp->R}(hk:∀v,Kr (k v)):Kr λh=>AEw v λv=>k v h:=by
 intro h a b;simp only[Ba];exact hk v h a b
theorem Kr.AFT{v:List xU}{k:List xU->Hp->R}(hk:∀v,Kr (k v)):Kr λh=>AFT v λv=>k v h:=by
 intro h a b;simp only[DE];exact hk v h a b
theorem Kr.AE4{v:Nat}{k:Nat->Hp->R}(hk:∀v,Kr (k v)):Kr λh=>AE4 v λv=>k v h:=by
 intro h a b;simp only[Ao];exact hk v h a b
theorem Kr.okI(k:yJ)(n:Int):Kr λh=>okI k n h:=λh a _=>by simp only[E6];rfl
theorem Kr.AF0(v:xU):Kr λh=>AF0 v h:=λh a _=>by simp only[FK];rfl
theorem Kr.okB(b:Bool):Kr λh=>okB b h:=by cases b<;>exact .ok _
theorem Kr.row{b:Nat}{k:VT->Nat->Nat->Hp->R}{z:Hp->R}(hk:∀c s e,Kr (k c s e))(f:Kr z):Kr λh=>match rowOf h b with
  |.ok c s e=>k c s e h
  |.no=>z h:=by
 intro h a d;have:rowOf a b=rowOf h b:=by unfold rowOf;rw[d]
 simp only[this];cases rowOf h b with
 |ok c s e=>exact hk c s e h a d
 |no=>exact f h a d
theorem Kr.ents{b:Nat}{k:List Ent->Nat->Hp->R}{z:Hp->R}(hk:∀c s,Kr (k c s))(e:Kr z):Kr λh=>match Bp h b with
  |.ok c s=>k c s h
  |.no=>z h:=by
 intro h a d;have:Bp a b=Bp h b:=by unfold Bp;rw[d]
 simp only[this];cases Bp h b with
 |ok c s=>exact hk c s h a d
 |no=>exact e h a d
theorem Wy{c:VT}{off:Nat}{k:List xU->Hp->R}(hk:∀l,Kr (k l))(n:Nat)(a:List xU):Kr λh=>Ua c off (λl=>k l h) n a:=by
 intro h b d;simp only[GK];exact hk _ h b d
theorem Hq{e:Env}{x:Option O}{d y:Nat}{k:Nat->Hp->R}(hk:∀n,Kr (k n)):Kr λh=>Cs e x d y λn=>k n h:=by
 unfold Cs;cases x with
 |none=>exact hk d
 |some a=>
  simp only;cases Db (a e)with
  |no=>exact .no
  |ok n=>exact .bif (hk n) .no
theorem Ok{e:Env}{l c:Nat}{lo hi g:Option O}{k:Nat->Nat->Nat->Hp->R}(hk:∀a b c,Kr (k a b c)):Kr λh=>DY e l c lo hi g λa b c=>k a b c h:=by
 unfold DY;cases g with
 |none=>exact Hq (k:=λd h=>Cs e lo 0 d λl=>k l d c h) λd=>Hq (k:=λl h=>k l d c h) λl=>hk l d c
 |some f=>
  refine Hq (k:=λf h=>_) λf=>?_
  cases hi with
  |none=>exact .no
  |some d=>exact Hq (k:=λd h=>Cs e lo 0 d λl=>k l d f h) λd=>Hq (k:=λl h=>k l d f h) λl=>hk l d f
theorem HZ{a:Option ABD}{s l c m:Nat}:Kr λh=>Bz a s l c m h:=by
 unfold Bz;refine .AE4 (k:=λd h=>_) λd=>.AE4 (k:=λb h=>_) λb=>?_
 cases yA m l with
 |true=>exact .ok _
 |false=>
  cases a with
  |none=>exact .ok _
  |some a=>
   simp only;cases yv l s with
   |zero=>exact .ok _
   |succ m=>exact .AE4 (k:=λe h=>_) λe=>.ok _
theorem RY{e:Env}{k:List xU->Hp->R}(hk:∀l,Kr (k l)):∀(ps:List (Nat×Nat×O)) (cs:List xU),Kr λh=>Et cs e (λl=>k l h) ps
 |[],cs=>by
  unfold Et;exact .AFT (k:=k) hk
 |(a,size,b)::ps,cs=>by
  unfold Et;exact .AEw (k:=λv h=>_) λv=>.bif (.bif (.bif (RY hk ps _) .no) .no) .no
theorem Nb{ok:Bool}{v:xU}{b:Bool}:Kr λh=>FC ok v b h:=by
 unfold FC;cases ok
 ·exact .AEw (k:=λv h=>_) λv=>.ok _
 ·exact .AEw (k:=λv h=>_) λv=>.ok _
theorem S5{a:ABD}{n:Nat}:Kr λh=>PW a n h:=.AE4 (k:=λb h=>_) λb=>.ok _
theorem TW{size:Nat}{v:xU}{n:Nat}{k:List xU->Hp->R}(hk:∀l,Kr (k l)):Kr λh=>BM h size v n λl=>k l h:=by
 unfold BM;cases v with
 |slice b l a=>
  cases b with
  |none=>exact hk []
  |some b=>exact .row (k:=λa c _ h=>bif yI (zV b.off (yv n size)) c then Ua a b.off (λl=>k l h) (yv n size) []else .no) (z:=λ_=>.no) (λa c _=>.bif (Wy hk _ _) .no) .no
 |string c=>exact .bif (hk _) .no
 |chan a=>
  cases a with
  |none=>exact .no
  |some d=>exact hk []
 |_=>exact .no
theorem Kp.oNo:Kp oNo:=λ_ _=>.no
theorem Kp.w1{f:Fr}{x:yW}{k:O->OpF}(hk:∀y,Kp (k y)):Kp (w1 f x k):=by
 unfold Go.Proofs.YtldjiljipddebaaGreat.w1;split
 ·exact hk _
 ·exact .oNo
theorem Kp.w2{f:Fr}{x y:yW}{k:O->O->OpF}(hk:∀x y,Kp (k x y)):Kp (w2 f x y k):=.w1 λx=>.w1 λy=>hk x y
theorem Kp.wTy{ty:TTy}{t:Nat}{k:TI->OpF}(hk:∀a,ty.get t=BY a->Kp (k a)):Kp (wTy ty t k):=by
 unfold Go.Proofs.YtldjiljipddebaaGreat.wTy;split
 ·rename_i a b;exact hk a b
 ·exact .oNo
theorem Kp.wZ{a:TI}{k:OpF}(hk:Kp k):Kp (wZ a k):=by
 unfold Go.Proofs.YtldjiljipddebaaGreat.wZ;split
 ·exact hk
 ·exact .oNo
theorem Kp.wZero{a:TI}{k:xU->OpF}(hk:∀z,Kp (k z)):Kp (wZero a k):=by
 unfold Go.Proofs.YtldjiljipddebaaGreat.wZero;split
 ·exact hk _
 ·exact .oNo
theorem Kp.wKey{ty:TTy}{t:Nat}{k:KS->OpF}(hk:∀z,Kp (k z)):Kp (wKey ty t k):=by
 unfold Go.Proofs.YtldjiljipddebaaGreat.wKey;refine .wTy λb _=>?_
 split
 ·refine .wTy λa _=>?_
  split
  ·exact hk _
  ·exact .oNo
 ·exact .oNo
section
variable {x y z:O}
theorem Nm:Kp (AP x):=λa b=>.AF0 _
theorem dL:Kp (A2 x y z):=λd a=>by
 show Kr λb=>dj (x a) (y a) (z a) b
 cases x a with
 |bool c=>cases c<;>exact .AF0 _
 |_=>exact .no
theorem PQ{zs:List xU}{ps:List (Nat×Nat×O)}:Kp (BG zs ps):=λc d=>RY (k:=λa b=>.ok (.agg ⟨a⟩) b) (λe=>.ok _) ps zs
theorem jx:Kp (Bh x):=λf c=>by
 show Kr λb=>Yo (x c) b
 unfold Yo;cases x c with
 |pointer a=>cases a;exact .no;exact .ok _
 |func d a g=>cases d<;>first|exact .ok _|exact .no
 |slice a j h=>exact .ok _
 |map i=>exact .ok _
 |iface e v=>exact .AEw (k:=λv b=>.ok (.iface e v) b) λv=>.ok _
 |_=>exact .no
theorem jl{f:Int->Int->Bool}{k:yJ}:Kp (Af f k x y):=λc a=>by
 show Kr λb=>gm f (C6 k (x a)) (C6 k (y a)) b
 cases C6 k (x a)with
 |no=>exact .no
 |ok d=>cases C6 k (y a)with
  |no=>exact .no
  |ok e=>exact .okB _
theorem je{f:Int->Int->Int}{k:yJ}:Kp (C8 f k x y):=λc a=>by
 show Kr λb=>mh f k (C6 k (x a)) (C6 k (y a)) b
 cases C6 k (x a)with
 |no=>exact .no
 |ok d=>cases C6 k (y a)with
  |no=>exact .no
  |ok e=>exact .okI _ _
theorem jc{k:yJ}{e:Nat}:Kp (CH k e x y):=λg a=>by
 show Kr λd=>fp k e (C6 k (x a)) (C6 k (y a)) d
 cases C6 k (x a)with
 |no=>exact .no
 |ok b=>cases C6 k (y a)with
  |no=>exact .no
  |ok c=>
   cases b with
   |negSucc _=>exact .okI _ _
   |ofNat b=>cases c with
    |negSucc _=>exact .okI _ _
    |ofNat c=>
     unfold fp;simp only;cases yI (zV b c) e with
     |true=>exact .AE4 (k:=λf d=>.ok (.int k (.ofNat f)) d) λf=>.ok _
     |false=>exact .okI _ _
theorem jo{k:yJ}:Kp (L8 k x y):=λc a=>by
 show Kr λb=>bH k (C6 k (x a)) (C6 k (y a)) b
 unfold bH;cases C6 k (x a)with
 |no=>exact .no
 |ok d=>cases C6 k (y a)with
  |no=>exact .no
  |ok e=>exact .bif .no (.okI _ _)
theorem j6{k:yJ}:Kp (Sk k x y):=λc a=>by
 show Kr λb=>eB k (C6 k (x a)) (C6 k (y a)) b
 unfold eB;cases C6 k (x a)with
 |no=>exact .no
 |ok d=>cases C6 k (y a)with
  |no=>exact .no
  |ok e=>exact .bif .no (.okI _ _)
theorem jj{f:Nat->Nat->Nat}{k:yJ}:Kp (LU f k x y):=λc a=>by
 show Kr λb=>Zt f k (Gy k (x a)) (Gy k (y a)) b
 unfold Zt;cases Gy k (x a)with
 |no=>exact .no
 |ok d=>cases Gy k (y a)with
  |no=>exact .no
  |ok e=>exact .bif (.bif (.okI _ _) .no) .no
theorem j8{k:yJ}:Kp (Ob k x y):=λc a=>by
 show Kr λb=>eM k (Gy k (x a)) (Db (y a)) b
 unfold eM;cases Gy k (x a)with
 |no=>exact .no
 |ok d=>cases Db (y a)with
  |no=>exact .no
  |ok e=>exact .okI _ _
theorem kA{k:yJ}:Kp (L9 k x y):=λc a=>by
 show Kr λb=>eN k (Gy k (x a)) (Db (y a)) b
 unfold eN;cases Gy k (x a)with
 |no=>exact .no
 |ok d=>cases Db (y a)with
  |no=>exact .no
  |ok e=>exact .okI _ _
theorem kC{f:List UInt8->List UInt8->Bool}:Kp (KA f x y):=λc a=>by
 show Kr λb=>ef f (x a) (y a) b
 unfold ef;cases x a with
 |string d=>cases y a with
  |string e=>exact .okB _
  |_=>exact .no
 |_=>exact .no
theorem tB{k:TK}{n:Bool}:Kp (oEq k n x y):=λb a=>by
 unfold oEq;cases eqV k (x a) (y a)with
 |some c=>exact .okB _
 |none=>exact .no
theorem XZ{k:KS}{n:Bool}:Kp (OX k n x y):=λb a=>by
 unfold OX;cases eqC k (x a) (y a)with
 |some c=>exact .okB _
 |none=>exact .no
theorem jz:Kp (DG x):=λb a=>by
 unfold DG;cases x a with
 |bool c=>exact .okB _
 |_=>exact .no
theorem cu{k:yJ}:Kp (CW k x):=λb a=>by
 unfold CW;cases Yk (x a)with
 |no=>exact .no
 |ok c=>exact .okI _ _
theorem Y7:Kp (Fw x):=λg d=>by
 unfold Fw;cases x d with
 |slice h j i=>
  refine TW (k:=λc e=>match FA c with|some a=>.ok (.string ⟨⟨a⟩⟩) e|none=>.no) λf=>?_
  cases FA f with
  |some a=>exact .ok _
  |none=>exact .no
 |chan b=>
  cases b with
  |some b=>exact .ok _
  |none=>exact .no
 |_=>exact .no
theorem Yw{t:Nat}:Kp (JT t x):=λb c=>.AEw (k:=λv a=>.ok (.iface t v) a) λv=>.ok _
theorem dC{e:Fn}{a b:List O}:Kp (EZ e a b):=λh g=>.AFT (k:=λd f=>AFT (vals g b) λc=>.ok (.func e ⟨d⟩ ⟨c⟩) f) λd=>.AFT (k:=λc f=>.ok (.func e ⟨d⟩ ⟨c⟩) f) λc=>.ok _
theorem gx{el s:Nat}{a:Option ABD}{d:Bool}{l e m:Nat}:Kr λh=>ES el s a d l e m h:=by
 unfold ES;cases d with
 |true=>exact HZ
 |false=>
  cases l with
  |zero=>exact HZ
  |succ l=>
   intro h b c;have:FG el a b=FG el a h:=by
    unfold FG;cases a with
    |none=>rfl
    |some a=>
     have:rowOf b a.block=rowOf h a.block:=by unfold rowOf;rw[c]
     simp only[this]
   simp only[this];cases FG el a h with
   |true=>exact HZ h b c
   |false=>rfl
theorem jm{el s:Nat}{lo hi a:Option O}:Kp (Dr el s x lo hi a):=λh c=>by
 unfold Dr;cases x c with
 |slice b j i=>exact Ok (k:=λf e g d=>ES el s b a.isSome f e g d) λ_ _ _=>gx
 |_=>exact .no
theorem Uz{n s:Nat}{lo hi g:Option O}:Kp (GT n s x lo hi g):=λh b=>by
 unfold GT;cases EI (x b)with
 |ok a=>exact Ok (k:=λe d f c=>Bz (BY a) s e d f c) λ_ _ _=>HZ
 |no=>exact .no
theorem OZ{o:Nat}:Kp (AE o x):=λb a=>by
 unfold AE;cases EI (x a)with
 |ok c=>exact S5
 |no=>exact .no
theorem XE{n s:Nat}{a:AA}{i:NN}:Kr λh=>NR n s a i h:=by
 unfold NR;cases i with
 |no=>exact .no
 |ok i=>
  simp only;cases yp i n with
  |false=>exact .no
  |true=>
   cases a with
   |no=>exact .no
   |ok a=>exact S5
theorem VA{n s:Nat}:Kp (Cv n s x y):=λa b=>XE
theorem jq{s:Nat}:Kp (CI s x y):=λc b=>by
 unfold CI;cases x b with
 |slice a e d=>cases a;exact .no;exact XE
 |_=>exact .no
theorem Yr:Kp (JR x y):=λe a=>by
 show Kr λb=>Km (x a) (Db (y a)) b
 unfold Km;cases Db (y a)with
 |no=>exact .no
 |ok c=>
  simp only;cases x a with
  |string d=>
   simp only;cases nth d.data.toList c with
   |some f=>exact .okI _ _
   |none=>exact .no
  |_=>exact .no
theorem Sf{i:Nat}:Kp (AU i x):=λc a=>by
 unfold AU;cases x a with
 |tuple vs=>
  simp only;cases nth vs.toList i with
  |some v=>exact .AEw (k:=λv b=>.ok v b) λv=>.ok v
  |none=>exact .no
 |_=>exact .no
theorem jf{n:Nat}:Kp (Se n x):=λc b=>by
 unfold Se;cases x b with
 |slice a e d=>cases a;exact .no;exact .bif (.ok _) .no
 |_=>exact .no
theorem dE:Kp (BZ x):=λc a=>by
 unfold BZ;cases x a with
 |slice d f e=>exact .ok _
 |chan b=>cases b;exact .no;exact .ok _
 |_=>exact .no
theorem dG:Kp (PR x):=λd b=>by
 unfold PR;cases x b with
 |string e=>exact .AE4 (k:=λa c=>.ok (.int .i64 (.ofNat a)) c) λa=>.ok _
 |_=>exact .no
theorem PL{l:Bool}{a b:xU}:Kr λh=>H9 l a b h:=by
 unfold H9;cases a with
 |int c a=>
  simp only;cases Yk b with
  |no=>exact .no
  |ok b=>exact .bif (.ok _) (.ok _)
 |_=>exact .no
theorem jv:Kp (Y4 x y):=λa b=>PL
theorem jt:Kp (VF x y):=λa b=>PL
theorem Yy:Kp (AM x):=λg d=>by
 unfold AM;cases EI (x d)with
 |no=>exact .no
 |ok a=>
  intro b c e;show AEi a c=vF c (AEi a b);have:rowOf c a.block=rowOf b a.block:=by unfold rowOf;rw[e]
  unfold AEi;rw[this];cases rowOf b a.block with
  |no=>rfl
  |ok h f i=>
   simp only;cases yp a.off f with
   |false=>rfl
   |true=>simp only[Ba];rfl
theorem Y0{n:Nat}:Kp (BC n x):=λg f=>by
 unfold BC;cases EI (x f)with
 |no=>exact .no
 |ok c=>exact .row (k:=λd e _ b=>bif yI (zV c.off n) e then Ua d c.off (λa=>.ok (.agg ⟨a⟩) b) n []else .no) (z:=λ_=>.no) (λd e _=>.bif (Wy (k:=λa b=>.ok (.agg ⟨a⟩) b) (λa=>.ok _) _ _) .no) .no
theorem VC{K:KS}{d:xU}{ok:Bool}:Kp (HQ K d ok x y):=λh a=>by
 show Kr λb=>Ig K d (x a) (y a) ok b
 unfold Ig;cases Gc K (y a)with
 |false=>exact .no
 |true=>
  simp only;cases x a with
  |map e=>
   cases e with
   |none=>exact Nb
   |some e=>
    refine .ents (k:=λc _ b=>match NH K (y a) c with
     |some (BY f)=>FC ok f.val IN b
     |some By=>FC ok d IT b
     |none=>.no) (z:=λ_=>.no) (λc _=>?_) .no
    cases NH K (y a) c with
    |none=>exact .no
    |some g=>cases g<;>exact Nb
  |_=>exact .no
end
section
variable {ty:TTy}{f:Fr}
theorem gA{op:ACS}{t:Nat}{x y:yW}:Kp (Zq ty f op t x y):=by
 unfold Zq;refine .wTy λa _=>.w2 λx y=>?_
 split
 ·split
  ·cases op<;>first|exact .oNo|exact .oNo
  ·exact .oNo
 ·cases op<;>first|exact jc|exact je|exact jo|exact j6|exact jj|exact j8|exact kA|exact jl|exact .oNo
 ·cases op<;>first|exact .oNo|exact kC|exact .oNo
 ·split
  ·cases op<;>first|exact XZ|exact .oNo
  ·exact .oNo
 ·split
  ·cases op<;>first|exact XZ|exact .oNo
  ·exact .oNo
 ·cases op<;>first|exact tB|exact .oNo
theorem tD{op:Op}(hk:kd ty op=.p\/∃x,kd ty op=.r x):Kp (opC ty f op):=by
 cases op with
 |move x=>exact .w1 λx=>Nm
 |assign x=>exact .w1 λx=>Nm
 |pick c l d=>exact .w1 λc=>.w2 λl d=>dL
 |build a H=>
  refine .wTy λb _=>.wZ ?_
  split
  ·split
   ·exact PQ
   ·exact .oNo
  ·refine .wTy λj _=>?_
   split
   ·exact PQ
   ·exact .oNo
  ·exact .oNo
 |load a x=>
  refine .wTy λb _=>.w1 λx=>?_
  split
  ·exact Y0
  ·exact Yy
 |nilCheck x=>exact .w1 λx=>jx
 |binOp op a x o J=>exact gA
 |unOp op a x=>
  refine .wTy λb _=>.w1 λx=>?_
  split<;>first|exact jz|exact .oNo|exact .oNo|exact .oNo
 |convert src p x=>
  refine .wTy λI z=>.wTy λB y=>.w1 λx=>?_
  split
  ·exact cu
  ·exact .oNo
  ·refine .wTy λj _=>?_
   split
   ·exact Y7
   ·exact .oNo
  ·rename_i q s
   exfalso
   simp only[kd]at hk;cases k:yA src p with
   |true=>simp only[k]at hk;rcases hk with hk|⟨_,hk⟩<;>cases hk
   |false=>
    have e:NV ty src=IT:=by unfold NV;rw[z];simp only[s]
    have w:H4 ty p=IN:=by unfold H4;rw[y];simp only[q]
    simp only[k,e,w]at hk;rcases hk with hk|⟨_,hk⟩<;>cases hk
  ·rename_i s q
   split
   ·rename_i k
    exfalso
    simp only[kd,k]at hk;rcases hk with hk|⟨_,hk⟩<;>cases hk
   ·exact .oNo
  ·exact .oNo
 |makeInterface a x=>
  refine .wTy λb _=>.w1 λx=>?_
  split
  ·exact .oNo
  ·exact Yw
 |makeFunc t l d=>
  show Kp (match cOs f l.toList,cOs f d.toList with
   |some u,BY c=>EZ t u c
   |_,_=>oNo)
  split
  ·exact dC
  ·exact .oNo
 |slice a x E D F=>
  refine .wTy λb _=>.w1 λx=>?_
  split
  ·split
   ·split
    ·exact .oNo
    ·exact .oNo
   ·exact .wTy λj _=>jm
   ·exact .wTy λj _=>Uz
   ·exact .oNo
  ·exact .oNo
 |fieldAddr a x h=>
  refine .wTy λb _=>.w1 λx=>?_
  split
  ·split<;>first|exact OZ|exact .oNo
  ·exact .oNo
 |field a x h=>
  refine .wTy λb _=>.w1 λx=>?_
  split
  ·split
   ·exact .wTy λm _=>.oNo
   ·exact .oNo
  ·exact .oNo
 |indexAddr a x h=>
  refine .wTy λb _=>.w2 λx o=>?_
  split
  ·exact .wTy λm _=>VA
  ·exact .wTy λm _=>jq
  ·exact .oNo
 |index a x h=>
  refine .wTy λb _=>.w2 λx o=>?_
  split
  ·exact .wTy λm _=>.oNo
  ·exact Yr
  ·exact .oNo
 |lookup a x h ok=>
  refine .wTy λb _=>.w2 λx o=>?_
  split
  ·exact .wTy λj _=>.wZ (.wZero λK=>.wKey λks=>VC)
  ·exact .oNo
 |extract a h=>exact .w1 λa=>Sf
 |sliceToArrayPointer a x=>
  refine .wTy λb _=>?_
  split
  ·exact .w1 λx=>jf
  ·exact .oNo
 |call c=>
  simp only[kd]at hk;cases n:c.callee with
  |builtin d=>
   show Kp (match cOs f c.args.toList with
    |some i=>match c.callee with
     |.builtin d=>Kv ty d c.argTypes.toList i
     |.value g=>match g with
      |.func g=>AS g i
      |g=>w1 f g λg=>B4 g i
     |.invoke A G=>w1 f A λx=>oNo
    |none=>oNo)
   split
   ·rename_i i C
    simp only[n];cases d with
    |len=>
     unfold Kv;split<;>rename_i e<;>first|(cases e;done)|skip
     all_goals (try (exact .oNo))
     split
     ·refine .wTy λb _=>?_
      split
      ·exact dE
      ·exact dG
      ·exact .oNo
      ·exact Nm
      ·exact .oNo
     ·exact .oNo
    |min=>
     unfold Kv;split<;>rename_i e<;>first|(cases e;done)|exact jv|exact .oNo
    |max=>
     unfold Kv;split<;>rename_i e<;>first|(cases e;done)|exact jt|exact .oNo
    |_=>
     exfalso
     simp only[n]at hk;cases r:c.args.toList with
     |nil=>simp only[r]at hk;rcases hk with hk|⟨_,hk⟩<;>cases hk
     |cons _ _=>simp only[r]at hk;rcases hk with hk|⟨_,hk⟩<;>cases hk
   ·exact .oNo
  |_=>
   exfalso
   simp only[n]at hk;rcases hk with hk|⟨_,hk⟩<;>cases hk
 |_=>first|exact .oNo|(exfalso;rcases hk with hk|⟨_,hk⟩<;>cases hk)
end
abbrev Rho:=Nat->Option xU
def AE6(A:List Nat)(σ:Sg)(e:Env):Rho:=λb=>match Qs A σ (.tmp b)with
 |some a=>BY (MB a e)
 |none=>By
def evR(ρ:Rho):yW->Option xU
 |.tmp b=>ρ b
 |.const v=>if Fz v then BY v else By
 |.func a=>BY (.func (.func a) #[] #[])
 |.global _=>By
theorem Er(A:List Nat)(σ:Sg)(e:Env)(t:Nat):AE6 A σ e t=match Ds t σ with
  |some a=>BY (MB a e)
  |none=>match memN t A with
   |true=>By
   |false=>match yp t 240 with
    |true=>BY (J t e)
    |false=>By:=by
 show(match Qs A σ (.tmp t)with|some a=>BY (MB a e)|none=>By)=_;show(match (match Ds t σ with|some a=>BY a|none=>match memN t A with|true=>By|false=>match yp t 240 with|true=>BY (Src.s t)|false=>By)with|some a=>BY (MB a e)|none=>By)=_;cases Ds t σ with
 |some a=>rfl
 |none=>
  cases memN t A with
  |true=>rfl
  |false=>cases yp t 240<;>rfl
theorem eZ{A:List Nat}{σ:Sg}{x:yW}{s:Src}(h:Qs A σ x=BY s)(e:Env):evR (AE6 A σ e) x=BY (MB s e):=by
 cases x with
 |tmp b=>show(match Qs A σ (.tmp b)with|some s=>BY (MB s e)|none=>By)=_;rw[h]
 |const v=>
  have h:(match Fz v with|true=>BY (Src.c v)|false=>By)=BY s:=h;cases a:Fz v with
  |true=>rw[a]at h;cases h;show(if Fz v then BY v else By)=_;rw[If a];rfl
  |false=>rw[a]at h;cases h
 |func c=>cases h;rfl
 |global _=>cases h
theorem oF{f:Fr}{x:yW}{y:O}(h:cO f x=BY y):∃s,Qs f.A f.σ x=BY s/\y=MB s:=by
 unfold cO at h;split at h
 ·rename_i s a;cases h;exact⟨s,a,rfl⟩
 ·cases h
theorem FV{A:List Nat}{σ:Sg}{x:yW}{y:O}(h:cO ⟨A,σ⟩ x=BY y)(e:Env):evR (AE6 A σ e) x=BY (y e):=by
 obtain⟨b,a,rfl⟩:=oF h;exact eZ a e
theorem Nx{φ:Phi}{v:xU}(h:Fz v=IN):AEm φ v v:=by
 unfold Fz at h;split at h
 ·rename_i a
  exact .agg (l:=a.toList) (l':=a.toList) (.plain h)
 ·exact .plain h
structure AF4 (A:List Nat)(σ:Sg):Prop where
 mem:∀p∈σ,memN p.1 A=IN
 nodup:(σ.map (·.1)).Nodup
 lt:∀p∈σ,∀n,p.2=.s n->n<240
theorem AF4.nil(A:List Nat):AF4 A [] where
 mem:=λb a=>by cases a
 nodup:=List.nodup_nil
 lt:=λb a=>by cases a
theorem Fh{a b:Nat}(h:yA a b=IT):a≠b:=λc=>by rw[c,zU]at h;cases h
theorem Ez:∀{σ:Sg} {t:Nat} {s:Src},Ds t σ=BY s->(t,s)∈σ
 |(c,e)::d,t,s,a=>by
  unfold Ds at a;split at a
  ·rename_i b
   cases a;have:=A0.1 b;subst this;exact xp
  ·exact xn _ (Ez a)
theorem FY:∀{σ:Sg} {t:Nat} {s:Src},(σ.map (·.1)).Nodup->(t,s)∈σ->Ds t σ=BY s
 |(a,f)::e,t,s,c,h=>by
  unfold Ds;rw[za,zm]at c;rcases yC.1 h with h|h
  ·cases h
   rw[zU]
  ·have:a≠t:=by
    intro d;subst d;exact c.1 (zI.2 ⟨_,h,rfl⟩)
   have b:yA a t=IT:=by
    cases b:yA a t with
    |true=>exact absurd (A0.1 b) this
    |false=>rfl
   rw[b];exact FY c.2 h
theorem Ex:∀{σ:Sg} {d:Nat},(GI d σ).Sublist σ/\∀p∈GI d σ,p.2≠.s d
 |[],d=>⟨.slnil,λp hp=>by cases hp⟩
 |(g,.s h)::e,d=>by
  obtain⟨a,b⟩:=Ex (σ:=e) (d:=d);unfold GI;split
  ·exact⟨a.cons _,b⟩
  ·rename_i f
   refine⟨a.cons_cons _,λp hp=>?_⟩;rcases yC.1 hp with rfl|hp
   ·intro c;cases c;exact Fh f rfl
   ·exact b p hp
 |(g,.c v)::e,d=>by
  obtain⟨a,b⟩:=Ex (σ:=e) (d:=d);unfold GI;refine⟨a.cons_cons _,λp hp=>?_⟩;rcases yC.1 hp with rfl|hp
  ·intro c;cases c
  ·exact b p hp
theorem HB:∀{σ:Sg} {d:Nat},(GA d σ).Sublist σ/\∀p∈GA d σ,p.1≠d
 |[],d=>⟨.slnil,λp hp=>by cases hp⟩
 |(g,f)::e,d=>by
  obtain⟨a,b⟩:=HB (σ:=e) (d:=d);unfold GA;split
  ·exact⟨a.cons _,b⟩
  ·rename_i c
   refine⟨a.cons_cons _,λp hp=>?_⟩;rcases yC.1 hp with rfl|hp
   ·exact Fh c
   ·exact b p hp
theorem AF4.sub{A:List Nat}{σ d:Sg}(h:AF4 A σ)(b:d.Sublist σ):AF4 A d:=
 ⟨λc a=>h.mem c (b.subset a),(b.map (·.1)).nodup h.nodup,λc a=>h.lt c (b.subset a)⟩
theorem AF4.alias{A:List Nat}{σ:Sg}(h:AF4 A σ){d:Nat}(e:memN d A=IN){s:Src}(g:∀n,s=.s n->n<240):AF4 A ((d,s)::GA d σ):=by
 have b:=h.sub (HB (d:=d)).1;refine⟨λa hp=>?_,?_,λa hp=>?_⟩
 ·rcases yC.1 hp with rfl|hp
  ·exact e
  ·exact b.mem a hp
 rotate_left
 ·rcases yC.1 hp with rfl|hp
  ·exact g
  ·exact b.lt a hp
 ·rw[za,zm]
  refine⟨λf=>?_,b.nodup⟩;obtain⟨a,hp,c⟩:=zI.1 f;exact(HB (d:=d)).2 a hp c
theorem lB{A:List Nat}{σ:Sg}{e:Env}(g:AF4 A σ){d:Nat}(o:memN d A=IT)(n:d<240)(v:xU){t:Nat}{u:xU}
  (h:AE6 A (GI d σ) (Env.set d v e) t=BY u):if t=d then u=v else AE6 A σ e t=BY u:=by
 rw[Er]at h;cases k:Ds t (GI d σ)with
 |some s=>
  simp only[k]at h;cases h;have b:=Ez k;have m:=Ex.1.subset b;have r:=(Ex (σ:=σ) (d:=d)).2 _ b;have j:=g.mem _ m;have w:t≠d:=by intro e;subst e;simp only at j;rw[o]at j;cases j
  rw[No w,Er,FY g.nodup m];simp only
  congr 1
  cases s with
  |c v=>rfl
  |s f=>
   have q:f≠d:=λe=>r (by rw[e])
   show J f e=J f (Env.set d v e);have a:f<240:=g.lt _ m f rfl;rw[DI f a,DI f a,Env.AEy _ _ _ _ n a,No q]
 |none=>
  simp only[k]at h;cases b:memN t A with
  |true=>simp only[b]at h;cases h
  |false=>
   simp only[b]at h;cases i:yp t 240 with
   |false=>simp only[i]at h;cases h
   |true=>
    simp only[i]at h;have a:=BV.1 i;cases h;have p:J t (Env.set d v e)=if t=d then v else e.get t:=by
     rw[DI t a,Env.AEy _ _ _ _ n a]
    rw[p];split
    ·rfl
    ·have l:Ds t σ=By:=by
      cases l:Ds t σ with
      |none=>rfl
      |some s=>
       have:=g.mem _ (Ez l);simp only at this;rw[b]at this;cases this
     rw[Er];simp only[l,b,i];rw[DI t a]
theorem ZD{A:List Nat}{σ:Sg}{e:Env}(g:AF4 A σ){d:Nat}(r:memN d A=IN)(s:Src){t:Nat}{u:xU}
  (h:AE6 A ((d,s)::GA d σ) e t=BY u):if t=d then u=MB s e else AE6 A σ e t=BY u:=by
 rw[Er]at h;by_cases b:t=d
 ·rw[If b]
  subst b;have:Ds t ((t,s)::GA t σ)=BY s:=by unfold Ds;rw[zU]
  simp only[this]at h;cases h;rfl
 ·rw[No b]
  have a:yA d t=IT:=by
   cases a:yA d t with
   |true=>exact absurd (A0.1 a).symm b
   |false=>rfl
  have k:Ds t ((d,s)::GA d σ)=Ds t (GA d σ):=by conv=>lhs;unfold Ds;rw[a]
  have l:Ds t (GA d σ)=Ds t σ:=by
   cases i:Ds t (GA d σ)with
   |some f=>exact(FY g.nodup (HB.1.subset (Ez i))).symm
   |none=>
    cases n:Ds t σ with
    |none=>rfl
    |some f=>
     have c:=Ez n;have:∀{σ:Sg},(t,f)∈σ->(t,f)∈GA d σ:=by
      intro σ c
      induction σ with
      |nil=>cases c
      |cons o w j=>
       obtain⟨p,q⟩:=o;unfold GA;rcases yC.1 c with h|h
       ·cases h
        have m:yA t d=IT:=by
         cases a:yA t d with
         |true=>exact absurd (A0.1 a) b
         |false=>rfl
        rw[m];exact xp
       ·split
        ·exact j h
        ·exact xn _ (j h)
     have:=FY (g.sub (HB (d:=d)).1).nodup (this c);rw[i]at this;cases this
  rw[k,l]at h;rw[Er];exact h
structure Eff (T:Nat->Prop)(φ:Phi)(h:Hp)(w:ya)(φ':Phi)(h':Hp)(w':ya):Prop where
 le:φ.Le φ'
 new:∀i p,φ' i=BY p->φ i=BY p\/h.next<=i
 next:h.next<=h'.next
 size:w.heap.size<=w'.heap.size
 tape:w'.tape=w.tape
 os:w'.os=w.os
 output:w'.output=w.output
 frame:∀k,k<w.heap.size->(∀i p,φ i=BY p->p.inp=IT->T i->Live h i->p.blk≠k)->w'.heap[k]? =w.heap[k]?
 back:∀i p,φ' i=BY p->Live h' i->p.blk<w.heap.size->∃j q,φ j=BY q/\Live h j/\q.blk=p.blk/\q.inp=p.inp/\(j=i\/T j)
 kept:∀i,i<h.next->¬T i->h'.bl.get i=h.bl.get i
 shape:∀i,i<h.next->AE2 (h.bl.get i) (h'.bl.get i)
 only:∀i,i<h.next->φ i=By->h'.bl.get i=h.bl.get i
 all:∀i,h.next<=i->i<h'.next->∃p,φ' i=BY p
theorem Evo.eff{φ ψ:Phi}{h h':Hp}{w w':ya}(ev:Evo φ h w ψ h' w'):Eff (λc=>h'.low<=c/\c<=h'.high) φ h w ψ h' w' where
 le:=ev.le
 new:=ev.new
 next:=ev.next
 size:=ev.size
 tape:=ev.tape
 os:=ev.os
 output:=ev.output
 frame:=λm i f=>ev.frame m i λb n d k e a j=>f b n d k ⟨e,a⟩ j
 back:=ev.back
 kept:=λb g l=>ev.kept b g (by
  rcases yM b h'.low with h|h
  ·exact .inl h
  ·rcases yM h'.high b with a|a
   ·exact .inr a
   ·exact absurd ⟨h,a⟩ l)
 shape:=ev.shape
 only:=ev.only
 all:=ev.all
theorem Eff.AGA{T:Nat->Prop}{φ ψ:Phi}{h h' g c:Hp}{w w':ya}(ev:Eff T φ h w ψ h' w')(a:g.bl=h.bl)(h2:g.next=h.next)(b:c.bl=h'.bl)(d:c.next=h'.next):Eff T φ g w ψ c w' where
 le:=ev.le
 new:=by rw[h2];exact ev.new
 next:=by rw[h2,d];exact ev.next
 size:=ev.size
 tape:=ev.tape
 os:=ev.os
 output:=ev.output
 frame:=by unfold Live;rw[a];exact ev.frame
 back:=by unfold Live;rw[a,b];exact ev.back
 kept:=by rw[a,h2,b];exact ev.kept
 shape:=by rw[a,h2,b];exact ev.shape
 only:=by rw[a,h2,b];exact ev.only
 all:=by rw[h2,d];exact ev.all
theorem Eff.evo{T:Nat->Prop}{φ ψ:Phi}{h h':Hp}{w w':ya}(ev:Eff T φ h w ψ h' w')(d:∀c,T c->h'.low<=c/\c<=h'.high)(b:h'.low<=h.low)(p:h.high<=h'.high):Evo φ h w ψ h' w' where
 le:=ev.le
 new:=ev.new
 next:=ev.next
 size:=ev.size
 tape:=ev.tape
 os:=ev.os
 output:=ev.output
 frame:=λu r o=>ev.frame u r λa g f s e b=>o a g f s (d a e).1 (d a e).2 b
 back:=λa g f b t=>by
  obtain⟨i,x,j,k,l,n,m⟩:=ev.back a g f b t;exact⟨i,x,j,k,l,n,m.imp id (d i)⟩
 kept:=λa q y=>ev.kept a q λe=>by have:=d a e;omega
 low:=b
 high:=p
 shape:=ev.shape
 only:=ev.only
 all:=ev.all
theorem AEp.AGA{ty:TTy}{φ:Phi}{b:Nat->Prop}{h g:Hp}{w:ya}(H:AEp ty φ b h w)(a:g.bl=h.bl)(h2:g.next=h.next):AEp ty φ b g w where
 dom:=by rw[h2];exact H.dom
 inj:=by unfold Live;rw[a];exact H.inj
 row:=by rw[a];exact H.row
 fresh:=by rw[a,h2];exact H.fresh
 kind:=by rw[a];exact H.kind
 inp:=H.inp
def TouchR(ty:TTy)(ρ:Rho)(b:Nat->Prop)(op:Op):Prop:=match kd ty op with
 |.p=>True
 |.a=>True
 |.r d=>∀c,evR ρ d=BY c->∀a,AE9 c=.ok a->¬b a
 |.w _=>∀a,¬b a
 |.q=>∀a,¬b a
theorem Eff.cut{T:Nat->Prop}{φ ψ:Phi}{h h':Hp}{w w':ya}(ev:Eff T φ h w ψ h' w')(f:∀i p,φ i=BY p->i<h.next):Eff (λc=>T c/\c<h.next) φ h w ψ h' w' where
 le:=ev.le
 new:=ev.new
 next:=ev.next
 size:=ev.size
 tape:=ev.tape
 os:=ev.os
 output:=ev.output
 frame:=λx r q=>ev.frame x r λi p b s a d=>q i p b s ⟨a,f i p b⟩ d
 back:=λi p b d u=>by
  obtain⟨j,k,e,l,m,o,n⟩:=ev.back i p b d u;exact⟨j,k,e,l,m,o,n.imp id λa=>⟨a,f j k e⟩⟩
 kept:=λi g t=>ev.kept i g λa=>t ⟨a,g⟩
 shape:=ev.shape
 only:=ev.only
 all:=ev.all
theorem Eff.refl(φ:Phi)(h:Hp)(w:ya):Eff (λ_=>False) φ h w φ h w where
 le:=.refl φ
 new:=λ_ _ a=>.inl a
 next:=xW _
 size:=xW _
 tape:=rfl
 os:=rfl
 output:=rfl
 frame:=λ_ _ _=>rfl
 back:=λe f a d _=>⟨e,f,a,d,rfl,rfl,.inl rfl⟩
 kept:=λ_ _ _=>rfl
 shape:=λ_ _=>.refl _
 only:=λ_ _ _=>rfl
 all:=λ_ b c=>absurd c (ABS.2 b)
def AJI(ty:TTy)(o:AAD)(b:AFI):Prop:=(kd ty o.op=.p\/∃a,kd ty o.op=.r a)\/(b≠.plain/\∀c a d,b≠.chk c a d)
structure Core (P:yx)(ty:TTy)(o:AAD)(ah:AFI)(ρ:Rho)(h h':Hp)(v:xU)(T:Nat->Prop):Prop where
 AHU:∀(φ:Phi) (E:Nat->Prop) (w:ya) (a:Act),AEp ty φ E h w->(∀x∈o.op.operands.toList,∀u,evR ρ x=BY u->AEm φ u (a.eval x))->TouchR ty ρ E o.op->
  ∀(next:Act->ya->Prop) (Q:Exit->Act->ya->Prop),(∀ψ v' w',AEm ψ v v'->AEp ty ψ E h' w'->Eff T φ h w ψ h' w'->Evo φ h w ψ h' w'->next (a.put o.dst v') w')->o.wp P a w next Q
 AHC:AJI ty o ah->h'.low<=h.low/\h.high<=h'.high/\(∀c,T c->h'.low<=c/\c<=h'.high)/\h'.mark=h.mark
 tlt:∀c,T c->c<h.next
 tp:(kd ty o.op=.p\/∃x,kd ty o.op=.r x)->(∀c,¬T c)/\h'=h
 AEv:ah=.quiet .AEv->∀c,¬T c
 weak:ah=.quiet .weak->∀c,T c->h.mark<=c
 apart:∀xs,ah=.apart xs->∀c,T c->∀y∈xs,∀u,evR ρ y=BY u->AE9 u≠.ok c
 wr:∀x xs,ah=.wr x xs->∀c,T c->∃u,evR ρ x=BY u/\AE9 u=.ok c
structure AH0 (ah:AFI)(ρ:Rho)(h:Hp):Prop where
 wrx:∀x xs,ah=.wr x xs->∀y∈xs,∀u u' b,evR ρ x=BY u->evR ρ y=BY u'->AE9 u=.ok b->AE9 u'≠.ok b
 chk:∀old x xs,ah=.chk old x xs->∀y∈xs,∀u u' b,evR ρ x=BY u->evR ρ y=BY u'->AE9 u=.ok b->AE9 u'≠.ok b
 old:∀x xs,ah=.chk IN x xs->∀u b,evR ρ x=BY u->AE9 u=.ok b->b<h.mark
 known:∀x xs,(ah=.wr x xs\/∃old,ah=.chk old x xs)->(∃u,evR ρ x=BY u)/\∀y∈xs,∃u,evR ρ y=BY u
 AGG:∀xs,ah=.apart xs->∀y∈xs,∃u,evR ρ y=BY u
structure SF (P:yx)(ty:TTy)(ops:List AAD)(o:AAD)(ah:AFI)(ρ ρ':Rho)(h h':Hp)(v:xU)(run:Bool)(T:Nat->Prop):Prop where
 slot:∀t u,ρ' t=BY u->if o.dst=BY t then u=v else ρ t=BY u
 grd:match o.guard with
  |none=>run=IN
  |some (g,want)=>∃og d c,ops[g]? =BY og/\og.dst=BY d/\ρ d=BY c/\((∃b,c=.bool b/\run=(want == b))\/(∃l,c=.tuple l/\run=IT))
 side:kd ty o.op≠.p->AH0 ah ρ h
 core:(run=IN/\Core P ty o ah ρ h h' v T)\/(run=IT/\v=AEl/\h'=h/\∀c,¬T c)
section
variable {P:yx}{ty:TTy}{F:AEh}
theorem ND(l:DO P ty)(k:Dn P ty F){A:List Nat}{σ:Sg}{e:Env}{o:AAD}{g i:Hp}{v:xU}(s:opC ty ⟨A,σ⟩ o.op F e g=.ok v i)(φ:Phi)(c:Nat->Prop)(w:ya)(a:Act)(H:AEp ty φ c g w)
  (n:∀x∈o.op.operands.toList,∀u,evR (AE6 A σ e) x=BY u->AEm φ u (a.eval x))(b:TouchR ty (AE6 A σ e) c o.op):FR P ty φ c g v i o a w:=by
 refine tE l k H (f:=⟨A,σ⟩) (e:=e) (F:=F) (λx t y h=>n x t _ (FV h e)) ?_ s;unfold Hm;unfold TouchR at b;cases d:kd ty o.op with
 |p=>trivial
 |a=>trivial
 |r x=>rw[d]at b;exact λy h j m=>b _ (FV h e) j m
 |w x=>rw[d]at b;exact b
 |q=>rw[d]at b;exact b
def IM(h:Hp):Hp:={next:=h.next,low:=h.next,high:=0,mark:=h.mark,bl:=h.bl}
theorem M4(hT:DO P ty)(hF:Dn P ty F){A:List Nat}{σ:Sg}{e:Env}{o:AAD}{ah:AFI}(hah:ah=.plain\/∃old x xs,ah=.chk old x xs){h h':Hp}{v:xU}(hr:opC ty ⟨A,σ⟩ o.op F e h=.ok v h'):∃T,Core P ty o ah (AE6 A σ e) h h' v T:=by
 have hns:ah≠.quiet .AEv:=by rcases hah with rfl|⟨_,_,_,rfl⟩<;>exact λh=>by cases h
 have hnw:ah≠.quiet .weak:=by rcases hah with rfl|⟨_,_,_,rfl⟩<;>exact λh=>by cases h
 have hnr:∀x xs,ah≠.wr x xs:=by rcases hah with rfl|⟨_,_,_,rfl⟩<;>exact λ_ _ h=>by cases h
 have hna:∀xs,ah≠.apart xs:=by rcases hah with rfl|⟨_,_,_,rfl⟩<;>exact λ_ h=>by cases h
 have hnm:¬(ah≠.plain/\∀old x xs,ah≠.chk old x xs):=by
  rcases hah with rfl|⟨_,_,_,rfl⟩
  ·exact λh=>h.1 rfl
  ·exact λh=>h.2 _ _ _ rfl
 by_cases hk:kd ty o.op=.p\/∃x,kd ty o.op=.r x
 ·have K:=tD (ty:=ty) (f:=⟨A,σ⟩) hk F e
  have hh:=K.same hr;have hr2:=K.at hr (IM h) rfl;subst hh;refine⟨λ_=>False,{AHU:=λφ E w a H hn ht next Q hnx=>?_,AHC:=λ_=>⟨xW _,xW _,λ_ h=>h.elim,rfl⟩,tlt:=λ_ h=>h.elim,tp:=λ_=>⟨λ_ h=>h,rfl⟩,AEv:=λh=>absurd h hns,weak:=λh=>absurd h hnw,apart:=λ_ h=>absurd h (hna _),wr:=λ_ _ h=>absurd h (hnr _ _)}⟩;have key:∀ψ v' w',AEm ψ v v'->AEp ty ψ E (IM h') w'->Evo φ (IM h') w ψ (IM h') w'->Eff (λ_=>False) φ h' w ψ h' w':=?_
  ·exact ND hT hF hr2 φ E w a (H.AGA rfl rfl) hn ht next Q λψ v' w' hv H' ev=>hnx ψ v' w' hv (H'.AGA rfl rfl) (key ψ v' w' hv H' ev) ((key ψ v' w' hv H' ev).evo (λ_ h=>h.elim) (xW _) (xW _))
  intro ψ v' w' hv H' ev;have e1:Eff (λc=>h'.next<=c/\c<=0) φ h' w ψ h' w':=ev.eff.AGA rfl rfl rfl rfl;have hd:∀i p,φ i=BY p->i<h'.next:=λi p e=>(H.dom i p e).1
  have e2:=e1.cut hd;exact {e2 with
   frame:=λk hk hf=>e2.frame k hk λi p e hn ht=>by omega
   back:=λi p e hl hp=>by
    obtain⟨j,q,e1,e2,e3,e5,e4⟩:=e2.back i p e hl hp;exact⟨j,q,e1,e2,e3,e5,e4.imp id λht=>by omega⟩
   kept:=λi hi _=>e2.kept i hi λht=>by omega}
 ·refine⟨λc=>(h'.low<=c/\c<=h'.high)/\c<h.next,{AHU:=λφ E w a H hn ht next Q hnx=>?_,AHC:=λh=>absurd h (λh=>h.elim hk hnm),tlt:=λ_ h=>h.2,tp:=λh=>absurd h hk,AEv:=λh=>absurd h hns,weak:=λh=>absurd h hnw,apart:=λ_ h=>absurd h (hna _),wr:=λ_ _ h=>absurd h (hnr _ _)}⟩
  exact ND hT hF hr φ E w a H hn ht next Q λψ v' w' hv H' ev=>hnx ψ v' w' hv H' (ev.eff.cut λi p e=>(H.dom i p e).1) ev
theorem HH(w:DO P ty)(t:Dn P ty F){A:List Nat}{σ:Sg}{e:Env}{o:AAD}{d:AFI}{h h' a:Hp}{v:xU}(E:opC ty ⟨A,σ⟩ o.op F e (IM h)=.ok v a)
  (i:h'.bl=a.bl)(h2:h'.next=a.next)(O:h'.low=min h.low a.low)(Q:h'.high=max h.high a.high)(s:h'.mark=h.mark)
  (G:d=.quiet .AEv->h.next<=a.low)(J:d=.quiet .weak->h.mark<=a.low)(z:∀xs,d=.apart xs->∀c,a.low<=c->c<=a.high->∀y∈xs,∀u,evR (AE6 A σ e) y=BY u->AE9 u≠.ok c)
  (K:∀x xs,d=.wr x xs->∀c,a.low<=c->c<=a.high->c<h.next->∃u,evR (AE6 A σ e) x=BY u/\AE9 u=.ok c)(C:¬(kd ty o.op=.p\/∃x,kd ty o.op=.r x)):∃T,Core P ty o d (AE6 A σ e) h h' v T:=by
 refine⟨λc=>(a.low<=c/\c<=a.high)/\c<h.next,{AHU:=λl n j r f B H next q D=>?_,AHC:=λ_=>⟨by omega,by omega,λc h=>by omega,s⟩,tlt:=λ_ h=>h.2,tp:=λh=>absurd h C,AEv:=λh c b=>?_,weak:=λh c b=>?_,apart:=λxs h c b=>z xs h c b.1.1 b.1.2,wr:=λx xs h c b=>K x xs h c b.1.1 b.1.2 b.2}⟩
 ·refine ND w t E l n j r (f.AGA rfl rfl) B H next q λm N k I p ev=>?_
  have g:Eff (λc=>a.low<=c/\c<=a.high) l h j m h' k:=ev.eff.AGA rfl rfl i h2;exact D m N k I (p.AGA i h2) (g.cut λL M e=>(f.dom L M e).1) (g.evo (λc h=>by omega) (by omega) (by omega))
 ·have:=G h;omega
 ·have:=J h;omega
end
section
variable {P:yx}{ty:TTy}{F:AEh}
structure AHD (ty:TTy)(o:AAD)(ah:AFI):Prop where
 quiet:∀m,ah=.quiet m->¬(kd ty o.op=.p\/∃x,kd ty o.op=.r x)
 wr:∀x xs,ah=.wr x xs->kd ty o.op=.w x
 chk:∀old x xs,ah=.chk old x xs->kd ty o.op=.r x
 apart:∀xs,ah=.apart xs->¬(kd ty o.op=.p\/∃x,kd ty o.op=.r x)
theorem AHD.plain(ty:TTy)(o:AAD):AHD ty o .plain:=⟨(λ_ a=>by cases a),(λ_ _ a=>by cases a),(λ_ _ _ a=>by cases a),(λ_ a=>by cases a)⟩
theorem Kw{b:Nat}{e:Env}:∀{h:List (Env->xU)},Ch b e h=IN->∀g∈h,AE9 (g e)≠.ok b
 |[],_,g,c=>by cases c
 |x::j,a,g,c=>by
  unfold Ch at a;cases d:AE9 (x e)with
  |no=>
   rw[d]at a;rcases yC.1 c with rfl|c
   ·rw[d];exact λa=>by cases a
   ·exact Kw a g c
  |ok i=>
   rw[d]at a;simp only at a;cases f:yA i b with
   |true=>rw[f]at a;cases a
   |false=>
    rw[f]at a;rcases yC.1 c with rfl|c
    ·rw[d];exact λa=>by cases a;exact Fh f rfl
    ·exact Kw a g c
theorem WD{w:Env->xU}{d:List (Env->xU)}{k:C}{e:Env}{h:Hp}{X:X}(a:Ci w d k F e h=X)(i:X≠.no):k F e h=X/\∀b,AE9 (w e)=.ok b->∀g∈d,AE9 (g e)≠.ok b:=by
 unfold Ci at a;cases f:AE9 (w e)with
 |no=>rw[f]at a;exact⟨a,λb h=>by cases h⟩
 |ok b=>
  rw[f]at a;simp only at a;cases c:Ch b e d with
  |false=>rw[c]at a;exact absurd a.symm i
  |true=>rw[c]at a;exact⟨a,λj h=>by cases h;exact Kw c⟩
theorem gI{x:O}{k:C}{e:Env}{h:Hp}{X:X}(a:Ee x k F e h=X)(f:X≠.no):k F e h=X/\∀b,AE9 (x e)=.ok b->b<h.mark:=by
 unfold Ee at a;cases d:AE9 (x e)with
 |no=>rw[d]at a;exact⟨a,λb h=>by cases h⟩
 |ok b=>
  rw[d]at a;simp only at a;cases c:yp b h.mark with
  |false=>rw[c]at a;exact absurd a.symm f
  |true=>rw[c]at a;exact⟨a,λg h=>by cases h;exact BV.1 c⟩
theorem HE{f:Fr}:∀{l:List yW} {ys:List O},cOs f l=BY ys->∀x∈l,∃y,cO f x=BY y/\y∈ys
 |[],ys,a,x,hx=>by cases hx
 |z::l,ys,a,x,hx=>by
  unfold cOs at a;split at a
  ·rename_i y e
   split at a
   ·rename_i h d
    cases a;rcases yC.1 hx with rfl|hx
    ·exact⟨y,e,xp⟩
    ·obtain⟨g,b,c⟩:=HE d x hx
     exact⟨g,b,xn _ c⟩
   ·cases a
  ·cases a
theorem Oh{e:Env}{lo hi:Nat}:∀{l:List (Env->xU)},FS e lo hi l=IN->∀g∈l,∀c,lo<=c->c<=hi->AE9 (g e)≠.ok c
 |[],_,g,d=>by cases d
 |x::m,h,g,d=>by
  have j:(∀a,AE9 (x e)=.ok a->a<lo\/hi<a)/\FS e lo hi m=IN:=by
   unfold FS at h;cases k:AE9 (x e)with
   |no=>rw[k]at h;exact⟨(λ_ h=>by cases h),h⟩
   |ok a=>
    rw[k]at h;simp only at h;cases f:yp a lo with
    |true=>rw[f]at h;exact⟨(λc b=>by cases b;exact .inl (BV.1 f)),h⟩
    |false=>
     rw[f]at h;cases i:yp hi a with
     |true=>rw[i]at h;exact⟨(λc b=>by cases b;exact .inr (BV.1 i)),h⟩
     |false=>rw[i]at h;cases h
  rcases yC.1 d with rfl|d
  ·intro c n o b
   rcases j.1 c b with h|h<;>omega
  ·exact Oh j.2 g d
theorem Ml{h a h':Hp}{v u:xU}(b:DP h v a=.ok u h'):u=v/\h'.bl=a.bl/\h'.next=a.next/\h'.low=min h.low a.low/\h'.high=max h.high a.high/\h'.mark=h.mark:=by
 unfold DP at b;rw[Ao,Ao,BU,B8]at b;cases b;exact⟨rfl,rfl,rfl,rfl,rfl,rfl⟩
theorem AH0.none{b:AFI}{ρ:Rho}{h:Hp}(c:∀x xs,b≠.wr x xs)(h2:∀old x xs,b≠.chk old x xs)(d:∀xs,b≠.apart xs):AH0 b ρ h where
 AGG:=λxs a=>absurd a (d xs)
 wrx:=λx xs a=>absurd a (c x xs)
 chk:=λold x xs a=>absurd a (h2 old x xs)
 old:=λx xs a=>absurd a (h2 IN x xs)
 known:=λx xs a=>by
  rcases a with a|⟨old,a⟩
  ·exact absurd a (c x xs)
  ·exact absurd a (h2 old x xs)
theorem Mf(B:DO P ty)(z:Dn P ty F){A:List Nat}{σ:Sg}{e:Env}{h:Hp}{o:AAD}{y:AFI}(N:AHD ty o y){R:OpF->C}{X:X}(b:HC ⟨A,σ⟩ y (opC ty ⟨A,σ⟩ o.op) R F e h=X)(q:X≠.no):
  ∃p,R p F e h=X/\(∀v h',p F e h=.ok v h'->∃T,Core P ty o y (AE6 A σ e) h h' v T)/\AH0 y (AE6 A σ e) h:=by
 cases y with
 |plain=>exact⟨_,b,λv h' a=>M4 B z (.inl rfl) a,.none (λ_ _ h=>by cases h) (λ_ _ _ h=>by cases h) (λ_ h=>by cases h)⟩
 |quiet a1=>
  refine⟨_,b,λv h' a=>?_,.none (λ_ _ h=>by cases h) (λ_ _ _ h=>by cases h) (λ_ h=>by cases h)⟩;have D:=N.quiet a1 rfl;unfold Ac at a;have a:(match opC ty ⟨A,σ⟩ o.op F e (IM h)with|.ok v h'=>bif qOk a1 h h'.low then DP h v h' else .no|.no=>.no)=.ok v h':=a;cases i:opC ty ⟨A,σ⟩ o.op F e (IM h)with
  |no=>rw[i]at a;cases a
  |ok I M=>
   rw[i]at a;obtain⟨g,a⟩:=B1 a;obtain⟨rfl,f,d,h3,h4,h5⟩:=Ml a;refine HH B z i f d h3 h4 h5 (λe=>?_) (λe=>?_) (λ_ e=>by cases e) (λ_ _ e=>by cases e) D
   ·cases e;exact As.1 g
   ·cases e;exact As.1 g
 |apart u=>
  have D:=N.apart u rfl;unfold HC at b;simp only at b;cases d:cOs ⟨A,σ⟩ u with
  |none=>simp only[d]at b;exact absurd b.symm q
  |some L=>
   simp only[d]at b;refine⟨_,b,λv h' a=>?_,{wrx:=λ_ _ h=>(by cases h),chk:=λ_ _ _ h=>(by cases h),old:=λ_ _ h=>(by cases h),known:=λ_ _ h=>(by rcases h with h|⟨_,h⟩<;>cases h),AGG:=λw c l j=>?_}⟩
   ·have a:(match opC ty ⟨A,σ⟩ o.op F e (IM h)with|.ok v h'=>bif FS e h'.low h'.high L then DP h v h' else .no|.no=>.no)=.ok v h':=a
    cases i:opC ty ⟨A,σ⟩ o.op F e (IM h)with
    |no=>rw[i]at a;cases a
    |ok I M=>
     rw[i]at a;obtain⟨g,a⟩:=B1 a;obtain⟨rfl,G,H,S,U,V⟩:=Ml a;refine HH B z i G H S U V (λe=>by cases e) (λe=>by cases e) (λw c W Y Z l j u' s n=>?_) (λ_ _ e=>by cases e) D;cases c;obtain⟨t,k,E⟩:=HE d l j;rw[FV k e]at s;cases s;exact Oh g t E W Y Z n
   ·cases c
    obtain⟨t,k,_⟩:=HE d l j;exact⟨_,FV k e⟩
 |wr K u=>
  have D:=N.wr K u rfl;unfold HC at b;simp only at b;cases f:cO ⟨A,σ⟩ K with
  |none=>simp only[f]at b;exact absurd b.symm q
  |some x=>
   cases d:cOs ⟨A,σ⟩ u with
   |none=>simp only[f,d]at b;exact absurd b.symm q
   |some L=>
    simp only[f,d]at b;obtain⟨b,O⟩:=WD b q;refine⟨_,b,λv h' a=>?_,?_⟩
    ·unfold JQ at a
     have a:(match opC ty ⟨A,σ⟩ o.op F e (IM h)with|.ok v h'=>bif JD (AE9 (x e)) h h'.low h'.high then DP h v h' else .no|.no=>.no)=.ok v h':=a;cases i:opC ty ⟨A,σ⟩ o.op F e (IM h)with
     |no=>rw[i]at a;cases a
     |ok I M=>
      rw[i]at a;obtain⟨g,a⟩:=B1 a;obtain⟨rfl,G,H,S,U,V⟩:=Ml a;refine HH B z i G H S U V (λe=>by cases e) (λe=>by cases e) (λ_ e=>by cases e) (λJ w c W Y Z c3=>?_) (by rw[D];rintro (h|⟨_,h⟩)<;>cases h);cases c;refine⟨x e,FV f e,?_⟩;unfold JD at g;cases n:AE9 (x e)with
      |no=>rw[n]at g;have g:=As.1 g;omega
      |ok m=>
       rw[n]at g;simp only at g;cases Q:yI m M.low with
       |false=>rw[Q]at g;cases g
       |true=>
        rw[Q]at g;have c4:=As.1 Q;have c5:=As.1 g
        congr 1;omega
    ·refine {wrx:=λJ w c l j I u' m r s n=>?_,chk:=λ_ _ _ h=>(by cases h),old:=λ_ _ h=>(by cases h),known:=λJ w c=>?_,AGG:=λ_ h=>(by cases h)}
     ·cases c
      obtain⟨t,k,E⟩:=HE d l j;rw[FV f e]at r;cases r;rw[FV k e]at s;cases s;exact O m n t E
     ·rcases c with c|⟨_,c⟩
      ·cases c
       exact⟨⟨_,FV f e⟩,λl j=>by obtain⟨t,k,_⟩:=HE d l j;exact⟨_,FV k e⟩⟩
      ·cases c
 |chk old K u=>
  unfold HC at b;simp only at b;cases f:cO ⟨A,σ⟩ K with
  |none=>simp only[f]at b;exact absurd b.symm q
  |some x=>
   cases d:cOs ⟨A,σ⟩ u with
   |none=>simp only[f,d]at b;exact absurd b.symm q
   |some L=>
    simp only[f,d]at b;have a0:Ci x L (R (opC ty ⟨A,σ⟩ o.op)) F e h=X/\(old=IN->∀m,AE9 (x e)=.ok m->m<h.mark):=by
     cases old with
     |true=>obtain⟨G,H⟩:=gI b q;exact⟨G,λ_=>H⟩
     |false=>exact⟨b,λh=>by cases h⟩
    obtain⟨b,O⟩:=WD a0.1 q;refine⟨_,b,λv h' a=>M4 B z (.inr ⟨_,_,_,rfl⟩) a,?_⟩;refine {wrx:=λ_ _ h=>(by cases h),chk:=λ_ J w c l j I u' m r s n=>?_,old:=λJ w c I m r n=>?_,known:=λJ w c=>?_,AGG:=λ_ h=>(by cases h)}
    ·cases c
     obtain⟨t,k,E⟩:=HE d l j;rw[FV f e]at r;cases r;rw[FV k e]at s;cases s;exact O m n t E
    ·cases c
     rw[FV f e]at r;cases r;exact a0.2 rfl m n
    ·rcases c with c|⟨_,c⟩
     ·cases c
     ·cases c
      exact⟨⟨_,FV f e⟩,λl j=>by obtain⟨t,k,_⟩:=HE d l j;exact⟨_,FV k e⟩⟩
structure Tr (P:yx)(ty:TTy)(all:List AAD)(ahs:List AFI)(l:List AAD)(ρ:Nat->Rho)(H:Nat->Hp)(V:Nat->xU)(run:Nat->Bool)(T:Nat->Nat->Prop):Prop where
 sf:∀j o,l[j]? =BY o->SF P ty all o (ahs.getD j .plain) (ρ j) (ρ (j+1)) (H j) (H (j+1)) (V j) (run j) (T j)
def RM{a:Type}(x:a)(f:Nat->a):Nat->a
 |0=>x
 |j+1=>f j
theorem Tr.cons{all:List AAD}{a:List AFI}{o:AAD}{l:List AAD}{ρ:Nat->Rho}{H:Nat->Hp}{c:Nat->xU}{f:Nat->Bool}{T:Nat->Nat->Prop}(t:Tr P ty all a.tail l ρ H c f T)
  {g:Rho}{h0:Hp}{v0:xU}{e:Bool}{T0:Nat->Prop}(s:SF P ty all o (a.headD .plain) g (ρ 0) h0 (H 0) v0 e T0):Tr P ty all a (o::l) (RM g ρ) (RM h0 H) (RM v0 c) (RM e f) (RM T0 T) where
 sf:=λb h d=>by
  cases b with
  |zero=>
   cases d;have:a.getD 0 .plain=a.headD .plain:=by cases a<;>rfl
   rw[this];exact s
  |succ b=>
   have:a.getD (b+1) .plain=a.tail.getD b .plain:=by cases a<;>rfl
   rw[this];exact t.sf b h d
theorem OB{A:List Nat}{σ:Sg}{e:Env}(b:AF4 A σ){d:Nat}(c:memN d A=IT)(f:d<240)(v:xU){o:AAD}(g:o.dst=BY d)(t:Nat)(u:xU)
  (h:AE6 A (GI d σ) (Env.set d v e) t=BY u):if o.dst=BY t then u=v else AE6 A σ e t=BY u:=by
 have:=lB b c f v h;rw[g];by_cases a:t=d
 ·rw[If a]at this;rw[If (by rw[a])];exact this
 ·rw[No a]at this;rw[No (λe=>a (Option.some.inj e).symm)];exact this
theorem Qk(hT:DO P ty)(hF:Dn P ty F){A:List Nat}{all:List AAD}{k:Sg->C}:∀(l:List AAD) (ahs:List AFI) (σ:Sg) (e:Env) (h:Hp) (X:X),(∀j o,l[j]? =BY o->AHD ty o (ahs.getD j .plain))->AF4 A σ->
  HS ty A all k ahs l σ F e h=X->X≠.no->
  ∃(ρ:Nat->Rho) (H:Nat->Hp) (V:Nat->xU) (run:Nat->Bool) (T:Nat->Nat->Prop) (σ':Sg) (e':Env),Tr P ty all ahs l ρ H V run T/\ρ 0=AE6 A σ e/\H 0=h/\ρ l.length=AE6 A σ' e'/\AF4 A σ'/\k σ' F e' (H l.length)=X
 |[],ahs,σ,e,h,X,_,hS,hr,_=>by
  refine⟨λ_=>AE6 A σ e,λ_=>h,λ_=>AEl,λ_=>IN,λ_ _=>False,σ,e,⟨λj o hj=>by cases hj⟩,rfl,rfl,rfl,hS,?_⟩;unfold HS at hr;exact hr
 |o::l,ahs,σ,e,h,X,hA,hS,hr,hn=>by
  have hA0:AHD ty o (ahs.headD .plain):=by
   have:=hA 0 o rfl;cases ahs<;>exact this
  have hA1:∀j o',l[j]? =BY o'->AHD ty o' (ahs.tail.getD j .plain):=λj o' hj=>by
   have:=hA (j+1) o' hj;cases ahs<;>exact this
  have fin:∀{σ1:Sg} {e1:Env} {h1:Hp} {v:xU} {r:Bool} {T0:Nat->Prop},AF4 A σ1->HS ty A all k ahs.tail l σ1 F e1 h1=X->
    SF P ty all o (ahs.headD .plain) (AE6 A σ e) (AE6 A σ1 e1) h h1 v r T0->
    ∃(ρ:Nat->Rho) (H:Nat->Hp) (V:Nat->xU) (run:Nat->Bool) (T:Nat->Nat->Prop) (σ':Sg) (e':Env),Tr P ty all ahs (o::l) ρ H V run T/\ρ 0=AE6 A σ e/\H 0=h/\ρ (o::l).length=AE6 A σ' e'/\AF4 A σ'/\k σ' F e' (H (o::l).length)=X:=by
   intro σ1 e1 h1 v r T0 hS1 hr1 sf;obtain⟨ρ,H,V,run,T,σ',e',t,q1,q2,q3,q4,q5⟩:=Qk hT hF l ahs.tail σ1 e1 h1 X hA1 hS1 hr1 hn;exact⟨_,_,_,_,_,σ',e',t.cons (by rw[q1,q2];exact sf),rfl,rfl,q3,q4,q5⟩
  unfold HS at hr;cases hg:o.guard with
  |none=>
   cases hd:o.dst with
   |none=>
    simp only[hg,hd]at hr;obtain⟨p,hp,AGO,AGW⟩:=Mf hT hF hA0 hr hn;unfold cDo at hp;cases hq:p F e h with
    |no=>rw[hq]at hp;exact absurd hp.symm hn
    |ok v h1=>
     rw[hq]at hp;obtain⟨T0,core⟩:=AGO v h1 hq;exact fin hS hp {slot:=λt u ht=>(by rw[hd,No (by intro h;cases h)];exact ht),grd:=(by rw[hg]),side:=λ_=>AGW,core:=.inl ⟨rfl,core⟩}
   |some d=>
    simp only[hg,hd]at hr;cases hm:memN d A with
    |true=>
     simp only[hm]at hr;cases hop:o.op with
     |move x=>
      simp only[hop]at hr;cases hs:Qs A σ x with
      |none=>simp only[hs]at hr;exact absurd hr.symm hn
      |some s=>
       simp only[hs]at hr;have hlt:∀n,s=.s n->n<240:=by
        intro n hn;subst hn;cases x with
        |tmp t=>
         have hs:(match Ds t σ with|some s=>BY s|none=>match memN t A with|true=>By|false=>match yp t 240 with|true=>BY (Src.s t)|false=>By)=BY (.s n):=hs;cases hf:Ds t σ with
         |some s'=>
          rw[hf]at hs;cases hs;exact hS.lt _ (Ez hf) n rfl
         |none=>
          rw[hf]at hs;simp only at hs;cases hm2:memN t A with
          |true=>rw[hm2]at hs;cases hs
          |false=>
           rw[hm2]at hs;simp only at hs;cases hb:yp t 240 with
           |false=>rw[hb]at hs;cases hs
           |true=>rw[hb]at hs;cases hs;exact BV.1 hb
        |const v=>
         have hs:(match Fz v with|true=>BY (Src.c v)|false=>By)=BY (.s n):=hs;cases hp:Fz v<;>rw[hp]at hs<;>cases hs
        |func g=>cases hs
        |global g=>cases hs
       have hkp:kd ty o.op=.p:=by rw[hop];rfl
       refine fin (hS.alias hm hlt) hr (v:=MB s e) (r:=IN) (T0:=λ_=>False) {slot:=λt u ht=>?_,grd:=(by rw[hg]),side:=λh=>absurd hkp h,core:=.inl ⟨rfl,?_⟩}
       ·have:=ZD hS hm s ht
        rw[hd];by_cases htd:t=d
        ·rw[If htd]at this;rw[If (by rw[htd])];exact this
        ·rw[No htd]at this;rw[No (λe=>htd (Option.some.inj e).symm)];exact this
       ·refine {AHU:=λφ E w a H hn ht next Q hnx=>?_,AHC:=λ_=>⟨xW _,xW _,λ_ h=>h.elim,rfl⟩,tlt:=λ_ h=>h.elim,tp:=λ_=>⟨λ_ h=>h,rfl⟩,AEv:=λ_ _ h=>h,weak:=λ_ _ h=>h.elim,apart:=λ_ _ _ h=>h.elim,wr:=λ_ _ _ _ h=>h.elim}
        have hv:=hn x (by rw[hop];simp[yQ]) _ (eZ hs e);have hx:execOp a.eval o=(do pure (.value (<- (pure (a.eval x):Sem xU)))):=by unfold execOp;rw[hop];rfl
        unfold ADf;rw[hx,xr,xu,xd,xu,ABp];exact hnx φ _ w hv H (.refl _ _ _) (.refl _ _ _)
     |_=>simp only[hop]at hr;exact absurd hr.symm hn
    |false=>
     simp only[hm]at hr;cases hb:yp d 240 with
     |false=>simp only[hb]at hr;exact absurd hr.symm hn
     |true=>
      simp only[hb]at hr;have hlt:=BV.1 hb;obtain⟨p,hp,AGO,AGW⟩:=Mf hT hF hA0 hr hn;unfold Tk at hp;cases hq:p F e h with
      |no=>rw[hq]at hp;exact absurd hp.symm hn
      |ok v h1=>
       rw[hq]at hp;simp only at hp;rw[EP d hlt]at hp;obtain⟨T0,core⟩:=AGO v h1 hq;exact fin (hS.sub Ex.1) hp {slot:=OB hS hm hlt v hd,grd:=(by rw[hg]),side:=λ_=>AGW,core:=.inl ⟨rfl,core⟩}
  |some gw=>
   obtain⟨g,want⟩:=gw;cases hd:o.dst with
   |none=>simp only[hg,hd]at hr;exact absurd hr.symm hn
   |some d=>
    simp only[hg,hd]at hr;cases hm:memN d A with
    |true=>simp only[hm]at hr;exact absurd hr.symm hn
    |false=>
     simp only[hm]at hr;rw[Gf]at hr;cases hog:all[g]? with
     |none=>rw[hog]at hr;exact absurd hr.symm hn
     |some og=>
      rw[hog]at hr;simp only at hr;cases hgd:og.dst with
      |none=>simp only[hgd]at hr;exact absurd hr.symm hn
      |some dg=>
       simp only[hgd]at hr;cases hcg:cO ⟨A,σ⟩ (.tmp dg)with
       |none=>simp only[hcg]at hr;exact absurd hr.symm hn
       |some gg=>
        simp only[hcg]at hr;cases hb:yp d 240 with
        |false=>simp only[hb]at hr;exact absurd hr.symm hn
        |true=>
         simp only[hb]at hr;have hlt:=BV.1 hb;obtain⟨p,hp,AGO,AGW⟩:=Mf hT hF hA0 hr hn;have hρ:AE6 A σ e dg=BY (gg e):=FV hcg e;unfold cG at hp;have AGi:FX d (λe=>HS ty A all k ahs.tail l (GI d σ) F e h) AEl e=X->(∀r:Bool,r=IT->(match o.guard with
            |none=>r=IN
            |some (g,want)=>∃og d c,all[g]? =BY og/\og.dst=BY d/\AE6 A σ e d=BY c/\((∃b,c=.bool b/\r=(want == b))\/(∃l,c=.tuple l/\r=IT))))->
           ∃(ρ:Nat->Rho) (H:Nat->Hp) (V:Nat->xU) (run:Nat->Bool) (T:Nat->Nat->Prop) (σ':Sg) (e':Env),Tr P ty all ahs (o::l) ρ H V run T/\ρ 0=AE6 A σ e/\H 0=h/\ρ (o::l).length=AE6 A σ' e'/\AF4 A σ'/\k σ' F e' (H (o::l).length)=X:=by
          intro hp AJ9;rw[EP d hlt]at hp;exact fin (hS.sub Ex.1) hp (v:=AEl) (r:=IT) (T0:=λ_=>False) {slot:=OB hS hm hlt AEl hd,grd:=AJ9 IT rfl,side:=λ_=>AGW,core:=.inr ⟨rfl,rfl,rfl,λ_ h=>h⟩}
         split at hp
         ·rename_i b hgb
          cases hwb:want == b with
          |true=>
           rw[hwb]at hp;simp only[cond_true]at hp;unfold Tk at hp;cases hq:p F e h with
           |no=>rw[hq]at hp;exact absurd hp.symm hn
           |ok v h1=>
            rw[hq]at hp;simp only at hp;rw[EP d hlt]at hp;obtain⟨T0,core⟩:=AGO v h1 hq;exact fin (hS.sub Ex.1) hp (r:=IN) {slot:=OB hS hm hlt v hd,grd:=(by rw[hg];exact⟨og,dg,_,hog,hgd,hρ,.inl ⟨b,hgb,hwb.symm⟩⟩),side:=λ_=>AGW,core:=.inl ⟨rfl,core⟩}
          |false=>
           rw[hwb]at hp;exact AGi hp λr hr=>by rw[hg];exact⟨og,dg,_,hog,hgd,hρ,.inl ⟨b,hgb,by rw[hr,hwb]⟩⟩
         ·rename_i ls hgb
          exact AGi hp λr hr=>by rw[hg];exact⟨og,dg,_,hog,hgd,hρ,.inr ⟨ls,hgb,hr⟩⟩
         ·exact absurd hp.symm hn
end
abbrev nil:Nat->Prop:=λ_=>False
structure AR (N:Nat)(φ:Phi)(ρ:Rho)(a:Act):Prop where
 size:a.tmps.size=N
 defs:a.defers=[]
 rel:∀t u,ρ t=BY u->AEm φ u (a.tmps.getD t undef)
theorem AR.ev{N:Nat}{φ:Phi}{ρ:Rho}{a:Act}(h:AR N φ ρ a){x:yW}{u:xU}(b:evR ρ x=BY u):AEm φ u (a.eval x):=by
 cases x with
 |tmp e=>exact h.rel e u b
 |const v=>
  have b:(if Fz v then BY v else By)=BY u:=b;split at b
  ·rename_i d;cases b;exact Nx d
  ·cases b
 |func c=>cases b;exact .func _ .nil .nil
 |global c=>cases b
theorem IE(a:Act)(d:Option Nat)(v:xU)(t:Nat):(a.put d v).tmps.getD t undef=if d=BY t/\t<a.tmps.size then v else a.tmps.getD t undef:=by
 cases d with
 |none=>rw[No (λb=>by cases b.1)];rfl
 |some d=>
  show(a.tmps.setIfInBounds d v).getD t undef=_;rw[yw,zY,yw];by_cases b:d=t
  ·subst b
   rw[If rfl];by_cases c:d<a.tmps.size
   ·rw[If c,If ⟨rfl,c⟩];rfl
   ·rw[No c,No (λb=>c b.2),Array.getElem?_eq_none (by omega)]
  ·rw[No b,No (λc=>b (Option.some.inj c.1))]
theorem F0(a:Act)(d:Option Nat)(v:xU):(a.put d v).tmps.size=a.tmps.size:=by
 cases d with
 |none=>rfl
 |some d=>show(a.tmps.setIfInBounds d v).size=_;simp
theorem G4(a:Act)(d:Option Nat)(v:xU):(a.put d v).defers=a.defers:=by cases d<;>rfl
theorem AR.put{N:Nat}{φ ψ:Phi}{ρ c:Rho}{a:Act}(h:AR N φ ρ a)(f:φ.Le ψ){d:Option Nat}(e:∀t,d=BY t->t<N){v v':xU}(j:AEm ψ v v')
  (g:∀t u,c t=BY u->if d=BY t then u=v else ρ t=BY u):AR N ψ c (a.put d v') where
 size:=by rw[F0];exact h.size
 defs:=by rw[G4];exact h.defs
 rel:=λt u i=>by
  have:=g t u i;rw[IE];by_cases b:d=BY t
  ·rw[If b]at this
   rw[If ⟨b,by rw[h.size];exact e t b⟩,this];exact j
  ·rw[No b]at this
   rw[No (λh=>b h.1)];exact(h.rel t u this).mono f
theorem Pp{P:yx}{ty:TTy}{all:List AAD}{o:AAD}{w:AFI}{ρ D:Rho}{h h':Hp}{v:xU}{t:Bool}{T:Nat->Prop}(s:SF P ty all o w ρ D h h' v t T){a:Act}{φ:Phi}
  (B:∀g k j d u,o.guard=BY (g,k)->all[g]? =BY j->j.dst=BY d->ρ d=BY u->AEm φ u (a.tmps.getD d undef)):ABs o (yielded all.toArray a.tmps)=t:=by
 have i:=s.grd;unfold ABs;cases l:o.guard with
 |none=>rw[l]at i;exact i.symm
 |some y=>
  obtain⟨g,k⟩:=y;rw[l]at i;obtain⟨j,d,x,p,q,z,A⟩:=i;have b:=B g k j d x l p q z;simp only;have r:yielded all.toArray a.tmps g=match a.tmps[d]? with|some (.bool f)=>BY f|_=>By:=by
   unfold yielded;have:(all.toArray[g]?).bind (·.dst)=BY d:=by rw[yV,p];exact q
   rw[this];rfl
  rw[yw]at b;rcases A with ⟨f,rfl,m⟩|⟨C,rfl,m⟩
  ·have c:=b.AFc
   cases e:a.tmps[d]? with
   |none=>rw[e]at c;cases c
   |some n=>
    rw[e]at c;have c:n=.bool f:=c;rw[r,e,c,m];cases f<;>cases k<;>rfl
  ·rw[m,r]
   cases e:a.tmps[d]? with
   |none=>rfl
   |some n=>
    rw[e]at b;have b:AEm φ (.tuple C) n:=b;cases b;rfl
structure Txt (P:yx)(ty:TTy)(N:Nat)(φ0:Phi)(ρ:Nat->Rho)(H:Nat->Hp)(V:Nat->xU)(T:Nat->Nat->Prop)(n:Nat):Prop where
 next:∀j,j<n->(H j).next<=(H (j+1)).next
 shape:∀j,j<n->∀i,i<(H j).next->AE2 ((H j).bl.get i) ((H (j+1)).bl.get i)
 kept:∀j,j<n->∀i,i<(H j).next->¬T j i->(H (j+1)).bl.get i=(H j).bl.get i
 fresh:∀j,j<=n->∀i,(H j).next<=i->(H j).bl.get i=.dead
 AH1:∀j,j<=n->∃(ψ:Phi) (w:ya) (a:Act),AEp ty ψ nil (H j) w/\AR N ψ (ρ j) a/\φ0.Le ψ/\∀i,(H 0).next<=i->i<(H j).next->∃p,ψ i=BY p
section
variable {P:yx}{ty:TTy}
theorem Qx{N:Nat}{all:List AAD}{Q:Exit->Act->ya->Prop}:∀(l:List AAD) {j:List AFI} {ρ:Nat->Rho} {H:Nat->Hp} {i:Nat->xU} {u:Nat->Bool} {T:Nat->Nat->Prop} {a:Act} {w:ya} {φ:Phi},
  Tr P ty all j l ρ H i u T->(∀o∈l,∀d,o.dst=BY d->d<N)->AEp ty φ nil (H 0) w->AR N φ (ρ 0) a->
  (Txt P ty N φ ρ H i T l.length->∀ψ a' w',AEp ty ψ nil (H l.length) w'->AR N ψ (ρ l.length) a'->Evo φ (H 0) w ψ (H l.length) w'->Q .normal a' w')->wpList P all.toArray Q l a w
 |[],j,ρ,H,i,u,T,a,w,φ,_,_,f,g,A=>by
  refine A ?_ φ a w f g (.refl _ _ _);refine {next:=λb c=>absurd c (AAn _),shape:=λb c=>absurd c (AAn _),kept:=λb c=>absurd c (AAn _),fresh:=λb c e s=>?_,AH1:=λb c=>?_}
  ·have:b=0:=ABd.1 c
   subst this;exact f.fresh e s
  ·have:b=0:=ABd.1 c
   subst this;exact⟨φ,w,a,f,g,.refl _,λe k m=>absurd m (ABS.2 k)⟩
 |o::l,j,ρ,H,i,u,T,a,w,φ,tr,D,f,g,A=>by
  have C:=tr.sf 0 o rfl;have a0:Tr P ty all j.tail l (λb=>ρ (b+1)) (λb=>H (b+1)) (λb=>i (b+1)) (λb=>u (b+1)) (λb=>T (b+1)):=
   ⟨λb U c=>by
    have:=tr.sf (b+1) U c;have y:j.getD (b+1) .plain=j.tail.getD b .plain:=by cases j<;>rfl
    rw[y]at this;exact this⟩
  have M:∀d,o.dst=BY d->d<N:=D o xp;have rest:∀ψ r w',AEm ψ (i 0) r->AEp ty ψ nil (H 1) w'->Eff (T 0) φ (H 0) w ψ (H 1) w'->Evo φ (H 0) w ψ (H 1) w'->wpList P all.toArray Q l (a.put o.dst r) w':=by
   intro ψ r w' p x eff evo;refine Qx l a0 (λo R=>D o (xn _ R)) x (g.put eff.le M p C.slot) λq ψ2 I w2 V W X=>A ?_ ψ2 I w2 V W (evo.trans X)
   refine {next:=λb c=>?_,shape:=λb c=>?_,kept:=λb c=>?_,fresh:=λb c e s=>?_,AH1:=λb c=>?_}
   ·cases b with
    |zero=>exact eff.next
    |succ b=>exact q.next b (by simpa using c)
   ·cases b with
    |zero=>exact eff.shape
    |succ b=>exact q.shape b (by simpa using c)
   ·cases b with
    |zero=>exact eff.kept
    |succ b=>exact q.kept b (by simpa using c)
   ·cases b with
    |zero=>exact f.fresh e s
    |succ b=>exact q.fresh b (by simpa using c) e s
   ·cases b with
    |zero=>exact⟨φ,w,a,f,g,.refl _,λe k m=>absurd m (ABS.2 k)⟩
    |succ b=>
     obtain⟨a1,w3,J,Y,Z,F,r4⟩:=q.AH1 b (by simpa using c);refine⟨a1,w3,J,Y,Z,eff.le.trans F,λe k m=>?_⟩;rcases yM e (H 1).next with h|h
     ·obtain⟨t,S⟩:=eff.all e k h
      exact⟨t,F e t S⟩
     ·exact r4 e h m
  have E:=Pp C (a:=a) (φ:=φ) λa4 a5 og d G _ _ _ n=>g.rel d G n
  unfold wpList;rcases C.core with ⟨B,core⟩|⟨B,p,z,hT⟩
  ·rw[E,B,If rfl]
   refine .inl (core.AHU φ nil w a f (λa6 _ G n=>g.ev n) ?_ _ _ λψ r w' p x eff evo=>rest ψ r w' p x eff evo);unfold TouchR;split<;>first|trivial|exact λ_ h=>h|exact λ_ _ _ _ h=>h
  ·rw[E,B,No (by simp)]
   have n:AEm φ (i 0) undef:=by rw[p];exact .tuple .nil
   have K:Evo φ (H 0) w φ (H 1) w:=by
    show Evo φ (H 0) w φ (H (0+1)) w;rw[z];exact .refl _ _ _
   have L:Eff (T 0) φ (H 0) w φ (H 1) w:=by
    show Eff (T 0) φ (H 0) w φ (H (0+1)) w;rw[z];exact {Eff.refl φ (H 0) w with frame:=λ_ _ _=>rfl,back:=λe t y O _=>⟨e,t,y,O,rfl,rfl,.inl rfl⟩,kept:=λ_ _ _=>rfl}
   exact rest φ undef w n (by show AEp ty φ nil (H (0+1)) w;rw[z];exact f) L K
end
end
end Go.Proofs.YtldjiljipddebaaGreat

/-
  Part ZB of what Lawnk stands on: printed by program, names and spaces cut.
-/
import Derived.Test.YtldjiljipddebaaGreatZA
import GoSem.Dispatch
import Derived.WideShapes
import Derived.Sort.Walk0
import Derived.Laws.BytesString
import Derived.DeepKeys3
open Bool renaming false→IS,true→IN
open Option renaming some→BY,none→By
open Go renaming Value→vz,IntKind→we,Operand→xE,World→xG,Program→xU,TypeId→xZ,MapEntry→xu,Oper→zA,Addr→AAG,newRow→AAb,TypeDesc→ABT,BinOp→ABn
open Nat renaming le_refl→wB,zero_add→wC,succ→wQ,beq→wU,ble→wY,lt_or_ge→wh,zero_le→wl,le_trans→wy,eq_zero_or_pos→xL,blt→xQ,mul→xW,add_zero→xy,beq_refl→yG,add→yK,mul_one→yp,not_lt_zero→zP,zero_mul→zX,succ_mul→zc,mod_eq_of_lt→zg,succ_pos→AAB,min_le_left→AAJ,not_lt→AAg,le_zero→AAt,le_of_eq→AAu,add_mul→AAv,mul_le_mul_right→ABL,one_ne_zero→ABk,mul_le_mul→ABx,le_mul_of_pos_right→ACE,add_comm→ACa,succ_ne_zero→ADA,sub_zero→ADB,le_add_right→ADE
open List renaming length_append→wD,getElem?_eq_getElem→wE,getD_eq_getElem?_getD→wG,mem_cons_of_mem→wI,mem_cons_self→wJ,length_cons→wK,mem_cons→wS,append_nil→wT,getElem?_append_left→wX,getElem?_append_right→wi,length_take→wu,mem_map→xA,getElem?_toArray→xC,getElem?_cons_zero→xN,getElem?_map→xc,getElem?_cons_succ→xh,range→xx,map_cons→yA,getElem?_eq_none→yF,nodup_cons→yO,length_eq_zero_iff→zZ,map_map→zw,filter_cons→AAf,all_cons→AAn,mapM_cons→ABI,drop_drop→ABs,map_flatten→AC0,foldl_cons→ADH,cons→ADI
open Go.Result renaming andThen_ok→wH,ok→ACn
open Go.Sem renaming run_bind→wM,run_pure→wN,run_ite→AAe
open Bool renaming and_eq_true→wV,false_eq_true→xJ,not_true→xK,not_false→xP,eq_iff_iff→yW,rec→zd,not_eq_true'→AAi,or_eq_false_iff→ACV,and_true→ADe
open Go.Op renaming operands→wm,equalIn→AAy,equal→ABj,bytesLess→AD9,intArith→AEF
open Go.Instr renaming findAsking→xS,next→yl,sliceBounds→zF,sliceAt→zG,lookup→zf,indexAt→zu,loadAt→AAE,build→AAW,buildSlice→AAa,makeSlice→AAj,sameBits→AAx,range→AA2,makeInterface→AA3,extract→ABP,mapUpdate→ABb,entry→ABc,fill→ABt,sameNow→ABy,findNow→ABz,findKey→AB0,fieldAt→AB1,arrayAt→AB2,index→ACS,keyThatStays→ACd,sliceBound→ACt,storeAt→ADT,slice→ADs,alloc→ADt
open Array renaming getD_eq_getD_getElem?→xY,ext'→yD,getElem?_setIfInBounds→yQ,all_eq_true_iff_forall_mem→yf,mem_toList_iff→yj,getElem?_modify→zq,getElem?_toList→AAl,range→AA4,toList_filter→ABE,getElem?_eq_getElem→ABo,getElem?_push_lt→AB9,getElem?_push→ACW,replicate→AC4
open Go.Value renaming int→xd,formed→ADW,bool→ADw
open Go.Builtin renaming firstCells→xe,clear_→yM,len_→yZ,nextslicecap→zH,append_→zW,growBy→AAC,zeroCells→AAI,copy_→AAQ,lenOf→ABm
open Int renaming toNat_natCast→yC,ofNat_eq_natCast→yi,rec→AAD,natCast_mul→ADS
open Option renaming map_some→yN,isSome_iff_exists→ABi,map_none→ACo
open Go.IntKind renaming i64→zV,signed→ACs,bits→ADJ,min→ADQ,max→ADR
open Go.Program renaming keyTypeAt→za,keyLits→zt,eqGuardType→AAp
open UInt8 renaming ofNat→zr,lt_iff_toNat_lt→ACC,toNat_inj→ACv
open Go.Question renaming forced→AAX
open Go.Oper renaming upon_value→AA5,wp→AC9
open Go.Region renaming wanted→ABA
open Go.Call renaming operands→ABD
open Std renaming lt_irrefl→ABG,lt_trichotomy→ACw,lt_trans→AD1
open Go.World renaming shape?→ACA,freeze→ACB
open Go.Deferred renaming ofValue→ACT
open ByteArray renaming empty→ACU
open Go.Conv renaming intToInt→ADd
open Ne renaming symm→AEG
open Go.ByteArray renaming toList_eq→AEQ
set_option linter.unusedVariables false
set_option linter.unusedSimpArgs false
namespace Go.Proofs.YtldjiljipddebaaGreat
set_option maxRecDepth 100000
noncomputable section
open Go
section
variable {P:xU}{ty:TTy}{φ:Phi}{E:Nat->Prop}{h h':Hp}{w:xG}{F:AES}{e:Env}{v:vz}
theorem Nj{b:Bool}(a:okB b h=.ok v h'):v=.bool b/\h'=h:=by cases b<;>cases a<;>exact⟨rfl,rfl⟩
theorem FE(k:we)(n:Int)(h:Hp):okI k n h=.ok (.int k n) h:=by
 cases n with
 |ofNat a=>cases a<;>rfl
 |negSucc a=>show AEn a (λa=>R.ok (.int k (.negSucc a)) h)=_;rw[Ae]
theorem F5{k:we}{n:Int}(a:okI k n h=.ok v h'):v=.int k n/\h'=h:=by
 rw[FE]at a;cases a;exact⟨rfl,rfl⟩
theorem qy(a b:Nat):iLt (.ofNat a) (.ofNat b)=xQ a b:=rfl
theorem qx(a b:Nat):iLt (.ofNat a) (.negSucc b)=IS:=rfl
theorem qv(a b:Nat):iLt (.negSucc a) (.ofNat b)=IN:=rfl
theorem qu(a b:Nat):iLt (.negSucc a) (.negSucc b)=xQ b a:=rfl
theorem qt(a b:Nat):iEq (.ofNat a) (.ofNat b)=wU a b:=rfl
theorem qr(a b:Nat):iEq (.ofNat a) (.negSucc b)=IS:=rfl
theorem qq(a b:Nat):iEq (.negSucc a) (.ofNat b)=IS:=rfl
theorem qp(a b:Nat):iEq (.negSucc a) (.negSucc b)=wU a b:=rfl
theorem DG(a b:Int):iLt a b=decide (a<b):=by
 cases a<;>cases b<;>simp only[qy,qx,qv,qu]
 ·rename_i a b
  rw[yW,BM,decide_eq_true_iff];exact Int.ofNat_lt.symm
 ·simp only[yi];symm;rw[decide_eq_false_iff_not];omega
 ·simp only[yi];symm;rw[decide_eq_true_iff];omega
 ·rename_i a b
  rw[yW,BM,decide_eq_true_iff];omega
theorem Dh(a b:Int):iEq a b=(a == b):=by
 cases a<;>cases b<;>simp only[qt,qr,qq,qp]
 ·rename_i a b
  rw[yW,Ax,beq_iff_eq];simp only[yi];omega
 ·simp only[yi];symm;rw[beq_eq_false_iff_ne];omega
 ·simp only[yi];symm;rw[beq_eq_false_iff_ne];omega
 ·rename_i a b
  rw[yW,Ax,beq_iff_eq];omega
theorem fP(k:we):((BH k:Nat):Int)<2 ^ k.bits/\(k.signed=IN->((BH k:Nat):Int)<2 ^ (k.bits - 1)):=by
 cases k<;>decide
theorem D5(k:we)(m:Nat)(h:m<=BH k):k.wrap (m:Int)=m:=by
 have b:=fP k;unfold IntKind.wrap;have e:((m:Int)) % (2 ^ k.bits:Int)=m:=Int.emod_eq_of_lt (by omega) (by omega);rw[e];simp only;rw[If];intro a;simp only[wV,decide_eq_true_eq]at a;have:=b.2 a.1;omega
theorem DS(k:we)(n:Int):E4 k n=k.wrap n:=by
 cases n with
 |ofNat a=>
  show zd (motive:=λ_=>Int) (k.wrap (.ofNat a)) (.ofNat a) (wY a (BH k))=_;cases b:wY a (BH k)with
  |false=>rfl
  |true=>exact(D5 k a (Am.1 b)).symm
 |negSucc a=>rfl
theorem IZ{a b:we}(h:F9 a b=IN):b=a:=by
 have:=Ax.1 h;cases a<;>cases b<;>first|rfl|(exact absurd this (by decide))
theorem GS{k:we}{x:vz}{n:Int}(h:Ct k x=.ok n):x=.int k n:=by
 cases x<;>first|(cases h;done)|skip
 rename_i b c;have h:zd (motive:=λ_=>NI) .no (.ok c) (F9 k b)=.ok n:=h;cases a:F9 k b with
 |false=>rw[a]at h;cases h
 |true=>rw[a]at h;cases h;rw[IZ a]
theorem jT{k:we}{x:vz}{n:Nat}(h:Gx k x=.ok n):x=.int k n:=by
 cases x<;>first|(cases h;done)|skip
 rename_i c a;have h:zd (motive:=λ_=>NN) .no (AAD (motive:=λ_=>NN) (λa=>.ok a) (λ_=>.no) a) (F9 k c)=.ok n:=h;cases b:F9 k c with
 |false=>rw[b]at h;cases h
 |true=>
  rw[b]at h;cases a with
  |ofNat a=>cases h;rw[IZ b];rfl
  |negSucc a=>cases h
theorem XR{x:vz}{n:Int}(h:Yt x=.ok n):∃k,x=.int k n:=by
 cases x<;>first|(cases h;done)|(cases h;exact⟨_,rfl⟩)
theorem jU{x:vz}{n:Nat}(h:Dj x=.ok n):∃k,x=.int k n:=by
 cases x<;>first|(cases h;done)|skip
 rename_i b a;cases a with
 |ofNat a=>cases h;exact⟨_,rfl⟩
 |negSucc a=>cases h
theorem Ig{x:vz}{a:AAG}(h:EH x=.ok a):x=.pointer (BY a):=by
 cases x<;>first|(cases h;done)|skip
 rename_i b;cases b with
 |none=>cases h
 |some a=>cases h;rfl
theorem AEX.AE6{k:we}{n:Int}{x:vz}(h:AEX φ (.int k n) x):x=.int k n:=by cases h;rfl
theorem AEX.AFP{b:Bool}{x:vz}(h:AEX φ (.bool b) x):x=.bool b:=by cases h;rfl
theorem AEX.AE8{s:ByteArray}{x:vz}(h:AEX φ (.string s) x):x=.string s:=by cases h;rfl
theorem AEX.AFb{a:AAG}{x:vz}(h:AEX φ (.pointer (BY a)) x):∃a',x=.pointer (BY a')/\AFq φ a a':=by
 cases h with|ptr h=>exact⟨_,rfl,h⟩
def CG(op:ABn)(t:xZ)(X Y:xE)(a b:vz):Sem vz:=do eqGuard op t X Y a b;binOp op t a b
theorem Fp(op:ABn)(t:xZ)(X Y:xE)(j k:we)(m n:Int):(eqGuard op t X Y (.int j m) (.int k n)).run P w=.ok () w:=by cases op<;>rfl
theorem Yr(op:ABn)(t:xZ)(X Y:xE)(m n:ByteArray):(eqGuard op t X Y (.string m) (.string n)).run P w=.ok () w:=by cases op<;>rfl
theorem Sm(H:AEZ ty φ E h w){x:O}{x':vz}(b:AEX φ (x e) x')(a:AQ x F e h=.ok v h'):Bo ty φ E h w v h' (.ok x' w):=by
 unfold AQ at a;rw[FV]at a;cases a;exact .same H b
theorem dZ(H:AEZ ty φ E h w){c a b:O}{c' a' b':vz}(hc:AEX φ (c e) c')(ha:AEX φ (a e) a')(hb:AEX φ (b e) b')(hr:A0 c a b F e h=.ok v h'):
  Bo ty φ E h w v h' ((do pure (if <- asBool c' then a' else b'):Sem vz).run P w):=by
 unfold A0 at hr;cases hce:c e with
 |bool t=>
  rw[hce]at hr hc;obtain rfl:=hc.AFP;cases t with
  |false=>
   have hr:AFp (b e) h=.ok v h':=hr;rw[FV]at hr;cases hr;exact .same H hb
  |true=>
   have hr:AFp (a e) h=.ok v h':=hr;rw[FV]at hr;cases hr;exact .same H ha
 |_=>rw[hce]at hr;cases hr
theorem pH(H:AEZ ty φ E h w){f:Int->Int->Bool}{k:we}{x y:O}{x' i:vz}(d:AEX φ (x e) x')(g:AEX φ (y e) i)(a:Aj f k x y F e h=.ok v h'):
  ∃m n,x'=.int k m/\i=.int k n/\v=.bool (f m n)/\h'=h:=by
 unfold Aj gq at a;cases b:Ct k (x e)with
 |no=>rw[b]at a;cases a
 |ok m=>
  cases c:Ct k (y e)with
  |no=>rw[b,c]at a;cases a
  |ok n=>
   rw[b,c]at a;rw[GS b]at d;rw[GS c]at g;obtain⟨j,l⟩:=Nj a;exact⟨m,n,d.AE6,g.AE6,j,l⟩
theorem Iz(H:AEZ ty φ E h w){f:Int->Int->Bool}{op:ABn}(d:(f=iEq/\op=.eql)\/(f=iNe/\op=.neq)\/(f=iLt/\op=.lss)\/(f=iLe/\op=.leq)\/(f=iGt/\op=.gtr)\/(f=iGe/\op=.geq))
  {k:we}{x y:O}{x' c:vz}{t:xZ}{X Y:xE}(i:AEX φ (x e) x')(j:AEX φ (y e) c)(g:Aj f k x y F e h=.ok v h'):Bo ty φ E h w v h' ((CG op t X Y x' c).run P w):=by
 obtain⟨a,b,rfl,rfl,rfl,rfl⟩:=pH H i j g;have key:(CG op t X Y (.int k a) (.int k b)).run P w=.ok (.bool (f a b)) w:=by
  unfold CG;rw[wM,Fp,wH];rcases d with ⟨rfl,rfl⟩|⟨rfl,rfl⟩|⟨rfl,rfl⟩|⟨rfl,rfl⟩|⟨rfl,rfl⟩|⟨rfl,rfl⟩<;>
   simp only[binOp,ne_eq,not_true_eq_false,if_false,Op.intCmp,wN,ACn.injEq,ADw.injEq,and_true,iNe,iLe,iGt,iGe,DG,Dh]
  ·rfl
  ·rw[yW];simp only[decide_eq_true_iff,AAi,decide_eq_false_iff_not];omega
  ·rw[yW];simp only[decide_eq_true_iff,AAi,decide_eq_false_iff_not];omega
 rw[key];exact .same H (.bool _)
theorem YH{k:we}{x y:O}{x' l:vz}(i:AEX φ (x e) x')(j:AEX φ (y e) l){g:Int->Int->R}{r:R}
  (c:NI.rec (motive:=λ_=>R) .no (λa=>NI.rec (motive:=λ_=>R) .no (λb=>g a b) (Ct k (y e))) (Ct k (x e))=r)(h:r≠.no):
  ∃m n,x'=.int k m/\l=.int k n/\g m n=r:=by
 cases d:Ct k (x e)with
 |no=>rw[d]at c;exact absurd c.symm h
 |ok m=>
  cases f:Ct k (y e)with
  |no=>rw[d,f]at c;exact absurd c.symm h
  |ok n=>
   rw[d,f]at c;rw[GS d]at i;rw[GS f]at j;exact⟨m,n,i.AE6,j.AE6,c⟩
theorem Xf(H:AEZ ty φ E h w){f:Int->Int->Int}{op:ABn}(g:(f=Int.sub/\op=.sub)\/(f=Int.mul/\op=.mul))
  {k:we}{x y:O}{x' c:vz}{t:xZ}{X Y:xE}(j:AEX φ (x e) x')(l:AEX φ (y e) c)(i:C7 f k x y F e h=.ok v h'):Bo ty φ E h w v h' ((CG op t X Y x' c).run P w):=by
 obtain⟨a,b,rfl,rfl,d⟩:=YH j l i (by intro h;cases h);obtain⟨rfl,rfl⟩:=F5 d;have key:(CG op t X Y (.int k a) (.int k b)).run P w=.ok (.int k (E4 k (f a b))) w:=by
  unfold CG;rw[wM,Fp,wH,DS];rcases g with ⟨rfl,rfl⟩|⟨rfl,rfl⟩<;>
   simp only[binOp,ne_eq,not_true_eq_false,if_false,AEF,wN]<;>rfl
 rw[key];exact .same H (.int _ _)
theorem AFa{k:we}{a b:Int}(c:AAD (motive:=λ_=>R) (λx=>AAD (motive:=λ_=>R)
   (λy=>zd (motive:=λ_=>R) (okI k (k.wrap (a+b)) h) (AEn (yK x y) λn=>.ok (.int k (.ofNat n)) h) (wY (yK x y) (BH k)))
   (λ_=>okI k (E4 k (a+b)) h) b)
   (λ_=>okI k (E4 k (a+b)) h) a=.ok v h'):v=.int k (k.wrap (a+b))/\h'=h:=by
 cases a with
 |negSucc a=>
  have:=F5 c;rw[DS]at this;exact this
 |ofNat a=>
  cases b with
  |negSucc b=>have:=F5 c;rw[DS]at this;exact this
  |ofNat b=>
   simp only at c;cases d:wY (yK a b) (BH k)with
   |false=>rw[d]at c;exact F5 c
   |true=>
    rw[d]at c;simp only[Ae]at c;cases c;refine⟨?_,rfl⟩;have:=D5 k (a+b) (Am.1 d);simp only[yi];rw[<- Int.natCast_add,this];rfl
theorem ja(H:AEZ ty φ E h w){k:we}{x y:O}{x' c:vz}{t:xZ}{X Y:xE}(g:AEX φ (x e) x')(i:AEX φ (y e) c)(f:CO k (BH k) x y F e h=.ok v h'):
  Bo ty φ E h w v h' ((CG .add t X Y x' c).run P w):=by
 obtain⟨a,b,rfl,rfl,d⟩:=YH g i f (by intro h;cases h);obtain⟨rfl,rfl⟩:=AFa d;have key:(CG .add t X Y (.int k a) (.int k b)).run P w=.ok (.int k (k.wrap (a+b))) w:=by
  unfold CG;rw[wM,Fp,wH];simp only[binOp,ne_eq,not_true_eq_false,if_false,AEF,wN]
 rw[key];exact .same H (.int _ _)
theorem SA{n:Int}(a:iEq n 0=IS):n≠0:=by
 rw[Dh]at a;simpa using a
theorem jm(H:AEZ ty φ E h w){k:we}{x y:O}{x' i:vz}{t:xZ}{X Y:xE}(d:AEX φ (x e) x')(f:AEX φ (y e) i)(a:MC k x y F e h=.ok v h'):
  Bo ty φ E h w v h' ((CG .quo t X Y x' i).run P w):=by
 unfold MC bV at a;split at a
 case h_2=>cases a
 rename_i g j;split at a
 case h_2=>cases a
 rename_i c l;rw[GS j]at d;rw[GS l]at f;obtain rfl:=d.AE6;obtain rfl:=f.AE6;cases b:iEq c 0 with
 |true=>rw[b]at a;cases a
 |false=>
  rw[b]at a;obtain⟨rfl,rfl⟩:=F5 a;have key:(CG .quo t X Y (.int k g) (.int k c)).run P w=.ok (.int k (E4 k (g.tdiv c))) w:=by
   unfold CG;rw[wM,Fp,wH,DS];simp only[binOp,ne_eq,not_true_eq_false,if_false,Op.intDiv,SA b,wN]
  rw[key];exact .same H (.int _ _)
theorem jz(H:AEZ ty φ E h w){k:we}{x y:O}{x' i:vz}{t:xZ}{X Y:xE}(d:AEX φ (x e) x')(f:AEX φ (y e) i)(a:QP k x y F e h=.ok v h'):
  Bo ty φ E h w v h' ((CG .rem t X Y x' i).run P w):=by
 unfold QP eQ at a;split at a
 case h_2=>cases a
 rename_i g j;split at a
 case h_2=>cases a
 rename_i c l;rw[GS j]at d;rw[GS l]at f;obtain rfl:=d.AE6;obtain rfl:=f.AE6;cases b:iEq c 0 with
 |true=>rw[b]at a;cases a
 |false=>
  rw[b]at a;obtain⟨rfl,rfl⟩:=F5 a;have key:(CG .rem t X Y (.int k g) (.int k c)).run P w=.ok (.int k (g.tmod c)) w:=by
   unfold CG;rw[wM,Fp,wH];simp only[binOp,ne_eq,not_true_eq_false,if_false,Op.intDiv,SA b,wN]
  rw[key];exact .same H (.int _ _)
theorem jx(H:AEZ ty φ E h w){x:O}{x':vz}(b:AEX φ (x e) x')(a:Dq x F e h=.ok v h'):Bo ty φ E h w v h' ((Op.unary .not x').run P w):=by
 unfold Dq at a;split at a
 ·rename_i d c
  rw[c]at b;obtain rfl:=b.AFP;obtain⟨rfl,rfl⟩:=Nj a;exact .same H (.bool _)
 ·cases a
theorem dN(H:AEZ ty φ E h w){k:we}{x:O}{x':vz}(b:AEX φ (x e) x')(a:C5 k x F e h=.ok v h'):
  ∃q n,x'=.int q n/\Bo ty φ E h w v h' ((ADd k n).run P w):=by
 unfold C5 at a;split at a
 ·rename_i n c
  obtain⟨q,d⟩:=XR c;rw[d]at b;obtain rfl:=b.AE6;obtain⟨rfl,rfl⟩:=F5 a;rw[DS];exact⟨q,n,rfl,.same H (.int _ _)⟩
 ·cases a
end
section
variable {P:xU}{ty:TTy}{φ:Phi}{E:Nat->Prop}{h h':Hp}{w:xG}{F:AES}{e:Env}{v:vz}
def Kl:we->Nat
 |.i8=>7|.i16=>15|.i32=>31|.i64=>63|.u8=>8|.u16=>16|.u32=>32|.u64=>64
theorem Tf(k:we):BH k+1=2 ^ Kl k:=by cases k<;>rfl
theorem VX(k:we):Kl k<=k.bits:=by cases k<;>decide
theorem O9{k:we}{a:Nat}(d:a<=BH k):(BitVec.ofInt k.bits (a:Int)).toNat=a:=by
 have b:=Tf k;have c:2 ^ Kl k<=2 ^ k.bits:=Nat.pow_le_pow_right (by omega) (VX k);rw[BitVec.ofInt_natCast,BitVec.toNat_ofNat,zg (by omega)]
theorem FW{x:O}{x':vz}(a:AEX φ (x e) x'){n:Nat}(h:Dj (x e)=.ok n):∃k,x'=.int k n:=by
 obtain⟨k,b⟩:=jU h;rw[b]at a;exact⟨k,a.AE6⟩
theorem KE{k:we}{x:O}{x':vz}(a:AEX φ (x e) x'){n:Nat}(h:Gx k (x e)=.ok n):x'=.int k n:=by
 rw[jT h]at a;exact a.AE6
theorem QL(H:AEZ ty φ E h w){f:Nat->Nat->Nat}{op:ABn}(o:(f=Nat.land/\op=.and)\/(f=Nat.lor/\op=.or)\/(f=Nat.xor/\op=.xor))
  {k:we}{x y:O}{x' i:vz}{t:xZ}{X Y:xE}(p:AEX φ (x e) x')(q:AEX φ (y e) i)(a:LY f k x y F e h=.ok v h'):Bo ty φ E h w v h' ((CG op t X Y x' i).run P w):=by
 unfold LY Z9 at a;split at a
 case h_2=>cases a
 rename_i b m;split at a
 case h_2=>cases a
 rename_i c n;obtain⟨d,a⟩:=Bx a;obtain⟨g,a⟩:=Bx a;obtain rfl:=KE p m;obtain rfl:=KE q n;obtain⟨rfl,rfl⟩:=F5 a;have d:=Am.1 d;have g:=Am.1 g;have j:=O9 d;have l:=O9 g;have r:=Tf k;have key:(CG op t X Y (.int k b) (.int k c)).run P w=.ok (.int k (.ofNat (f b c))) w:=by
  unfold CG;rw[wM,Fp,wH];rcases o with ⟨rfl,rfl⟩|⟨rfl,rfl⟩|⟨rfl,rfl⟩<;>
   simp only[binOp,ne_eq,not_true_eq_false,if_false,Op.intBits,wN,BitVec.toNat_and,BitVec.toNat_or,BitVec.toNat_xor,j,l]
  ·have:b &&& c<=BH k:=wy Nat.and_le_left d
   rw[D5 k _ this];rfl
  ·have:b ||| c<2 ^ Kl k:=Nat.or_lt_two_pow (by omega) (by omega)
   rw[D5 k _ (by omega)];rfl
  ·have:b ^^^ c<2 ^ Kl k:=Nat.xor_lt_two_pow (by omega) (by omega)
   rw[D5 k _ (by omega)];rfl
 rw[key];exact .same H (.int _ _)
theorem Rv(op:ABn)(c:op=.shl\/op=.shr)(t:xZ)(X Y:xE)(a b:vz):(eqGuard op t X Y a b).run P w=.ok () w:=by
 rcases c with rfl|rfl<;>rfl
theorem j6(H:AEZ ty φ E h w){k:we}{x y:O}{x' d:vz}{t:xZ}{X Y:xE}(i:AEX φ (x e) x')(j:AEX φ (y e) d)(a:OJ k x y F e h=.ok v h'):
  Bo ty φ E h w v h' ((CG .shl t X Y x' d).run P w):=by
 unfold OJ ed at a;split at a
 case h_2=>cases a
 rename_i c f;split at a
 case h_2=>cases a
 rename_i b g;obtain rfl:=KE i f;obtain⟨l,rfl⟩:=FW j g;obtain⟨rfl,rfl⟩:=F5 a;have key:(CG .shl t X Y (.int k c) (.int l b)).run P w=.ok (.int k (k.wrap (.ofNat (c*2 ^ (min b k.bits))))) w:=by
  unfold CG;rw[wM,Rv _ (.inl rfl),wH];have:¬((b:Int)<0):=by omega
  simp only[binOp,Op.shift,this,if_false,wN,yC];simp
 rw[key,DS,BV];exact .same H (.int _ _)
theorem j8(H:AEZ ty φ E h w){k:we}{x y:O}{x' d:vz}{t:xZ}{X Y:xE}(j:AEX φ (x e) x')(l:AEX φ (y e) d)(a:MD k x y F e h=.ok v h'):
  Bo ty φ E h w v h' ((CG .shr t X Y x' d).run P w):=by
 unfold MD ee at a;split at a
 case h_2=>cases a
 rename_i c g;split at a
 case h_2=>cases a
 rename_i b i;obtain rfl:=KE j g;obtain⟨m,rfl⟩:=FW l i;obtain⟨rfl,rfl⟩:=F5 a;have key:(CG .shr t X Y (.int k c) (.int m b)).run P w=.ok (.int k (.ofNat (c/2 ^ (min b k.bits)))) w:=by
  unfold CG;rw[wM,Rv _ (.inr rfl),wH];have:¬((b:Int)<0):=by omega
  simp only[binOp,Op.shift,this,if_false,wN,yC]
  congr 2
  have f:((2:Int) ^ min b k.bits)=((2 ^ min b k.bits:Nat):Int):=by simp
  rw[f,Int.fdiv_eq_ediv_of_nonneg _ (Int.natCast_nonneg _)];rfl
 rw[key,BV];exact .same H (.int _ _)
theorem Mq:∀x y:List UInt8,bEq x y=(x == y)
 |[],[]=>rfl
 |[],_::_=>rfl
 |_::_,[]=>rfl
 |a::x,c::y=>by
  have d:=Mq x y;unfold bEq;rw[d,List.cons_beq_cons];cases b:wU a.toNat c.toNat with
  |true=>
   have:a=c:=ACv.1 (Ax.1 b);simp[this]
  |false=>
   have:a≠c:=λh=>by rw[h]at b;rw[yG]at b;cases b
   simp[this]
theorem Z5:∀x y:List UInt8,bLt x y=AD9 x y
 |[],[]=>rfl
 |[],_::_=>rfl
 |_::_,[]=>rfl
 |a::x,b::y=>by
  have f:=Z5 x y;unfold bLt AD9;rw[f];cases d:xQ a.toNat b.toNat with
  |true=>
   have:a<b:=ACC.2 (BM.1 d);simp[this]
  |false=>
   have:¬a<b:=λh=>by rw[BM.2 (ACC.1 h)]at d;cases d
   cases c:wU a.toNat b.toNat with
   |true=>
    have:a=b:=ACv.1 (Ax.1 c);simp[this]
   |false=>
    have e:a≠b:=λh=>by rw[h]at c;rw[yG]at c;cases c
    simp[this,e]
theorem vg{f:List UInt8->List UInt8->Bool}{x y:O}{x' i:vz}(d:AEX φ (x e) x')(g:AEX φ (y e) i)(c:KM f x y F e h=.ok v h'):
  ∃a b,x'=.string a/\i=.string b/\v=.bool (f a.data.toList b.data.toList)/\h'=h:=by
 unfold KM fF at c;split at c
 case h_2=>cases c
 rename_i a j;split at c
 case h_2=>cases c
 rename_i b k;rw[j]at d;rw[k]at g;obtain⟨l,m⟩:=Nj c;exact⟨a,b,d.AE8,g.AE8,l,m⟩
theorem I2(H:AEZ ty φ E h w){f:List UInt8->List UInt8->Bool}{op:ABn}
  (i:(f=bEq/\op=.eql)\/(f=(λa b=> !bEq a b)/\op=.neq)\/(f=bLt/\op=.lss)\/(f=(λa b=>bLt b a)/\op=.gtr)\/(f=(λa b=> !bLt b a)/\op=.leq)\/(f=(λa b=> !bLt a b)/\op=.geq))
  {x y:O}{x' g:vz}{t:xZ}{X Y:xE}(k:AEX φ (x e) x')(l:AEX φ (y e) g)(j:KM f x y F e h=.ok v h'):Bo ty φ E h w v h' ((CG op t X Y x' g).run P w):=by
 obtain⟨a,b,rfl,rfl,rfl,rfl⟩:=vg k l j;have key:(CG op t X Y (.string a) (.string b)).run P w=.ok (.bool (f a.data.toList b.data.toList)) w:=by
  unfold CG;rw[wM,Yr,wH];rcases i with ⟨rfl,rfl⟩|⟨rfl,rfl⟩|⟨rfl,rfl⟩|⟨rfl,rfl⟩|⟨rfl,rfl⟩|⟨rfl,rfl⟩<;>
   simp only[binOp,Op.stringOp,wN,ACn.injEq,ADw.injEq,and_true,Mq,Z5,AEQ]
  all_goals
   rw[bytesLess_eq,bytesLess_eq,yW];simp only[AAi,ACV,Bool.or_eq_true,decide_eq_true_iff,decide_eq_false_iff_not,beq_iff_eq,beq_eq_false_iff_ne]
  ·constructor
   ·rintro⟨c,d⟩
    rcases ACw a.data.toList b.data.toList with h|h|h
    ·exact absurd h c
    ·exact absurd h d
    ·exact h
   ·intro h
    exact⟨λd=>absurd (AD1 h d) (ABG),λd=>by rw[d]at h;exact ABG h⟩
  ·constructor
   ·rintro (c|c) h
    ·exact ABG (AD1 h c)
    ·rw[c]at h;exact ABG h
   ·intro c
    rcases ACw a.data.toList b.data.toList with h|h|h
    ·exact .inl h
    ·exact .inr h
    ·exact absurd h c
 rw[key];exact .same H (.bool _)
theorem M6{a:ByteArray}{l:List UInt8}(h:a.data.toList=l):a=⟨⟨l⟩⟩:=by
 cases a;rename_i b;cases b;simp at h;rw[h]
end
section
variable {P:xU}{ty:TTy}{φ:Phi}{E:Nat->Prop}{h h':Hp}{w:xG}{F:AES}{e:Env}{v:vz}
theorem GI{x:O}{x':vz}(b:AEX φ (x e) x'){a:AAG}(h:EH (x e)=.ok a):∃a',x'=.pointer (BY a')/\AFq φ a a':=by
 rw[Ig h]at b;exact b.AFb
theorem G8(a:AAG):(Instr.sureAddr (.pointer (BY a))).run P w=.ok a w:=rfl
theorem ZJ(H:AEZ ty φ E h w){x:O}{x':vz}{t:xZ}{ti:TI}(T:AEx P t ti)(d:ti.k.agg=IS)(l:AEX φ (x e) x')
  (g:∀a,x e=.pointer (BY a)->¬E a.block)(b:AO x F e h=.ok v h'):Bo ty φ E h w v h' ((AAE t x').run P w):=by
 unfold AO at b;cases c:EH (x e)with
 |no=>rw[c]at b;cases b
 |ok a=>
  rw[c]at b;obtain⟨f,rfl,j⟩:=GI l c;obtain⟨rfl,m,i,k⟩:=SV H b j (g a (Ig c));have key:(AAE t (.pointer (BY f))).run P w=.ok m w:=by
   simp only[AAE,wM,G8,wH,loadVar,T.agg,d,run_load,i,xJ,if_false]
  rw[key];exact .same H k
theorem SW(H:AEZ ty φ E h w){n:Nat}{a a':AAG}(b:loadN n a h=.ok v h')(d:AFq φ a a')(c:¬E a.block):
  h'=h/\∃l,AEX φ v (.agg ⟨l⟩)/\(loadCells a' n).run P w=.ok l.toArray w:=by
 unfold loadN at b;split at b
 case h_2=>cases b
 rename_i j m k g;obtain⟨e,b⟩:=Bx b;rw[GO,wT]at b;cases b;obtain⟨l,f,_,i,_⟩:=SX H d c g (Am.1 e);exact⟨rfl,l,.agg f,i w rfl⟩
theorem ZL(H:AEZ ty φ E h w){x:O}{x':vz}{t:xZ}{ti:TI}(T:AEx P t ti)(d:ti.k.agg=IN)(l:AEX φ (x e) x')
  (g:∀a,x e=.pointer (BY a)->¬E a.block)(b:BK ti.size x F e h=.ok v h'):Bo ty φ E h w v h' ((AAE t x').run P w):=by
 unfold BK at b;split at b
 case h_2=>cases b
 rename_i a c;obtain⟨f,rfl,i⟩:=GI l c;obtain⟨rfl,m,k,j⟩:=SW (P:=P) H b i (g a (Ig c));have key:(AAE t (.pointer (BY f))).run P w=.ok (.agg m.toArray) w:=by
  simp only[AAE,wM,G8,wH,loadVar,T.agg,d,T.size,j,if_true,wN]
 rw[key];exact .same H k
def Zv(ty:TTy)(φ:Phi)(E:Nat->Prop)(h:Hp)(w:xG)(v:vz)(h':Hp)(r:Result Unit):Prop:=
 v=AEU/\∃a,r=.ok () a/\AEZ ty φ E h' a/\Evo φ h w φ h' a
theorem Qf{a:AAG}{u:vz}{k:Hp->R}(b:C3 a (cellsOf u) h k=.ok v h'):known u=IN:=by
 cases u<;>first|rfl|skip
 rename_i d;cases d with
 |some i=>rfl
 |none=>
 exfalso
 unfold C3 at b;cases c:rowOf h a.block with
 |no=>rw[c]at b;cases b
 |ok g j e=>
  rw[c]at b;simp only at b;obtain⟨_,b⟩:=Bx b;have f:=(Bx b).1;cases f
theorem ZP(H:AEZ ty φ E h w){x y:O}{x' c:vz}{t:xZ}{ti:TI}(T:AEx P t ti)(o:AEX φ (x e) x')(p:AEX φ (y e) c)
  (i:∀a,x e=.pointer (BY a)->¬E a.block)(b:Ad ti.size x y F e h=.ok v h'):Zv ty φ E h w v h' ((ADT t x' c).run P w):=by
 unfold Ad at b;split at b
 case h_2=>cases b
 rename_i a d;obtain⟨q,rfl,l⟩:=GI o d;rw[BR]at b;obtain⟨j,b⟩:=Bx b;have f:=LD p (Qf b);obtain⟨r,w1,k,m,g,ev⟩:=JA (P:=P) H b l f (i a (Ig d));cases k;refine⟨rfl,w1,?_,g,ev⟩;have n:c.cells.size=ti.size:=by
  have:=f.length;rw[<- Ax.1 j,Bf,<- this];simp
 simp only[ADT,wM,G8,wH,storeVar,T.size,n,ne_eq,not_true_eq_false,if_false,m,wN]
theorem jv(H:AEZ ty φ E h w){x:O}{x':vz}(a:AEX φ (x e) x')(d:Bg x F e h=.ok v h'):
  AEX φ v x'/\h'=h/\(x'≠.pointer By/\x'≠.nilIface/\x'≠.nilFunc/\∀l f c,x'≠.func (.method l) f c):=by
 unfold Bg Y8 at d;split at d
 ·rename_i g b
  cases d;rw[b]at a;obtain⟨m,rfl,k⟩:=a.AFb;exact⟨.ptr k,rfl,by simp⟩
 ·rename_i f g n b
  cases d;rw[b]at a;cases a with|func o i j=>exact⟨.func _ i j,rfl,by simp⟩
 ·rename_i g q c b
  cases d;rw[b]at a;refine⟨a,rfl,?_⟩;cases a<;>simp
 ·rename_i p b
  cases d;rw[b]at a;refine⟨a,rfl,?_⟩;cases a<;>simp
 ·rename_i r s b
  rw[BR]at d;cases d;rw[b]at a;refine⟨a,rfl,?_⟩;cases a<;>simp
 ·cases d
theorem HQ(H:AEZ ty φ E h w){cs cs':List vz}{k:Nat->Hp->R}(g:newRow h 0 cs k=.ok v h')(b:AEp φ cs cs')(t:xZ):
  ∃a ψ,k h.next a=.ok v h'/\ψ h.next=BY {blk:=w.heap.size,off:=0,sz:=cs.length,room:=cs.length,es:=1}/\
   AEZ ty ψ E a {w with heap:=w.heap.push (.cells ⟨cs'⟩ t)}/\Evo φ h w ψ a {w with heap:=w.heap.push (.cells ⟨cs'⟩ t)}:=by
 have c:=b.length;obtain⟨a,f,d,ev⟩:=O5 (cs':=⟨cs'⟩) (t:=t) (fr:=(0,0)) (w':={w with heap:=w.heap.push (.cells ⟨cs'⟩ t)})
  (p:={blk:=w.heap.size,off:=0,sz:=cs.length,room:=cs.length,es:=1}) H g (by simp[c]) ⟨rfl,.inl ⟨rfl,rfl,rfl,.inl rfl⟩⟩ (by simp[c]) (.inl rfl)
  (λi j e=>by simpa using b.get i j e) rfl rfl rfl rfl
 exact⟨a,_,f,Phi.AFJ _ _ _,d,ev⟩
theorem QY{ψ:Phi}{n:Nat}{p:Pl}(b:ψ n=BY p)(a:p.off=0):AEX ψ (.pointer (BY ⟨n,0,By⟩)) (.pointer (BY ⟨p.blk,0,By⟩)):=
 .ptr ⟨rfl,rfl,p,b,rfl,by simp[a]⟩
theorem jh(H:AEZ ty φ E h w){x:O}{x':vz}{t:xZ}(g:AEX φ (x e) x')(a:CT x F e h=.ok v h'):Bo ty φ E h w v h' ((Instr.box t x').run P w):=by
 unfold CT at a;rw[BR]at a;obtain⟨d,a⟩:=Bx a;obtain⟨j,i,c,f,b,ev⟩:=HQ H a (LD g d) t;cases c;exact⟨_,_,i,rfl,QY f rfl,b,ev⟩
theorem ZA(H:AEZ ty φ E h w){t:xZ}{ti:TI}(T:AEx P t ti){c:VT}(a:ti.zero.length=ti.size)(f:Bt .mt 0 ti.zero=BY c)(j:Bc ti.size c F e h=.ok v h'):
  Bo ty φ E h w v h' ((ADt t IN (.tuple #[])).run P w):=by
 obtain⟨o,_,n,l,m⟩:=T.AFe a;have k:newRow h 0 ti.zero Jd=.ok v h':=by
  unfold newRow CP;rw[f];simp only[Ae,Bf,a];exact j
 obtain⟨q,p,g,i,b,ev⟩:=HQ H k (.plain m) t;cases g;refine⟨_,_,p,?_,QY i rfl,b,ev⟩;have d:(⟨ti.zero⟩:Array vz)=o.cells:=by rw[<- l]
 simp only[ADt,wM,n,wH,newVar,AAb,run_newObj,wN,d]
theorem S5(H:AEZ ty φ E h w){a a':AAG}{n:Nat}(d:AFq φ a a')(b:PD a n h=.ok v h'):h'=h/\AEX φ v (.pointer (BY (a'.add n))):=by
 unfold PD at b;rw[Ae]at b;cases b;obtain⟨c,e,rfl⟩:=d.eq;rw[Addr.AFa];refine⟨rfl,.ptr ⟨rfl,rfl,c,e,rfl,?_⟩⟩;show c.off+a.off+n=c.off+(a.off+n);omega
theorem UZ{c:List (Nat×Nat×Nat)}{a:Array Field}(d:a.toList.map (λf=>(f.offset,P.cellsOf f.type,f.type))=c){i o s t:Nat}(hi:nth c i=BY (o,s,t)):
  ∃f,a[i]? =BY f/\f.offset=o/\P.cellsOf f.type=s/\f.type=t:=by
 rw[Gh,<- d,xc]at hi;cases b:a.toList[i]? with
 |none=>rw[b]at hi;cases hi
 |some f=>
  rw[b]at hi;simp only[yN,Option.some.injEq,Prod.mk.injEq]at hi;exact⟨f,by simpa using b,hi.1,hi.2.1,hi.2.2⟩
theorem OI(H:AEZ ty φ E h w){x:O}{x':vz}{t:xZ}{ti:TI}(T:AEx P t ti){f:List (Nat×Nat×Nat)}(hk:ti.k=.struct f){i o s l:Nat}(hi:nth f i=BY (o,s+1,l))
  (A:AEX φ (x e) x')(a:AE o x F e h=.ok v h'):Bo ty φ E h w v h' ((AB1 t x' i).run P w):=by
 unfold AE at a;cases b:EH (x e)with
 |no=>rw[b]at a;cases a
 |ok B=>
  rw[b]at a;obtain⟨c,rfl,u⟩:=GI A b;obtain⟨rfl,z⟩:=S5 H u a;obtain⟨C,m,j⟩:=T.desc;rw[hk]at j;cases j with
  |struct n r=>
   obtain⟨d,g,p,q,D⟩:=UZ n hi;have y:(P.info? d.type).isSome=IN:=by
    have:=List.all_eq_true.1 r d (by simpa using Array.mem_of_getElem? g);exact this
   obtain⟨G,k⟩:=ABi.1 y;have key:(AB1 t (.pointer (BY c)) i).run P w=.ok (.pointer (BY (c.add o))) w:=by
    simp only[AB1,wM,m,wH,g,G8,fieldPlace,run_sizeOf w k,q,p,ADA,if_false,wN,Nat.add_eq_zero_iff,reduceCtorEq,and_false]
   rw[key];exact .same H z
theorem XL(H:AEZ ty φ E h w){n g:Nat}{a a':AAG}{f:O}{j:vz}(hi:AEX φ (f e) j)(l:AFq φ a a')(b:NJ n g (.ok a) (Dj (f e)) h=.ok v h'):
  ∃k i,j=.int k (i:Nat)/\i<n/\h'=h/\AEX φ v (.pointer (BY (a'.add (i*g)))):=by
 unfold NJ at b;cases c:Dj (f e)with
 |no=>rw[c]at b;cases b
 |ok i=>
  rw[c]at b;simp only at b;obtain⟨k,rfl⟩:=FW hi c;cases d:xQ i n with
  |false=>rw[d]at b;cases b
  |true=>
   rw[d]at b;simp only at b;obtain⟨m,o⟩:=S5 H l b;exact⟨k,i,rfl,BM.1 d,m,o⟩
theorem VC(H:AEZ ty φ E h w){x f:O}{x' l:vz}{t i:xZ}{ti c:TI}(T:AEx P t ti){n:Nat}(hk:ti.k=.arr n i)(m:AEx P i c)
  (u:AEX φ (x e) x')(hi:AEX φ (f e) l)(a:Ci n c.size x f F e h=.ok v h'):Bo ty φ E h w v h' ((zu t x' l).run P w):=by
 unfold Ci at a;cases d:EH (x e)with
 |no=>
  rw[d]at a;unfold NJ at a;cases j:Dj (f e)with
  |no=>rw[j]at a;cases a
  |ok b=>rw[j]at a;simp only at a;cases p:xQ b n<;>rw[p]at a<;>cases a
 |ok z=>
  rw[d]at a;obtain⟨g,rfl,r⟩:=GI u d;obtain⟨y,b,rfl,B,rfl,s⟩:=XL H hi r a;obtain⟨A,q,k⟩:=T.desc;rw[hk]at k;cases k;have key:(zu t (.pointer (BY g)) (.int y (b:Nat))).run P w=.ok (.pointer (BY (g.add (b*c.size)))) w:=by
   have o:(0:Int)<=(b:Int)/\(b:Int)<(n:Int):=by omega
   simp only[zu,asIntOf,wM,wN,q,wH,G8,o,and_self,if_true,m.size,yC,AAe]
  rw[key];exact .same H s
theorem Lh{a a':AAG}{n c c':Nat}(f:n<=c)(h:AGL φ a c a' c')(h0:0<n):AFq φ a a':=by
 obtain⟨s1,s2,e,d,b,h|h⟩:=h
 ·exact⟨s1,s2,e,d,b,h.2.1⟩
 ·omega
theorem jo(H:AEZ ty φ E h w){x f:O}{x' n:vz}{t i:xZ}{ti d:TI}(T:AEx P t ti)(hk:ti.k=.slice i)(o:AEx P i d)
  (m:AEX φ (x e) x')(hi:AEX φ (f e) n)(a:CF d.size x f F e h=.ok v h'):Bo ty φ E h w v h' ((zu t x' n).run P w):=by
 unfold CF at a;split at a
 case h_2=>cases a
 rename_i D c G A;rw[A]at m;cases m with
 |@slice _ g _ _ p s y=>
  obtain⟨I,r,l⟩:=T.desc;rw[hk]at l;cases l;cases j:Dj (f e)with
  |no=>rw[j]at a;cases a
  |ok B=>
   have u:0<c:=by
    rw[j]at a;unfold NJ at a;simp only at a;cases k:xQ B c with
    |false=>rw[k]at a;cases a
    |true=>have:=BM.1 k;omega
   obtain⟨C,b,rfl,J,rfl,z⟩:=XL H hi (Lh s y u) a;have key:(zu t (.slice (BY g) c p) (.int C (b:Nat))).run P w=.ok (.pointer (BY (g.add (b*d.size)))) w:=by
    have q:(0:Int)<=(b:Int)/\(b:Int)<(c:Int):=by omega
    simp only[zu,asIntOf,wM,wN,r,wH,q,and_self,if_true,o.size,yC,AAe]
   rw[key];exact .same H z
theorem ZC(H:AEZ ty φ E h w){x l:O}{x' m:vz}{t:xZ}{ti:TI}(T:AEx P t ti)(hk:ti.k=.string)
  (k:AEX φ (x e) x')(hi:AEX φ (l e) m)(a:Jb x l F e h=.ok v h'):Bo ty φ E h w v h' ((ACS t x' m).run P w):=by
 unfold Jb Kx at a;split at a
 case h_2=>cases a
 rename_i b g;obtain⟨q,rfl⟩:=FW hi g;split at a
 case h_2=>cases a
 rename_i c p;rw[p]at k;obtain rfl:=k.AE8;split at a
 case h_2=>cases a
 rename_i i d;obtain⟨rfl,rfl⟩:=F5 a;obtain⟨r,o,j⟩:=T.desc;rw[hk]at j;cases j;rw[Gh]at d;have n:c[b]? =BY i:=by
  have f:b<c.data.toList.length:=by
   rcases wh b c.data.toList.length with h|h
   ·exact h
   ·rw[yF h]at d;cases d
  have g:b<c.size:=f;rw[getElem?_pos c b g];rw[wE f]at d;rw[<- Option.some.inj d];rfl
 have key:(ACS t (.string c) (.int q (b:Nat))).run P w=.ok (.int .u8 i.toNat) w:=by
  have f:(0:Int)<=(b:Int):=by omega
  simp only[ACS,asIntOf,wM,wN,o,wH,f,if_true,yC,n]
 rw[key];exact .same H (.int _ _)
theorem Sk(H:AEZ ty φ E h w){x:O}{x':vz}{i:Nat}(c:AEX φ (x e) x')(a:AW i x F e h=.ok v h'):Bo ty φ E h w v h' ((ABP x' i).run P w):=by
 unfold AW at a;split at a
 case h_2=>cases a
 rename_i vs j;rw[j]at c;cases c with
 |@tuple m k d=>
  split at a
  case h_2=>cases a
  rename_i n b;rw[BR]at a;cases a;rw[Gh]at b;obtain⟨l,g,f⟩:=d.get i _ b;have:(⟨k⟩:Array vz)[i]? =BY l:=by simpa using g
  simp only[ABP,this,wN];exact .same H f
theorem _root_.Go.Proofs.YtldjiljipddebaaGreat.KOk.AG0{k:TK}{d:ABT}(b:KOk P k d)(hk:k≠.iface)(e:Array (String×xZ)):d≠.interface e:=by
 cases b with
 |other c=>intro a;subst a;cases c
 |iface f=>exact absurd rfl hk
 |_=>intro a;cases a
theorem ZH(H:AEZ ty φ E h w){x:O}{x':vz}{t:xZ}{ti:TI}(T:AEx P t ti)(hk:ti.k≠.iface)
  (f:AEX φ (x e) x')(a:Ng t x F e h=.ok v h'):Bo ty φ E h w v h' ((AA3 t x').run P w):=by
 unfold Ng at a;rw[BR]at a;cases a;obtain⟨b,c,d⟩:=T.und;have key:(AA3 t x').run P w=.ok (.iface t x') w:=by
  simp only[AA3,wM,run_underlying c,wH];cases b<;>first|rfl|exact absurd rfl (d.AG0 hk _)
 rw[key];exact .same H (.iface t f)
theorem jp(H:AEZ ty φ E h w){t:xZ}(f:ZM F e h=.ok v h'):Bo ty φ E h w v h' ((Instr.makeMap t By).run P w):=by
 unfold ZM at f;obtain⟨bl,d,b⟩:=Gy f;cases b
 let c:xG:={w with heap:=w.heap.push (.map #[] 0)}
 have k:c.heap.size=w.heap.size+1:=by simp[c]
 have g:∀a,a<w.heap.size->c.heap[a]? =w.heap[a]?:=λa b=>by
  show(w.heap.push _)[a]? =_;rw[AB9 b,ABo b]
 refine⟨.map (BY w.heap.size),c,φ.put h.next {blk:=w.heap.size,off:=0,sz:=0,room:=0,es:=1},rfl,.map (Phi.AFJ _ _ _),
  H.new d (by omega) (by show w.heap.size<_;omega) (λi j e _=>by have:=(H.dom i j e).2;show _≠w.heap.size;omega) (λa b _=>g a b) ?_,
  .made H d (wB _) (by omega) g rfl rfl rfl⟩
 have:c.heap[w.heap.size]? =BY (.map #[] 0):=by show(w.heap.push _)[w.heap.size]? =_;simp
 rw[this];exact .map .nil
end
inductive AF9 (φ:Phi)(e:Env):Option O->Option vz->Prop
 |none:AF9 φ e By By
 |some {o:O} {x:vz} (h:AEX φ (o e) x):AF9 φ e (BY o) (BY x)
section
variable {P:xU}{ty:TTy}{φ:Phi}{E:Nat->Prop}{h h':Hp}{w:xG}{F:AES}{e:Env}{v:vz}
theorem Gm{o:O}{x:vz}(h:AEX φ (o e) x){d y:Nat}{k:Nat->R}(a:Cy e (BY o) d y k=.ok v h'):
  ∃n,n<=y/\k n=.ok v h'/\∀Y,n<=Y->∀b w,(ACt x Y b).run P w=.ok n w:=by
 unfold Cy at a;simp only at a;split at a
 case h_2=>cases a
 rename_i n g;obtain⟨f,a⟩:=Bx a;obtain⟨j,rfl⟩:=FW h g;refine⟨n,Am.1 f,a,λY i b w=>?_⟩;have c:(0:Int)<=(n:Int)/\(n:Int)<=(Y:Int):=by omega
 simp only[ACt,asIntOf,wM,wN,wH,c,and_self,if_true,yC]
theorem UB(d y:Nat)(k:Nat->R):Cy e By d y k=k d:=rfl
theorem K3{lo hi r:Option O}{z u A:Option vz}(d:AF9 φ e lo z)(i:AF9 φ e hi u)(t:AF9 φ e r A){len cap g:Nat}(q:cap<=g)(x:len<=cap)
  {k:Nat->Nat->Nat->R}(a:Dr e len cap lo hi r k=.ok v h')(s:Bool):
  ∃l b m,k l b m=.ok v h'/\l<=b/\b<=m/\m<=cap/\(r.isSome=IS->m=cap)/\∀w,(zF s len g z u A).run P w=.ok (l,b,if r.isSome then m else g) w:=by
 unfold Dr at a;cases t with
 |none=>
  simp only at a;cases i with
  |none=>
   rw[UB]at a;cases d with
   |none=>exact⟨0,len,cap,a,wl _,x,wB _,λ_=>rfl,λw=>rfl⟩
   |some d=>
    obtain⟨l,f,j,n⟩:=Gm (P:=P) d a;exact⟨l,len,cap,j,f,x,wB _,λ_=>rfl,λw=>by
     simp only[zF,wM,wN,wH,n len f];rfl⟩
  |some i=>
   obtain⟨b,c,a,o⟩:=Gm (P:=P) i a;cases d with
   |none=>exact⟨0,b,cap,a,wl _,c,wB _,λ_=>rfl,λw=>by
     simp only[zF,wM,wN,wH,o g (wy c q)];rfl⟩
   |some d=>
    obtain⟨l,f,j,n⟩:=Gm (P:=P) d a;exact⟨l,b,cap,j,f,c,wB _,λ_=>rfl,λw=>by
     simp only[zF,wM,wN,wH,o g (wy c q),n b f];rfl⟩
 |some t=>
  simp only at a;obtain⟨m,p,a,y⟩:=Gm (P:=P) t a;cases i with
  |none=>cases a
  |some i=>
   simp only at a;obtain⟨b,c,a,o⟩:=Gm (P:=P) i a;cases d with
   |none=>exact⟨0,b,m,a,wl _,c,p,λh=>(by cases h),λw=>by
     simp only[zF,wM,wN,wH,y g (wy p q),o m c];rfl⟩
   |some d=>
    obtain⟨l,f,j,n⟩:=Gm (P:=P) d a;exact⟨l,b,m,j,f,c,p,λh=>(by cases h),λw=>by
     simp only[zF,wM,wN,wH,y g (wy p q),o m c,n b f];rfl⟩
theorem AGL.le{a a':AAG}{c c':Nat}(h:AGL φ a c a' c'):c<=c':=by
 obtain⟨_,_,b,_,_,h|h⟩:=h
 ·rcases h.2.2 with h|h
  ·exact AAu h.symm
  ·exact h.2.1
 ·omega
theorem Jh(a:Option AAG)(size l b m:Nat)(h:Hp):
  Bq a size l b m h=.ok (.slice (if m=l then a else a.map λa=>if l*size=0 then a else⟨a.block,a.off+l*size,By⟩) (b - l) (m - l)) h:=by
 unfold Bq;rw[Ae,Ae];by_cases d:m=l
 ·subst d;rw[yG,IT rfl];rfl
 ·have c:wU m l=IS:=by
   cases c:wU m l
   ·rfl
   ·exact absurd (Ax.1 c) d
  rw[c,If d];cases a with
  |none=>rfl
  |some a=>
   have e:xW l size=l*size:=rfl;rw[e];cases g:l*size with
   |zero=>rw[yN,IT rfl];rfl
   |succ f=>rw[yN,If (ADA f)];simp only[Ae];rfl
theorem gz{a a':AAG}{c c':Nat}(G:AGL φ a c a' c'){size l b m:Nat}(O:l<=b)(N:b<=m)(P:m<=c){d:Bool}(q:d=IS->m=c)
  (x:d=IS->0<l->∀p,φ a.block=BY p->p.es=size\/(p.room=p.sz/\p.es=1)):
  AEX φ (.slice (if m=l then BY a else(BY a).map λa=>if l*size=0 then a else⟨a.block,a.off+l*size,By⟩) (b - l) (m - l))
   (.slice (if(if d then m else c')=l then BY a' else(BY a').map (·.add (l*size))) (b - l) ((if d then m else c') - l)):=by
 obtain⟨s1,s2,p,e,w,f⟩:=G;obtain⟨k,n,K⟩:=a;obtain⟨I,J,H⟩:=a';simp only at s1 s2 e w f;subst s1;subst s2;subst w;simp only[yN,Addr.AFa];have C:m<=(if d then m else c'):=by
  cases d
  ·have:=q rfl
   simp only[xJ,if_false];rcases f with h|h
   ·rcases h.2.2 with h|h<;>omega
   ·omega
  ·simp
 by_cases r:m=l
 ·rw[IT r]
  by_cases g:(if d then m else c')=l
  ·rw[IT g]
   refine .slice (by omega) ⟨rfl,rfl,p,e,rfl,.inr ⟨by omega,.inl (by omega)⟩⟩
  ·rw[If g]
   cases d with
   |true=>exact absurd r g
   |false=>
    simp only[xJ,if_false]at g C ⊢;have t:=q rfl;refine .slice (by omega) ⟨rfl,rfl,p,e,rfl,.inr ⟨by omega,.inr ?_⟩⟩;simp only;rcases xL l with h0|h0
    ·subst h0
     simp only[zX,xy,ADB];rcases f with h|h
     ·omega
     ·rcases h.2 with h|h
      ·omega
      ·exact h
    ·rcases f with ⟨_,E,h|⟨i,u,j⟩⟩|h
     ·omega
     ·rcases x rfl h0 p e with o|⟨F,s⟩
      ·have B:c=l:=by omega
       have Q:(c' - l)*p.es+l*p.es=c'*p.es:=by rw[<- AAv];congr 1;omega
       subst B;rw[<- o];omega
      ·rw[s]at i j;omega
     ·omega
 ·have D:¬((if d=IN then m else c')=l):=by omega
  rw[If r,If D];have R:0<c:=by omega
  rcases f with ⟨_,E,A⟩|h
  case inr=>omega
  have y:∀X:AAG,X=(if l*size=0 then(⟨k,n,By⟩:AAG)else⟨k,n+l*size,By⟩)->X=⟨k,n+l*size,By⟩:=by
   intro X z;rw[z];split
   ·rename_i h;rw[h];rfl
   ·rfl
  rw[y _ rfl];refine .slice (by omega) ⟨rfl,rfl,p,e,rfl,.inl ⟨by omega,by simp only;omega,?_⟩⟩;cases d with
  |true=>exact .inl rfl
  |false=>
   simp only[xJ,if_false];have t:=q rfl;subst t;rcases A with h|⟨i,u,j⟩
   ·exact .inl (by rw[h])
   ·rcases xL l with h0|h0
    ·subst h0;refine .inr ?_;simp only[zX,xy,ADB];exact⟨i,u,j⟩
    ·rcases x rfl h0 p e with o|⟨F,s⟩
     ·refine .inr ?_
      have L:(m - l)*p.es+l*p.es=m*p.es:=by rw[<- AAv];congr 1;omega
      have M:(c' - l)*p.es+l*p.es=c'*p.es:=by rw[<- AAv];congr 1;omega
      rw[<- o];omega
     ·rw[s]at i j;exact .inl (by omega)
theorem ii(H:AEZ ty φ E h w){d:Nat}{f:TI}(n:ty.get d=BY f){a:AAG}(b:FR d (BY a) h=IN):∀p,φ a.block=BY p->p.es=f.size\/(p.room=p.sz/\p.es=1):=by
 intro p l;unfold FR at b;simp only at b;split at b
 ·rename_i g o i m
  have k:=H.kind a.block p g o i l (DQ m);rcases k.2 with ⟨_,e,c,_⟩|⟨q,r,e,c,j⟩
  ·exact .inr ⟨e,c⟩
  ·subst e
   have:q=d:=Ax.1 b;subst this;rw[n]at c;cases c;exact .inl j
 ·cases b
theorem jk(H:AEZ ty φ E h w){x:O}{x':vz}{t el:xZ}{ti ei:TI}(T:AEx P t ti)(hk:ti.k=.slice el)(hty:ty.get el=BY ei)(TE:AEx P el ei)
  {lo hi mx:Option O}{lo' hi' mx':Option vz}(hx:AEX φ (x e) x')(hl:AF9 φ e lo lo')(hh:AF9 φ e hi hi')(hm:AF9 φ e mx mx')
  (hr:EL el ei.size x lo hi mx F e h=.ok v h'):Bo ty φ E h w v h' ((zG t x' lo' hi' mx').run P w):=by
 unfold EL at hr;split at hr
 case h_2=>cases hr
 rename_i a n c hxe;rw[hxe]at hx;obtain⟨d,hd,hkd⟩:=T.desc;rw[hk]at hkd;cases hkd;cases hx with
 |AFL=>
  ·obtain⟨l,b,m,hk2,h1,h2,h3,h4,hs⟩:=K3 (P:=P) hl hh hm (wB 0) (wB 0) hr IN
   have AF6:Bq By ei.size l b m h=.ok v h':=by
    unfold Eh at hk2;split at hk2
    ·exact hk2
    ·split at hk2
     ·exact hk2
     ·exact(Bx hk2).2
   rw[Jh]at AF6;cases AF6;have key:(zG t (.slice By 0 0) lo' hi' mx').run P w=.ok (.slice By (b - l) (m - l)) w:=by
    have hmm:(if mx.isSome then m else 0)=m:=by
     split
     ·rfl
     ·rename_i hf;exact(h4 (by simpa using hf)).symm
    rw[hmm]at hs;simp only[zG,ADs,wM,hd,wH,hs,TE.size,wN,ACo,ite_self]
   rw[key];simp only[ACo,ite_self];have e1:m=0:=by omega
   have e2:b=0:=by omega
   have e3:l=0:=by omega
   subst e1;subst e2;subst e3;exact .same H .AFL
 |@slice a a' _ _ c' hn hsl=>
  obtain⟨l,b,m,hk2,h1,h2,h3,h4,hs⟩:=K3 (P:=P) hl hh hm hsl.le hn hr IN;have AF6:Bq (BY a) ei.size l b m h=.ok v h'/\(mx.isSome=IS->0<l->∀p,φ a.block=BY p->p.es=ei.size\/(p.room=p.sz/\p.es=1)):=by
   unfold Eh at hk2;split at hk2
   ·rename_i hmx;exact⟨hk2,λhf=>by rw[hmx]at hf;cases hf⟩
   ·split at hk2
    ·exact⟨hk2,λ_ h0=>absurd h0 (Nat.lt_irrefl 0)⟩
    ·obtain⟨hf,hk2⟩:=Bx hk2
     exact⟨hk2,λ_ _=>ii H hty hf⟩
  obtain⟨AF6,hfit⟩:=AF6;rw[Jh]at AF6;cases AF6;have key:(zG t (.slice (BY a') n c') lo' hi' mx').run P w=
    .ok (.slice (if(if mx.isSome then m else c')=l then BY a' else(BY a').map (·.add (l*ei.size))) (b - l) ((if mx.isSome then m else c') - l)) w:=by
   simp only[zG,ADs,wM,hd,wH,hs,TE.size,wN]
  rw[key];exact .same H (gz hsl h1 h2 h3 h4 hfit)
end
theorem GX{a:Type}(xs:List a):∀n,(BX xs n).length=n*xs.length
 |0=>by simp[BX]
 |n+1=>by
  show(xs++BX xs n).length=_;rw[wD,GX xs n,zc,ACa]
theorem TB{c:Type}(xs:List c):∀n i,i<n*xs.length->(BX xs n)[i]? =xs[i % xs.length]?
 |0,i,a=>by simp at a
 |n+1,i,a=>by
  show(xs++BX xs n)[i]? =_;rcases wh i xs.length with hl|hl
  ·rw[wX hl,zg hl]
  ·have b:i - xs.length<n*xs.length:=by rw[zc]at a;omega
   rw[wi hl,TB xs n _ b,<- Nat.mod_eq_sub_mod hl]
theorem IX{φ:Phi}{l l':List vz}(h:AEp φ l l'):∀n,AEp φ (BX l n) (BX l' n)
 |0=>.nil
 |n+1=>h.append (IX h n)
theorem OB(z:Array vz)(n:Nat):((AA4 (n*z.size)).map (λi=>z[i % z.size]!))=⟨BX z.toList n⟩:=by
 apply yD;apply List.ext_getElem?;intro i;simp only[Array.toList_map,xc,Array.toList_range];rcases wh i (n*z.size)with h|h
 ·have a:i<n*z.toList.length:=by simpa using h
  rw[TB _ _ _ a,List.getElem?_range h,yN];have b:0<z.size:=by
   rcases xL z.size with h0|h0
   ·rw[h0]at h;simp at h
   ·exact h0
  have c:i % z.size<z.size:=Nat.mod_lt _ b;simp[c]
 ·rw[yF (by simpa using h),yF (by rw[GX];simpa using h)];rfl
theorem Hg(z:Array vz)(n:Nat):AAI z n=⟨BX z.toList n⟩:=OB z n
theorem AFA(cs:List vz)(off:Nat)(vs:List vz):lay cs off vs=cs.take off++vs++cs.drop (off+vs.length):=by
 unfold lay;rw[N5,RK,Bf];rfl
theorem Us{cs:List vz}{off:Nat}{vs:List vz}(h:off+vs.length<=cs.length):(lay cs off vs).length=cs.length:=by
 rw[AFA];simp;omega
theorem jG{φ:Phi}{cs cs' vs b:List vz}(h:AEp φ cs cs')(a:AEp φ vs b)(off:Nat):AEp φ (lay cs off vs) (lay cs' off b):=by
 rw[AFA,AFA,a.length];exact((h.take off).append a).append (h.drop _)
theorem Ob(off:Nat):∀(vs:List vz) (j:Nat) (cs:Array vz),off+j+vs.length<=cs.size->
  ((vs.zipIdx j).foldl (λcs (c,j)=>cs.setIfInBounds (off+j) c) cs).toList=lay cs.toList (off+j) vs
 |[],j,cs,a=>by rw[AFA];simp
 |v::vs,j,cs,a=>by
  simp only[wK]at a;rw[List.zipIdx_cons,ADH];have:=Ob off vs (j+1) (cs.setIfInBounds (off+j) v) (by simp;omega);rw[this,AFA,AFA];have d:off+j<cs.toList.length:=by simp;omega
  rw[Array.toList_setIfInBounds,show off+(j+1)=off+j+1 by omega];rw[wK,List.take_set,List.drop_set_of_lt (by omega)];have b:(cs.toList.take (off+j+1)).set (off+j) v=cs.toList.take (off+j)++[v]:=by
   rw[List.take_succ_eq_append_getElem d,List.set_append_right _ _ (by simp;omega)];have:(off+j - (cs.toList.take (off+j)).length)=0:=by simp;omega
   rw[this];rfl
  rw[b,show off+j+1+vs.length=off+j+(vs.length+1)by omega];simp
section
variable {φ:Phi}{h':Hp}{e:Env}{v:vz}
inductive AGq (φ:Phi)(e:Env)(place:Nat->Option (Nat×Nat)):List (Nat×Nat×O)->List (Nat×vz)->Prop
 |nil:AGq φ e place [] []
 |cons {i off size:Nat} {o:O} {x:vz} {l:List (Nat×Nat×O)} {l':List (Nat×vz)} (hp:place i=BY (off,size)) (hx:AEX φ (o e) x) (t:AGq φ e place l l'):
  AGq φ e place ((off,size,o)::l) ((i,x)::l')
theorem Jz{i:Nat->Option (Nat×Nat)}{k:List vz->R}:∀{ps:List (Nat×Nat×O)} {ps':List (Nat×vz)},AGq φ e i ps ps'->∀{cs cs':List vz},AEp φ cs cs'->
  Ey cs e k ps=.ok v h'->∃r c,k r=.ok v h'/\AEp φ r c/\r.length=cs.length/\ABt i ⟨cs'⟩ ps'=BY ⟨c⟩
 |_,_,.nil,cs,cs',b,a=>by
  unfold Ey at a;rw[C9]at a;exact⟨cs,cs',a,b,rfl,rfl⟩
 |_,_,.cons (off:=off) (size:=size) (o:=o) (x:=x) w z B,cs,cs',b,a=>by
  unfold Ey at a;rw[BR]at a;obtain⟨t,a⟩:=Bx a;obtain⟨n,a⟩:=Bx a;obtain⟨p,a⟩:=Bx a;have g:=LD z t;have d:=Ax.1 n;have f:=Am.1 p;rw[Bf]at d f;have m:=g.length;have D:=b.length;obtain⟨r,c,s,y,u,q⟩:=Jz B (jG b g off) a;have C:off+size<=cs.length:=f;have h:x.cells.size=size:=by rw[<- d,<- m];simp
  refine⟨r,c,s,y,by rw[u,Us (by omega)],?_⟩;rw[ABt,w];simp only;rw[If (by simp[h];omega)];have j:(x.cells.zipIdx.foldl (λcs (l,A)=>cs.setIfInBounds (off+A) l) (⟨cs'⟩:Array vz))=⟨lay cs' off x.cells.toList⟩:=by
   apply yD;have:=Ob off x.cells.toList 0 ⟨cs'⟩ (by simp[h];omega);rw[<- Array.foldl_toList,Array.toList_zipIdx];exact this
  rw[j];exact q
end
section
variable {P:xU}{ty:TTy}{φ:Phi}{E:Nat->Prop}{h h':Hp}{w:xG}{F:AES}{e:Env}{v:vz}
theorem Uz(H:AEZ ty φ E h w){t:xZ}{ti:TI}(T:AEx P t ti){fs:List (Nat×Nat×Nat)}(hk:ti.k=.struct fs)(hz:ti.zero.length=ti.size)
  {ps:List (Nat×Nat×O)}{ps':Array (Nat×vz)}(hp:AGq φ e (Nr fs) ps ps'.toList)
  (hr:BW ti.zero ps F e h=.ok v h'):Bo ty φ E h w v h' ((AAW t ps').run P w):=by
 unfold BW at hr;obtain⟨z,_,hzr,hzc,hzp⟩:=T.AFe hz;obtain⟨r,r',hk2,hrr,hlen,hf⟩:=Jz hp (.plain hzp) hr;cases hk2;obtain⟨d,hd,hkd⟩:=T.desc;rw[hk]at hkd;cases hkd with
 |@struct fs fields hfl hin=>
  have hmap:∀w,(fields.mapM (λf=>(do pure (f.offset,<- sizeOf f.type):Sem (Nat×Nat)))).run P w=.ok (fields.map λf=>(f.offset,P.cellsOf f.type)) w:=by
   intro w;rw[<- Array.toArray_toList (xs:=fields),List.mapM_toArray,List.map_toArray];have:∀l:List Field,l.all (λf=>(P.info? f.type).isSome)=IN->(l.mapM (λf=>(do pure (f.offset,<- sizeOf f.type):Sem (Nat×Nat)))).run P w=.ok (l.map λf=>(f.offset,P.cellsOf f.type)) w:=by
    intro l
    induction l with
    |nil=>intro _;rfl
    |cons f l ih=>
     intro hall;simp only[AAn,wV]at hall;obtain⟨inf,AGg⟩:=ABi.1 hall.1;simp only[ABI,wM,run_sizeOf w AGg,wH,wN,ih hall.2,yA]
   simp only[Sem.run_map,this _ hin,wH]
  have AHP:Nr fs=λi=>(fields.map λf=>(f.offset,P.cellsOf f.type))[i]?:=by
   funext i
   unfold Nr;rw[Gh,<- hfl,xc,Array.getElem?_map,<- AAl];cases fields.toList[i]?<;>rfl
  rw[AHP]at hf;have hz':(⟨ti.zero⟩:Array vz)=z.cells:=by rw[<- hzc]
  rw[hz']at hf;have key:(AAW t ps').run P w=.ok (.agg ⟨r'⟩) w:=by
   simp only[AAW,wM,hzr,wH,hd,hmap,hf,wN]
  rw[key];exact .same H (.agg hrr)
theorem Uy(H:AEZ ty φ E h w){t b:xZ}{ti a:TI}(T:AEx P t ti){n:Nat}(hk:ti.k=.arr n b)(k:AEx P b a)(r:ti.zero.length=ti.size)
  {ps:List (Nat×Nat×O)}{ps':Array (Nat×vz)}(p:AGq φ e (λi=>BY (xW i a.size,a.size)) ps ps'.toList)
  (f:BW ti.zero ps F e h=.ok v h'):Bo ty φ E h w v h' ((AAW t ps').run P w):=by
 unfold BW at f;obtain⟨j,_,y,u,x⟩:=T.AFe r;obtain⟨B,g,o,q,A,c⟩:=Jz p (.plain x) f;cases o;obtain⟨z,l,d⟩:=T.desc;rw[hk]at d;cases d;have s:(⟨ti.zero⟩:Array vz)=j.cells:=by rw[<- u]
 rw[s]at c;have m:ABt (λi=>BY (i*a.size,a.size)) j.cells ps'.toList=BY ⟨g⟩:=c;have key:(AAW t ps').run P w=.ok (.agg ⟨g⟩) w:=by
  simp only[AAW,wM,y,wH,l,k.size,m,wN]
 rw[key];exact .same H (.agg q)
theorem X4{ψ:Phi}{n s l c:Nat}{p:Pl}(e:ψ n=BY p)(d:p.off=0)(b:l<=c)(a:c=0\/0<c):AEX ψ (.slice (BY ⟨n,0,By⟩) l c) (.slice (BY ⟨p.blk,0,By⟩) l c):=by
 refine .slice b ⟨rfl,rfl,p,e,rfl,?_⟩;rcases a with h|h
 ·exact .inr ⟨h,.inl h⟩
 ·exact .inl ⟨h,by simp[d],.inl rfl⟩
theorem Nd(H:AEZ ty φ E h w){t b:xZ}{ti a:TI}(T:AEx P t ti)(hk:ti.k=.slice b)(f:AEx P b a)(o:a.zero.length=a.size)
  {len:Nat}(L:len*a.size<=16777216){ps:List (Nat×Nat×O)}{ps':Array (Nat×vz)}(z:AGq φ e (λi=>BY (xW i a.size,a.size)) ps ps'.toList)
  (n:Ap len (BX a.zero len) ps F e h=.ok v h'):Bo ty φ E h w v h' ((AAa t len ps').run P w):=by
 unfold Ap at n;obtain⟨d,_,D,p,C⟩:=f.AFe o;obtain⟨N,q,x,B,M,u⟩:=Jz z (IX (.plain C) len) n;obtain⟨K,I,y,A,r,ev⟩:=HQ H x B b;cases y;obtain⟨J,j,l⟩:=T.desc;rw[hk]at l;cases l;have G:d.cells.size=a.size:=by rw[<- o,<- p];simp
 have k:ABt (λi=>BY (i*a.size,a.size)) ⟨BX a.zero len⟩ ps'.toList=BY ⟨q⟩:=u;have g:(AA4 (len*a.size)).map (λi=>d.cells[i % d.cells.size]!)=⟨BX a.zero len⟩:=by
  rw[<- p,<- G];exact OB d.cells len
 have m:¬(len*a.size > 2 ^ 24):=by omega
 have key:(AAa t len ps').run P w=.ok (.slice (BY ⟨w.heap.size,0,By⟩) len len) {w with heap:=w.heap.push (.cells ⟨q⟩ b)}:=by
  by_cases c:len*a.size=0
  ·have:(AA4 (len*a.size)).map (λi=>(#[]:Array vz)[i % (#[]:Array vz).size]!)=⟨BX a.zero len⟩:=by
    rw[<- g,c];simp
   simp only[AAa,wM,j,wH,f.size,m,c,if_false,if_true,wN,zP,gt_iff_lt];rw[c]at this;simp only[this,k,AAb,wM,run_newObj,wH,wN]
  ·simp only[AAa,wM,j,wH,f.size,m,c,if_false,D,wN,g,k,AAb,run_newObj]
 rw[key];exact⟨_,_,I,rfl,X4 (s:=0) A rfl (wB _) (xL _),r,ev⟩
theorem Ie{n:Nat}(h:n<=9223372036854775807):zV.wrap (n:Int)=n:=D5 .i64 n h
theorem jQ:most=1099511627776:=rfl
theorem Xb:JZ=70368744177664:=rfl
theorem HP{n:Nat}(h:n<=1099511627776):n<=JZ:=wy h (by rw[Xb];omega)
theorem Xc{c b:Nat}(h:wY (xW (wQ c) (wQ b)) JZ=IN):c<=70368744177664/\(c+1)*(b+1)<=70368744177664:=by
 have a:=Am.1 h;rw[Xb]at a;have d:(c+1)*(b+1)<=70368744177664:=a;refine⟨?_,d⟩;have:c+1<=(c+1)*(b+1):=ACE _ (by omega);omega
theorem jR{c b:Nat}(h:wY (xW (wQ c) (wQ b)) most=IN):c<=1099511627776/\(c+1)*(b+1)<=1099511627776:=by
 have a:=Am.1 h;rw[jQ]at a;have d:(c+1)*(b+1)<=1099511627776:=a;refine⟨?_,d⟩;have:c+1<=(c+1)*(b+1):=ACE _ (by omega);omega
theorem dW(H:AEZ ty φ E h w){t i:xZ}{ti b:TI}(T:AEx P t ti)(hk:ti.k=.slice i)(g:AEx P i b)(x:b.zero.length=b.size)
  {l c:O}{l' c':vz}(L:AEX φ (l e) l')(J:AEX φ (c e) c')(d:G0 b.bytes b.zero l c F e h=.ok v h'):Bo ty φ E h w v h' ((AAj t l' c').run P w):=by
 unfold G0 SY at d;split at d
 case h_2=>cases d
 rename_i f B;split at d
 case h_2=>cases d
 rename_i a C;obtain⟨U,rfl⟩:=FW L B;obtain⟨V,rfl⟩:=FW J C;obtain⟨D,d⟩:=Bx d;obtain⟨G,d⟩:=Bx d;have M:=Am.1 D;obtain⟨a0,a1⟩:=jR G;obtain⟨k,_,R,y,Q⟩:=g.AFe x;have S:k.cells.size=b.size:=by rw[<- x,<- y];simp
 have z:AEp φ (BX b.zero a) (BX b.zero a):=IX (.plain Q) a;obtain⟨Y,W,K,N,A,ev⟩:=HQ H d z i;cases K;obtain⟨X,r,u⟩:=T.desc;rw[hk]at u;cases u;obtain⟨a2,o,hs,q,_⟩:=g.info;have n:(AA4 (a*b.size)).map (λm=>k.cells[m % k.cells.size]!)=⟨BX b.zero a⟩:=by
  rw[<- y,<- S];exact OB k.cells a
 have w1:zV.wrap (f:Int)=f:=Ie (by omega);have w2:zV.wrap (a:Int)=a:=Ie (by omega);have I:¬((b.bytes:Int)*(a:Int) > 2 ^ 48):=by
  have:b.bytes*a<=(a+1)*(b.bytes+1):=by rw[Nat.mul_comm];exact ABx (by omega) (by omega)
  have Z:((b.bytes*a:Nat):Int)<=1099511627776:=by omega
  rw[<- ADS];omega
 have p:((decide ((a:Int)<0) || decide ((b.bytes:Int)*(a:Int) > 2 ^ 48)) || decide ((f:Int)<0) || decide ((f:Int) > (a:Int)))=IS:=by
  simp only[ACV,decide_eq_false_iff_not];refine⟨⟨⟨by omega,I⟩,by omega⟩,by omega⟩
 have key:(AAj t (.int U (f:Nat)) (.int V (a:Nat))).run P w=.ok (.slice (BY ⟨w.heap.size,0,By⟩) f a) {w with heap:=w.heap.push (.cells ⟨BX b.zero a⟩ i)}:=by
  by_cases j:a*b.size=0
  ·have e0:(AA4 (a*b.size)).map (λm=>(#[]:Array vz)[m % (#[]:Array vz).size]!)=⟨BX b.zero a⟩:=by
    rw[<- n,j];simp
   rw[j]at e0;simp only[AAj,wM,r,wH,asInt,asIntOf,wN,run_typeInfo _ o,q,w1,w2,p,xJ,if_false,run_askRoom,yC,g.size,j,if_true,e0,AAb,run_newObj,AAe]
  ·simp only[AAj,wM,r,wH,asInt,asIntOf,wN,run_typeInfo _ o,q,w1,w2,p,xJ,if_false,run_askRoom,yC,g.size,j,R,n,AAb,run_newObj,AAe]
 rw[key];exact⟨_,_,W,rfl,X4 (s:=0) N rfl M (xL _),A,ev⟩
end
section
variable {P:xU}{ty:TTy}{φ:Phi}{E:Nat->Prop}{h h':Hp}{w:xG}{F:AES}{e:Env}{v:vz}
theorem VA(H:AEZ ty φ E h w){x:O}{x':vz}{t q:xZ}{ti b:TI}(T:AEx P t ti){n:Nat}(hk:ti.k=.arr n q)(A:AEx P q b)
  {lo hi o:Option O}{m k p:Option vz}(R:AEX φ (x e) x')(M:AF9 φ e lo m)(L:AF9 φ e hi k)(N:AF9 φ e o p)
  (f:GW n b.size x lo hi o F e h=.ok v h'):Bo ty φ E h w v h' ((zG t x' m k p).run P w):=by
 unfold GW at f;split at f
 case h_2=>cases f
 rename_i B I;obtain⟨g,rfl,u⟩:=GI R I;obtain⟨U,J,s⟩:=T.desc;rw[hk]at s;cases s;obtain⟨a,C,c,r,V,W,X,D,y⟩:=K3 (P:=P) M L N (wB n) (wB n) f IS;have Q:(if o.isSome then c else n)=c:=by
  split
  ·rfl
  ·rename_i K;exact(D (by simpa using K)).symm
 rw[Q]at y;rw[Jh]at r;cases r;have key:(zG t (.pointer (BY g)) m k p).run P w=.ok (.slice (BY (if c=a then g else g.add (a*b.size))) (C - a) (c - a)) w:=by
  simp only[zG,wM,J,wH,G8,y,A.size,wN]
 rw[key];refine .same H ?_;have s1:=u.1;obtain⟨z,l,rfl⟩:=u.eq;obtain⟨i,j,S⟩:=B;simp only at s1 l;subst s1;simp only[Addr.AFa,yN];by_cases d:c=a
 ·rw[IT d,IT d]
  exact .slice (by omega) ⟨rfl,rfl,z,l,rfl,.inr ⟨by omega,.inl (by omega)⟩⟩
 ·rw[If d,If d]
  have G:(if a*b.size=0 then(⟨i,j,By⟩:AAG)else⟨i,j+a*b.size,By⟩)=⟨i,j+a*b.size,By⟩:=by
   split
   ·rename_i h;rw[h];rfl
   ·rfl
  rw[G];exact .slice (by omega) ⟨rfl,rfl,z,l,rfl,.inl ⟨by omega,by simp only;omega,.inl rfl⟩⟩
theorem dR(H:AEZ ty φ E h w){a:Fn}{f c:List O}{d c':List vz}(i:AEp φ (vals e f) d)(g:AEp φ (vals e c) c')(b:Em a f c F e h=.ok v h'):
  Bo ty φ E h w v h' (.ok (.func a ⟨d⟩ ⟨c'⟩) w):=by
 unfold Em at b;rw[C9,C9]at b;cases b;exact .same H (.func a i g)
theorem jd(H:AEZ ty φ E h w){x:O}{x':vz}{t i:xZ}{ti:TI}(T:AEx P t ti){n:Nat}(hk:ti.k=.arr n i)(s:0<n)(f:AEX φ (x e) x')
  (a:Si n x F e h=.ok v h'):Bo ty φ E h w v h' ((AB2 t x').run P w):=by
 unfold Si at a;split at a
 case h_2=>cases a
 rename_i p o q m;rw[m]at f;obtain⟨b,a⟩:=Bx a;cases a;have b:=Am.1 b;obtain⟨r,j,d⟩:=T.desc;rw[hk]at d;cases d;cases f with
 |@slice _ c _ _ g k l=>
  have key:(AB2 t (.slice (BY c) o g)).run P w=.ok (.pointer (BY c)) w:=by
   simp only[AB2,wM,j,wH,AAg.2 b,if_false,wN]
  rw[key];exact .same H (.ptr (Lh k l (by omega)))
theorem O0(H:AEZ ty φ E h w){lt:Bool}{x y:O}{x' f:vz}(c:AEX φ (x e) x')(d:AEX φ (y e) f)(a:IK lt (x e) (y e) h=.ok v h'):
  ∃k q m n,x'=.int k m/\f=.int q n/\h'=h/\v=.int k (if(if lt then n<m else m<n)then n else m):=by
 unfold IK at a;split at a
 case h_2=>cases a
 rename_i k m i;split at a
 case h_2=>cases a
 rename_i n j;obtain⟨q,g⟩:=XR j;rw[i]at c;rw[g]at d;refine⟨k,q,m,n,c.AE6,d.AE6,?_⟩;cases lt
 ·simp only[cond_false]at a
  cases b:iLt m n with
  |false=>
   rw[b]at a;cases a;rw[DG]at b;have:=of_decide_eq_false b;refine⟨rfl,?_⟩;simp[this]
  |true=>
   rw[b]at a;cases a;rw[DG]at b;have:=of_decide_eq_true b;refine⟨rfl,?_⟩;simp[this]
 ·simp only[cond_true]at a
  cases b:iLt n m with
  |false=>
   rw[b]at a;cases a;rw[DG]at b;have:=of_decide_eq_false b;refine⟨rfl,?_⟩;simp[this]
  |true=>
   rw[b]at a;cases a;rw[DG]at b;have:=of_decide_eq_true b;refine⟨rfl,?_⟩;simp[this]
theorem jt(H:AEZ ty φ E h w){x y:O}{x' a:vz}{b:Array xZ}{t:xZ}(d:AEX φ (x e) x')(f:AEX φ (y e) a)(c:ZN x y F e h=.ok v h'):
  Bo ty φ E h w v h' ((Builtin.min_ b t #[x',a]).run P w):=by
 obtain⟨g,k,i,j,rfl,rfl,rfl,rfl⟩:=O0 H d f c;exact .same H (.int _ _)
theorem jr(H:AEZ ty φ E h w){x y:O}{x' a:vz}{b:Array xZ}{t:xZ}(d:AEX φ (x e) x')(f:AEX φ (y e) a)(c:VG x y F e h=.ok v h'):
  Bo ty φ E h w v h' ((Builtin.max_ b t #[x',a]).run P w):=by
 obtain⟨g,k,i,j,rfl,rfl,rfl,rfl⟩:=O0 H d f c;exact .same H (.int _ _)
theorem Hj:∀l:List UInt8,Cp l=l.map λb=>.int .u8 (b.toNat:Int)
 |[]=>rfl
 |b::l=>by unfold Cp;rw[Ae,Hj l];rfl
theorem Ln(l:List UInt8):AEp φ (Cp l) (l.map λb=>.int .u8 (b.toNat:Int)):=by
 rw[Hj]
 induction l with
 |nil=>exact .nil
 |cons b l a=>exact .cons (.int _ _) a
theorem Ga(H:AEZ ty φ E h w){size n:Nat}{x x':vz}(hE:∀a l c,x=.slice (BY a) l c->¬E a.block)(hx:AEX φ x x'){k:List vz->R}(hr:BP h size x n k=.ok v h')
  (hn:∀m,lenV x=.ok m->n<=m):
  ∃cs cs':List vz,k cs=.ok v h'/\AEp φ cs cs'/\(∀w':xG,w'.heap=w.heap->(xe size n x').run P w'=.ok ⟨cs'⟩ w')/\(∀a l c,x'=.slice (BY a) l c->cs'.length=n*size)/\(∀s,x'=.string s->cs'.length=n/\size=1)/\
   (∀a l c,x=.slice (BY a) l c->0<c->∃p cs t fr,φ a.block=BY p/\w.heap[p.blk]? =BY (.cells cs t fr)/\∀(j:Nat) (u:vz),cs'[j]? =BY u->cs[p.off+a.off+j]? =BY u):=by
 unfold BP at hr;split at hr
 ·cases hx
  exact⟨[],[],hr,.nil,(λ_ _=>rfl),(λ_ _ _ h=>by cases h),(λ_ h=>by cases h),(λ_ _ _ h=>by cases h)⟩
 ·rename_i a l c
  split at hr
  case h_2=>cases hr
  rename_i ct s en hrow;obtain⟨hb,hr⟩:=Bx hr;rw[GO,wT]at hr;cases hx with
  |@slice _ a' _ _ c' hlc hs=>
   rcases xL c with h0|h0
   ·have hl0:l=0:=by omega
    have hn0:n=0:=by have:=hn l rfl;omega
    subst hn0;refine⟨_,[],hr,by simp[AFr];exact .nil,λw' _=>?_,(λ_ _ _ h=>by simp),(λ_ h=>by cases h),(λ_ _ _ h hpos=>by cases h;omega)⟩;simp only[xe,zX];rfl
   ·obtain⟨s1,s2,p,hp,hbl,hor⟩:=hs
    have ha:AFq φ a a':=by
     rcases hor with h|h
     ·exact⟨s1,s2,p,hp,hbl,h.2.1⟩
     ·omega
    obtain⟨cs',hcs,hlen,hrun,hcell⟩:=SX (P:=P) H ha (hE _ _ _ rfl) hrow (Am.1 hb);exact⟨_,cs',hr,hcs,hrun,(λ_ _ _ _=>hlen),(λ_ h=>by cases h),(λ_ _ _ h _=>by cases h;exact hcell)⟩
 ·rename_i s
  obtain rfl:=hx.AE8;have hn':n<=s.data.toList.length:=by
   have:=hn (DH s.data.toList) rfl
   rwa [Bf]at this
  obtain⟨hone,hr⟩:=Bx hr;rw[N5]at hr;refine⟨_,_,hr,Ln _,λw' _=>?_,(λ_ _ _ h=>by cases h),(λ_ _=>⟨by simp only[List.length_map,wu];omega,Ax.1 hone⟩),(λ_ _ _ h=>by cases h)⟩;simp only[xe,wN]
  congr 1
  apply yD;simp[List.extract_eq_take_drop]
 ·rename_i c
  cases c with
  |none=>cases hr
  |some r=>
   cases hx;have hn0:n=0:=by have:=hn 0 rfl;omega
   subst hn0;exact⟨[],[],hr,.nil,(λw' _=>by simp only[xe,zX];rfl),(λ_ _ _ h=>by simp),(λ_ h=>by cases h),(λ_ _ _ h=>by cases h)⟩
 ·cases hr
theorem SS{x x':vz}(a:AEX φ x x'){n:Nat}(h:lenV x=.ok n):(ABm x').run P w=.ok n w:=by
 unfold lenV at h;split at h
 ·cases h;cases a<;>rfl
 ·cases h
  obtain rfl:=a.AE8;simp only[ABm,wN,Bf];rfl
 ·rename_i b
  cases b with
  |none=>cases h
  |some c=>
   cases h;cases a;rfl
 ·cases h
theorem dO(H:AEZ ty φ E h w)(m:∀b,¬E b){d x:O}{C x':vz}{k:Array xZ}{D t I:xZ}(h0:k[0]? =BY D){ti G:TI}(T:AEx P D ti)(hk:ti.k=.slice I)(A:AEx P I G)
  (j:AEX φ (d e) C)(X:AEX φ (x e) x')(a:KJ G.size d x F e h=.ok v h'):Bo ty φ E h w v h' ((AAQ k t #[C,x']).run P w):=by
 unfold KJ RG at a;split at a
 case h_2=>cases a
 rename_i a8 g dc a5;rw[a5]at j;split at a
 case h_2=>cases a
 rename_i c Y;rw[Ae,BV]at a;obtain⟨cs,B,a,J,a2,M,N,_⟩:=Ga (P:=P) H (λ_ _ _ _=>m _) X a (λb1 S=>by rw[Y]at S;cases S;exact AAJ _ _);have f:=a2 w rfl;obtain⟨dd,K,L⟩:=T.desc;rw[hk]at L;cases L;have Q:=SS (P:=P) (w:=w) X Y;split at a
 ·cases a
  cases j;have key:(AAQ k t #[.slice By 0 0,x']).run P w=.ok (goInt ((min c 0:Nat):Int)) w:=by
   simp only[AAQ,h0,wM,K,wH,Q,A.size,wN,xC,xN,xh];have:Nat.min c 0=min c 0:=rfl;rw[this,f];rfl
  rw[key];exact .same H (.int _ _)
 ·rename_i o b0
  cases j with
  |@slice _ p _ _ a4 a9 W=>
   have a1:∃l w1,(.ok (.int .i64 (.ofNat (min c g))) l:R)=.ok v h'/\(storeCells p B).run P w=.ok () w1/\AEZ ty φ E l w1/\Evo φ h w φ l w1:=by
    rcases xL dc with h0|h0
    ·have a6:g=0:=by omega
     subst a6;have a0:B=[]:=by
      have hz:min c 0=0:=Nat.min_zero _;rw[hz]at f M N;cases x'<;>first|(simp only[xe]at f;cases f;done)|skip
      ·exact zZ.1 (N _ rfl).1
      ·rename_i s sl a3
       cases s with
       |none=>simp only[xe,wN]at f;cases f;rfl
       |some s=>exact zZ.1 (by have:=M s sl a3 rfl;simpa using this)
     subst a0;have:cs=[]:=by cases J;rfl
     subst this;unfold C3 at a;split at a
     case h_2=>cases a
     rename_i ct b2 en V;obtain⟨_,a⟩:=Bx a;obtain⟨_,a⟩:=Bx a;simp only[Bt]at a;obtain⟨bl,u,n,q⟩:=Fs a;obtain⟨_,_,r,i,_,_⟩:=W;have U:=H.row o.block r i (m _);have z:=DQ V;rw[z]at U;have y:Live h o.block:=by unfold Live;rw[z];intro j;cases j
     exact⟨_,w,q,rfl,H.put (m _) u i y n rfl (λ_ _=>rfl) U,.put (H.AFZ i u) i y n (by rw[DQ V];exact .inr ⟨rfl,rfl⟩) rfl (λ_ _=>rfl) rfl rfl rfl⟩
    ·obtain⟨s1,s2,r,i,n,a7⟩:=W
     have ha:AFq φ o p:=by
      rcases a7 with h|h
      ·exact⟨s1,s2,r,i,n,h.2.1⟩
      ·omega
     exact JA (P:=P) H a ha J (m _)
   obtain⟨l,w1,q,Z,H1,ev⟩:=a1;cases q;have key:(AAQ k t #[.slice (BY p) g a4,x']).run P w=.ok (goInt ((min c g:Nat):Int)) w1:=by
    simp only[AAQ,h0,wM,K,wH,Q,A.size,wN,xC,xN,xh];have:Nat.min c g=min c g:=rfl;rw[this,f];simp only[wH,Z,wM,wN]
   rw[key];exact⟨_,_,φ,rfl,.int _ _,H1,ev⟩
end
section
variable {P:xU}{ty:TTy}{φ:Phi}{E:Nat->Prop}{h h':Hp}{w:xG}{e:Env}{v:vz}
theorem AEZ.of_heap(H:AEZ ty φ E h w){w':xG}(a:w'.heap=w.heap):AEZ ty φ E h w' where
 dom:=by rw[a];exact H.dom
 inj:=H.inj
 row:=by rw[a];exact H.row
 fresh:=H.fresh
 kind:=H.kind
 inp:=H.inp
theorem Zf(H:AEZ ty φ E h w)(m:∀b,¬E b){a a':AAG}{c c' o:Nat}{vs p:List vz}{k:Hp->R}(F:AGL φ a c a' c')(h0:c=0->vs=[])
  (d:C3 (Fc a o) vs h k=.ok v h')(z:AEp φ vs p):
  ∃l w1,k l=.ok v h'/\(storeCells (a'.add o) p).run P w=.ok () w1/\AEZ ty φ E l w1/\Evo φ h w φ l w1:=by
 obtain⟨s1,s2,f,e,t,D⟩:=F;have B:(Fc a o).block=a.block:=by unfold Fc;split<;>rfl
 rcases xL c with hc|hc
 ·have:=h0 hc
  subst this;have:p=[]:=by cases z;rfl
  subst this;unfold C3 at d;split at d
  case h_2=>cases d
  rename_i L N M n;obtain⟨_,d⟩:=Bx d;obtain⟨_,d⟩:=Bx d;simp only[Bt]at d;obtain⟨bl,i,j,u⟩:=Fs d;rw[B]at n j u i;have y:=H.row a.block f e (m _);have r:=DQ n;rw[r]at y;have q:Live h a.block:=by unfold Live;rw[r];intro C;cases C
  exact⟨_,w,u,rfl,H.put (m _) i e q j rfl (λ_ _=>rfl) y,.put (H.AFZ e i) e q j (by rw[DQ n];exact .inr ⟨rfl,rfl⟩) rfl (λ_ _=>rfl) rfl rfl rfl⟩
 ·have x:a'.off=f.off+a.off:=by
   rcases D with h|h
   ·exact h.2.1
   ·omega
  obtain⟨I,J,G⟩:=a';obtain⟨s,g,K⟩:=a;simp only at s1 s2 e t x;subst s1;subst s2;subst t;subst x;have A:Fc ⟨s,g,By⟩ o=⟨s,g+o,By⟩:=by
   unfold Fc;cases o<;>rfl
  rw[A]at d;rw[Addr.AFa];refine JA (P:=P) H d ⟨rfl,rfl,f,e,rfl,?_⟩ z (m _);show f.off+g+o=f.off+(g+o);omega
theorem Oe(N:Nat):∀(r c:Nat),c<N->AAC N r c<=N+(N+768)/4
 |0,c,h=>by unfold AAC;omega
 |r+1,c,h=>by
  unfold AAC;split
  ·omega
  ·rcases wh (c+(c+768)/4) N with a|a
   ·exact Oe N r _ a
   ·cases r with
    |zero=>unfold AAC;omega
    |succ r=>unfold AAC;rw[IT a];omega
theorem jW{a cap:Nat}(h:cap<a):zH a cap<=2*a:=by
 unfold zH;split
 ·omega
 ·split
  ·omega
  ·have:=Oe a 4 cap h
   omega
theorem NG(H:AEZ ty φ E h w){en:Nat}{a:TI}(D:ty.get en=BY a){b c:Nat}(i:0<b)(o:b<=c){cs cs' rest:List vz}(e:AEp φ cs cs')(u:cs.length=b*a.size)
  (g:rest.length=(c - b)*a.size){w':xG}(F:w'.heap=w.heap.push (.cells ⟨cs'++rest⟩ en))(C:w'.tape=w.tape)(x:w'.os=w.os)(y:w'.output=w.output)
  {t:VT}{n:Nat}(m:∀j,j<cs.length->t.get j=cs.getD j undef)(l:n=cs.length)(z:CP h (wQ en) t n (FI b b)=.ok v h'):∃ψ,AEX ψ v (.slice (BY ⟨w.heap.size,0,By⟩) b c)/\AEZ ty ψ E h' w'/\Evo φ h w ψ h' w':=by
 have f:=e.length;have K:(c - b)*a.size+b*a.size=c*a.size:=by rw[<- AAv];congr 1;omega
 have B:(⟨cs'++rest⟩:Array vz).size=c*a.size:=by simp[f,g,u];omega
 obtain⟨J,s,k,ev⟩:=Na (cs:=cs) (cs':=⟨cs'++rest⟩) (t:=en) (fr:=(0,0)) (w':=w')
  (p:={blk:=w.heap.size,off:=0,sz:=cs.length,room:=(⟨cs'++rest⟩:Array vz).size,es:=a.size}) H z m l rfl ⟨rfl,.inr ⟨en,a,rfl,D,rfl⟩⟩ (by simp[f]) (.inl rfl)
  (λj G q=>by
   obtain⟨I,d,A⟩:=e.get j G q;refine⟨I,?_,A⟩;have r:j<cs'.length:=by
    rcases wh j cs'.length with h|h
    ·exact h
    ·rw[yF h]at d;cases d
   simp only[xC];rw[wX r];exact d) F C x y
 cases s;refine⟨_,.slice (wB _) ⟨rfl,rfl,_,Phi.AFJ _ _ _,rfl,.inl ⟨i,rfl,.inr ⟨?_,o,?_⟩⟩⟩,k,ev⟩
 ·simp only;omega
 ·simp only[B];omega
theorem cD(H:AEZ ty φ E h w)(hE:∀b,¬E b){en:Nat}{ei:TI}(hty:ty.get en=BY ei)(hes:0<ei.size){base:Option AAG}{base':Option AAG}{sl sc sc' need:Nat}
  (hsl:AEX φ (.slice base sl sc) (.slice base' sl sc'))(AHS:sc<need){olds news AGA news':List vz}(ho:AEp φ olds AGA)(hn:AEp φ news news')
  (hol:olds.length=sl*ei.size)(hnl:(olds++news).length=need*ei.size)(hone:∀v∈news',v.oneCell'=IN)
  (hcell:∀a a',base=BY a->base'=BY a'->0<sc->∃p cs t fr,φ a.block=BY p/\w.heap[p.blk]? =BY (.cells cs t fr)/\∀j u,AGA[j]? =BY u->cs[p.off+a.off+j]? =BY u)
  {tr:VT}{n:Nat}(hT:∀j,j<(olds++news).length->tr.get j=(olds++news).getD j undef)(hN:n=(olds++news).length)(hr:Ez ei.size en base sc need tr n h=.ok v h'):
  (∀c rest,need<=c->rest.length=(c - need)*ei.size->∀w':xG,sc'<need->w'.heap=w.heap.push (.cells ⟨(AGA++news')++rest⟩ en)->w'.tape=w.tape->w'.os=w.os->w'.output=w.output->
   ∃ψ,AEX ψ v (.slice (BY ⟨w.heap.size,0,By⟩) need c)/\AEZ ty ψ E h' w'/\Evo φ h w ψ h' w')/\
  (∀a',base'=BY a'->need<=sc'->∃w' ψ,(storeCells (a'.add (sl*ei.size)) news').run P w=.ok () w'/\AEX ψ v (.slice (BY a') need sc')/\AEZ ty ψ E h' w'/\Evo φ h w ψ h' w'):=by
 have AE4:=ho.append hn;have AGI:0<need:=by omega
 unfold Ez at hr;split at hr
 ·
  cases hsl;refine⟨λc rest hc AF4 w' _ hw' ht hos hout=>NG H hty AGI hc AE4 hnl AF4 hw' ht hos hout hT hN hr,λa' ha=>by cases ha⟩
 ·rename_i _ a
  cases hsl with
  |@slice _ a' _ _ _ hlc hs=>
  split at hr
  case h_2=>cases hr
  rename_i ct s en0 hrow;obtain⟨s1,s2,p,hp,hbl,hor⟩:=hs;have AG1:=H.kind a.block p ct s en0 hp (DQ hrow);have AFK:Live h a.block:=by unfold Live;rw[DQ hrow];intro hd;cases hd
  have AHT:(p.room=p.sz/\p.es=1)->sc'=sc:=by
   rintro⟨q1,q2⟩;rcases hor with ⟨q3,q4,q5|⟨q5,q6,q7⟩⟩|⟨q3,q4|q4⟩
   ·exact q5
   ·rw[q2]at q5 q7;omega
   ·omega
   ·rw[q2]at q4;omega
  have real:sc'=sc->CP h (wQ en) tr n (FI need need)=.ok v h'->
    (∀c rest,need<=c->rest.length=(c - need)*ei.size->∀w':xG,sc'<need->w'.heap=w.heap.push (.cells ⟨(AGA++news')++rest⟩ en)->w'.tape=w.tape->w'.os=w.os->w'.output=w.output->
     ∃ψ,AEX ψ v (.slice (BY ⟨w.heap.size,0,By⟩) need c)/\AEZ ty ψ E h' w'/\Evo φ h w ψ h' w')/\
    (∀a'',BY a'=BY a''->need<=sc'->∃w' ψ,(storeCells (a''.add (sl*ei.size)) news').run P w=.ok () w'/\AEX ψ v (.slice (BY a'') need sc')/\AEZ ty ψ E h' w'/\Evo φ h w ψ h' w'):=by
   intro hsc hr;exact⟨λc rest hc AF4 w' _ hw' ht hos hout=>NG H hty AGI hc AE4 hnl AF4 hw' ht hos hout hT hN hr,λa'' _ h2=>by omega⟩
  split at hr
  ·refine real (AHT ?_) hr
   rcases AG1.2 with ⟨_,q1,q2,_⟩|⟨t,ti,q1,_⟩
   ·exact⟨q1,q2⟩
   ·cases q1
  ·rename_i e0
   obtain⟨hb,hr⟩:=Bx hr;have hen:e0=en:=Ax.1 hb;subst hen;have AI2:p.es=ei.size:=by
    rcases AG1.2 with ⟨q0,_⟩|⟨t,ti,q1,q2,q3⟩
    ·cases q0
    ·have:t=e0:=by omega
     subst this;rw[hty]at q2;cases q2;exact q3
   split at hr
   ·obtain⟨bl,AEd,AFU,hr⟩:=Fs hr
    have Hk:=H.kill AFU (lo:=B9 h.low a.block) (hi:=Cu h.high a.block) (mk:=h.mark);refine⟨λc rest hc AF4 w' _ hw' ht hos hout=>?_,λa'' AJt hcap=>?_⟩
    ·obtain⟨ψ,hv,H2,ev⟩:=NG Hk hty AGI hc AE4 hnl AF4 hw' ht hos hout hT hN hr
     refine⟨ψ,hv,H2,?_⟩;have evk:Evo φ h w φ {next:=h.next,low:=B9 h.low a.block,high:=Cu h.high a.block,mark:=h.mark,bl:=bl} w:={
      le:=.refl _,new:=λ_ _ e=>.inl e,next:=wB _,size:=wB _,tape:=rfl,os:=rfl,output:=rfl,frame:=λ_ _ _=>rfl,
      back:=λi q e hl _=>⟨i,q,e,λhd=>hl (by show bl.get i=_;rw[BT.AEY AFU];split<;>first|rfl|exact hd),rfl,rfl,.inl rfl⟩,
      kept:=λi _ hi=>by
       show bl.get i=_;have hi:i<B9 h.low a.block\/Cu h.high a.block<i:=hi;rw[BV,Bz]at hi;rw[BT.AEY AFU,If (by omega)],
      low:=by show B9 _ _<=_;rw[BV];exact AAJ _ _,
      high:=by show _<=Cu _ _;rw[Bz];exact Nat.le_max_left _ _,
      shape:=λi _=>by
       show AEo _ (bl.get i);rw[BT.AEY AFU];split
       ·exact .inl rfl
       ·exact .refl _,
      only:=λi _ h0=>by
       show bl.get i=_;rw[BT.AEY AFU,If (λe=>by rw[e,hp]at h0;cases h0)],
      all:=λ_ h1 h2=>absurd h2 (AAg.2 h1)}
     exact evk.trans ev
    ·cases AJt
     obtain⟨p0,cs,t,fr,hp0,hwc,R⟩:∃p0 cs t fr,φ a.block=BY p0/\w.heap[p0.blk]? =BY (.cells cs t fr)/\AGM ty φ p0 ct s (e0+1) cs fr:=by
      obtain⟨cs,t,fr,q1,q2⟩:=H.rowAt hp (hE _) hrow;exact⟨p,cs,t,fr,hp,q1,q2⟩
     rw[hp]at hp0;cases hp0;obtain⟨ab',ao',AI0⟩:=a';simp only at s2 hbl hor;subst s2;subst hbl;have AIB:p.off<=ao'/\ao'+sc' * ei.size<=p.off+p.room/\(0<sc->ao'=p.off+a.off):=by
      have hz:p.sz<=p.room:=R.room;rw[AI2]at hor;rcases hor with ⟨q3,q4,q5|⟨q5,q6,q7⟩⟩|⟨q3,q4|⟨q4,q5⟩⟩
      ·omega
      ·exact⟨by omega,by omega,λ_=>q4⟩
      ·omega
      ·exact⟨by omega,by omega,λh=>by omega⟩
     have AH7:=R.fits;have hmul:need*ei.size<=sc'*ei.size:=ABL _ hcap;have hlo:=ho.length;have hln:=hn.length;have AK4:olds.length+news.length=need*ei.size:=by rw[<- hnl];simp
     rw[Addr.AFa];have hst:(storeCells ⟨p.blk,ao'+sl*ei.size,By⟩ news').run P w=.ok () (w.setCells p.blk (ao'+sl*ei.size) news'):=by
      refine run_storeCells_cells (P:=P) p.blk (ao'+sl*ei.size) news' 0 w (λj hj=>?_) (λj hj=>?_) hone
      ·rw[Ik hwc];simp;omega
      ·exact Oc hwc R.AIz (by omega)
     obtain⟨cs',e1,e2,e3,e4,e5,e6,e7,e8⟩:=Gi p.blk t fr news' (ao'+sl * ei.size) cs w hwc (by omega);unfold CP at hr;rw[Ae]at hr;obtain⟨bl2,AGk,hk2⟩:=Gy hr;cases hk2
     let p':Pl:={blk:=p.blk,off:=ao',sz:=need*ei.size,room:=p.off+p.room - ao',es:=ei.size}
     have hB:AFT ty (φ.put h.next p') p' (.cells tr n (e0+1)) ((w.setCells p.blk (ao'+sl*ei.size) news').heap[p'.blk]?):=by
      show AFT ty (φ.put h.next p') p' _ ((w.setCells p.blk (ao'+sl*ei.size) news').heap[p.blk]?);rw[e1,hN,hnl];refine .cells {
       kind:=⟨rfl,.inr ⟨e0,ei,rfl,hty,rfl⟩⟩,room:=(by show need*ei.size<=p.off+p.room - ao';omega),fits:=(by show ao'+(p.off+p.room - ao')<=cs'.size;omega),
       loose:=.inl (by rw[e2];exact R.AIz),cell:=λj hj=>?_}
      have hj2:j<(olds++news).length:=by omega
      rw[hT j hj2];show ∃v,cs'[ao'+j]? =BY v/\_;have hD:(olds++news).getD j undef=(olds++news)[j]:=by
       rw[wG,wE hj2];rfl
      rw[hD];obtain⟨u',hu,hru⟩:=AE4.get j _ (wE hj2);refine⟨u',?_,hru.mono (Phi.AFu H.AFO)⟩;rw[e3];rcases wh j olds.length with hjo|hjo
      ·rw[If (by omega)]
       rw[wX (by omega)]at hu;have AI3:0<sc:=by
        rcases xL sc with q|q
        ·have:sl=0:=by omega
         rw[this,zX]at hol;omega
        ·exact q
       obtain⟨p1,cs1,t1,fr1,hp1,hw1,hc1⟩:=hcell a _ rfl rfl AI3;rw[hp]at hp1;cases hp1;rw[hwc]at hw1;cases hw1;rw[AIB.2.2 AI3];exact hc1 j u' hu
      ·rw[IT (by omega)]
       rw[wi (by omega)]at hu;rw[<- hu];congr 1;omega
     have AHU:∀j q,φ j=BY q->Live ({next:=h.next,low:=B9 h.low a.block,high:=Cu h.high a.block,mark:=h.mark,bl:=bl}:Hp) j->q.blk≠p'.blk:=by
      intro j q hq hl hqb;have hl':bl.get j≠.dead:=hl;rw[BT.AEY AFU]at hl';split at hl'
      ·exact hl' rfl
      ·rename_i hjb
       exact hjb (H.inj j a.block q p hq hp (hE _) (hE _) hl' AFK (.inr (H.AFZ hp AEd)) hqb)
     have H2:=Hk.new (lo:=B9 h.low a.block) (hi:=Cu h.high a.block) (mk:=h.mark) (w':=w.setCells p.blk (ao'+sl*ei.size) news') (p:=p') AGk (AAu e4.symm) (by rw[e4];exact(H.dom _ _ hp).2) AHU (λk _ hk=>e5 k hk) hB;refine⟨_,_,hst,?_,H2,Evo.grow H (H.AFZ hp AEd) rfl hp AFK AFU AGk rfl e4 e5 e6 e7 e8⟩;refine .slice (wB _) ⟨rfl,rfl,p',Phi.AFJ _ _ _,rfl,.inl ⟨AGI,rfl,.inr ⟨?_,hcap,?_⟩⟩⟩
     ·show 0+need*ei.size=need*ei.size;omega
     ·show 0+sc'*ei.size<=p.off+p.room - ao';omega
   ·rename_i hend
    refine real ?_ hr;rcases hor with ⟨q3,q4,q5|⟨q5,q6,q7⟩⟩|⟨q3,_⟩
    ·exact q5
    ·exfalso
     unfold Lm at hend;cases sc with
     |zero=>omega
     |succ n=>
      simp only at hend;have:wU (yK a.off (xW (n+1) ei.size)) s=IN:=Ax.2 (by rw[<- AG1.1,<- q5,AI2];rfl);rw[this]at hend;cases hend
    ·exfalso
     subst q3;cases hend
end
section
variable {P:xU}{ty:TTy}{φ:Phi}{E:Nat->Prop}{h h':Hp}{w:xG}{F:AES}{e:Env}{v:vz}
theorem cC{b en:Nat}{base:Option AAG}{sc c:Nat}{cs:List vz}(a:J7 b en base sc c cs h=.ok v h'):
  ∃(t:VT) (m:Nat),(∀j,j<cs.length->t.get j=cs.getD j undef)/\m=cs.length/\Ez b en base sc c t m h=.ok v h':=by
 unfold J7 at a;split at a
 case h_2=>cases a
 rename_i e d;exact⟨e,_,Jg d,Bf _,a⟩
open Classical in
theorem Ru{b en:Nat}{base:Option AAG}{sl sc e:Nat}{d:List vz}
  (c:Gv b en base sl sc e d h (BP h b (.slice base sl sc) sl λa=>J7 b en base sc e (a++d) h)=.ok v h'):
  ∃f:List vz->R,BP h b (.slice base sl sc) sl f=.ok v h'/\∀a,f a=.ok v h'->∃(t:VT) (m:Nat),(∀j,j<(a++d).length->t.get j=(a++d).getD j undef)/\
   m=(a++d).length/\Ez b en base sc e t m h=.ok v h':=by
 have i:BP h b (.slice base sl sc) sl (λa=>J7 b en base sc e (a++d) h)=.ok v h'->
   ∃f:List vz->R,BP h b (.slice base sl sc) sl f=.ok v h'/\∀a,f a=.ok v h'->∃(t:VT) (m:Nat),(∀j,j<(a++d).length->t.get j=(a++d).getD j undef)/\
    m=(a++d).length/\Ez b en base sc e t m h=.ok v h':=λc=>⟨_,c,λa h=>cC h⟩
 unfold Gv at c;split at c
 ·exact i c
 ·rename_i _ r
  split at c
  ·rename_i x
   split at c
   ·rename_i g sz A y
    split at c
    ·rename_i s
     have z:sz=sl * b:=Ax.1 s;split at c
     case h_2=>cases c
     rename_i t q;refine⟨λa=>if a=AFr g 0 sz then Ez b en (BY r) sc e t (yK sz (DH d)) h else .no,?_,λa k=>?_⟩
     ·unfold BP
      simp only[y,x];have w:wY (yK 0 (xW sl b)) sz=IN:=Am.2 (by show 0+sl*b<=sz;omega);rw[w,GO,wT];have:xW sl b=sz:=z.symm;rw[this];simp only[cond_true,if_true];exact c
     ·by_cases n:a=AFr g 0 sz
      ·simp only[n,if_true]at k
       subst n;refine⟨t,_,λj u=>?_,?_,k⟩
       ·have p:(AFr g 0 sz).length=sz:=GY g 0 sz
        rw[Ha _ _ _ _ q j,wG (l:=AFr g 0 sz++d)];rw[wD,p]at u;rcases wh j sz with o|o
        ·rw[If (by omega),wX (by omega)]
         simp[AFr,o]
        ·rw[IT (by omega),wi (by omega),p,<- wG]
       ·rw[wD,GY,Bf];rfl
      ·simp only[n,if_false]at k;cases k
    ·exact i c
   ·exact i c
  ·exact i c
def CV(elem:xZ)(size:Nat)(base:Option AAG)(s:vz)(sLen sCap n:Nat)(AF5:Bool)(x:vz)(AFC:Sem (Array vz)):Sem vz:=do
 let need:=sLen+n
 if need<=sCap then
  let new <- AFC
  if let BY a:=base then storeCells (a.add (sLen*size)) new.toList
  pure (.slice base need sCap)
 else
  if(need:Int) > zV.max/\(AF5\/(<- typeInfo elem).bytes=0)then runtimePanic (.error "growslice: len out of range")
  if zH need sCap*(<- typeInfo elem).bytes > 2 ^ 48 then(if AF5 then runtimePanic (.error "growslice: len out of range")else do
   if !(<- Builtin.mayShare size sLen n base x)then mark .noRoom
   unsupported (.resourceLimit "append: a slice or a string whose bytes no memory bears"))
  let AGW <- choose (.appendCap need sCap elem)
  askRoom (AGW*(<- typeInfo elem).bytes)
  let old <- xe size sLen s
  let new <- AFC
  let rest:=AAI (<- zeroValue elem).cells (AGW - need)
  pure (.slice (BY (<- AAb elem (old++new++rest))) need AGW)
theorem JG(H:AEZ ty φ E h w)(hE:∀b,¬E b){en:Nat}{ei:TI}(hty:ty.get en=BY ei)(TE:AEx P en ei)(hes:0<ei.size)(hz:ei.zero.length=ei.size)
  {base base':Option AAG}{sl sc sc' n:Nat}(hs:AEX φ (.slice base sl sc) (.slice base' sl sc')){AF5:Bool}{x':vz}{AFC:Sem (Array vz)}{news news':List vz}
  (hn:AEp φ news news')(hnl:news.length=n*ei.size)(AHp:∀w':xG,w'.heap=w.heap->AFC.run P w'=.ok ⟨news'⟩ w')
  (hr:(∃k,sl+n<=sc/\k=(match base with
    |none=>(.ok (.slice By (sl+n) sc) h:R)
    |some a=>C3 (Fc a (sl*ei.size)) news h λh=>.ok (.slice (BY a) (sl+n) sc) h)/\k=.ok v h')\/
   (sc<sl+n/\wY (xW (wQ (sl+n)) (wQ ei.bytes)) JZ=IN/\Bd news=IN/\
    ∃ALI:List vz->R,BP h ei.size (.slice base sl sc) sl ALI=.ok v h'/\∀olds,ALI olds=.ok v h'->∃(t:VT) (m:Nat),(∀j,j<(olds++news).length->t.get j=(olds++news).getD j undef)/\
     m=(olds++news).length/\Ez ei.size en base sc (sl+n) t m h=.ok v h')):
  Bo ty φ E h w v h' ((CV en ei.size base' (.slice base' sl sc') sl sc' n AF5 x' AFC).run P w):=by
 obtain⟨inf,AGg,hsz,hbt,_⟩:=TE.info;obtain⟨z,_,hzr,hzc,hzp⟩:=TE.AFe hz;have hzs:z.cells.size=ei.size:=by rw[<- hz,<- hzc];simp
 rcases hr with ⟨k,hle,rfl,hr⟩|⟨hlt,AIC,hone,ALI,hr,hG⟩
 ·cases hs with
  |AFL=>
   cases hr;have:n=0:=by omega
   subst this;have key:(CV en ei.size By (.slice By 0 0) 0 0 0 AF5 x' AFC).run P w=.ok (.slice By 0 0) w:=by
    simp only[CV,wB,if_true,wM,AHp w rfl,wH,wN]
   rw[key];exact .same H .AFL
  |@slice a a' _ _ _ hlc hs=>
   simp only at hr;have h0:sc=0->news=[]:=λh0=>zZ.1 (by
    have:n=0:=by omega
    rw[hnl,this,zX])
   obtain⟨h1,w1,hk,hrun,H1,ev⟩:=Zf (P:=P) H hE hs h0 hr hn;cases hk;have hcc:sl+n<=sc':=wy hle hs.le;have key:(CV en ei.size (BY a') (.slice (BY a') sl sc') sl sc' n AF5 x' AFC).run P w=.ok (.slice (BY a') (sl+n) sc') w1:=by
    simp only[CV,hcc,if_true,wM,AHp w rfl,wH,hrun,wN]
   rw[key];exact⟨_,_,φ,rfl,.slice hle hs,H1,ev⟩
 ·have hs0:=hs
  obtain⟨olds,AGA,hr,ho,hrun,hl1,hl2,hcell⟩:=Ga (P:=P) H (λ_ _ _ _=>hE _) hs hr (λm hm=>by cases hm;exact wB _);obtain⟨tr,tn,hT,hN,hr⟩:=hG olds hr;have AID:=JO hn hone;obtain⟨hm1,hm2⟩:=Xc AIC;have hol:olds.length=sl*ei.size:=by
   rw[<- ho.length];cases base' with
   |none=>cases hs;have:=hrun w rfl;simp only[xe,wN]at this;cases this;simp
   |some a'=>exact hl1 a' sl sc' rfl
  have AJu:(olds++news).length=(sl+n)*ei.size:=by rw[wD,hol,hnl,AAv]
  obtain⟨AJv,AIE⟩:=cD (P:=P) H hE hty hes hs hlt ho hn hol AJu AID (λa a' ha ha' hpos=>hcell a sl sc (by rw[ha]) hpos) hT hN hr;rcases wh sc' (sl+n)with hroom|hroom
  ·
   let q:Question:=.appendCap (sl+n) sc' en
   let c:Nat:=q.cut (w.tape w.drawn q)
   let w1:xG:={w with drawn:=w.drawn+1}
   have hc:sl+n<=c:=ADE _ _;have hrl:(BX z.cells.toList (c - (sl+n))).length=(c - (sl+n))*ei.size:=by rw[GX];simp[hzs]
   obtain⟨ψ,hv,H2,ev⟩:=AJv c (BX z.cells.toList (c - (sl+n))) hc hrl {w1 with heap:=w.heap.push (.cells ⟨(AGA++news')++BX z.cells.toList (c - (sl+n))⟩ en)} hroom rfl rfl rfl rfl;have AGl:¬((sl+n:Nat):Int) > zV.max:=by
    have:zV.max=9223372036854775807:=by decide
    rw[this];omega
   have hnx:¬(zH (sl+n) sc'*ei.bytes > 2 ^ 48):=by
    have h1:=jW hroom;have h2:zH (sl+n) sc'*ei.bytes<=(2*(sl+n))*ei.bytes:=ABL _ h1;have h3:(2*(sl+n))*ei.bytes<=(2*(sl+n+1))*(ei.bytes+1):=ABx (by omega) (by omega);have h4:(2*(sl+n+1))*(ei.bytes+1)=2*((sl+n+1)*(ei.bytes+1)):=by rw[Nat.mul_assoc]
    omega
   have AJw:¬(sl+n<=sc'):=by omega
   have key:(CV en ei.size base' (.slice base' sl sc') sl sc' n AF5 x' AFC).run P w=.ok (.slice (BY ⟨w.heap.size,0,By⟩) (sl+n) c)
     {w1 with heap:=w.heap.push (.cells ⟨(AGA++news')++BX z.cells.toList (c - (sl+n))⟩ en)}:=by
    have ho1:=hrun w1 rfl;have hn1:=AHp w1 rfl;have AGB:q.forced=IS:=rfl;simp only[CV,AJw,if_false,wM,run_typeInfo _ AGg,wH,AGl,false_and,wN,hbt,hnx,AAe,run_choose,AGB,xJ,run_askRoom];show((xe ei.size sl (.slice base' sl sc')).run P w1).andThen _=_;rw[ho1];simp only[wH];show(AFC.run P w1).andThen _=_;rw[hn1];have AIF:∀a b:List vz,(⟨a⟩:Array vz)++(⟨b⟩:Array vz)=⟨a++b⟩:=λa b=>by apply yD;simp
    simp only[wH,hzr,Hg,AAb,wM,run_newObj,wN,AIF];rfl
   rw[key];exact⟨_,_,ψ,rfl,hv,H2,ev⟩
  ·
   cases base' with
   |none=>cases hs;omega
   |some a'=>
    obtain⟨w',ψ,hst,hv,H2,ev⟩:=AIE a' rfl hroom;have key:(CV en ei.size (BY a') (.slice (BY a') sl sc') sl sc' n AF5 x' AFC).run P w=.ok (.slice (BY a') (sl+n) sc') w':=by
     simp only[CV,hroom,if_true,wM,AHp w rfl,wH,hst,wN]
    rw[key];exact⟨_,_,ψ,rfl,hv,H2,ev⟩
theorem Kv{a:Array xZ}{e h t c:xZ}(h0:a[0]? =BY e)(k:a[1]? =BY h){ti d:TI}(T:AEx P e ti)(hk:ti.k=.slice c)(j:AEx P h d)(hx:(∃q,d.k=.slice q)\/d.k=.string){b:TI}(i:AEx P c b){base:Option AAG}{sl sc n:Nat}{x:vz}
  (o:(ABm x).run P w=.ok n w):
  (zW a t #[.slice base sl sc,x]).run P w=(CV c b.size base (.slice base sl sc) sl sc n IS x (xe b.size n x)).run P w:=by
 obtain⟨p,l,f⟩:=T.desc;rw[hk]at f;cases f;obtain⟨r,m,g⟩:=j.desc;rcases hx with ⟨q,hx⟩|hx<;>rw[hx]at g<;>cases g<;>
 ·unfold zW CV
  simp only[wM,l,wH,i.size,wN,h0,k,xC,xN,xh,m,xJ,if_false,o,xP,if_true];rfl
theorem Nc(H:AEZ ty φ E h w)(z:∀b,¬E b){s x:O}{s' x':vz}{m:Array xZ}{y C t g:xZ}(h0:m[0]? =BY y)(I:m[1]? =BY C){ti p c:TI}(T:AEx P y ti)(hk:ti.k=.slice g)(D:AEx P C p)(V:(∃q,p.k=.slice q)\/p.k=.string)
  (U:ty.get g=BY c)(r:AEx P g c)(J:0<c.size)(W:c.zero.length=c.size)
  (o:AEX φ (s e) s')(j:AEX φ (x e) x')(a:Bm c.size c.bytes g s x F e h=.ok v h'):Bo ty φ E h w v h' ((zW m t #[s',x']).run P w):=by
 unfold Bm DY at a;split at a
 case h_2=>cases a
 rename_i a0 sl sc S;rw[S]at o;split at a
 case h_2=>cases a
 rename_i k d;obtain⟨Y,a2,a,A,n,K,L,_⟩:=Ga (P:=P) H (λ_ _ _ _=>z _) j a (λa1 i=>by rw[d]at i;cases i;exact wB _);rw[Ae]at a;have M:=SS (P:=P) (w:=w) j d;have f:∃u B,s'=.slice u sl B:=by
  cases o
  ·exact⟨_,_,rfl⟩
  ·exact⟨_,_,rfl⟩
 obtain⟨u,B,rfl⟩:=f;rw[Kv h0 I T hk D V r M];have Q:Y.length=k*c.size:=by
  rw[<- A.length];cases x' with
  |string s=>obtain⟨Z,q2⟩:=L s rfl;rw[Z,q2,yp]
  |slice l X G=>
   cases l with
   |some l=>exact K l X G rfl
   |none=>
    have:=n w rfl;simp only[xe,wN]at this;cases this;have N:k=0:=by
     generalize x e=xv at j d;cases j
     ·unfold lenV at d;cases d;rfl
     ·unfold lenV at d;cases d
    rw[N];simp
  |_=>have:=n w rfl;simp only[xe]at this;cases this
 refine JG (P:=P) H z U r J W o A Q n ?_;split at a
 ·rename_i f
  refine .inl ⟨_,Am.1 f,rfl,?_⟩;exact a
 ·rename_i f
  obtain⟨i,a⟩:=Bx a;obtain⟨R,a⟩:=Bx a;refine .inr ⟨?_,i,R,Ru a⟩;rcases wh sc (sl+k)with h|h
  ·exact h
  ·exact absurd (Am.2 (show yK sl k<=sc from h)) (by rw[f];simp)
theorem L9{ats:Array xZ}{dt st t el:xZ}(h0:ats[0]? =BY dt)(h1:ats[1]? =BY st){ti xi:TI}(T:AEx P dt ti)(hk:ti.k=.slice el)(TX:AEx P st xi){q:we}(hx:xi.k=.int q){ei:TI}(TE:AEx P el ei){base:Option AAG}{sl sc n:Nat}{q':we}
  (hn1:n<=70368744177664)(hn2:n*ei.bytes<=70368744177664):
  (zW ats t #[.slice base sl sc,.int q' (n:Nat)]).run P w=(CV el ei.size base (.slice base sl sc) sl sc n IN (.int q' (n:Nat))
   (if n*ei.size=0 then pure #[]else do pure (AAI (<- zeroValue el).cells n))).run P w:=by
 obtain⟨d,hd,hkd⟩:=T.desc;rw[hk]at hkd;cases hkd;obtain⟨dx,hdx,hkx⟩:=TX.desc;rw[hx]at hkx;cases hkx;obtain⟨inf,AGg,hsz,hbt,_⟩:=TE.info;have w1:zV.wrap (n:Int)=n:=Ie (by omega);have q0:¬((n:Int)<0):=by omega
 have q1:¬((n:Int)*(ei.bytes:Int) > 2 ^ 48):=by rw[<- ADS];omega
 unfold zW CV;simp only[wM,hd,wH,TE.size,wN,xC,xN,xh,h0,h1,hdx,if_true,asInt,asIntOf,w1,q0,if_false,run_typeInfo _ AGg,hbt,q1,yC,xK,xJ];rfl
theorem Sh(H:AEZ ty φ E h w)(hE:∀b,¬E b){s x:O}{s' x':vz}{ats:Array xZ}{dt st t el:xZ}(h0:ats[0]? =BY dt)(h1:ats[1]? =BY st){ti xi ei:TI}(T:AEx P dt ti)(hk:ti.k=.slice el)(TX:AEx P st xi){q:we}(hxk:xi.k=.int q)
  (hty:ty.get el=BY ei)(TE:AEx P el ei)(hes:0<ei.size)(hz:ei.zero.length=ei.size)
  (hs:AEX φ (s e) s')(hx:AEX φ (x e) x')(hr:F2 ei.size ei.bytes el ei.zero s x F e h=.ok v h'):Bo ty φ E h w v h' ((zW ats t #[s',x']).run P w):=by
 unfold F2 Ih at hr;split at hr
 case h_2=>cases hr
 rename_i base sl sc hse;rw[hse]at hs;split at hr
 case h_2=>cases hr
 rename_i n hn;obtain⟨q',rfl⟩:=FW hx hn;rw[Ae]at hr;have hb:∃base' sc',s'=.slice base' sl sc':=by
  cases hs
  ·exact⟨_,_,rfl⟩
  ·exact⟨_,_,rfl⟩
 obtain⟨base',sc',rfl⟩:=hb;obtain⟨hm,hr⟩:=Bx hr;obtain⟨hone,hr⟩:=Bx hr;obtain⟨hm1,hm2⟩:=Xc hm;have AK5:sl+n<=70368744177664:=hm1;have AK6:(sl+n+1)*(ei.bytes+1)<=70368744177664:=hm2;have hnb:n*ei.bytes<=(sl+n+1)*(ei.bytes+1):=ABx (by omega) (by omega);rw[L9 h0 h1 T hk TX hxk TE (by omega) (by omega)];obtain⟨z,_,hzr,hzc,hzp⟩:=TE.AFe hz;have hzs:z.cells.size=ei.size:=by rw[<- hz,<- hzc];simp
 have AE4:AEp φ (BX ei.zero n) (BX ei.zero n):=IX (.plain hzp) n;have hnl:(BX ei.zero n).length=n*ei.size:=by rw[GX,hz]
 have AIG:Bd (BX ei.zero n)=IN:=by
  have app:∀a b:List vz,Bd a=IN->Bd b=IN->Bd (a++b)=IN:=by
   intro a
   induction a with
   |nil=>intro b _ h;exact h
   |cons u a ih=>
    intro b h1 h2;unfold Bd at h1;cases hu:oneCell u with
    |false=>rw[hu]at h1;cases h1
    |true=>
     rw[hu]at h1;show(bif oneCell u then Bd (a++b)else IS)=IN;rw[hu];exact ih b h1 h2
  have:∀n,Bd (BX ei.zero n)=IN:=by
   intro n
   induction n with
   |zero=>rfl
   |succ n ih=>exact app _ _ hone ih
  exact this n
 refine JG (P:=P) H hE hty TE hes hz hs AE4 hnl (λw' _=>?_) ?_
 ·by_cases h0:n*ei.size=0
  ·rw[IT h0]
   have:BX ei.zero n=[]:=zZ.1 (by rw[hnl,h0]);rw[this];rfl
  ·rw[If h0]
   simp only[wM,hzr,wH,Hg,hzc,wN]
 ·split at hr
  ·rename_i hb
   exact .inl ⟨_,Am.1 hb,rfl,hr⟩
  ·rename_i hb
   refine .inr ⟨?_,hm,AIG,Ru hr⟩;rcases wh sc (sl+n)with h|h
   ·exact h
   ·exact absurd (Am.2 (show yK sl n<=sc from h)) (by rw[hb];simp)
end
section
variable {P:xU}{ty:TTy}{φ:Phi}{E:Nat->Prop}{h h':Hp}{w:xG}{F:AES}{e:Env}{v:vz}
theorem Mu:∀{cs cs':List vz} {bs:List UInt8},AEp φ cs cs'->FL cs=BY bs->
  ∃ns:List Int,cs'=ns.map (xd .u8)/\∀s:ByteArray,(ns.foldl (λr n=>r.push (zr n.toNat)) s).data.toList=s.data.toList++bs
 |_,_,bs,.nil,a=>by
  cases a;exact⟨[],rfl,λs=>by simp⟩
 |_,_,bs,.cons (v:=m) (v':=o) (l:=l) (l':=l') h i,a=>by
  unfold FL at a;split at a
  ·cases ‹_::_=[]›
  ·rename_i n k e
   injection e with b c
   subst b;subst c;split at a
   ·rename_i j d
    rw[Ae]at a;cases a;obtain⟨ns,g,f⟩:=Mu i d;have:=h.AE6;subst this;refine⟨(n:Int)::ns,by rw[g];rfl,λs=>?_⟩;rw[ADH,f];simp
   ·cases a
  ·cases a
theorem ZR(H:AEZ ty φ E h w){x:O}(hE:∀a l c,x e=.slice (BY a) l c->¬E a.block){x':vz}{src dst el:xZ}{si di ei:TI}(TS:AEx P src si)(hs:si.k=.slice el)(TD:AEx P dst di)(hd:di.k=.string)(TE:AEx P el ei)(he:ei.k=.int .u8)
  (hx:AEX φ (x e) x')(hr:F4 x F e h=.ok v h'):Bo ty φ E h w v h' ((convert src dst x').run P w):=by
 obtain⟨d1,h1,k1⟩:=TS.und;obtain⟨d2,h2,k2⟩:=TD.und;obtain⟨d3,h3,k3⟩:=TE.und;rw[hs]at k1;cases k1;rw[hd]at k2;cases k2;rw[he]at k3;cases k3;unfold F4 at hr;split at hr
 case h_3=>cases hr
 case h_2=>
  rename_i r hxe;rw[hxe]at hx;cases r with
  |none=>cases hr
  |some r=>
   cases hr;cases hx;rw[run_convert_bytes_string w src dst el (BY _) 0 0 h1 h3 h2,run_bytesToString w _ 0 0 [] rfl];exact .same H (.string _)
 rename_i a n c hxe;rw[hxe]at hx;have hx0:=hx;obtain⟨cs,cs',hr,hcs,hrun,hl1,hl2,_⟩:=Ga (P:=P) H (λa l c heq=>by cases heq;exact hE _ _ _ hxe) hx hr (λm hm=>by cases hm;exact wB _);split at hr
 case h_2=>cases hr
 rename_i bs hbs;cases hr;obtain⟨ns,hns,hf⟩:=Mu hcs hbs;have AHV:=hf ACU;have AI4:=M6 (a:=ns.foldl (λr n=>r.push (zr n.toNat)) ACU) (l:=bs) (by rw[AHV];rfl);cases hx with
 |AFL=>
  rw[run_convert_bytes_string w src dst el By 0 0 h1 h3 h2];have:=hrun w rfl;simp only[xe,wN]at this;have AHH:cs'=[]:=by cases this;rfl
  have AJx:ns=[]:=by
   rw[AHH]at hns;cases ns with
   |nil=>rfl
   |cons _ _=>cases hns
  subst AJx;rw[<- AI4];exact .same H (.string _)
 |@slice _ a' _ _ c' hlc hsl=>
  rw[run_convert_bytes_string w src dst el (BY a') n c' h1 h3 h2];have hld:(loadCells a' n).run P w=.ok (ns.map (xd .u8)).toArray w:=by
   have:=hrun w rfl;rw[hns]at this;simp only[xe,yp]at this;exact this
  rw[run_bytesToString w a' n c' ns hld,AI4];exact .same H (.string _)
theorem Sa(A:Array Obj)(x:Obj)(f:Obj->Obj):(A.push x).modify A.size f=A.push (f x):=by
 apply Array.ext_getElem?;intro b;rw[zq,ACW,ACW];by_cases a:b=A.size
 ·subst a;simp
 ·rw[If (AEG a),If a,If a]
theorem cq(w:xG)(A:Array vz)(a:xZ):(markStringish ⟨w.heap.size,0,By⟩).run P {w with heap:=w.heap.push (.cells A a)}=
  .ok () {w with heap:=w.heap.push (.cells A a (A.size,A.size+1))}:=by
 have b:ACA {w with heap:=w.heap.push (.cells A a)} w.heap.size=BY (a,A.size):=by simp[ACA]
 simp only[markStringish,wM,run_shape,wH,b,run_freeze,ACB,ABk,if_false,Sa];rfl
theorem So(H:AEZ ty φ E h w){x:O}{x':vz}{src k b:xZ}{C o g:TI}(L:AEx P src C)(Z:C.k=.string)(J:AEx P k o)(S:o.k=.slice b)(K:AEx P b g)(T:g.k=.int .u8)
  (a0:ty.get b=BY g)(hz:g.size=1)(u:AEX φ (x e) x')(d:KP b x F e h=.ok v h'):Bo ty φ E h w v h' ((convert src k x').run P w):=by
 obtain⟨d1,N,y⟩:=L.und;obtain⟨d2,Q,z⟩:=J.und;obtain⟨d3,R,A⟩:=K.und;rw[Z]at y;cases y;rw[S]at z;cases z;rw[T]at A;cases A;unfold KP at d;split at d
 case h_2=>cases d
 rename_i a a1;rw[a1]at u;obtain rfl:=u.AE8;rw[Ae,Bf]at d;obtain⟨hb,d⟩:=Bx d
 let B:Question:=.appendCap a.size 0 b
 let c:Nat:=B.cut (w.tape w.drawn B)
 have q:a.size<=c:=ADE _ _
 let cells:List vz:=a.data.toList.map λf=>.int .u8 (f.toNat:Int)
 let rest:List vz:=List.replicate (c - a.size) (.int .u8 0)
 have r:cells.length=a.size:=by simp[cells]
 let w':xG:={w with drawn:=w.drawn+1,heap:=w.heap.push (.cells ⟨cells++rest⟩ b (c,c+1))}
 have i:(⟨cells++rest⟩:Array vz).size=c:=by simp[rest,r];omega
 have n:AEp φ (Cp a.data.toList) cells:=Ln _;have j:(Cp a.data.toList).length=a.size:=by rw[<- n.length,r]
 obtain⟨a4,W,I,ev⟩:=O5 (cs':=⟨cells++rest⟩) (t:=b) (fr:=(c,c+1)) (w':=w')
  (p:={blk:=w.heap.size,off:=0,sz:=(Cp a.data.toList).length,room:=(⟨cells++rest⟩:Array vz).size,es:=1}) H d rfl ⟨rfl,.inr ⟨b,g,rfl,a0,hz.symm⟩⟩ (by rw[j,i];exact q) (.inr (by rw[i];exact wB _))
  (λm a2 U=>by
   obtain⟨u',l,Y⟩:=n.get m a2 U;refine⟨u',?_,Y⟩;have V:m<cells.length:=by
    rcases wh m cells.length with h|h
    ·exact h
    ·rw[yF h]at l;cases l
   simp only[xC];rw[wX V];exact l) rfl rfl rfl rfl
 cases W;have key:(convert src k (.string a)).run P w=.ok (.slice (BY ⟨w.heap.size,0,By⟩) a.size c) w':=by
  have D:(Question.appendCap a.size 0 b).forced=IS:=rfl;have G:(a.data.map λf=>(xd .u8 (f.toNat:Int)))++AC4 (c - a.size) (xd .u8 0)=⟨cells++rest⟩:=by
   apply yD;simp[cells,rest]
  have s:=cq (P:=P) {w with drawn:=w.drawn+1} ⟨cells++rest⟩ b;rw[i]at s;simp only[convert,wM,run_underlying N,run_underlying Q,run_underlying R,wH,Conv.stringToBytes,run_choose,D,xJ,if_false,AAb,run_newObj,wN];show(((markStringish ⟨w.heap.size,0,By⟩).run P {w with drawn:=w.drawn+1,heap:=w.heap.push (.cells ((a.data.map λf=>(xd .u8 (f.toNat:Int)))++AC4 (c - a.size) (xd .u8 0)) b)}).andThen
   λ_ a3=>ACn (Value.slice (BY ⟨w.heap.size,0,By⟩) a.size c) a3)=_
  rw[G];have X:(markStringish ⟨w.heap.size,0,By⟩).run P {w with drawn:=w.drawn+1,heap:=w.heap.push (.cells ⟨cells++rest⟩ b)}=.ok () w':=s;rw[X];rfl
 rw[key];refine⟨_,_,_,rfl,?_,I,ev⟩;have M:a.data.toList.length=a.size:=rfl;rw[M];refine .slice (wB _) ⟨rfl,rfl,_,Phi.AFJ _ _ _,rfl,?_⟩;rcases xL a.size with h0|h0
 ·refine .inr ⟨h0,.inr ⟨?_,?_⟩⟩
  ·simp only[j,h0]
  ·simp only[j,i,h0];omega
 ·refine .inl ⟨h0,rfl,.inr ⟨?_,q,?_⟩⟩
  ·simp only[j];omega
  ·simp only[i];omega
end
section
variable {P:xU}{ty:TTy}{φ:Phi}{h:Hp}{w:xG}{e:Env}{v:vz}{f:Fr}
def GD:vz->Lit
 |.bool a=>.bool a
 |.int c b=>.int c b
 |.string d=>.string d.data.toList
 |_=>.bool IS
theorem qz{k:we}{n:Int}(h:inK k n=IN):(Lit.int k n).wf=IN:=by
 unfold Lit.wf;simp only[wV,decide_eq_true_eq];cases n with
 |ofNat a=>
  have h:wY a (BH k)=IN:=h;have:=Am.1 h;cases k<;>simp[ADQ,ADR,ACs,ADJ,BH]at this ⊢<;>omega
 |negSucc a=>
  cases k<;>simp only[inK]at h<;>first|(cases h;done)|skip
  all_goals
   have:=Am.1 h;simp[ADQ,ADR,ACs,ADJ,BH]at this ⊢;omega
theorem H4{k:we}{v:vz}(h:MA (.i k) v=IN):∃n,v=.int k n/\(Lit.int k n).wf=IN:=by
 unfold MA at h;simp only at h;split at h
 ·split at h
  ·rename_i a
   exact⟨_,by rw[IZ a],qz h⟩
  ·cases h
 ·cases h
theorem Gs{v:vz}(h:MA .b v=IN):∃b,v=.bool b:=by
 unfold MA at h;simp only at h;split at h
 ·exact⟨_,rfl⟩
 ·cases h
theorem H5{v:vz}(h:MA .s v=IN):∃s,v=.string s/\s.size<=maxLen:=by
 unfold MA at h;simp only at h;split at h
 ·rename_i s
  refine⟨s,rfl,?_⟩;have:=Am.1 h;rw[Bf]at this;have e:s.data.toList.length=s.size:=by simp
  have a:most<=maxLen:=by unfold most maxLen;omega
  omega
 ·cases h
theorem Dd{l:List vz}(h:FB [] l=IN):l=[]:=by
 cases l with
 |nil=>rfl
 |cons=>cases h
theorem Cs{c:CK}{ks:List CK}{l:List vz}(h:FB (c::ks) l=IN):∃v r,l=v::r/\MA c v=IN/\FB ks r=IN:=by
 cases l with
 |nil=>cases h
 |cons v r=>
  unfold FB at h;split at h
  ·rename_i a;exact⟨v,r,rfl,a,h⟩
  ·cases h
theorem J3:∀{ks:List CK} {l:List vz},FB ks l=IN->l.length=ks.length
 |[],l,h=>by rw[Dd h];rfl
 |c::ks,l,h=>by
  obtain⟨v,b,rfl,_,a⟩:=Cs h;simp[J3 a]
theorem H6:∀{a b:List CK} {l:List vz},FB (a++b) l=IN->FB a (l.take a.length)=IN/\FB b (l.drop a.length)=IN
 |[],b,l,h=>⟨rfl,h⟩
 |c::a,b,l,h=>by
  obtain⟨v,i,rfl,f,g⟩:=Cs h;obtain⟨d,e⟩:=H6 g;refine⟨?_,by simpa using e⟩;show FB (c::a) (v::i.take a.length)=IN;unfold FB;rw[f];exact d
theorem JU{c:CK}{v:vz}(h:MA c v=IN):∃l:Lit,GD v=l/\v=l.toCell/\l.keyWf:=by
 cases c with
 |i e=>obtain⟨f,rfl,d⟩:=H4 h;exact⟨.int e f,rfl,rfl,d⟩
 |b=>obtain⟨b,rfl⟩:=Gs h;exact⟨.bool b,rfl,rfl,No⟩
 |s=>obtain⟨s,rfl,a⟩:=H5 h;exact⟨.string s.data.toList,rfl,rfl,by show s.data.toList.length<=maxLen;simpa using a⟩
theorem RU{ks:List CK}:∀{l l':List vz},FB ks l=IN->AEp φ l l'->l'=l:=by
 induction ks with
 |nil=>intro l l' h a;rw[Dd h]at a ⊢;cases a;rfl
 |cons f ks k=>
  intro l l' h a;obtain⟨v,n,rfl,c,g⟩:=Cs h;cases a with
  |cons d j=>
   rw[k g j]
   congr 1
   cases f with
   |i m=>obtain⟨e,rfl,_⟩:=H4 c;exact d.AE6
   |b=>obtain⟨e,rfl⟩:=Gs c;exact d.AFP
   |s=>obtain⟨e,rfl,_⟩:=H5 c;exact d.AE8
theorem GK{x:vz}(a:∀l,x≠.agg l):cellsOf x=[x]:=by
 unfold cellsOf;split
 ·rename_i l;exact absurd rfl (a l)
 ·rfl
theorem DZ{K:KS}{x:vz}(h:Gt K x=IN):FB K.ks (cellsOf x)=IN/\cellsOf x=x.cells.toList/\((K.agg=IN/\∃l,x=.agg ⟨l⟩)\/(K.agg=IS/\(∀l,x≠.agg l)/\∀l,x≠.tuple l)):=by
 unfold Gt at h;split at h
 ·rename_i i
  split at h
  ·rename_i c
   exact⟨h,rfl,.inl ⟨c,i.toList,rfl⟩⟩
  ·cases h
 ·rename_i j
  split at h
  ·cases h
  ·rename_i c
   have b:∀l,x≠.agg l:=λl e=>j l e
   have a:cellsOf x=[x]:=by
    unfold cellsOf;split
    ·rename_i l;exact absurd rfl (b l)
    ·rfl
   have f:∀l,x≠.tuple l:=by
    intro l e;subst e;cases d:K.ks with
    |nil=>rw[d]at h;cases h
    |cons g ks=>
     rw[d]at h;obtain⟨v,k,e,a,_⟩:=Cs h;cases e;cases g<;>cases a
   refine⟨by rw[a];exact h,?_,.inr ⟨c,b,f⟩⟩;rw[a];cases x<;>first|rfl|exact absurd rfl (b _)|exact absurd rfl (f _)
theorem J2{K:KS}{x x':vz}(h:Gt K x=IN)(a:AEX φ x x'):x'=x:=by
 obtain⟨b,f,c⟩:=DZ h;rcases c with ⟨_,i,rfl⟩|⟨_,e,g⟩
 ·cases a with
  |agg a=>rw[RU b a];rfl
 ·have d:cellsOf x=[x]:=GK e
  rw[d]at b;have:=RU b (.cons a .nil);exact ADI.inj this |>.1
theorem NX{b c:Type}{f:b->Option c}{g:b->c}:∀{a:List b},(∀x∈a,f x=BY (g x))->a.mapM f=BY (a.map g)
 |[],_=>rfl
 |x::a,h=>by
  rw[ABI,h x (by simp),NX λe d=>h e (by simp[d])];rfl
theorem RW{ks:List CK}:∀{m:Nat} {cs:List vz},FB (BX ks m) cs=IN->cs.length=m*ks.length/\∀i,i<m->FB ks ((cs.drop (i*ks.length)).take ks.length)=IN
 |0,cs,h=>by
  refine⟨?_,λi b=>absurd b (zP _)⟩;rw[Dd h];simp
 |m+1,cs,h=>by
  have h:FB (ks++BX ks m) cs=IN:=h;obtain⟨a,c⟩:=H6 h;obtain⟨d,e⟩:=RW c;have f:=J3 a;refine⟨?_,λi b=>?_⟩
  ·simp only[wu,List.length_drop]at f d
   rw[zc];omega
  ·cases i with
   |zero=>simpa using a
   |succ i=>
    have:=e i (by omega);rw[ABs]at this;rw[zc,ACa];exact this
theorem RZ{P:xU}{rec:Nat->Option (List CK)}:∀{d:List Field} {off:Nat} {ks:List CK},flatK.flatF rec off (d.map λf=>(f.offset,P.cellsOf f.type,f.type))=BY ks->
  (∀f∈d,∃c,rec f.type=BY c)/\
  ∀cs:List vz,FB ks (cs.drop off)=IN->(∀f∈d,∀c,rec f.type=BY c->FB c ((cs.drop f.offset).take (P.cellsOf f.type))=IN)/\
   ((d.map λf=>(cs.drop f.offset).take (P.cellsOf f.type)).flatten=cs.drop off)
 |[],off,ks,a=>by
  cases a;refine⟨(λf j=>by cases j),λcs h=>⟨(λf j=>by cases j),?_⟩⟩;rw[Dd h];rfl
 |f::d,off,ks,a=>by
  rw[yA]at a;unfold flatK.flatF at a;split at a
  case h_2=>cases a
  rename_i e;split at a
  case h_2=>cases a
  rename_i c n;split at a
  case h_2=>cases a
  rename_i l;split at a
  case h_2=>cases a
  rename_i u o;cases a;have e:f.offset=off:=Ax.1 e;have l:c.length=P.cellsOf f.type:=by rw[<- Ax.1 l,Bf]
  obtain⟨p,q⟩:=RZ o;refine⟨λg b=>?_,λcs h=>?_⟩
  ·rcases wS.1 b with rfl|b
   ·exact⟨c,n⟩
   ·exact p g b
  ·obtain⟨m,i⟩:=H6 h
   rw[l]at m i;rw[ABs]at i;obtain⟨r,s⟩:=q cs i;refine⟨λg b t k=>?_,?_⟩
   ·rcases wS.1 b with rfl|b
    ·rw[n]at k;cases k
     rw[e];exact m
    ·exact r g b t k
   ·rw[yA,List.flatten_cons,s,e]
    have:cs.drop (yK off (P.cellsOf f.type))=(cs.drop off).drop (P.cellsOf f.type):=by rw[ABs];rfl
    rw[this,List.take_append_drop]
theorem Pn{t:Nat}{b:Array Field}(h:P.underlying t=BY (.struct b))(a:AGj P t=IN):
  (∀f∈b.toList,(f.name != "_")=IN)/\(!(P.cutTypes.any (·.2 == t)) && !P.stoodInHeld t)=IN:=by
 unfold AGj at a;rw[h]at a;simp only[wV,yf]at a;obtain⟨⟨c,d⟩,e⟩:=a;exact⟨λf g=>c f (yj.1 g),by rw[d,e];rfl⟩
theorem FS(q:DI P ty):∀(n t:Nat) (ks:List CK),flatK ty n t=BY ks->
  P.keyTypeAt n t=IN/\(∀d,n<=d->P.eqGuardType d t=IS)/\(∀ti,ty.get t=BY ti->ti.k.agg=IN->ks.length=ti.size)/\
  ∀cs,FB ks cs=IN->P.keyLits n t cs=BY (cs.map GD)
 |0,t,ks,h=>by cases h
 |n+1,t,ks,h=>by
  unfold flatK at h;cases C:ty.get t with
  |none=>rw[C]at h;cases h
  |some ti=>
   simp only[C]at h;have A:=q t ti C;obtain⟨d,a,l⟩:=A.und;have K:=A.cells;have plain:∀{d:ABT},(match d with|.interface _=>IN|.struct _=>IN|.array _ _=>IN|_=>IS)=IS->P.underlying t=BY d->∀e,n+1<=e->P.eqGuardType e t=IS:=by
    intro d S a e M;cases e with
    |zero=>omega
    |succ e=>unfold AAp;rw[a];cases d<;>first|rfl|cases S
   cases b:ti.k with
   |int a0=>
    simp only[b]at h;rw[b]at l;cases l;cases h;refine⟨by unfold za;rw[a],plain rfl a,(λz m j=>by cases m;rw[b]at j;cases j),λcs k=>?_⟩;obtain⟨v,O,rfl,u,w⟩:=Cs k;obtain rfl:=Dd w;obtain⟨c,rfl,G⟩:=H4 u;unfold zt;rw[a];simp[G,GD]
   |bool=>
    simp only[b]at h;rw[b]at l;cases l;cases h;refine⟨by unfold za;rw[a],plain rfl a,(λz m j=>by cases m;rw[b]at j;cases j),λcs k=>?_⟩;obtain⟨v,O,rfl,u,w⟩:=Cs k;obtain rfl:=Dd w;obtain⟨c,rfl⟩:=Gs u;unfold zt;rw[a];simp[GD]
   |string=>
    simp only[b]at h;rw[b]at l;cases l;cases h;refine⟨by unfold za;rw[a],plain rfl a,(λz m j=>by cases m;rw[b]at j;cases j),λcs k=>?_⟩;obtain⟨v,O,rfl,u,w⟩:=Cs k;obtain rfl:=Dd w;obtain⟨c,rfl,G⟩:=H5 u;unfold zt;rw[a];simp[G,GD]
   |arr c o=>
    simp only[b]at h;rw[b]at l;cases l;split at h
    case h_2=>cases h
    rename_i B U;split at h
    case h_2=>cases h
    rename_i y X;split at h
    case h_2=>cases h
    rename_i i;split at h
    case h_2=>cases h
    rename_i g;cases h;obtain⟨Y,Z,_,i3⟩:=FS q n o y X;have J:=(q o B U).cells;have i:y.length=B.size:=by rw[<- Ax.1 i,Bf]
    have g:c*B.size=ti.size:=Ax.1 g;have Q:∀c,(BX y c).length=c*y.length:=by
     intro c
     induction c with
     |zero=>simp[BX]
     |succ c ih=>rw[BX,wD,ih,zc];omega
    refine⟨by unfold za;rw[a];exact Y,λe M=>?_,(λz m j=>by cases m;rw[Q,i,g]),λcs k=>?_⟩
    ·cases e with
     |zero=>omega
     |succ e=>unfold AAp;rw[a];exact Z e (by omega)
    ·obtain⟨I,R⟩:=RW k
     have E:cs.length=P.cellsOf t:=by rw[K,<- g,I,i]
     have F:(xx c).mapM (λp=>P.keyLits n o ((cs.drop (p*P.cellsOf o)).take (P.cellsOf o)))=BY ((xx c).map λp=>((cs.drop (p*P.cellsOf o)).take (P.cellsOf o)).map GD):=
      NX λp D=>by
       rw[J,<- i];exact i3 _ (R p (List.mem_range.1 D))
     unfold zt;rw[a];simp only[E,if_true,F,yN]
     congr 1
     have:=chunks_flatten (P.cellsOf o) c cs (by rw[J,<- i];exact I)
     conv=>rhs;rw[<- this]
     rw[AC0,zw];rfl
   |struct fs=>
    simp only[b]at h;rw[b]at l;cases l with
    |@struct _ x W _=>
     split at h
     case h_2=>cases h
     rename_i a1 L;split at h
     case h_2=>cases h
     rename_i i;cases h;have i:ks.length=ti.size:=by rw[<- Ax.1 i,Bf]
     rw[<- W]at L;obtain⟨H,j2⟩:=RZ L;obtain⟨N,n2⟩:=Pn a A.AJp;refine⟨?_,λe M=>?_,(λz m j=>by cases m;exact i),λcs k=>?_⟩
     ·unfold za
      rw[a];simp only[Bool.and_assoc,n2,ADe];rw[yf];intro f g;obtain⟨s,r⟩:=H f (yj.2 g);rw[N f (yj.2 g),(FS q n f.type s r).1];rfl
     ·cases e with
      |zero=>omega
      |succ e=>
       unfold AAp;rw[a];simp only;rw[Array.any_eq_false];intro p D;obtain⟨s,r⟩:=H x[p] (yj.2 (Array.getElem_mem D));rw[(FS q n _ s r).2.1 e (by omega)];simp
     ·have V:FB ks (cs.drop 0)=IN:=k
      obtain⟨k1,k2⟩:=j2 cs V;have E:cs.length=P.cellsOf t:=by rw[K,<- i,J3 k]
      have F:x.toList.mapM (λf=>P.keyLits n f.type ((cs.drop f.offset).take (P.cellsOf f.type)))=BY (x.toList.map λf=>((cs.drop f.offset).take (P.cellsOf f.type)).map GD):=
       NX λf g=>by
        obtain⟨s,r⟩:=H f g;exact(FS q n f.type s r).2.2.2 _ (k1 f g s r)
      have T:x.all (·.name != "_")=IN:=by
       rw[yf];intro f g;exact N f (yj.2 g)
      unfold zt;rw[a];simp only[E,T,and_self,if_true,F,yN]
      congr 1
      have:cs=cs.drop 0:=rfl
      conv=>rhs;rw[this,<- k2]
      rw[AC0,zw];rfl
   |_=>simp only[b]at h;cases h
theorem LB{c:CK}{a b:vz}(e:MA c a=IN)(f:MA c b=IN){r:Bool}(d:Mw a b=BY r):r=IN↔GD a=GD b:=by
 cases c with
 |i j=>
  obtain⟨g,rfl,_⟩:=H4 e;obtain⟨h,rfl,_⟩:=H4 f;unfold Mw at d;simp only at d;split at d
  ·cases d;rw[Dh];simp[GD]
  ·cases d
 |b=>
  obtain⟨g,rfl⟩:=Gs e;obtain⟨h,rfl⟩:=Gs f;unfold Mw at d;cases d;simp[GD]
 |s=>
  obtain⟨g,rfl,_⟩:=H5 e;obtain⟨h,rfl,_⟩:=H5 f;unfold Mw at d;cases d;rw[Mq];simp[GD]
theorem My:∀{ks:List CK} {a b:List vz},FB ks a=IN->FB ks b=IN->∀{r:Bool},HG a b=BY r->(r=IN↔a.map GD=b.map GD)
 |[],a,b,e,f,r,d=>by
  rw[Dd e,Dd f]at *;cases d;simp
 |c::ks,a,b,e,f,r,d=>by
  obtain⟨l,a,rfl,j,e⟩:=Cs e;obtain⟨m,b,rfl,k,f⟩:=Cs f;unfold HG at d;split at d
  ·rename_i g
   have i:=(LB j k g).1 rfl;rw[My e f d];simp[i]
  ·rename_i g
   cases d;have i:=LB j k g;simp only[yA,ADI.injEq];constructor
   ·intro h;cases h
   ·intro h;exact i.2 h.1
  ·cases d
structure AFc (P:xU)(ty:TTy)(t:Nat)(K:KS):Prop where
 ti:∃ti,ty.get t=BY ti/\K.agg=ti.k.agg
 flat:flatK ty 8 t=BY K.ks
theorem AFc.formed(g:DI P ty){t:Nat}{K:KS}(f:AFc P ty t K){x:vz}(y:Gt K x=IN):x.formed P t=IN/\P.keyLits 8 t x.cells.toList=BY ((cellsOf x).map GD):=by
 obtain⟨c,j,h⟩:=f.ti;obtain⟨_,_,f3,m⟩:=FS g 8 t K.ks f.flat;obtain⟨e,n,o⟩:=DZ y;have d:=g t c j;obtain⟨l,i,b⟩:=d.und;refine⟨?_,by rw[<- n];exact m _ e⟩;rcases o with ⟨a,k,rfl⟩|⟨a,q,r⟩
 ·rw[h]at a
  have u:=f3 c j a;have p:=J3 e;unfold ADW;rw[i];have w:(Array.mk k).size=P.cellsOf t:=by
   have:k.length=K.ks.length:=p;rw[d.cells,<- u,<- this];rfl
  generalize c.k=z at b a;cases b<;>first|(cases a;done)|(simp only[w];exact beq_self_eq_true _)
 ·rw[h]at a
  have:(match P.underlying t with|some (.struct _)=>IS|some (.array _ _)=>IS|_=>IN)=IN:=by
   rw[i];generalize c.k=z at b a;cases b<;>first|rfl|(cases a;done)|skip
   rename_i s;cases l<;>first|rfl|cases s
  unfold ADW;cases x<;>first|exact absurd rfl (q _)|exact absurd rfl (r _)|exact this
theorem AFc.equal(b:DI P ty){t:Nat}{K:KS}(a:AFc P ty t K){x y:vz}(c:Gt K x=IN)(d:Gt K y=IN){r:Bool}(i:HG (cellsOf x) (cellsOf y)=BY r)(w:xG):
  (ABj t x y).run P w=.ok r w:=by
 obtain⟨f,g⟩:=a.formed b c;obtain⟨g1,g2⟩:=a.formed b d;obtain⟨k,_⟩:=FS b 8 t K.ks a.flat;obtain⟨l,j,h⟩:=run_equalIn_deep (P:=P) 9992 8 t k w _ _ x y _ _ f g1 g g2;have:=My (DZ c).1 (DZ d).1 i;have e:l=r:=by
  rw[yW,h,this]
 rw[<- e];exact j
theorem AFc.check(b:DI P ty){t:Nat}{K:KS}(a:AFc P ty t K){x:vz}(e:Gt K x=IN)(em:Bool)(w:xG):(Instr.checkKey em 10000 t x).run P w=.ok () w:=by
 obtain⟨c,d⟩:=a.formed b e;obtain⟨f,_⟩:=FS b 8 t K.ks a.flat;exact run_checkKey_deep (P:=P) em 9992 8 t f w _ x _ c d
theorem Pm{t:Nat}{d:ABT}(f:P.underlying t=BY d)(n:Nat){a b:vz}{c:Bool}(e:ABy d a b=BY c)(w:xG):(AAy (n+1) t a b).run P w=.ok c w:=by
 unfold ABy at e;split at e
 ·split at e
  ·rename_i g
   cases e;simp[AAy,run_underlying f,g]
  ·cases e
 ·cases e;simp[AAy,run_underlying f]
 ·cases e;simp[AAy,run_underlying f]
 ·cases e
theorem J0{t:Nat}{d:ABT}(g:P.underlying t=BY d){k:vz}:∀{es:List xu} {i:Nat} {r:Option (Nat×vz)},ABz d k es i=BY r->∀w:xG,(xS t k es i).run P w=.ok r w
 |[],i,r,h,w=>by cases h;simp[xS]
 |e::es,i,r,h,w=>by
  have same:∀{b c:vz} {f:Bool},ABy d b c=BY f->(ABj t b c).run P w=.ok f w:=λa=>Pm g 9999 a w
  unfold ABz at h;split at h
  ·rename_i a
   cases h;simp[xS,same a]
  ·rename_i a
   have:=J0 g h w;simp[xS,same a,this]
  ·cases h
theorem Fw{t:Nat}{d:ABT}(a:P.underlying t=BY d){k:vz}{es:List xu}{r:Option (Nat×vz)}(b:(xS t k es 0).run P w=.ok r w):(AB0 t k es).run P w=.ok r w:=by
 unfold AB0;simp only[wM,run_underlying a,wH];cases c:ABz d k es 0 with
 |none=>exact b
 |some e=>
  have:=J0 a c w;rw[b]at this;cases this;simp
theorem IE(e:DI P ty){t:Nat}{K:KS}(d:AFc P ty t K){x y c:vz}(f:Gt K x=IN)(g:AEX φ y c){r:Bool}(a:ID K x y=BY r)(w:xG):(ABj t x c).run P w=.ok r w/\Gt K y=IN/\c=y:=by
 unfold ID at a;split at a
 ·rename_i b
  have:=J2 b g;subst this;exact⟨d.equal e f b a w,b,rfl⟩
 ·cases a
theorem NA(f:DI P ty){t:Nat}{K:KS}(d:AFc P ty t K){x:vz}(j:Gt K x=IN)(w:xG):∀{es:List Ent} {c:List xu} (i:Nat),AFX φ es c->∀{r:Option Ent},JI K x es=BY r->
  match r with
  |none=>(xS t x c i).run P w=.ok By w
  |some e=>∃m v',(xS t x c i).run P w=.ok (BY (m,v')) w/\AEX φ e.val v'
 |_,_,i,.nil,r,h=>by cases h;simp[xS]
 |_,_,i,.cons (k:=k) (k':=k') (v:=v) (v':=v') (b:=b) (l:=l) (l':=l') n u q,r,h=>by
  unfold JI at h;split at h
  ·rename_i g
   cases h;obtain⟨a,_⟩:=IE f d j n g w;exact⟨i,v',by simp[xS,a],u⟩
  ·rename_i g
   obtain⟨a,_⟩:=IE f d j n g w;have o:=NA f d j w (i+1) q h;cases r with
   |none=>simpa [xS,a] using o
   |some e=>
    obtain⟨m,y,p,s⟩:=o;exact⟨m,y,by simp[xS,a,p],s⟩
  ·cases h
theorem RX{c:CK}{x:vz}(h:MA c x=IN)(n:Nat):AAx n x x=IN:=by
 obtain⟨b,_,rfl,a⟩:=JU h;exact sameBits_toCell a n
theorem Yn{ks:List CK}(n:Nat):∀{l:List vz},FB ks l=IN->(l.zip l).all (λ(x,y)=>AAx n x y)=IN:=by
 induction ks with
 |nil=>intro l h;rw[Dd h];rfl
 |cons d ks c=>
  intro l h;obtain⟨v,e,rfl,a,b⟩:=Cs h;simp only[List.zip_cons_cons,AAn,RX a,c b,Bool.and_self]
theorem Ym{K:KS}{x:vz}(h:Gt K x=IN)(n:Nat):AAx (n+1) x x=IN:=by
 obtain⟨a,_,c⟩:=DZ h;rcases c with ⟨_,k,rfl⟩|⟨_,g,j⟩
 ·unfold AAx
  simp only[beq_self_eq_true,Bool.true_and];exact Yn n a
 ·have d:cellsOf x=[x]:=GK g
  rw[d]at a;cases b:K.ks with
  |nil=>rw[b]at a;cases a
  |cons i ks=>
   rw[b]at a;obtain⟨v,l,e,f,_⟩:=Cs a;cases e;exact RX f _
theorem Mx:∀{ks:List CK} {a b:List vz},FB ks a=IN->FB ks b=IN->HG a b=BY IN->a=b
 |[],a,b,d,e,_=>by rw[Dd d,Dd e]
 |c::ks,a,b,d,e,f=>by
  obtain⟨q,a,rfl,g,d⟩:=Cs d;obtain⟨r,b,rfl,h,e⟩:=Cs e;unfold HG at f;split at f
  ·rename_i m
   have n:=(LB g h m).1 rfl;rw[Mx d e f];obtain⟨o,i,j,_⟩:=JU g;obtain⟨p,k,l,_⟩:=JU h;rw[j,l,<- i,<- k,n]
  ·cases f
  ·cases f
theorem Uq{K:KS}{x y:vz}(k:Gt K x=IN)(b:ID K x y=BY IN):x=y:=by
 unfold ID at b;split at b
 ·rename_i i
  obtain⟨g,o,h⟩:=DZ k;obtain⟨g1,g2,g3⟩:=DZ i;have:=Mx g g1 b;rcases h with ⟨c,l,rfl⟩|⟨c,j,p⟩
  ·rcases g3 with ⟨_,m,rfl⟩|⟨a,_⟩
   ·have:l=m:=this
    rw[this]
   ·rw[c]at a;cases a
  ·rcases g3 with ⟨a,_⟩|⟨_,f,n⟩
   ·rw[c]at a;cases a
   ·have d:cellsOf x=[x]:=GK j
    have e:cellsOf y=[y]:=GK f;rw[d,e]at this;exact ADI.inj this |>.1
 ·cases b
theorem Md(m:DI P ty){t:Nat}{K:KS}(j:AFc P ty t K){x:vz}(c:Gt K x=IN){u A:vz}(s:AEX φ u A)(y:AEX φ x x)(w:xG):∀{es:List Ent} {a:List xu} (i:Nat),AFX φ es a->∀{r:Option (List Ent)},OL K x u es=BY r->
  match r with
  |none=>(xS t x a i).run P w=.ok By w
  |some z=>∃d v' f,(xS t x a i).run P w=.ok (BY (i+d,v')) w/\a[d]? =BY f/\f.key=x/\AFX φ z (a.modify d λe=>{e with key:=x,val:=A})
 |_,_,i,.nil,r,h=>by cases h;simp[xS]
 |_,_,i,.cons (k:=k) (k':=k') (v:=v) (v':=v') (b:=b) (l:=l) (l':=l') o H q,r,h=>by
  unfold OL at h;split at h
  ·rename_i n
   cases h;obtain⟨g,_,F⟩:=IE m j c o n w;have G:=Uq c n;exact⟨0,v',⟨k',v',b⟩,by simp[xS,g],rfl,by simp only;rw[F];exact G.symm,by simpa using AFX.cons y s q⟩
  ·rename_i n
   obtain⟨g,_⟩:=IE m j c o n w;split at h
   ·rename_i z p
    cases h;obtain⟨d,I,f,B,C,D,E⟩:=Md m j c s y w (i+1) q p;refine⟨d+1,I,f,?_,by simpa using C,D,by simpa using AFX.cons o H E⟩;simp only[xS,wM,g,wH,xJ,if_false];rw[B];congr 3;omega
   ·rename_i p
    cases h;have:=Md m j c s y w (i+1) q p
    simpa [xS,g] using this
   ·cases h
  ·cases h
theorem Vs{x:Ent}:∀{es:List Ent},YR x es=es++[x]
 |[]=>rfl
 |e::es=>by unfold YR;rw[Vs];rfl
theorem AFX.append{x:Ent}{x':xu}(b:AFX φ [x] [x']):∀{es:List Ent} {a:List xu},AFX φ es a->AFX φ (es++[x]) (a++[x'])
 |_,_,.nil=>b
 |_,_,.cons c d e=>.cons c d (AFX.append b e)
theorem Ub{K:KS}{x x':vz}(h:Gt K x=IN)(a:AEX φ x x'):x'=x/\AEX φ x x:=by
 have:=J2 h a;subst this;exact⟨rfl,a⟩
end
section
variable {P:xU}{ty:TTy}{φ:Phi}{E:Nat->Prop}{h h':Hp}{w:xG}{F:AES}{e:Env}{v:vz}
def XG:vz->Bool
 |.bool _|.pointer _|.slice _ _ _|.map _|.func _ _ _|.nilFunc=>IN
 |_=>IS
theorem Z8{op:ABn}{neg:Bool}(hop:(op=.eql/\neg=IS)\/(op=.neq/\neg=IN)){t:xZ}{X Y:xE}{a b:vz}(ha:XG a=IN\/∃l,a=.agg l)(hg:(eqGuard op t X Y a b).run P w=.ok () w)
  {r:Bool}(hr:(ABj t a b).run P w=.ok r w):(CG op t X Y a b).run P w=.ok (.bool (neg != r)) w:=by
 unfold CG;rw[wM,hg,wH];have:binOp op t a b=(do pure (.bool (neg != (<- ABj t a b)))):=by
  rcases hop with ⟨rfl,rfl⟩|⟨rfl,rfl⟩
  ·rcases ha with ha|⟨l,rfl⟩
   ·cases a<;>first|(cases ha;done)|skip
    all_goals (simp[binOp];try rfl)
   ·simp[binOp]
  ·rcases ha with ha|⟨l,rfl⟩
   ·cases a<;>first|(cases ha;done)|skip
    all_goals (simp[binOp];try rfl)
   ·simp[binOp]
 rw[this,wM,hr,wH,wN]
theorem Ue{op:ABn}{t:xZ}{X Y:xE}{a b:vz}(c:XG a=IN):(eqGuard op t X Y a b).run P w=.ok () w:=by
 cases op<;>first|rfl|skip
 all_goals (cases a<;>first|(cases c;done)|rfl)
theorem Yq{op:ABn}{t:xZ}{X Y:xE}{a b:Array vz}(c:P.eqGuardType P.depth t=IS):(eqGuard op t X Y (.agg a) (.agg b)).run P w=.ok () w:=by
 cases op<;>first|rfl|skip
 all_goals (simp[eqGuard,c])
theorem qR(n:Nat){k:TK}{x y x' b:vz}{r:Bool}(a:eqV k x y=BY r)(f:AEX φ x x')(g:AEX φ y b){t:Nat}{d:ABT}(c:P.underlying t=BY d)(hk:KOk P k d)(w:xG):
  XG x'=IN/\(AAy (n+1) t x' b).run P w=.ok r w:=by
 unfold eqV at a;split at a
 case h_12=>cases a
 all_goals (cases a;cases hk;first|skip|(rename_i e;cases e))
 all_goals (cases f;cases g)
 all_goals (refine⟨rfl,?_⟩;simp[AAy,run_underlying c])
theorem qS{k:TK}{x y x' a:vz}{r:Bool}(c:eqV k x y=BY r)(e:AEX φ x x')(f:AEX φ y a){t:Nat}{d:ABT}(b:P.underlying t=BY d)(hk:KOk P k d)(w:xG):
 XG x'=IN/\(ABj t x' a).run P w=.ok r w:=qR 9999 c e f b hk w
theorem dP(H:AEZ ty φ E h w){k:TK}{op:ABn}{b:Bool}(j:(op=.eql/\b=IS)\/(op=.neq/\b=IN)){t:Nat}{ti:TI}(T:AEx P t ti)(hk:ti.k=k){X Y:xE}{x y:O}{x' f:vz}
  (m:AEX φ (x e) x')(n:AEX φ (y e) f)(a:oEq k b x y F e h=.ok v h'):Bo ty φ E h w v h' ((CG op t X Y x' f).run P w):=by
 obtain⟨o,i,d⟩:=T.und;rw[hk]at d;unfold oEq at a;split at a
 case h_2=>cases a
 rename_i p l;obtain⟨rfl,rfl⟩:=Nj a;obtain⟨c,g⟩:=qS l m n i d w;rw[Z8 j (.inl c) (Ue c) g];exact .same H (.bool _)
theorem MU(d:DI P ty)(H:AEZ ty φ E h w){K:KS}{op:ABn}{i:Bool}(B:(op=.eql/\i=IS)\/(op=.neq/\i=IN)){t:Nat}{ti:TI}(o:ty.get t=BY ti)(hk:ti.k.agg=IN)(m:flatK ty 8 t=BY K.ks)(f:K.agg=IN)
  {X Y:xE}{x y:O}{x' j:vz}(C:AEX φ (x e) x')(D:AEX φ (y e) j)(c:QN K i x y F e h=.ok v h'):Bo ty φ E h w v h' ((CG op t X Y x' j).run P w):=by
 have p:=d t ti o;have r:AFc P ty t K:=⟨⟨ti,o,by rw[f,hk]⟩,m⟩;unfold QN eqC at c;split at c
 case h_2=>cases c
 rename_i J g;split at g
 case h_2=>cases g
 rename_i b;obtain⟨rfl,rfl⟩:=Nj c;have k:=J2 b C;obtain⟨l,s,q⟩:=IE d r b D g w;rw[<- k]at b;have z:=(FS d 8 t K.ks m).2.1 P.depth p.deep;obtain⟨_,_,g1⟩:=DZ b;obtain⟨_,_,g2⟩:=DZ s;rw[<- q]at g2;rcases g1 with ⟨_,G,n⟩|⟨a,_⟩
 ·rcases g2 with ⟨_,I,A⟩|⟨a,_⟩
  ·rw[<- k]at l
   have u:(eqGuard op t X Y x' j).run P w=.ok () w:=by rw[n,A];exact Yq z
   rw[Z8 B (.inr ⟨_,n⟩) u l];exact .same H (.bool _)
  ·rw[f]at a;cases a
 ·rw[f]at a;cases a
end
section
variable {P:xU}{ty:TTy}{φ:Phi}{E:Nat->Prop}{h h':Hp}{w:xG}{F:AES}{e:Env}{v:vz}{f:Fr}
theorem Bk{t:Nat}{k:TI->OpF}(a:wTy ty t k F e h=.ok v h'):∃ti,ty.get t=BY ti/\k ti F e h=.ok v h':=by
 unfold wTy at a;cases b:ty.get t with
 |none=>rw[b]at a;cases a
 |some ti=>rw[b]at a;exact⟨ti,rfl,a⟩
theorem DW{x:xE}{k:O->OpF}(a:w1 f x k F e h=.ok v h'):∃y,cO f x=BY y/\k y F e h=.ok v h':=by
 unfold w1 at a;cases b:cO f x with
 |none=>rw[b]at a;cases a
 |some y=>rw[b]at a;exact⟨y,rfl,a⟩
theorem Ko{x y:xE}{k:O->O->OpF}(a:w2 f x y k F e h=.ok v h'):∃x' b,cO f x=BY x'/\cO f y=BY b/\k x' b F e h=.ok v h':=by
 unfold w2 at a;obtain⟨x',c,a⟩:=DW a;obtain⟨b,d,a⟩:=DW a;exact⟨x',b,c,d,a⟩
theorem JL{ti:TI}{k:OpF}(a:wZ ti k F e h=.ok v h'):ti.zero.length=ti.size/\k F e h=.ok v h':=by
 unfold wZ at a;cases b:wU (DH ti.zero) ti.size with
 |false=>rw[b]at a;cases a
 |true=>rw[b]at a;exact⟨by rw[<- Ax.1 b,Bf],a⟩
theorem En(a:oNo F e h=.ok v h'):False:=by cases a
def Dg(P:xU)(ty:TTy)(F:AES):Prop:=∀b d h v h',F b d h=.ok v h'->
 (∃a,P.funcs[b]? =BY a/\a.name≠"runtime.NumGoroutine" /\a.body.isNone=IS)/\
 ∀φ w e,AEp φ d e->AEZ ty φ (λ_=>False) h w->
  Calls P b ⟨e⟩ w λi g=>∃f c,i=.returned f/\AEX c v f/\AEZ ty c (λ_=>False) h' g/\Evo φ h w c h' g
def Fb(P:xU)(ty:TTy)(φ:Phi)(E:Nat->Prop)(h:Hp)(v:vz)(h':Hp)(o:zA)(a:Act)(w:xG):Prop:=
 ∀(next:Act->xG->Prop) (e:Exit->Act->xG->Prop),
  (∀c d b,AEX c v d->AEZ ty c E h' b->Evo φ h w c h' b->next (a.put o.dst d) b)->o.wp P a w next e
theorem Fb.AET{o:zA}{a:Act}{s:Sem vz}(hx:execOp a.eval o=(do pure (.value (<- s))))(hg:Bo ty φ E h w v h' (s.run P w)):Fb P ty φ E h v h' o a w:=by
 intro next Q hn
 obtain⟨v',w',ψ,hs,hv,H,ev⟩:=hg;unfold AC9;rw[hx,wM,hs,wH,wN,AA5];exact hn ψ v' w' hv H ev
theorem Fb.AFx{o:zA}{a:Act}{s:Sem Unit}(hx:execOp a.eval o=(do s;pure .skip))(hg:Zv ty φ E h w v h' (s.run P w)):Fb P ty φ E h v h' o a w:=by
 intro next Q hn
 obtain⟨rfl,w',hs,H,ev⟩:=hg;unfold AC9;rw[hx,wM,hs,wH,wN,Oper.upon_skip];exact hn φ undef w' (.tuple .nil) H ev
theorem KT{c:Nat->Option (Nat×Nat)}{ρ:xE->vz}:∀{l:List (Nat×xE)} {ps:List (Nat×Nat×O)},HX f c l=BY ps->
  (∀p∈l,∀y,cO f p.2=BY y->AEX φ (y e) (ρ p.2))->AGq φ e c ps (l.map λ(i,x)=>(i,ρ x))
 |[],ps,a,_=>by cases a;exact .nil
 |(i,x)::l,ps,a,b=>by
  unfold HX at a;split at a
  ·rename_i j size d
   split at a
   ·rename_i y h
    split at a
    ·rename_i k g
     cases a;exact .cons d (b (i,x) (by simp) y h) (KT g λp a=>b p (by simp[a]))
    ·cases a
   ·cases a
  ·cases a
theorem Pc{ρ:xE->vz}:∀{l:List xE} {ys:List O},cOs f l=BY ys->(∀x∈l,∀y,cO f x=BY y->AEX φ (y e) (ρ x))->AEp φ (vals e ys) (l.map ρ)
 |[],ys,h,_=>by cases h;exact .nil
 |x::l,ys,h,a=>by
  unfold cOs at h;split at h
  ·rename_i y d
   split at h
   ·rename_i g b
    cases h;exact .cons (a x (by simp) y d) (Pc b λx c=>a x (by simp[c]))
   ·cases h
  ·cases h
theorem UD{ρ:xE->vz}{x:Option xE}{y:Option O}(h:cOo f x=BY y)(a:∀z,x=BY z->∀y,cO f z=BY y->AEX φ (y e) (ρ z)):AF9 φ e y (x.map ρ):=by
 unfold cOo at h;split at h
 ·cases h;exact .none
 ·rename_i x
  split at h
  ·rename_i y b;cases h;exact .some (a x rfl y b)
  ·cases h
def lc(φ:Phi)(f:Fr)(e:Env)(ρ:xE->vz)(op:Op):Prop:=∀a∈op.operands.toList,∀b,cO f a=BY b->AEX φ (b e) (ρ a)
def Ht(ty:TTy)(f:Fr)(e:Env)(E:Nat->Prop)(op:Op):Prop:=match kd ty op with
 |.p=>True
 |.a=>True
 |.r c=>∀b,cO f c=BY b->∀a,AE0 (b e)=.ok a->¬E a
 |.w _=>∀a,¬E a
 |.q=>∀a,¬E a
theorem nQ(hT:DI P ty)(H:AEZ ty φ E h w){op:ABn}{t yt:xZ}{x y:xE}{o:zA}{a:Act}(ho:o.op=.binOp op t x y yt)(hst:lc φ f e a.eval o.op)(hr:Z7 ty f op t x y F e h=.ok v h'):Fb P ty φ E h v h' o a w:=by
 have hx:execOp a.eval o=(do pure (.value (<- CG op t x y (a.eval x) (a.eval y)))):=by unfold execOp;rw[ho];rfl
 unfold Z7 at hr;obtain⟨ti,hti,hr⟩:=Bk hr;obtain⟨x',y',hx',hy',hr⟩:=Ko hr;have r1:=hst x (by rw[ho];simp[wm]) x' hx';have r2:=hst y (by rw[ho];simp[wm]) y' hy';cases hk:ti.k with
 |int k=>
  rw[hk]at hr;cases op with
  |add=>exact .AET hx (ja H r1 r2 hr)
  |sub=>exact .AET hx (Xf H (.inl ⟨rfl,rfl⟩) r1 r2 hr)
  |mul=>exact .AET hx (Xf H (.inr ⟨rfl,rfl⟩) r1 r2 hr)
  |quo=>exact .AET hx (jm H r1 r2 hr)
  |rem=>exact .AET hx (jz H r1 r2 hr)
  |and=>exact .AET hx (QL H (.inl ⟨rfl,rfl⟩) r1 r2 hr)
  |or=>exact .AET hx (QL H (.inr (.inl ⟨rfl,rfl⟩)) r1 r2 hr)
  |xor=>exact .AET hx (QL H (.inr (.inr ⟨rfl,rfl⟩)) r1 r2 hr)
  |shl=>exact .AET hx (j6 H r1 r2 hr)
  |shr=>exact .AET hx (j8 H r1 r2 hr)
  |andNot=>cases hr
  |eql=>exact .AET hx (Iz H (.inl ⟨rfl,rfl⟩) r1 r2 hr)
  |neq=>exact .AET hx (Iz H (.inr (.inl ⟨rfl,rfl⟩)) r1 r2 hr)
  |lss=>exact .AET hx (Iz H (.inr (.inr (.inl ⟨rfl,rfl⟩))) r1 r2 hr)
  |leq=>exact .AET hx (Iz H (.inr (.inr (.inr (.inl ⟨rfl,rfl⟩)))) r1 r2 hr)
  |gtr=>exact .AET hx (Iz H (.inr (.inr (.inr (.inr (.inl ⟨rfl,rfl⟩))))) r1 r2 hr)
  |geq=>exact .AET hx (Iz H (.inr (.inr (.inr (.inr (.inr ⟨rfl,rfl⟩))))) r1 r2 hr)
 |string=>
  rw[hk]at hr;cases op with
  |add=>exact(En hr).elim
  |eql=>exact .AET hx (I2 H (.inl ⟨rfl,rfl⟩) r1 r2 hr)
  |neq=>exact .AET hx (I2 H (.inr (.inl ⟨rfl,rfl⟩)) r1 r2 hr)
  |lss=>exact .AET hx (I2 H (.inr (.inr (.inl ⟨rfl,rfl⟩))) r1 r2 hr)
  |gtr=>exact .AET hx (I2 H (.inr (.inr (.inr (.inl ⟨rfl,rfl⟩)))) r1 r2 hr)
  |leq=>exact .AET hx (I2 H (.inr (.inr (.inr (.inr (.inl ⟨rfl,rfl⟩))))) r1 r2 hr)
  |geq=>exact .AET hx (I2 H (.inr (.inr (.inr (.inr (.inr ⟨rfl,rfl⟩))))) r1 r2 hr)
  |_=>cases hr
 |struct fs=>
  rw[hk]at hr;simp only at hr;cases hf:flatK ty 8 t with
  |none=>rw[hf]at hr;cases hr
  |some ks=>
   rw[hf]at hr;have hag:ti.k.agg=IN:=by rw[hk];rfl
   cases op with
   |eql=>exact .AET hx (MU hT H (K:=⟨IN,ks⟩) (.inl ⟨rfl,rfl⟩) hti hag hf rfl r1 r2 hr)
   |neq=>exact .AET hx (MU hT H (K:=⟨IN,ks⟩) (.inr ⟨rfl,rfl⟩) hti hag hf rfl r1 r2 hr)
   |_=>cases hr
 |arr n el=>
  rw[hk]at hr;simp only at hr;cases hf:flatK ty 8 t with
  |none=>rw[hf]at hr;cases hr
  |some ks=>
   rw[hf]at hr;have hag:ti.k.agg=IN:=by rw[hk];rfl
   cases op with
   |eql=>exact .AET hx (MU hT H (K:=⟨IN,ks⟩) (.inl ⟨rfl,rfl⟩) hti hag hf rfl r1 r2 hr)
   |neq=>exact .AET hx (MU hT H (K:=⟨IN,ks⟩) (.inr ⟨rfl,rfl⟩) hti hag hf rfl r1 r2 hr)
   |_=>cases hr
 |iface=>
  rw[hk]at hr;have hr:(match P7 y with|true=>(match op with|.eql=>oNo|.neq=>oNo|_=>oNo)|false=>oNo) F e h=.ok v h':=hr;cases hn:P7 y with
  |false=>rw[hn]at hr;cases hr
  |true=>
   rw[hn]at hr;have hy:y=.const .nilIface:=by
    unfold P7 at hn;split at hn
    ·split at hn
     ·rfl
     ·cases hn
    ·cases hn
   subst hy;cases op with
   |eql=>exact(En hr).elim
   |neq=>exact(En hr).elim
   |_=>cases hr
 |_=>
  rw[hk]at hr;cases op with
  |eql=>exact .AET hx (dP H (.inl ⟨rfl,rfl⟩) (hT t ti hti) hk r1 r2 hr)
  |neq=>exact .AET hx (dP H (.inr ⟨rfl,rfl⟩) (hT t ti hti) hk r1 r2 hr)
  |_=>cases hr
end
section
variable {P:xU}{ty:TTy}{φ:Phi}{E:Nat->Prop}{h h':Hp}{w:xG}{F:AES}{e:Env}{v:vz}
theorem AEZ.less(H:AEZ ty φ E h w)(c:∀b,¬E b){f:Nat->Prop}:AEZ ty φ f h w where
 dom:=H.dom
 inj:=λa e d k g i _ _=>H.inj a e d k g i (c a) (c e)
 row:=λa d j _=>H.row a d j (c a)
 fresh:=H.fresh
 kind:=H.kind
 inp:=H.inp
theorem WS(l:Dg P ty F)(H:AEZ ty φ E h w)(k:∀b,¬E b){g:Nat}{d c:List vz}(m:AEp φ d c)(u:F g d h=.ok v h'){o:zA}{a:Act}
  (y:(execOp a.eval o).run P w=(callFunc g ⟨c⟩).run P w):Fb P ty φ E h v h' o a w:=by
 intro next C s
 obtain⟨⟨j,r,t,n⟩,p⟩:=l g d h v h' u;have e:(callFunc g ⟨c⟩).run P w=.ok (.enter g ⟨c⟩) w:=by
  have f:(j.name == "runtime.NumGoroutine")=IS:=by simpa using t
  simp only[callFunc,wM,run_program,wH,r,f,xJ,if_false,n,wN,AAe]
 unfold AC9;rw[y,e,Oper.upon_enter];refine(p φ w c m (H.less k)).mono λD A ⟨z,B,q,x,i,ev⟩=>?_
 subst q;exact s B z A x (i.less (λ_ h=>h)) ev
theorem dL(k:Dg P ty F)(H:AEZ ty φ E h w)(j:∀b,¬E b){g:Nat}{c:Call}(m:c.callee=.value (.func g)){o:zA}{a:Act}(n:o.op=.call c){f:List O}
  (l:AEp φ (vals e f) (c.args.toList.map a.eval))(d:AU g f F e h=.ok v h'):Fb P ty φ E h v h' o a w:=by
 unfold AU at d;rw[C9]at d;refine WS k H j l d ?_;have i:c.args.map a.eval=⟨c.args.toList.map a.eval⟩:=by apply yD;simp
 unfold execOp;rw[n];simp only[resolve,m,i,Act.eval,ACT,wM,wN,wH,invoke]
 congr 2
 apply yD;simp
theorem LX(n:Dg P ty F)(H:AEZ ty φ E h w)(m:∀b,¬E b){x:xE}{g:O}{c:Call}(q:c.callee=.value x){o:zA}{a:Act}(s:o.op=.call c){i:List O}
  (f:AEX φ (g e) (a.eval x))(p:AEp φ (vals e i) (c.args.toList.map a.eval))(d:ET g i F e h=.ok v h'):Fb P ty φ E h v h' o a w:=by
 unfold ET at d;split at d
 case h_2=>cases d
 rename_i u first cap r
 rw[r]at f;rw[C9]at d;generalize t:a.eval x=y at f;cases f with
 |func _ k l=>
  refine WS n H m (k.append (p.append l)) d ?_;have j:c.args.map a.eval=⟨c.args.toList.map a.eval⟩:=by apply yD;simp
  unfold execOp;rw[s];simp only[resolve,q,j,t,ACT,wM,wN,wH,invoke]
  congr 2
  apply yD;simp
theorem CH{b:Nat}{ob:Obj}(a:w.heap[b]? =BY ob)(h2:(match ob with|.cells .. =>IN|_=>IS)=IS):(getObj b).run P w=.ok ob w:=by
 unfold getObj;simp only[Sem.run,a];cases ob<;>first|rfl|cases h2
theorem AFX.length:∀{l:List Ent} {l':List xu},AFX φ l l'->l'.length=l.length
 |_,_,.nil=>rfl
 |_,_,.cons _ _ a=>congrArg (· +1) a.length
theorem Iq{r:Nat}{es:List Ent}{c:Nat}(hr:Bi h r=.ok es c):h.bl.get r=.map es c:=by
 unfold Bi iZ at hr;split at hr
 ·cases hr;assumption
 ·cases hr
theorem AEZ.AFm(H:AEZ ty φ E h w){r:Nat}{p:Pl}(d:φ r=BY p)(b:¬E r){es:List Ent}{c:Nat}(e:Bi h r=.ok es c):
  ∃a,w.heap[p.blk]? =BY (.map ⟨a⟩ c)/\AFX φ es a:=by
 have:=H.row r p d b;rw[Iq e]at this;generalize w.heap[p.blk]? =f at this;cases this with
 |map h=>exact⟨_,rfl,h⟩
theorem dT(H:AEZ ty φ E h w){x:O}{x':vz}{c:Array xZ}{t i k:xZ}(h0:c[0]? =BY t){ti:TI}(T:AEx P t ti)(hk:ti.k=.slice k)(d:AEX φ (x e) x')(b:Bh x F e h=.ok v h'):
  Bo ty φ E h w v h' ((yZ c i #[x']).run P w):=by
 unfold Bh at b;split at b
 case h_3=>cases b
 case h_2=>
  rename_i o g;rw[g]at d;cases b;obtain⟨j,f,a⟩:=T.desc;rw[hk]at a;cases a;have key:(yZ c i #[x']).run P w=.ok (goInt ((0:Nat):Int)) w:=by
   cases d<;>simp only[yZ,h0,wM,f,wH,wN,xC,xN]
  rw[key];exact .same H (.int _ _)
 rename_i m l n g;rw[g]at d;cases b;obtain⟨j,f,a⟩:=T.desc;rw[hk]at a;cases a;have key:(yZ c i #[x']).run P w=.ok (goInt l) w:=by
  cases d<;>simp only[yZ,h0,wM,f,wH,wN,xC,xN]
 rw[key];exact .same H (.int _ _)
theorem dV(H:AEZ ty φ E h w){x:O}{x':vz}{b:Array xZ}{t g:xZ}(h0:b[0]? =BY t){ti:TI}(T:AEx P t ti)(hk:ti.k=.string)(d:AEX φ (x e) x')(a:O8 x F e h=.ok v h'):
  Bo ty φ E h w v h' ((yZ b g #[x']).run P w):=by
 unfold O8 at a;split at a
 case h_2=>cases a
 rename_i f j;rw[j]at d;rw[Ae,Bf]at a;cases a;obtain⟨k,i,c⟩:=T.desc;rw[hk]at c;cases c;obtain rfl:=d.AE8;have key:(yZ b g #[.string f]).run P w=.ok (goInt f.size) w:=by
  simp only[yZ,h0,wM,i,wH,wN,xC,xN]
 rw[key];exact .same H (.int _ _)
theorem jH{x':vz}{a:Array xZ}{t e c:xZ}{n:Nat}(h0:a[0]? =BY t){ti:TI}(T:AEx P t ti)(hk:ti.k=.arr n c):(yZ a e #[x']).run P w=.ok (goInt n) w:=by
 obtain⟨f,d,b⟩:=T.desc;rw[hk]at b;cases b;simp only[yZ,h0,wM,d,wH,wN,xC,xN]
theorem GA{b:Nat}{ob ob':Obj}(a:w.heap[b]? =BY ob)(h2:(match ob with|.cells .. =>IN|_=>IS)=IS):
  (setObj b ob').run P w=.ok () {w with heap:=w.heap.setIfInBounds b ob'}:=by
 unfold setObj;simp only[Sem.run,a];cases ob<;>first|rfl|cases h2
theorem I5(H:AEZ ty φ E h w){r:Nat}{p:Pl}(m:¬E r)(a:φ r=BY p)(i:Live h r){o:Blk}{ob:Obj}{k:Hp->R}(q:FH h r o k=.ok v h')(s:AEo (h.bl.get r) o)(l:AFT ty φ p o (BY ob)):
  ∃b,k b=.ok v h'/\AEZ ty φ E b {w with heap:=w.heap.setIfInBounds p.blk ob}/\Evo φ h w φ b {w with heap:=w.heap.setIfInBounds p.blk ob}:=by
 obtain⟨bl,d,g,c⟩:=Fs q;have n:=(H.dom r p a).2;have e:(w.heap.setIfInBounds p.blk ob).size=w.heap.size:=by simp
 have f:∀k,k≠p.blk->(w.heap.setIfInBounds p.blk ob)[k]? =w.heap[k]?:=λk c=>by
  rw[yQ,If (AEG c)]
 have j:(w.heap.setIfInBounds p.blk ob)[p.blk]? =BY ob:=by rw[yQ,IT rfl,IT n]
 exact⟨_,c,H.put m d a i g e f (by show AFT ty φ p o ((w.heap.setIfInBounds p.blk ob)[p.blk]?);rw[j];exact l),.put (H.AFZ a d) a i g s e f rfl rfl rfl⟩
theorem LV{r:Nat}{es:List Ent}{c:Nat}(b:Bi h r=.ok es c):Live h r:=by
 unfold Live;rw[Iq b];intro a;cases a
theorem QM(H:AEZ ty φ E h w)(k:∀b,¬E b){x:O}{x':vz}{c:Array xZ}{t i:xZ}{ti:TI}(h0:c[0]? =BY t)(T:AEx P t ti)(d:AEX φ (x e) x')(a:ED x F e h=.ok v h'):
  Bo ty φ E h w v h' ((yM c i #[x']).run P w):=by
 obtain⟨u,l,_⟩:=T.desc;unfold ED at a;split at a
 ·rename_i g
  rw[g]at d;cases a;cases d;have key:(yM c i #[.map By]).run P w=.ok AEU w:=by
   simp only[yM,h0,wM,l,wH,wN,xC,xN];rfl
  rw[key];exact .same H (.tuple .nil)
 ·rename_i r g
  rw[g]at d;cases d with
  |@map _ o m=>
   split at a
   case h_2=>cases a
   rename_i y j f;obtain⟨z,n,s⟩:=H.AFm m (k r) f;obtain⟨A,q,p,ev⟩:=I5 (ob:=.map #[] j) H (k _) m (LV f) a (by rw[Iq f];exact .inr trivial) (.map .nil);cases q;have key:(yM c i #[.map (BY o.blk)]).run P w=.ok AEU {w with heap:=w.heap.setIfInBounds o.blk (.map #[] j)}:=by
    simp only[yM,h0,wM,l,wH,wN,xC,xN,CH n rfl,GA n rfl];rfl
   rw[key];exact⟨_,_,φ,rfl,.tuple .nil,p,ev⟩
 ·cases a
theorem ZE(H:AEZ ty φ E h w)(s:∀b,¬E b){x:O}{x':vz}{f:Array xZ}{t i n:xZ}{ti c:TI}(h0:f[0]? =BY t)(T:AEx P t ti)(hk:ti.k=.slice n)(r:AEx P n c)(C:c.zero.length=c.size)
  (g:AEX φ (x e) x')(d:Nf c.zero x F e h=.ok v h'):Bo ty φ E h w v h' ((yM f i #[x']).run P w):=by
 obtain⟨M,j,o⟩:=T.desc;rw[hk]at o;cases o;obtain⟨J,_,I,D,G⟩:=r.AFe C;unfold Nf at d;split at d
 ·rename_i k
  rw[k]at g;cases d;cases g;have key:(yM f i #[.slice By 0 0]).run P w=.ok AEU w:=by
   simp only[yM,h0,wM,j,wH,wN,xC,xN];rfl
  rw[key];exact .same H (.tuple .nil)
 ·rename_i K a L k
  rw[k]at g;cases g with
  |@slice _ l _ _ m z B=>
   cases a with
   |zero=>
    cases d;have key:(yM f i #[.slice (BY l) 0 m]).run P w=.ok AEU w:=by
     simp only[yM,h0,wM,j,wH,wN,xC,xN];rfl
    rw[key];exact .same H (.tuple .nil)
   |succ a=>
    have p:AEp φ (BX c.zero (a+1)) (BX c.zero (a+1)):=IX (.plain G) (a+1);obtain⟨N,w1,y,A,q,ev⟩:=JA (P:=P) H d (Lh z B (AAB a)) p (s _);cases y;have u:(AAI J.cells (a+1)).toList=BX c.zero (a+1):=by rw[Hg,D]
    have key:(yM f i #[.slice (BY l) (a+1) m]).run P w=.ok AEU w1:=by
     simp only[yM,h0,wM,j,wH,wN,xC,xN,I,u,A];rfl
    rw[key];exact⟨_,_,φ,rfl,.tuple .nil,q,ev⟩
 ·cases d
theorem ZD(H:AEZ ty φ E h w)(G:∀b,¬E b){x:O}{x':vz}{t D:xZ}{ti C:TI}(T:AEx P t ti)(hk:ti.k=.slice D)(Q:AEx P D C)(Z:C.k=.int .u8)(s:AEX φ (x e) x')(g:U0 x F e h=.ok v h'):
  Bo ty φ E h w v h' ((convert t t x').run P w):=by
 obtain⟨a7,p,J⟩:=T.und;rw[hk]at J;cases J;obtain⟨d3,X,L⟩:=Q.und;rw[Z]at L;cases L;unfold U0 at g;split at g
 case h_2=>cases g
 rename_i S M a6 a4;rw[a4]at s;have a3:=s;cases s with
 |@slice _ d _ _ z a8 hs=>
  split at g
  case h_2=>cases g
  rename_i U a5 W r;obtain⟨s1,s2,j,i,I,a9⟩:=hs;obtain⟨a,l,fr,K,R⟩:=H.rowAt i (G _) r;have u:Live h S.block:=by unfold Live;rw[DQ r];intro p;cases p
  obtain⟨bl,m,y,a0⟩:=Fs g;cases a0
  let f:Nat×Nat:=if fr.1 == fr.2 then(a.size,a.size+1)else(min fr.1 a.size,max fr.2 (a.size+1))
  let c:xG:=w.freeze ⟨d.block,a.size,By⟩ 1
  have hf:∃o:Obj->Obj,c.heap=w.heap.modify j.blk o/\o (.cells a l fr)=.cells a l f:=by
   obtain⟨lo,hi⟩:=fr;refine⟨_,by show(w.freeze ⟨d.block,a.size,By⟩ 1).heap=_;unfold ACB;rw[If ABk,I],rfl⟩
  obtain⟨o,q,hg⟩:=hf;have A:c.heap.size=w.heap.size:=by rw[q];simp
  have B:∀k,k≠j.blk->c.heap[k]? =w.heap[k]?:=λk hk=>by
   rw[q,zq,If (AEG hk)]
  have V:c.heap[j.blk]? =BY (.cells a l f):=by
   rw[q,zq,IT rfl,K,yN,hg]
  have n:c.tape=w.tape/\c.os=w.os/\c.output=w.output:=by
   show(w.freeze ⟨d.block,a.size,By⟩ 1).tape=_/\(w.freeze ⟨d.block,a.size,By⟩ 1).os=_/\(w.freeze ⟨d.block,a.size,By⟩ 1).output=_;unfold ACB;rw[If ABk];exact⟨rfl,rfl,rfl⟩
  have Y:AFT ty φ j (.cells U a5 W) c.heap[j.blk]?:=by
   rw[V];refine .cells {R with loose:=.inl ?_};have:=R.AJq (H.AFZ i m);show f.1=f.2\/a.size<=f.1;refine .inr ?_;simp only[f];split
   ·exact wB _
   ·rename_i a1
    have N:fr.1≠fr.2:=by simpa using a1
    rcases this with h|h
    ·exact absurd h N
    ·show a.size<=min fr.1 a.size
     omega
  have key:(convert t t (.slice (BY d) M z)).run P w=.ok (.slice (BY d) M z) c:=by
   have a2:w.shape? d.block=BY (l,a.size):=by rw[I];simp[ACA,K]
   simp only[convert,wM,run_underlying p,run_underlying X,wH,beq_self_eq_true,markStringish,run_shape,a2,run_freeze,wN];rfl
  rw[key];exact⟨_,c,φ,rfl,a3,H.put (G _) m i u y A B Y,.put (H.AFZ i m) i u y (by rw[DQ r];exact .inr ⟨rfl,rfl⟩) A B n.1 n.2.1 n.2.2⟩
end
section
variable {P:xU}{ty:TTy}{φ:Phi}{E:Nat->Prop}{h h':Hp}{w:xG}{F:AES}{e:Env}{v:vz}
theorem O4(H:AEZ ty φ E h w){o:Blk}{ob:Obj}(i:Gg h o Jd=.ok v h')
  (g:AFT ty (φ.put h.next {blk:=w.heap.size,off:=0,sz:=0,room:=0,es:=1}) {blk:=w.heap.size,off:=0,sz:=0,room:=0,es:=1} o (BY ob)):
  Bo ty φ E h w v h' (.ok (.pointer (BY ⟨w.heap.size,0,By⟩)) {w with heap:=w.heap.push ob}):=by
 obtain⟨bl,d,b⟩:=Gy i;cases b
 let c:xG:={w with heap:=w.heap.push ob}
 have l:c.heap.size=w.heap.size+1:=by simp[c]
 have f:∀a,a<w.heap.size->c.heap[a]? =w.heap[a]?:=λa b=>by
  show(w.heap.push _)[a]? =_;rw[AB9 b,ABo b]
 refine⟨_,c,φ.put h.next {blk:=w.heap.size,off:=0,sz:=0,room:=0,es:=1},rfl,QY (Phi.AFJ _ _ _) rfl,
  H.new d (by omega) (by show w.heap.size<_;omega) (λj k e _=>by have:=(H.dom j k e).2;show _≠w.heap.size;omega) (λa b _=>f a b) ?_,
  .made H d (wB _) (by omega) f rfl rfl rfl⟩
 have:c.heap[w.heap.size]? =BY ob:=by show(w.heap.push _)[w.heap.size]? =_;simp
 rw[this];exact g
theorem ZO(H:AEZ ty φ E h w)(m:∀b,¬E b){x:O}{x':vz}{t p l:xZ}{ti:TI}(T:AEx P t ti)(hk:ti.k=.map p l)(c:AEX φ (x e) x')(a:LZ x F e h=.ok v h'):
  Bo ty φ E h w v h' ((AA2 t x').run P w):=by
 obtain⟨s,g,i⟩:=T.desc;rw[hk]at i;cases i;unfold LZ at a;split at a
 ·rename_i d
  rw[d]at c;cases c;have key:(AA2 t (.map By)).run P w=.ok (.pointer (BY ⟨w.heap.size,0,By⟩)) {w with heap:=w.heap.push (.mapIter By 0 #[] 0)}:=by
   simp only[AA2,wM,g,wH,wN,run_newObj]
  rw[key];exact O4 H a (.AGN rfl)
 ·rename_i q d
  rw[d]at c;cases c with
  |@map _ k j=>
   split at a
   case h_2=>cases a
   rename_i u f n;obtain⟨y,o,r⟩:=H.AFm j (m q) n;have key:(AA2 t (.map (BY k.blk))).run P w=.ok (.pointer (BY ⟨w.heap.size,0,By⟩)) {w with heap:=w.heap.push (.mapIter (BY k.blk) f #[] f)}:=by
    simp only[AA2,wM,g,wH,CH o rfl,wN,run_newObj]
   rw[key];exact O4 H a (.iter rfl (Phi.AFu H.AFO _ _ j))
 ·cases a
theorem MT(n:Nat):∀l:List Nat,GG n l=l.contains n
 |[]=>rfl
 |x::l=>by
  unfold GG;rw[MT n l,List.contains_cons];cases a:wU x n with
  |true=>
   have:x=n:=Ax.1 a;subst this;simp
  |false=>
   have:¬n=x:=λh=>by rw[h,yG]at a;cases a
   simp[this]
theorem Nu(n:Nat):∀l:List Nat,KV n l=l++[n]
 |[]=>rfl
 |x::l=>congrArg (x:: ·) (Nu n l)
theorem SR{a:Nat}{seen:List Nat}:∀{es:List Ent} {f:List xu} {l:List Ent},AFX φ es f->Lx a seen es=BY l->
  ∃l',AFX φ l l'/\f.filter (λe=> !seen.contains e.born)=l'/\l'.filter (λe=>decide (e.born<a))=l'/\l'.filter (λe=>decide (e.born>=a))=[]
 |_,_,l,.nil,h=>by cases h;exact⟨[],.nil,rfl,rfl,rfl⟩
 |_,_,l,.cons (b:=b) n p q,h=>by
  unfold Lx at h;split at h
  ·rename_i r o
   obtain⟨l',g,i,j,k⟩:=SR q o;rw[MT]at h;cases d:seen.contains b with
   |true=>
    simp only[d,cond_true]at h;cases h;exact⟨l',g,by rw[AAf];simp only[d,xK,xJ,if_false];exact i,j,k⟩
   |false=>
    simp only[d,cond_false]at h;obtain⟨c,h⟩:xQ b a=IN/\_=BY l:=by
     cases c:xQ b a with
     |true=>rw[c]at h;exact⟨rfl,h⟩
     |false=>rw[c]at h;cases h
    cases h;have m:=BM.1 c;refine⟨_,.cons n p g,by rw[AAf];simp only[d,xP,if_true];rw[i],?_,?_⟩
    ·rw[AAf];simp[m,j]
    ·rw[AAf];simp[Nat.not_le.2 m,k]
  ·cases h
theorem Ll{a:Nat}:∀{es:List Ent} {d:List xu},AFX φ es d->d.all (λe=>decide (e.born>=a))=Fu a es
 |_,_,.nil=>rfl
 |_,_,.cons (b:=b) g i f=>by
  unfold Fu;rw[AAn,Ll f];cases c:wY a b with
  |true=>simp[Am.1 c]
  |false=>
   have:¬a<=b:=λh=>by rw[Am.2 h]at c;cases c
   simp[this]
theorem Iu{b:Nat}{m:Option Nat}{s:Nat}{l:List Nat}{t:Nat}(hr:Ei (h.bl.get b)=.ok m s l t):h.bl.get b=.iter m s l t:=by
 unfold Ei at hr;split at hr<;>first|(cases hr;assumption)|cases hr
theorem pL{b m s t:Nat}(hr:Ei (h.bl.get b)=.cur m s t):h.bl.get b=.cur m s t:=by
 unfold Ei at hr;split at hr<;>first|(cases hr;assumption)|cases hr
theorem kN{b m s t:Nat}{sn:Option (List Nat)}(hr:Ei (h.bl.get b)=.pick m s t sn):h.bl.get b=.pick m s t sn:=by
 unfold Ei at hr;split at hr<;>first|(cases hr;assumption)|cases hr
theorem Sw:AEX φ (.tuple ⟨[.bool IS]⟩) (.tuple #[.bool IS]):=.tuple (.cons (.bool _) .nil)
theorem dX(H:AEZ ty φ E h w)(k:∀b,¬E b){x:O}{x':vz}{t:xZ}(hx:AEX φ (x e) x')(a:Hq x F e h=.ok v h'):Bo ty φ E h w v h' ((yl x' IS t).run P w):=by
 unfold Hq at a;split at a
 case h_2=>cases a
 rename_i f U;obtain⟨W,a⟩:=Bx a;obtain⟨a',rfl,a1⟩:=GI hx U;obtain⟨c,p,rfl⟩:=a1.eq;have J:f.off=0:=Ax.1 W;unfold Gz at a;split at a
 ·rename_i a4 a3 D j
  cases a;have d:=H.row f.block c p (k _);rw[Iu j]at d;generalize l:w.heap[c.blk]? =ob at d;cases d with
  |AGN q=>
   have key:(yl (.pointer (BY ⟨c.blk,c.off+f.off,By⟩)) IS t).run P w=.ok (.tuple #[.bool IS]) w:=by
    rw[q,J];simp only[yl,wM,CH l rfl,wH,wN]
   rw[key];exact .same H Sw
 ·rename_i B i seen m j
  have d:=H.row f.block c p (k _);rw[Iu j]at d;generalize l:w.heap[c.blk]? =ob at d;cases d with
  |@iter _ C _ _ _ q K=>
   split at a
   case h_2=>cases a
   rename_i y n Y;obtain⟨o,M,s⟩:=H.AFm K (k B) Y;rw[q,J];have S:∃A:R,A=.ok v h'/\(!(⟨seen⟩:Array Nat).isEmpty && !(⟨o⟩:Array xu).isEmpty && (⟨o⟩:Array xu).all (λe=>decide (e.born>=m)))=IS/\
     A=(match Lx i seen y with
      |some []=>dz h
      |some [x]=>FH h f.block (.iter (BY B) i (KV x.born seen) n) λh=>.ok (.tuple ⟨[.bool IN,x.key,x.val]⟩) h
      |_=>.no):=by
    have V:(⟨o⟩:Array xu).all (λe=>decide (e.born>=m))=Fu m y:=by
     rw[<- Ll s];simp
    cases seen with
    |nil=>exact⟨_,a,by simp,rfl⟩
    |cons s0 sl=>
     cases s with
     |nil=>exact⟨_,a,by simp,rfl⟩
     |cons g hv D=>
      simp only at a;rw[V];generalize hy:Fu m _=a5 at a ⊢;cases a5 with
      |true=>cases a
      |false=>exact⟨_,a,by simp,rfl⟩
   obtain⟨A,g,L,rfl⟩:=S;cases z:Lx i seen y with
   |none=>rw[z]at g;cases g
   |some a3=>
    rw[z]at g;obtain⟨r,q1,q2,q3,q4⟩:=SR s z;have G:(⟨o⟩:Array xu).filter (λe=> !(⟨seen⟩:Array Nat).contains e.born)=⟨r⟩:=by
     rw[<- q2];apply yD;simp
    have I:(⟨r⟩:Array xu).filter (λe=>decide (e.born<i))=⟨r⟩:=by
     apply yD;rw[ABE];exact q3
    have f3:(⟨r⟩:Array xu).filter (λe=>decide (e.born>=i))= #[]:=by
     apply yD;rw[ABE];exact q4
    cases q1 with
    |nil=>
     cases g;have key:(yl (.pointer (BY ⟨c.blk,0,By⟩)) IS t).run P w=.ok (.tuple #[.bool IS]) w:=by
      simp only[yl,wM,CH l rfl,wH,CH M rfl,L,xJ,if_false,G,I,f3];simp[run_choose,AAX]
     have:c.off+f.off=0:=by omega
     rw[show(0:Nat)+0=0 from rfl,key];exact .same H Sw
    |cons a0 a2 D=>
     cases D with
     |cons _ _ _=>cases g
     |nil=>
      rename_i k0 k1 v0 v1 u;have Q:Live h f.block:=by unfold Live;rw[Iu j];intro X;cases X
      simp only at g;obtain⟨h1,Z,T,ev⟩:=I5 (ob:=.mapIter (BY C.blk) i ⟨seen++[u]⟩ n) H (k _) p Q g (by rw[Iu j];exact .inr trivial) (by rw[Nu];exact .iter q K);cases Z;have key:(yl (.pointer (BY ⟨c.blk,0,By⟩)) IS t).run P w=.ok (.tuple #[.bool IN,k1,v1]) {w with heap:=w.heap.setIfInBounds c.blk (.mapIter (BY C.blk) i ⟨seen++[u]⟩ n)}:=by
       have N:=GA (P:=P) (ob':=.mapIter (BY C.blk) i ⟨seen++[u]⟩ n) l rfl;simp only[yl,wM,CH l rfl,wH,CH M rfl,L,xJ,if_false,G,I,f3];simp[run_choose,AAX,N]
      rw[key];exact⟨_,_,φ,rfl,.tuple (.cons (.bool _) (.cons a0 (.cons a2 .nil))),T,ev⟩
 ·cases a
 ·cases a
 ·rename_i B a4 m j
  have d:=H.row f.block c p (k _);rw[kN j]at d;cases d
theorem SP:∀l:List Nat,SO l=l.getLast?
 |[]=>rfl
 |[x]=>rfl
 |x::a::l=>by
  show SO (a::l)=_;rw[SP (a::l)];rfl
theorem RS{n:Nat}:∀{es:List Ent} {c:List xu} {x:Ent},AFX φ es c->Gq n es=BY x->∃x',c.find? (λe=>e.born == n)=BY x'/\AEX φ x.key x'.key/\AEX φ x.val x'.val
 |_,_,x,.nil,h=>by cases h
 |_,_,x,.cons (k':=k') (v':=v') (b:=b) f i l,h=>by
  unfold Gq at h;rw[List.find?_cons];cases a:wU b n with
  |true=>
   simp only[a,cond_true]at h;cases h;have:b=n:=Ax.1 a;subst this;refine⟨⟨k',v',b⟩,?_,f,i⟩;simp only[beq_self_eq_true]
  |false=>
   simp only[a,cond_false]at h;have g:(b == n)=IS:=by
    rw[beq_eq_false_iff_ne];intro d;rw[d,yG]at a;cases a
   obtain⟨x',j,k⟩:=RS l h;exact⟨x',by simp only[g];exact j,k⟩
theorem UY(H:AEZ ty φ E h w)(k:∀b,¬E b){m s i:Nat}{q:Pl}(p:φ m=BY q)(a:Io m s i h=.ok v h'):
  h'=h/\∃(f:List xu) (c:Nat) (d:xu) (g v0:vz),w.heap[q.blk]? =BY (.map ⟨f⟩ c)/\c=i/\(⟨f⟩:Array xu).find? (λe=>e.born == s)=BY d/\v=.tuple ⟨[g,v0]⟩/\AEX φ g d.key/\AEX φ v0 d.val:=by
 unfold Io at a;split at a
 case h_2=>cases a
 rename_i z c o;obtain⟨l,a⟩:=Bx a;split at a
 case h_2=>cases a
 rename_i y n;cases a;obtain⟨f,r,j⟩:=H.AFm p (k m) o;obtain⟨d,t,u,x⟩:=RS j n;exact⟨rfl,f,c,d,_,_,r,Ax.1 l,by rw[<- t];simp,rfl,u,x⟩
theorem ZF(H:AEZ ty φ E h w)(o:∀b,¬E b){x:O}{x':vz}(J:AEX φ (x e) x')(a:Jc x F e h=.ok v h'):Bo ty φ E h w v h' ((ABc x').run P w):=by
 unfold Jc at a;split at a
 case h_2=>cases a
 rename_i l z;obtain⟨A,a⟩:=Bx a;obtain⟨Q,rfl,D⟩:=GI J z;obtain⟨c,s,rfl⟩:=D.eq;have C:l.off=0:=Ax.1 A;have t:∀{k n j:Nat} {m:Pl} {u:Nat} {seen:List Nat},φ k=BY m->c.off=0->w.heap[c.blk]? =BY (.mapIter (BY m.blk) u ⟨seen⟩ j)->seen.getLast? =BY n->Io k n j h=.ok v h'->
   Bo ty φ E h w v h' ((ABc (.pointer (BY ⟨c.blk,c.off+l.off,By⟩))).run P w):=by
  intro k n j m u seen g f i q a;obtain⟨rfl,S,R,r,T,v0,I,rfl,B,rfl,L,M⟩:=UY H o g a;have y:(⟨seen⟩:Array Nat).back? =BY n:=by
   rw[<- q];simp[Array.back?_eq_getElem?,List.getLast?_eq_getElem?]
  rw[f,C];have key:(ABc (.pointer (BY ⟨c.blk,0,By⟩))).run P w=.ok (.tuple #[r.key,r.val]) w:=by
   simp only[ABc,wM,CH i rfl,wH,y,CH I rfl,bne_self_eq_false,xJ,if_false,B,wN]
  rw[key];exact .same H (.tuple (.cons L (.cons M .nil)))
 unfold LJ at a;split at a
 ·rename_i k U seen j p
  have d:=H.row l.block c s (o _);rw[Iu p]at d;generalize i:w.heap[c.blk]? =K at d;cases d with
  |@iter _ m _ _ _ f g=>
   split at a
   case h_2=>cases a
   rename_i N G;exact t g f i (by rw[<- SP];exact G) a
 ·rename_i k N j p
  have d:=H.row l.block c s (o _);rw[pL p]at d;generalize i:w.heap[c.blk]? =K at d;cases d with
  |cur f g q=>exact t g f i q a
 ·cases a
end
section
variable {P:xU}{ty:TTy}{φ:Phi}{E:Nat->Prop}{h h':Hp}{w:xG}{F:AES}{e:Env}{v:vz}
theorem Mi{t:Nat}{k:KS->OpF}(a:wKey ty t k F e h=.ok v h'):∃ti b c K,ty.get t=BY ti/\ti.k=.map b c/\AFc P ty b K/\k K F e h=.ok v h':=by
 unfold wKey at a;obtain⟨ti,j,a⟩:=Bk a;cases f:ti.k with
 |map b c=>
  simp only[f]at a;obtain⟨g,i,a⟩:=Bk a;cases d:flatK ty 8 b with
  |none=>rw[d]at a;cases a
  |some ks=>
   rw[d]at a;exact⟨ti,b,c,⟨g.k.agg,ks⟩,j,f,⟨⟨g,i,rfl⟩,d⟩,a⟩
 |_=>simp only[f]at a;cases a
theorem AFc.und(b:DI P ty){t:Nat}{K:KS}(a:AFc P ty t K):∃d,P.underlying t=BY d:=by
 obtain⟨f,e,_⟩:=a.ti;obtain⟨d,c,_⟩:=(b t f e).und;exact⟨d,c⟩
theorem XY{t:Nat}{ti:TI}(T:AEx P t ti){c a:Nat}(hk:ti.k=.map c a):P.underlying t=BY (.map c a):=by
 obtain⟨e,d,b⟩:=T.und;rw[hk]at b;cases b;exact d
theorem JY{ok:Bool}{u:vz}{b:Bool}(a:El ok u b h=.ok v h'):h'=h/\v=(if ok then .tuple ⟨[u,.bool b]⟩else u):=by
 unfold El at a;cases ok<;>simp only[BR]at a<;>cases a<;>exact⟨rfl,rfl⟩
theorem IJ{ok:Bool}{u a:vz}{b:Bool}(c:AEX φ u a):AEX φ (if ok then .tuple ⟨[u,.bool b]⟩else u) (if ok then .tuple #[a,.bool b]else a):=by
 cases ok
 ·exact c
 ·exact .tuple (.cons c (.cons (.bool b) .nil))
theorem VF(d:DI P ty)(H:AEZ ty φ E h w){t s B:Nat}{ti k:TI}(T:AEx P t ti)(hk:ti.k=.map s B)(L:AEx P B k)(W:k.zero.length=k.size){z:vz}(b:zeroV k=BY z){K:KS}(c:AFc P ty s K)
  {ok:Bool}{x g:O}{x' G:vz}(l:AEX φ (x e) x')(R:AEX φ (g e) G)(M:∀r,x e=.map (BY r)->¬E r)(a:Fi K z ok x g F e h=.ok v h'):
  Bo ty φ E h w v h' ((zf t x' G ok).run P w):=by
 obtain⟨z0,C,D,_,n⟩:=L.AFe W;rw[b]at C;cases C;have A:AEX φ z z:=by
  unfold zeroV at b;split at b
  ·cases b;exact .agg (.plain n)
  ·split at b
   ·rename_i a2 j
    cases b;rw[j]at n;simp only[AAn,List.all_nil,ADe]at n;exact .plain n
   ·cases b
 obtain⟨kd,q⟩:=c.und d;have j:=XY T hk;unfold Fi GT at a;split at a
 case h_2=>cases a
 rename_i f;have N:=J2 f R;subst N;split at a
 ·rename_i m
  rw[m]at l;cases l;obtain⟨rfl,rfl⟩:=JY a;have i:(AB0 s (g e) []).run P w=.ok By w:=Fw q (by simp[xS]);have key:(zf t (.map By) (g e) ok).run P w=.ok (if ok then .tuple #[z,.bool IS]else z) w:=by
   simp only[zf,wM,run_underlying j,wH,wN,c.check d f,i,D]
  rw[key];exact .same H (IJ A)
 ·rename_i r m
  rw[m]at l;cases l with
  |@map _ I S=>
   split at a
   case h_2=>cases a
   rename_i Z X Q;obtain⟨a0,V,u⟩:=H.AFm S (M r m) Q;have y:=CH (P:=P) V rfl;split at a
   ·rename_i Y p
    obtain⟨rfl,rfl⟩:=JY a;obtain⟨a1,J,o,U⟩:=NA d c f w 0 u p;have i:=Fw q o;have key:(zf t (.map (BY I.blk)) (g e) ok).run P w=.ok (if ok then .tuple #[J,.bool IN]else J) w:=by
     simp only[zf,wM,run_underlying j,wH,wN,y,c.check d f,i]
    rw[key];exact .same H (IJ U)
   ·rename_i p
    obtain⟨rfl,rfl⟩:=JY a;have o:=NA d c f w 0 u p;have i:=Fw q o;have key:(zf t (.map (BY I.blk)) (g e) ok).run P w=.ok (if ok then .tuple #[z,.bool IS]else z) w:=by
     simp only[zf,wM,run_underlying j,wH,wN,y,c.check d f,i,D]
    rw[key];exact .same H (IJ A)
   ·cases a
 ·cases a
theorem Ni(j:DI P ty)(H:AEZ ty φ E h w)(q:∀b,¬E b){t M S:Nat}{ti:TI}(T:AEx P t ti)(hk:ti.k=.map M S){K:KS}(i:AFc P ty M K)
  {m key x:O}{N L x':vz}(I:AEX φ (m e) N)(Y:AEX φ (key e) L)(C:AEX φ (x e) x')(a:Fj K m key x F e h=.ok v h'):
  Zv ty φ E h w v h' ((ABb t N L x').run P w):=by
 obtain⟨kd,G⟩:=i.und j;have J:=XY T hk;unfold Fj at a;simp only[BR]at a;unfold Mh at a;split at a
 case h_2=>cases a
 rename_i f;obtain⟨V,y⟩:=Ub f Y;subst V;split at a
 case h_2=>cases a
 rename_i a0 Z;rw[Z]at I;cases I with
 |@map _ a2 z=>
  split at a
  case h_2=>cases a
  rename_i es c k;obtain⟨d,B,n⟩:=H.AFm z (q a0) k;have D:=CH (P:=P) B rfl;split at a
  ·rename_i a1 A
   obtain⟨l,u',g,s,X,W,Q⟩:=Md j i f C y w 0 n A;have r:=Fw G s;obtain⟨U,u,p,ev⟩:=I5 (ob:=.map ⟨d.modify (0+l) λg=>{g with key:=key e,val:=x'}⟩ c) H (q _) z (LV k) a (by rw[Iq k];exact .inr trivial) (.map (by rw[wC];exact Q));cases u;refine⟨rfl,_,?_,p,ev⟩;have R:(ACd (((⟨d⟩:Array xu)[0+l]?.map (·.key)).getD (key e)) (key e)).run P w=.ok (key e) w:=by
    have:(⟨d⟩:Array xu)[0+l]? =BY g:=by rw[wC];simpa using X
    rw[this];simp only[yN,Option.getD_some,W];unfold ACd;rw[Ym f 9999];simp
   have o:=GA (P:=P) (ob':=.map ⟨d.modify (0+l) λg=>{g with key:=key e,val:=x'}⟩ c) B rfl;simp only[ABb,wM,run_underlying J,wH,D,i.check j f,r,R];rw[<- o];congr 3;apply yD;simp
  ·rename_i A
   have s:=Md j i f C y w 0 n A;have r:=Fw G s;obtain⟨U,u,p,ev⟩:=I5 (ob:=.map ⟨d++[{key:=key e,val:=x',born:=c}]⟩ (c+1)) H (q _) z (LV k) a (by rw[Iq k];exact .inr trivial) (.map (by rw[Vs];exact AFX.append (.cons y C .nil) n));cases u;refine⟨rfl,_,?_,p,ev⟩;have o:=GA (P:=P) (ob':=.map ⟨d++[{key:=key e,val:=x',born:=c}]⟩ (c+1)) B rfl;simp only[ABb,wM,run_underlying J,wH,D,i.check j f,r];rw[<- o];congr 2;simp
  ·cases a
end
section
variable {P:xU}{ty:TTy}{φ:Phi}{E:Nat->Prop}{h h':Hp}{w:xG}{F:AES}{e:Env}{v:vz}{f:Fr}
theorem YG{op:Op}{x:xE}(hk:kd ty op=.r x)(b:Ht ty f e E op){y:O}(d:cO f x=BY y):∀a,y e=.pointer (BY a)->¬E a.block:=by
 intro a c;unfold Ht at b;rw[hk]at b;exact b y d a.block (by rw[c];rfl)
theorem Mg{op:Op}{x:xE}(hk:kd ty op=.w x)(a:Ht ty f e E op):∀b,¬E b:=by
 unfold Ht at a;rw[hk]at a;exact a
theorem Gb{op:Op}(hk:kd ty op=.q)(a:Ht ty f e E op):∀b,¬E b:=by
 unfold Ht at a;rw[hk]at a;exact a
theorem Z0{a:List O}{x:O}(c:a=[x]){l:List xE}{ρ:xE->vz}(b:AEp φ (vals e a) (l.map ρ)):∃x',l.map ρ=[x']/\AEX φ (x e) x':=by
 subst c;generalize l.map ρ=f at b;cases b with|cons h d=>cases d;exact⟨_,rfl,h⟩
theorem Q0{b:List O}{x y:O}(g:b=[x,y]){l:List xE}{ρ:xE->vz}(c:AEp φ (vals e b) (l.map ρ)):∃x' d,l.map ρ=[x',d]/\AEX φ (x e) x'/\AEX φ (y e) d:=by
 subst g;generalize l.map ρ=i at c;cases c with|cons h a=>cases a with|cons f a=>cases a;exact⟨_,_,rfl,h,f⟩
theorem aJ(hT:DI P ty)(H:AEZ ty φ E h w){b:Builtin}{c:Call}(hc:c.callee=.builtin b){o:zA}{a:Act}(ho:o.op=.call c){args:List O}
  (ha:AEp φ (vals e args) (c.args.toList.map a.eval))(hE:(∀b,¬E b)\/b=.min\/b=.max\/(b=.len/\∀x,args=[x]->∀t ti,c.argTypes[0]? =BY t->ty.get t=BY ti->(∃k q,ti.k=.map k q)->∀r,x e=.map (BY r)->¬E r))
  (hr:K6 ty b c.argTypes.toList args F e h=.ok v h'):Fb P ty φ E h v h' o a w:=by
 have AIF:c.args.map a.eval=⟨c.args.toList.map a.eval⟩:=by apply yD;simp
 have AHI:∀t l,c.argTypes.toList=t::l->c.argTypes[0]? =BY t:=λt l hl=>by rw[<- AAl,hl];rfl
 have AJ1:∀t t2 l,c.argTypes.toList=t::t2::l->c.argTypes[1]? =BY t2:=λt t2 l hl=>by rw[<- AAl,hl];rfl
 have hex:∀s:Sem vz,(∀cs,builtin b c.argTypes o.type cs ⟨c.args.toList.map a.eval⟩=(do pure (.value (<- s))))->∀{vv:vz} {hh:Hp},Bo ty φ E h w vv hh (s.run P w)->Fb P ty φ E h vv hh o a w:=by
  intro s hs vv hh hg;refine .AET (s:=s) ?_ hg;unfold execOp;rw[ho];simp only[resolve,hc,AIF];exact hs _
 cases b with
 |len=>
  match args,ha,hE,hr with
  |[x],ha,hE,hr=>
   obtain⟨x',he,hx⟩:=Z0 rfl ha;cases hl:c.argTypes.toList with
   |nil=>rw[hl]at hr;cases hr
   |cons t l=>
    rw[hl]at hr;obtain⟨ti,hti,hr⟩:=Bk hr;have h0:=AHI t l hl;cases hk:ti.k with
    |slice el=>simp only[hk]at hr;exact hex _ (λcs=>by rw[he];rfl) (dT H h0 (hT t ti hti) hk hx hr)
    |string=>simp only[hk]at hr;exact hex _ (λcs=>by rw[he];rfl) (dV H h0 (hT t ti hti) hk hx hr)
    |map k q=>
     simp only[hk]at hr;exact(En hr).elim
    |arr n el=>
     simp only[hk]at hr;refine hex (yZ c.argTypes o.type #[x']) (λcs=>by rw[he];rfl) ?_;rw[jH h0 (hT t ti hti) hk];have:v=.int .i64 (.ofNat n)/\h'=h:=by
      unfold AQ W at hr;rw[FV]at hr;cases hr;exact⟨rfl,rfl⟩
     obtain⟨rfl,rfl⟩:=this;exact .same H (.int _ _)
    |_=>simp only[hk]at hr;cases hr
  |[],_,_,hr=>cases hr
  |_::_::_,_,_,hr=>cases hr
 |cap=>
  match args,ha,hr with
  |[x],ha,hr=>
   obtain⟨x',he,hx⟩:=Z0 rfl ha;cases hl:c.argTypes.toList with
   |nil=>rw[hl]at hr;cases hr
   |cons t l=>
    rw[hl]at hr;obtain⟨ti,hti,hr⟩:=Bk hr;have h0:=AHI t l hl;cases hk:ti.k with
    |slice el=>simp only[hk]at hr;exact(En hr).elim
    |_=>simp only[hk]at hr;cases hr
  |[],_,hr=>cases hr
  |_::_::_,_,hr=>cases hr
 |min=>
  match args,ha,hr with
  |[x,y],ha,hr=>
   obtain⟨x',y',he,hx,hy⟩:=Q0 rfl ha;exact hex _ (λcs=>by rw[he];rfl) (jt (F:=F) H hx hy hr)
  |[],_,hr=>cases hr
  |[_],_,hr=>cases hr
  |_::_::_::_,_,hr=>cases hr
 |max=>
  match args,ha,hr with
  |[x,y],ha,hr=>
   obtain⟨x',y',he,hx,hy⟩:=Q0 rfl ha;exact hex _ (λcs=>by rw[he];rfl) (jr (F:=F) H hx hy hr)
  |[],_,hr=>cases hr
  |[_],_,hr=>cases hr
  |_::_::_::_,_,hr=>cases hr
 |copy=>
  have hE':∀b,¬E b:=by
   rcases hE with h|h|h|⟨h,_⟩
   ·exact h
   all_goals cases h
  match args,ha,hr with
  |[d,x],ha,hr=>
   obtain⟨d',x',he,hd,hx⟩:=Q0 rfl ha;cases hl:c.argTypes.toList with
   |nil=>rw[hl]at hr;cases hr
   |cons t l=>
    rw[hl]at hr;obtain⟨ti,hti,hr⟩:=Bk hr;cases hk:ti.k with
    |slice el=>
     simp only[hk]at hr;obtain⟨ei,hei,hr⟩:=Bk hr;exact hex _ (λcs=>by rw[he];rfl) (dO H hE' (AHI t l hl) (hT t ti hti) hk (hT el ei hei) hd hx hr)
    |_=>simp only[hk]at hr;cases hr
  |[],_,hr=>cases hr
  |[_],_,hr=>cases hr
  |_::_::_::_,_,hr=>cases hr
 |clear=>
  have hE':∀b,¬E b:=by
   rcases hE with h|h|h|⟨h,_⟩
   ·exact h
   all_goals cases h
  match args,ha,hr with
  |[x],ha,hr=>
   obtain⟨x',he,hx⟩:=Z0 rfl ha;cases hl:c.argTypes.toList with
   |nil=>rw[hl]at hr;cases hr
   |cons t l=>
    rw[hl]at hr;obtain⟨ti,hti,hr⟩:=Bk hr;cases hk:ti.k with
    |slice el=>
     simp only[hk]at hr;obtain⟨ei,hei,hr⟩:=Bk hr;obtain⟨hz,hr⟩:=JL hr;exact hex _ (λcs=>by rw[he];rfl) (ZE H hE' (AHI t l hl) (hT t ti hti) hk (hT el ei hei) hz hx hr)
    |map k q=>
     simp only[hk]at hr;exact hex _ (λcs=>by rw[he];rfl) (QM H hE' (AHI t l hl) (hT t ti hti) hx hr)
    |_=>simp only[hk]at hr;cases hr
  |[],_,hr=>cases hr
  |_::_::_,_,hr=>cases hr
 |append=>
  have hE':∀b,¬E b:=by
   rcases hE with h|h|h|⟨h,_⟩
   ·exact h
   all_goals cases h
  match args,ha,hr with
  |[s,x],ha,hr=>
   obtain⟨s',x',he,hs,hx⟩:=Q0 rfl ha;cases hl:c.argTypes.toList with
   |nil=>rw[hl]at hr;cases hr
   |cons t l=>
    cases l with
    |nil=>rw[hl]at hr;cases hr
    |cons t2 l=>
     rw[hl]at hr;obtain⟨ti,hti,hr⟩:=Bk hr;obtain⟨xi,hxi,hr⟩:=Bk hr;have h0:=AHI t _ hl;have h1:=AJ1 t t2 l hl;cases hk:ti.k with
     |slice en=>
      cases hk2:xi.k with
      |slice q=>
       simp only[hk,hk2]at hr;obtain⟨ei,hei,hr⟩:=Bk hr;cases hsz:ei.size with
       |zero=>simp only[hsz]at hr;cases hr
       |succ n=>
        simp only[hsz]at hr;obtain⟨hz,hr⟩:=JL hr;have hs2:n.succ=ei.size:=hsz.symm;rw[hs2]at hr;exact hex _ (λcs=>by rw[he];rfl) (Nc H hE' h0 h1 (hT t ti hti) hk (hT t2 xi hxi) (.inl ⟨q,hk2⟩) hei (hT en ei hei) (by omega) hz hs hx hr)
      |string=>
       simp only[hk,hk2]at hr;obtain⟨ei,hei,hr⟩:=Bk hr;cases hsz:ei.size with
       |zero=>simp only[hsz]at hr;cases hr
       |succ n=>
        simp only[hsz]at hr;obtain⟨hz,hr⟩:=JL hr;have hs2:n.succ=ei.size:=hsz.symm;rw[hs2]at hr;exact hex _ (λcs=>by rw[he];rfl) (Nc H hE' h0 h1 (hT t ti hti) hk (hT t2 xi hxi) (.inr hk2) hei (hT en ei hei) (by omega) hz hs hx hr)
      |int q=>
       simp only[hk,hk2]at hr;obtain⟨ei,hei,hr⟩:=Bk hr;cases hsz:ei.size with
       |zero=>simp only[hsz]at hr;cases hr
       |succ n=>
        simp only[hsz]at hr;obtain⟨hz,hr⟩:=JL hr;have hs2:n.succ=ei.size:=hsz.symm;rw[hs2]at hr;exact hex _ (λcs=>by rw[he];rfl) (Sh H hE' h0 h1 (hT t ti hti) hk (hT t2 xi hxi) hk2 hei (hT en ei hei) (by omega) hz hs hx hr)
      |_=>simp only[hk,hk2]at hr;cases hr
     |_=>simp only[hk]at hr;cases hr
  |[],_,hr=>cases hr
  |[_],_,hr=>cases hr
  |_::_::_::_,_,hr=>cases hr
 |delete=>
  have hE':∀b,¬E b:=by
   rcases hE with h|h|h|⟨h,_⟩
   ·exact h
   all_goals cases h
  match args,ha,hr with
  |[m,key],ha,hr=>
   obtain⟨m',key',he,hm,hkey⟩:=Q0 rfl ha;cases hl:c.argTypes.toList with
   |nil=>rw[hl]at hr;cases hr
   |cons t l=>
    rw[hl]at hr;obtain⟨ti,kt,el,K,hti,hk,hK,hr⟩:=Mi (P:=P) (k:=λ_=>oNo) hr;exact(En hr).elim
  |[],_,hr=>cases hr
  |[_],_,hr=>cases hr
  |_::_::_::_,_,hr=>cases hr
 |_=>cases hr
theorem ri(hT:DI P ty)(hF:Dg P ty F)(H:AEZ ty φ E h w){o:zA}{a:Act}(hst:lc φ f e a.eval o.op)(hE:Ht ty f e E o.op)(hr:opC ty f o.op F e h=.ok v h'):
  Fb P ty φ E h v h' o a w:=by
 cases ho:o.op with
 |move x=>
  rw[ho]at hr hst;obtain⟨x',hx',hr⟩:=DW hr;exact .AET (s:=pure (a.eval x)) (by unfold execOp;rw[ho];rfl) (Sm H (hst x (by simp[wm]) x' hx') hr)
 |assign x=>
  rw[ho]at hr hst;obtain⟨x',hx',hr⟩:=DW hr;exact .AET (s:=pure (a.eval x)) (by unfold execOp;rw[ho];rfl) (Sm H (hst x (by simp[wm]) x' hx') hr)
 |pick c x y=>
  rw[ho]at hr hst;obtain⟨c',hc',hr⟩:=DW hr;obtain⟨x',y',hx',hy',hr⟩:=Ko hr;refine .AET (s:=(do pure (if <- asBool (a.eval c)then a.eval x else a.eval y))) ?_ (dZ H (hst c (by simp[wm]) c' hc') (hst x (by simp[wm]) x' hx') (hst y (by simp[wm]) y' hy') hr);unfold execOp;rw[ho];simp
 |alloc t=>
  rw[ho]at hr hst;obtain⟨ti,hti,hr⟩:=Bk hr;obtain⟨hz,hr⟩:=JL hr;cases hc:Bt .mt 0 ti.zero with
  |none=>rw[hc]at hr;cases hr
  |some c=>
   rw[hc]at hr;exact .AET (by unfold execOp;rw[ho]) (ZA H (hT t ti hti) hz hc hr)
 |box t x=>
  rw[ho]at hr hst;obtain⟨x',hx',hr⟩:=DW hr;exact .AET (by unfold execOp;rw[ho]) (jh H (hst x (by simp[wm]) x' hx') hr)
 |build t parts=>
  rw[ho]at hr hst;obtain⟨ti,hti,hr⟩:=Bk hr;obtain⟨hz,hr⟩:=JL hr;have hps:∀p∈parts.toList,∀y,cO f p.2=BY y->AEX φ (y e) (a.eval p.2):=λp hp=>hst p.2 (by simp only[wm,xA];exact⟨p,hp,rfl⟩)
  cases hk:ti.k with
  |struct fs=>
   simp only[hk]at hr;cases hp:HX f (Nr fs) parts.toList with
   |none=>rw[hp]at hr;cases hr
   |some ps=>
    rw[hp]at hr;exact .AET (by unfold execOp;rw[ho]) (Uz H (hT t ti hti) hk hz (ps':=parts.map λ(i,x)=>(i,a.eval x)) (by simpa using KT (ρ:=a.eval) hp hps) hr)
  |arr n el=>
   simp only[hk]at hr;obtain⟨ei,hei,hr⟩:=Bk hr;cases hp:HX f (λi=>BY (xW i ei.size,ei.size)) parts.toList with
   |none=>rw[hp]at hr;cases hr
   |some ps=>
    rw[hp]at hr;exact .AET (by unfold execOp;rw[ho]) (Uy H (hT t ti hti) hk (hT el ei hei) hz (ps':=parts.map λ(i,x)=>(i,a.eval x)) (by simpa using KT (ρ:=a.eval) hp hps) hr)
  |_=>simp only[hk]at hr;cases hr
 |buildSlice t len parts=>
  rw[ho]at hr hst;obtain⟨ti,hti,hr⟩:=Bk hr;have hps:∀p∈parts.toList,∀y,cO f p.2=BY y->AEX φ (y e) (a.eval p.2):=λp hp=>hst p.2 (by simp only[wm,xA];exact⟨p,hp,rfl⟩)
  cases hk:ti.k with
  |slice el=>
   simp only[hk]at hr;obtain⟨ei,hei,hr⟩:=Bk hr;obtain⟨hz,hr⟩:=JL hr;cases hp:HX f (λi=>BY (xW i ei.size,ei.size)) parts.toList with
   |none=>rw[hp]at hr;cases hr
   |some ps=>
    rw[hp]at hr;simp only at hr;cases hb:wY (xW len ei.size) 16777216 with
    |false=>rw[hb]at hr;cases hr
    |true=>
     rw[hb]at hr;exact .AET (by unfold execOp;rw[ho]) (Nd H (hT t ti hti) hk (hT el ei hei) hz (Am.1 hb) (ps':=parts.map λ(i,x)=>(i,a.eval x)) (by simpa using KT (ρ:=a.eval) hp hps) hr)
  |_=>simp only[hk]at hr;cases hr
 |load t x=>
  rw[ho]at hr hst hE;obtain⟨ti,hti,hr⟩:=Bk hr;obtain⟨x',hx',hr⟩:=DW hr;have hx:=hst x (by simp[wm]) x' hx';cases hk:ti.k.agg with
  |true=>rw[hk]at hr;exact .AET (by unfold execOp;rw[ho]) (ZL H (hT t ti hti) hk hx (YG rfl hE hx') hr)
  |false=>rw[hk]at hr;exact .AET (by unfold execOp;rw[ho]) (ZJ H (hT t ti hti) hk hx (YG rfl hE hx') hr)
 |store t x y=>
  rw[ho]at hr hst hE;obtain⟨ti,hti,hr⟩:=Bk hr;obtain⟨x',y',hx',hy',hr⟩:=Ko hr;exact .AFx (by unfold execOp;rw[ho]) (ZP H (hT t ti hti) (hst x (by simp[wm]) x' hx') (hst y (by simp[wm]) y' hy') (λa _=>Mg (x:=x) rfl hE _) hr)
 |nilCheck x=>
  rw[ho]at hr hst;obtain⟨x',hx',hr⟩:=DW hr;obtain⟨hv,rfl,hne⟩:=jv H (hst x (by simp[wm]) x' hx') hr;refine .AET (s:=pure (a.eval x)) ?_ (.same H hv);unfold execOp;rw[ho];obtain⟨h1,h2,h3,h4⟩:=hne;simp only;generalize a.eval x=z at h1 h2 h3 h4 ⊢;cases z<;>first|rfl|(exact absurd rfl h2)|(exact absurd rfl h3)|skip
 |binOp op t x y yt=>rw[ho]at hr hst;exact nQ hT H ho (by rw[ho];exact hst) hr
 |unOp op t x=>
  rw[ho]at hr hst;obtain⟨ti,hti,hr⟩:=Bk hr;obtain⟨x',hx',hr⟩:=DW hr;have hx:=hst x (by simp[wm]) x' hx';have hex:execOp a.eval o=(do pure (.value (<- Op.unary op (a.eval x)))):=by unfold execOp;rw[ho]
  cases op with
  |not=>exact .AET hex (jx H hx (by revert hr;cases ti.k<;>exact id))
  |neg=>
   cases hk:ti.k with
   |int k=>simp only[hk]at hr;exact(En hr).elim
   |_=>simp only[hk]at hr;cases hr
  |plus=>revert hr;cases ti.k<;>intro hr<;>cases hr
  |xor=>
   cases hk:ti.k with
   |int k=>cases k<;>simp only[hk]at hr<;>first|cases hr;done|exact(En hr).elim
   |_=>simp only[hk]at hr;cases hr
 |fieldAddr t x i=>
  rw[ho]at hr hst;obtain⟨ti,hti,hr⟩:=Bk hr;obtain⟨x',hx',hr⟩:=DW hr;have hx:=hst x (by simp[wm]) x' hx';cases hk:ti.k with
  |struct fs=>
   simp only[hk]at hr;cases hn:nth fs i with
   |none=>rw[hn]at hr;cases hr
   |some q=>
    obtain⟨off,s,ft⟩:=q;rw[hn]at hr;cases s with
    |zero=>cases hr
    |succ s=>exact .AET (by unfold execOp;rw[ho]) (OI H (hT t ti hti) hk hn hx hr)
  |_=>simp only[hk]at hr;cases hr
 |field t x i=>
  rw[ho]at hr hst;obtain⟨ti,hti,hr⟩:=Bk hr;obtain⟨x',hx',hr⟩:=DW hr;have hx:=hst x (by simp[wm]) x' hx';cases hk:ti.k with
  |struct fs=>
   simp only[hk]at hr;cases hn:nth fs i with
   |none=>rw[hn]at hr;cases hr
   |some q=>
    obtain⟨off,s,ft⟩:=q;rw[hn]at hr;obtain⟨fi,hfi,hr⟩:=Bk hr;exact(En hr).elim
  |_=>simp only[hk]at hr;cases hr
 |indexAddr t x ix=>
  rw[ho]at hr hst;obtain⟨ti,hti,hr⟩:=Bk hr;obtain⟨x',y',hx',hy',hr⟩:=Ko hr;have hx:=hst x (by simp[wm]) x' hx';have hy:=hst ix (by simp[wm]) y' hy';cases hk:ti.k with
  |arr n el=>
   simp only[hk]at hr;obtain⟨ei,hei,hr⟩:=Bk hr;exact .AET (by unfold execOp;rw[ho]) (VC H (hT t ti hti) hk (hT el ei hei) hx hy hr)
  |slice el=>
   simp only[hk]at hr;obtain⟨ei,hei,hr⟩:=Bk hr;exact .AET (by unfold execOp;rw[ho]) (jo H (hT t ti hti) hk (hT el ei hei) hx hy hr)
  |_=>simp only[hk]at hr;cases hr
 |index t x ix=>
  rw[ho]at hr hst;obtain⟨ti,hti,hr⟩:=Bk hr;obtain⟨x',y',hx',hy',hr⟩:=Ko hr;have hx:=hst x (by simp[wm]) x' hx';have hy:=hst ix (by simp[wm]) y' hy';cases hk:ti.k with
  |arr n el=>
   simp only[hk]at hr;obtain⟨ei,hei,hr⟩:=Bk hr;exact(En hr).elim
  |string=>
   simp only[hk]at hr;exact .AET (by unfold execOp;rw[ho]) (ZC H (hT t ti hti) hk hx hy hr)
  |_=>simp only[hk]at hr;cases hr
 |extract x i=>
  rw[ho]at hr hst;obtain⟨x',hx',hr⟩:=DW hr;exact .AET (by unfold execOp;rw[ho]) (Sk H (hst x (by simp[wm]) x' hx') hr)
 |makeInterface t x=>
  rw[ho]at hr hst;obtain⟨ti,hti,hr⟩:=Bk hr;obtain⟨x',hx',hr⟩:=DW hr;have hx:=hst x (by simp[wm]) x' hx';have hne:ti.k≠.iface:=by intro hk;rw[hk]at hr;cases hr
  have hr':Ng t x' F e h=.ok v h':=by revert hr hne;cases ti.k<;>intro hr hne<;>first|exact hr|exact absurd rfl hne
  exact .AET (by unfold execOp;rw[ho]) (ZH H (hT t ti hti) hne hx hr')
 |makeFunc fn first cap=>
  rw[ho]at hr hst;simp only[opC]at hr;cases h1:cOs f first.toList with
  |none=>simp only[h1]at hr;cases hr
  |some fs=>
   cases h2:cOs f cap.toList with
   |none=>simp only[h1,h2]at hr;cases hr
   |some cs=>
    simp only[h1,h2]at hr;refine .AET (s:=Instr.makeFunc fn (first.map a.eval) (cap.map a.eval)) (by unfold execOp;rw[ho]) ?_;have e1:first.map a.eval=⟨first.toList.map a.eval⟩:=by apply yD;simp
    have e2:cap.map a.eval=⟨cap.toList.map a.eval⟩:=by apply yD;simp
    rw[e1,e2];exact dR H (Pc h1 λx hx=>hst x (by simp[wm]at hx ⊢;exact .inl hx)) (Pc h2 λx hx=>hst x (by simp[wm]at hx ⊢;exact .inr hx)) hr
 |makeMap t r=>
  rw[ho]at hr hst;cases r with
  |some _=>cases hr
  |none=>exact .AET (by unfold execOp;rw[ho];rfl) (jp (F:=F) (e:=e) H (t:=t) hr)
 |makeSlice t l c=>
  rw[ho]at hr hst;obtain⟨ti,hti,hr⟩:=Bk hr;cases hk:ti.k with
  |slice el=>
   simp only[hk]at hr;obtain⟨ei,hei,hr⟩:=Bk hr;obtain⟨hz,hr⟩:=JL hr;obtain⟨l',c',hl',hc',hr⟩:=Ko hr;exact .AET (by unfold execOp;rw[ho]) (dW H (hT t ti hti) hk (hT el ei hei) hz (hst l (by simp[wm]) l' hl') (hst c (by simp[wm]) c' hc') hr)
  |_=>simp only[hk]at hr;cases hr
 |sliceToArrayPointer t x=>
  rw[ho]at hr hst;obtain⟨ti,hti,hr⟩:=Bk hr;cases hk:ti.k with
  |arr n el=>
   simp only[hk]at hr;cases n with
   |zero=>cases hr
   |succ n=>
    obtain⟨x',hx',hr⟩:=DW hr;exact .AET (by unfold execOp;rw[ho]) (jd H (hT t ti hti) hk (AAB _) (hst x (by simp[wm]) x' hx') hr)
  |_=>simp only[hk]at hr;cases hr
 |slice t x lo hi mx=>
  rw[ho]at hr hst;obtain⟨ti,hti,hr⟩:=Bk hr;obtain⟨x',hx',hr⟩:=DW hr;have hx:=hst x (by simp[wm]) x' hx';cases h1:cOo f lo with
  |none=>simp only[h1]at hr;cases hr
  |some lo'=>
   cases h2:cOo f hi with
   |none=>simp only[h1,h2]at hr;cases hr
   |some hi'=>
    cases h3:cOo f mx with
    |none=>simp only[h1,h2,h3]at hr;cases hr
    |some mx'=>
     simp only[h1,h2,h3]at hr;have r1:AF9 φ e lo' (lo.map a.eval):=UD h1 λz hz=>hst z (by rw[hz];simp[wm])
     have r2:AF9 φ e hi' (hi.map a.eval):=UD h2 λz hz=>hst z (by rw[hz];simp[wm])
     have r3:AF9 φ e mx' (mx.map a.eval):=UD h3 λz hz=>hst z (by rw[hz];simp[wm])
     cases hk:ti.k with
     |string=>
      simp only[hk]at hr;cases mx' with
      |some _=>cases hr
      |none=>
       have AF6:oNo F e h=.ok v h':=hr;have hmx:mx=By:=by
        cases mx with
        |none=>rfl
        |some z=>cases r3
       subst hmx;exact(En AF6).elim
     |slice el=>
      simp only[hk]at hr;obtain⟨ei,hei,hr⟩:=Bk hr;exact .AET (by unfold execOp;rw[ho]) (jk H (hT t ti hti) hk hei (hT el ei hei) hx r1 r2 r3 hr)
     |arr n el=>
      simp only[hk]at hr;obtain⟨ei,hei,hr⟩:=Bk hr;exact .AET (by unfold execOp;rw[ho]) (VA H (hT t ti hti) hk (hT el ei hei) hx r1 r2 r3 hr)
     |_=>simp only[hk]at hr;cases hr
 |convert src dst x=>
  rw[ho]at hr hst hE;obtain⟨si,hsi,hr⟩:=Bk hr;obtain⟨di,hdi,hr⟩:=Bk hr;obtain⟨x',hx',hr⟩:=DW hr;have hx:=hst x (by simp[wm]) x' hx';have hex:execOp a.eval o=(do pure (.value (<- convert src dst (a.eval x)))):=by unfold execOp;rw[ho]
  obtain⟨ds,hds,ks⟩:=(hT src si hsi).und;obtain⟨dd,hdd,kd⟩:=(hT dst di hdi).und;cases hk:di.k with
  |int k=>
   cases hk2:si.k with
   |int k2=>
    simp only[hk,hk2]at hr;obtain⟨q,n,hxe,hg⟩:=dN (P:=P) H hx hr;rw[hk]at kd;cases kd;rw[hk2]at ks;cases ks;refine .AET hex ?_;rw[hxe];have:(convert src dst (.int q n)).run P w=(ADd k n).run P w:=by
     simp only[convert,wM,run_underlying hds,run_underlying hdd,wH]
    rw[this];exact hg
   |_=>simp only[hk,hk2]at hr;cases hr
  |string=>
   cases hk2:si.k with
   |string=>
    simp only[hk,hk2]at hr;exact(En hr).elim
   |slice el=>
    simp only[hk,hk2]at hr;obtain⟨ei,hei,hr⟩:=Bk hr;cases hk3:ei.k with
    |int k3=>
     cases k3<;>simp only[hk3]at hr<;>first|(cases hr;done)|skip
     refine .AET hex (ZR H (λa l c hxe=>?_) (hT src si hsi) hk2 (hT dst di hdi) hk (hT el ei hei) hk3 hx hr);cases hb:wU src dst with
     |true=>exact Gb (by simp only[Go.Proofs.YtldjiljipddebaaGreat.kd,hb]) hE _
     |false=>
      have hi:NO ty src=IS:=by unfold NO;rw[hsi];simp only[hk2]
      have hi2:IB ty dst=IS:=by unfold IB;rw[hdi];simp only[hk]
      have hkd:Go.Proofs.YtldjiljipddebaaGreat.kd ty (.convert src dst x)=.r x:=by simp only[Go.Proofs.YtldjiljipddebaaGreat.kd,hb,hi,hi2]
      unfold Ht at hE;rw[hkd]at hE;exact hE x' hx' _ (by rw[hxe];rfl)
    |_=>simp only[hk3]at hr;cases hr
   |_=>simp only[hk,hk2]at hr;cases hr
  |slice el=>
   cases hk2:si.k with
   |string=>
    simp only[hk,hk2]at hr;obtain⟨ei,hei,hr⟩:=Bk hr;cases hk3:ei.k with
    |int k3=>
     cases k3<;>simp only[hk3]at hr<;>first|(cases hr;done)|skip
     cases hb:wU ei.size 1 with
     |false=>rw[hb]at hr;cases hr
     |true=>
      rw[hb]at hr;exact .AET hex (So H (hT src si hsi) hk2 (hT dst di hdi) hk (hT el ei hei) hk3 hei (Ax.1 hb) hx hr)
    |_=>simp only[hk3]at hr;cases hr
   |slice el2=>
    simp only[hk,hk2]at hr;cases hb:wU src dst with
    |false=>rw[hb]at hr;cases hr
    |true=>
     rw[hb]at hr;have heq:src=dst:=Ax.1 hb;have hE':=Gb (by simp only[Go.Proofs.YtldjiljipddebaaGreat.kd,hb]) hE;obtain⟨ei,hei,hr⟩:=Bk hr;cases hk3:ei.k with
     |int k3=>
      cases k3<;>simp only[hk3]at hr<;>first|(cases hr;done)|skip
      have hg:=ZD (P:=P) H hE' (hT dst di hdi) hk (hT el ei hei) hk3 hx hr;rw[heq]at hex;exact .AET hex hg
     |_=>simp only[hk3]at hr;cases hr
   |_=>simp only[hk,hk2]at hr;cases hr
  |_=>simp only[hk]at hr;cases hr
 |call c=>
  rw[ho]at hr hst hE;simp only[opC]at hr;cases h1:cOs f c.args.toList with
  |none=>simp only[h1]at hr;cases hr
  |some args=>
   simp only[h1]at hr;have ha:AEp φ (vals e args) (c.args.toList.map a.eval):=Pc h1 λx hx=>hst x (by
    unfold wm ABD;cases hc:c.callee<;>simp[hc]<;>first|exact Or.inr (by simpa using hx)|exact(by simpa using hx))
   cases hc:c.callee with
   |builtin b=>
    simp only[hc]at hr;refine aJ hT H hc ho ha ?_ hr;cases b with
    |len=>
     refine .inr (.inr (.inr ⟨rfl,λx hx t ti ht hti hm r hxr=>?_⟩));subst hx;cases hl:c.args.toList with
     |nil=>rw[hl]at h1;cases h1
     |cons x0 l=>
      cases l with
      |cons x1 l=>
       rw[hl]at h1;unfold cOs at h1;cases hx0:cO f x0 with
       |none=>rw[hx0]at h1;cases h1
       |some y0=>
        rw[hx0]at h1;cases hx1:cOs f (x1::l)with
        |none=>rw[hx1]at h1;cases h1
        |some ys=>
         rw[hx1]at h1;cases h1;unfold cOs at hx1;cases hq:cO f x1 with
         |none=>rw[hq]at hx1;cases hx1
         |some y1=>
          rw[hq]at hx1;cases hq2:cOs f l with
          |none=>rw[hq2]at hx1;cases hx1
          |some ys=>rw[hq2]at hx1;cases hx1
      |nil=>
       rw[hl]at h1;have hx0:cO f x0=BY x:=by
        unfold cOs at h1;cases hx0:cO f x0 with
        |none=>rw[hx0]at h1;cases h1
        |some y0=>rw[hx0]at h1;cases h1;rfl
       obtain⟨k,q,hm⟩:=hm;have hmap:Uj ty (c.argTypes.getD 0 0)=IN:=by
        have:c.argTypes.getD 0 0=t:=by rw[xY,ht];rfl
        rw[this];unfold Uj;rw[hti];simp only[hm]
       have hk:kd ty (.call c)=.r x0:=by simp only[kd,hc,hl,hmap]
       unfold Ht at hE;rw[hk]at hE;exact hE x hx0 r (by rw[hxr];rfl)
    |min=>exact .inr (.inl rfl)
    |max=>exact .inr (.inr (.inl rfl))
    |_=>
     refine .inl ?_;cases hl:c.args.toList with
     |nil=>exact Gb (by simp only[kd,hc,hl]) hE
     |cons x l=>exact Mg (x:=x) (by simp only[kd,hc,hl]) hE
   |value g=>
    simp only[hc]at hr;have hE':∀b,¬E b:=Gb (by simp only[kd,hc]) hE;cases g with
    |func g=>exact dL hF H hE' hc ho ha hr
    |tmp t=>
     obtain⟨g',hg',hr⟩:=DW hr;exact LX hF H hE' hc ho (hst (.tmp t) (by unfold wm ABD;simp[hc]) g' hg') ha hr
    |const t=>
     obtain⟨g',hg',hr⟩:=DW hr;exact LX hF H hE' hc ho (hst (.const t) (by unfold wm ABD;simp[hc]) g' hg') ha hr
    |global t=>
     obtain⟨g',hg',hr⟩:=DW hr;exact LX hF H hE' hc ho (hst (.global t) (by unfold wm ABD;simp[hc]) g' hg') ha hr
   |invoke recv name=>
    simp only[hc]at hr;have hE':∀b,¬E b:=Gb (by simp only[kd,hc]) hE;obtain⟨x',hx',hr⟩:=DW hr;exact(En hr).elim
 |lookup t x ix ok=>
  rw[ho]at hr hst hE;obtain⟨ti,hti,hr⟩:=Bk hr;obtain⟨x',ix',hx',AJ2,hr⟩:=Ko hr;cases hk:ti.k with
  |map kt el=>
   simp only[hk]at hr;obtain⟨ei,hei,hr⟩:=Bk hr;obtain⟨hz,hr⟩:=JL hr;unfold wZero at hr;cases hzv:zeroV ei with
   |none=>rw[hzv]at hr;cases hr
   |some z=>
    rw[hzv]at hr;obtain⟨ti2,kt2,el2,K,AI5,hk2,hK,hr⟩:=Mi hr;rw[hti]at AI5;cases AI5;rw[hk]at hk2;cases hk2;refine .AET (by unfold execOp;rw[ho]) (VF hT H (hT t ti hti) hk (hT el ei hei) hz hzv hK (hst x (by simp[wm]) x' hx') (hst ix (by simp[wm]) ix' AJ2) (λr hxr=>?_) hr);have hkd:kd ty (.lookup t x ix ok)=.r x:=rfl;unfold Ht at hE;rw[hkd]at hE;exact hE x' hx' r (by rw[hxr];rfl)
  |_=>simp only[hk]at hr;cases hr
 |mapUpdate t m k x=>
  rw[ho]at hr hst hE;obtain⟨ti,kt,el,K,hti,hk,hK,hr⟩:=Mi (k:=λks=>w1 f m λm=>w2 f k x λkey x=>Fj ks m key x) hr;obtain⟨m',hm',hr⟩:=DW hr;obtain⟨k',x',hk',hx',hr⟩:=Ko hr;exact .AFx (by unfold execOp;rw[ho]) (Ni hT H (Mg (x:=m) rfl hE) (hT t ti hti) hk hK (hst m (by simp[wm]) m' hm') (hst k (by simp[wm]) k' hk') (hst x (by simp[wm]) x' hx') hr)
 |insert t m k x=>
  rw[ho]at hr hst hE;obtain⟨ti,kt,el,K,hti,hk,hK,hr⟩:=Mi (k:=λks=>w1 f m λm=>w2 f k x λkey x=>Fj ks m key x) hr;obtain⟨m',hm',hr⟩:=DW hr;obtain⟨k',x',hk',hx',hr⟩:=Ko hr;exact .AFx (by unfold execOp;rw[ho]) (Ni hT H (Mg (x:=m) rfl hE) (hT t ti hti) hk hK (hst m (by simp[wm]) m' hm') (hst k (by simp[wm]) k' hk') (hst x (by simp[wm]) x' hx') hr)
 |range t x=>
  rw[ho]at hr hst hE;obtain⟨ti,hti,hr⟩:=Bk hr;cases hk:ti.k with
  |map k q=>
   simp only[hk]at hr;obtain⟨x',hx',hr⟩:=DW hr;exact .AET (by unfold execOp;rw[ho]) (ZO H (Gb rfl hE) (hT t ti hti) hk (hst x (by simp[wm]) x' hx') hr)
  |_=>simp only[hk]at hr;cases hr
 |next x s=>
  rw[ho]at hr hst hE;cases s with
  |true=>cases hr
  |false=>
   obtain⟨x',hx',hr⟩:=DW hr;exact .AET (by unfold execOp;rw[ho]) (dX (t:=o.type) H (Gb rfl hE) (hst x (by simp[wm]) x' hx') hr)
 |entry x=>
  rw[ho]at hr hst hE;obtain⟨x',hx',hr⟩:=DW hr;exact .AET (by unfold execOp;rw[ho]) (ZF H (Gb rfl hE) (hst x (by simp[wm]) x' hx') hr)
 |typeAssert x xt t ok=>
  rw[ho]at hr hst hE;obtain⟨ti,hti,hr⟩:=Bk hr;obtain⟨x',hx',hr⟩:=DW hr;have hr2:ti.k≠.iface/\wZ ti (wZero ti λz=>oNo) F e h=.ok v h':=by
   cases hk:ti.k with
   |iface=>simp only[hk]at hr;cases hr
   |_=>simp only[hk]at hr;exact⟨nofun,hr⟩
  obtain⟨hki,hr⟩:=hr2;obtain⟨hz,hr⟩:=JL hr;unfold wZero at hr;cases hzv:zeroV ti with
  |none=>rw[hzv]at hr;cases hr
  |some z=>
   rw[hzv]at hr;exact(En hr).elim
 |_=>rw[ho]at hr;cases hr
end
def tR(h:Hp):R->R
 |.ok v _=>.ok v h
 |.no=>.no
def Kr(g:Hp->R):Prop:=∀b a:Hp,a.bl=b.bl->g a=tR a (g b)
def Kp(g:OpF):Prop:=∀a b,Kr (g a b)
theorem Kr.same{g:Hp->R}(k:Kr g){h h':Hp}{v:vz}(a:g h=.ok v h'):h'=h:=by
 have:=k h h rfl;rw[a]at this;have:(R.ok v h')=.ok v h:=this;cases this;rfl
theorem Kr.at{g:Hp->R}(k:Kr g){h h':Hp}{v:vz}(b:g h=.ok v h')(h2:Hp)(a:h2.bl=h.bl):g h2=.ok v h2:=by
 rw[k h h2 a,b];rfl
theorem Kr.no:Kr λ_=>.no:=λ_ _ _=>rfl
theorem Kr.ok(v:vz):Kr λh=>.ok v h:=λ_ _ _=>rfl
theorem Kr.bif{c:Bool}{a b:Hp->R}(d:Kr a)(e:Kr b):Kr λh=>bif c then a h else b h:=by
 cases c
 ·exact e
 ·exact d
theorem Kr.AEi{v:vz}{k:vz->Hp->R}(hk:∀v,Kr (k v)):Kr λh=>AEi v λv=>k v h:=by
 intro h a b;simp only[BR];exact hk v h a b
theorem Kr.AFI{v:List vz}{k:List vz->Hp->R}(hk:∀v,Kr (k v)):Kr λh=>AFI v λv=>k v h:=by
 intro h a b;simp only[C9];exact hk v h a b
theorem Kr.AEn{v:Nat}{k:Nat->Hp->R}(hk:∀v,Kr (k v)):Kr λh=>AEn v λv=>k v h:=by
 intro h a b;simp only[Ae];exact hk v h a b
theorem Kr.okI(k:we)(n:Int):Kr λh=>okI k n h:=λh a _=>by simp only[FE];rfl
theorem Kr.AFp(v:vz):Kr λh=>AFp v h:=λh a _=>by simp only[FV];rfl
theorem Kr.okB(b:Bool):Kr λh=>okB b h:=by cases b<;>exact .ok _
theorem Kr.row{b:Nat}{k:VT->Nat->Nat->Hp->R}{z:Hp->R}(hk:∀c s e,Kr (k c s e))(f:Kr z):Kr λh=>match rowOf h b with
  |.ok c s e=>k c s e h
  |.no=>z h:=by
 intro h a d;have:rowOf a b=rowOf h b:=by unfold rowOf;rw[d]
 simp only[this];cases rowOf h b with
 |ok c s e=>exact hk c s e h a d
 |no=>exact f h a d
theorem Kr.ents{b:Nat}{k:List Ent->Nat->Hp->R}{z:Hp->R}(hk:∀c s,Kr (k c s))(e:Kr z):Kr λh=>match Bi h b with
  |.ok c s=>k c s h
  |.no=>z h:=by
 intro h a d;have:Bi a b=Bi h b:=by unfold Bi;rw[d]
 simp only[this];cases Bi h b with
 |ok c s=>exact hk c s h a d
 |no=>exact e h a d
theorem XD{c:VT}{off:Nat}{k:List vz->Hp->R}(hk:∀l,Kr (k l))(n:Nat)(a:List vz):Kr λh=>Ud c off (λl=>k l h) n a:=by
 intro h b d;simp only[GO];exact hk _ h b d
theorem Hw{e:Env}{x:Option O}{d y:Nat}{k:Nat->Hp->R}(hk:∀n,Kr (k n)):Kr λh=>Cy e x d y λn=>k n h:=by
 unfold Cy;cases x with
 |none=>exact hk d
 |some a=>
  simp only;cases Dj (a e)with
  |no=>exact .no
  |ok n=>exact .bif (hk n) .no
theorem OS{e:Env}{l c:Nat}{lo hi g:Option O}{k:Nat->Nat->Nat->Hp->R}(hk:∀a b c,Kr (k a b c)):Kr λh=>Dr e l c lo hi g λa b c=>k a b c h:=by
 unfold Dr;cases g with
 |none=>exact Hw (k:=λd h=>Cy e lo 0 d λl=>k l d c h) λd=>Hw (k:=λl h=>k l d c h) λl=>hk l d c
 |some f=>
  refine Hw (k:=λf h=>_) λf=>?_
  cases hi with
  |none=>exact .no
  |some d=>exact Hw (k:=λd h=>Cy e lo 0 d λl=>k l d f h) λd=>Hw (k:=λl h=>k l d f h) λl=>hk l d f
theorem Hc{a:Option AAG}{s l c m:Nat}:Kr λh=>Bq a s l c m h:=by
 unfold Bq;refine .AEn (k:=λd h=>_) λd=>.AEn (k:=λb h=>_) λb=>?_
 cases wU m l with
 |true=>exact .ok _
 |false=>
  cases a with
  |none=>exact .ok _
  |some a=>
   simp only;cases xW l s with
   |zero=>exact .ok _
   |succ m=>exact .AEn (k:=λe h=>_) λe=>.ok _
theorem RR{e:Env}{k:List vz->Hp->R}(hk:∀l,Kr (k l)):∀(ps:List (Nat×Nat×O)) (cs:List vz),Kr λh=>Ey cs e (λl=>k l h) ps
 |[],cs=>by
  unfold Ey;exact .AFI (k:=k) hk
 |(a,size,b)::ps,cs=>by
  unfold Ey;exact .AEi (k:=λv h=>_) λv=>.bif (.bif (.bif (RR hk ps _) .no) .no) .no
theorem NV{ok:Bool}{v:vz}{b:Bool}:Kr λh=>El ok v b h:=by
 unfold El;cases ok
 ·exact .AEi (k:=λv h=>_) λv=>.ok _
 ·exact .AEi (k:=λv h=>_) λv=>.ok _
theorem S4{a:AAG}{n:Nat}:Kr λh=>PD a n h:=.AEn (k:=λb h=>_) λb=>.ok _
theorem Ta{size:Nat}{v:vz}{n:Nat}{k:List vz->Hp->R}(hk:∀l,Kr (k l)):Kr λh=>BP h size v n λl=>k l h:=by
 unfold BP;cases v with
 |slice b l a=>
  cases b with
  |none=>exact hk []
  |some b=>exact .row (k:=λa c _ h=>bif wY (yK b.off (xW n size)) c then Ud a b.off (λl=>k l h) (xW n size) []else .no) (z:=λ_=>.no) (λa c _=>.bif (XD hk _ _) .no) .no
 |string c=>exact .bif (hk _) .no
 |chan a=>
  cases a with
  |none=>exact .no
  |some d=>exact hk []
 |_=>exact .no
theorem Kp.oNo:Kp oNo:=λ_ _=>.no
theorem Kp.w1{f:Fr}{x:xE}{k:O->OpF}(hk:∀y,Kp (k y)):Kp (w1 f x k):=by
 unfold Go.Proofs.YtldjiljipddebaaGreat.w1;split
 ·exact hk _
 ·exact .oNo
theorem Kp.w2{f:Fr}{x y:xE}{k:O->O->OpF}(hk:∀x y,Kp (k x y)):Kp (w2 f x y k):=.w1 λx=>.w1 λy=>hk x y
theorem Kp.wTy{ty:TTy}{t:Nat}{k:TI->OpF}(hk:∀ti,ty.get t=BY ti->Kp (k ti)):Kp (wTy ty t k):=by
 unfold Go.Proofs.YtldjiljipddebaaGreat.wTy;split
 ·rename_i ti a;exact hk ti a
 ·exact .oNo
theorem Kp.wZ{ti:TI}{k:OpF}(hk:Kp k):Kp (wZ ti k):=by
 unfold Go.Proofs.YtldjiljipddebaaGreat.wZ;split
 ·exact hk
 ·exact .oNo
theorem Kp.wZero{ti:TI}{k:vz->OpF}(hk:∀z,Kp (k z)):Kp (wZero ti k):=by
 unfold Go.Proofs.YtldjiljipddebaaGreat.wZero;split
 ·exact hk _
 ·exact .oNo
theorem Kp.wKey{ty:TTy}{t:Nat}{k:KS->OpF}(hk:∀z,Kp (k z)):Kp (wKey ty t k):=by
 unfold Go.Proofs.YtldjiljipddebaaGreat.wKey;refine .wTy λb _=>?_
 split
 ·refine .wTy λa _=>?_
  split
  ·exact hk _
  ·exact .oNo
 ·exact .oNo
section
variable {x y z:O}
theorem Nh:Kp (AQ x):=λa b=>.AFp _
theorem dY:Kp (A0 x y z):=λd a=>by
 show Kr λb=>eG (x a) (y a) (z a) b
 cases x a with
 |bool c=>cases c<;>exact .AFp _
 |_=>exact .no
theorem O7{zs:List vz}{ps:List (Nat×Nat×O)}:Kp (BW zs ps):=λc d=>RR (k:=λa b=>.ok (.agg ⟨a⟩) b) (λe=>.ok _) ps zs
theorem ju:Kp (Bg x):=λf c=>by
 show Kr λb=>Y8 (x c) b
 unfold Y8;cases x c with
 |pointer a=>cases a;exact .no;exact .ok _
 |func d a g=>cases d<;>first|exact .ok _|exact .no
 |slice a j h=>exact .ok _
 |map i=>exact .ok _
 |iface e v=>exact .AEi (k:=λv b=>.ok (.iface e v) b) λv=>.ok _
 |_=>exact .no
theorem ji{f:Int->Int->Bool}{k:we}:Kp (Aj f k x y):=λc a=>by
 show Kr λb=>gq f (Ct k (x a)) (Ct k (y a)) b
 cases Ct k (x a)with
 |no=>exact .no
 |ok d=>cases Ct k (y a)with
  |no=>exact .no
  |ok e=>exact .okB _
theorem jb{f:Int->Int->Int}{k:we}:Kp (C7 f k x y):=λc a=>by
 show Kr λb=>mO f k (Ct k (x a)) (Ct k (y a)) b
 cases Ct k (x a)with
 |no=>exact .no
 |ok d=>cases Ct k (y a)with
  |no=>exact .no
  |ok e=>exact .okI _ _
theorem jZ{k:we}{e:Nat}:Kp (CO k e x y):=λg a=>by
 show Kr λd=>f0 k e (Ct k (x a)) (Ct k (y a)) d
 cases Ct k (x a)with
 |no=>exact .no
 |ok b=>cases Ct k (y a)with
  |no=>exact .no
  |ok c=>
   cases b with
   |negSucc _=>exact .okI _ _
   |ofNat b=>cases c with
    |negSucc _=>exact .okI _ _
    |ofNat c=>
     unfold f0;simp only;cases wY (yK b c) e with
     |true=>exact .AEn (k:=λf d=>.ok (.int k (.ofNat f)) d) λf=>.ok _
     |false=>exact .okI _ _
theorem jl{k:we}:Kp (MC k x y):=λc a=>by
 show Kr λb=>bV k (Ct k (x a)) (Ct k (y a)) b
 unfold bV;cases Ct k (x a)with
 |no=>exact .no
 |ok d=>cases Ct k (y a)with
  |no=>exact .no
  |ok e=>exact .bif .no (.okI _ _)
theorem jy{k:we}:Kp (QP k x y):=λc a=>by
 show Kr λb=>eQ k (Ct k (x a)) (Ct k (y a)) b
 unfold eQ;cases Ct k (x a)with
 |no=>exact .no
 |ok d=>cases Ct k (y a)with
  |no=>exact .no
  |ok e=>exact .bif .no (.okI _ _)
theorem jg{f:Nat->Nat->Nat}{k:we}:Kp (LY f k x y):=λc a=>by
 show Kr λb=>Z9 f k (Gx k (x a)) (Gx k (y a)) b
 unfold Z9;cases Gx k (x a)with
 |no=>exact .no
 |ok d=>cases Gx k (y a)with
  |no=>exact .no
  |ok e=>exact .bif (.bif (.okI _ _) .no) .no
theorem j0{k:we}:Kp (OJ k x y):=λc a=>by
 show Kr λb=>ed k (Gx k (x a)) (Dj (y a)) b
 unfold ed;cases Gx k (x a)with
 |no=>exact .no
 |ok d=>cases Dj (y a)with
  |no=>exact .no
  |ok e=>exact .okI _ _
theorem j7{k:we}:Kp (MD k x y):=λc a=>by
 show Kr λb=>ee k (Gx k (x a)) (Dj (y a)) b
 unfold ee;cases Gx k (x a)with
 |no=>exact .no
 |ok d=>cases Dj (y a)with
  |no=>exact .no
  |ok e=>exact .okI _ _
theorem j9{f:List UInt8->List UInt8->Bool}:Kp (KM f x y):=λc a=>by
 show Kr λb=>fF f (x a) (y a) b
 unfold fF;cases x a with
 |string d=>cases y a with
  |string e=>exact .okB _
  |_=>exact .no
 |_=>exact .no
theorem ra{k:TK}{n:Bool}:Kp (oEq k n x y):=λb a=>by
 unfold oEq;cases eqV k (x a) (y a)with
 |some c=>exact .okB _
 |none=>exact .no
theorem Xg{k:KS}{n:Bool}:Kp (QN k n x y):=λb a=>by
 unfold QN;cases eqC k (x a) (y a)with
 |some c=>exact .okB _
 |none=>exact .no
theorem jw:Kp (Dq x):=λb a=>by
 unfold Dq;cases x a with
 |bool c=>exact .okB _
 |_=>exact .no
theorem dM{k:we}:Kp (C5 k x):=λb a=>by
 unfold C5;cases Yt (x a)with
 |no=>exact .no
 |ok c=>exact .okI _ _
theorem ZQ:Kp (F4 x):=λg d=>by
 unfold F4;cases x d with
 |slice h j i=>
  refine Ta (k:=λc e=>match FL c with|some a=>.ok (.string ⟨⟨a⟩⟩) e|none=>.no) λf=>?_
  cases FL f with
  |some a=>exact .ok _
  |none=>exact .no
 |chan b=>
  cases b with
  |some b=>exact .ok _
  |none=>exact .no
 |_=>exact .no
theorem ZG{t:Nat}:Kp (Ng t x):=λb c=>.AEi (k:=λv a=>.ok (.iface t v) a) λv=>.ok _
theorem dQ{e:Fn}{a b:List O}:Kp (Em e a b):=λh g=>.AFI (k:=λd f=>AFI (vals g b) λc=>.ok (.func e ⟨d⟩ ⟨c⟩) f) λd=>.AFI (k:=λc f=>.ok (.func e ⟨d⟩ ⟨c⟩) f) λc=>.ok _
theorem gy{b s:Nat}{a:Option AAG}{e:Bool}{l f m:Nat}:Kr λh=>Eh b s a e l f m h:=by
 unfold Eh;cases e with
 |true=>exact Hc
 |false=>
  cases l with
  |zero=>exact Hc
  |succ l=>
   intro h c d;have:FR b a c=FR b a h:=by
    unfold FR;cases a with
    |none=>rfl
    |some a=>
     have:rowOf c a.block=rowOf h a.block:=by unfold rowOf;rw[d]
     simp only[this]
   simp only[this];cases FR b a h with
   |true=>exact Hc h c d
   |false=>rfl
theorem jj{a s:Nat}{lo hi b:Option O}:Kp (EL a s x lo hi b):=λi d=>by
 unfold EL;cases x d with
 |slice c l j=>exact OS (k:=λg f h e=>Eh a s c b.isSome g f h e) λ_ _ _=>gy
 |_=>exact .no
theorem U9{n s:Nat}{lo hi g:Option O}:Kp (GW n s x lo hi g):=λh b=>by
 unfold GW;cases EH (x b)with
 |ok a=>exact OS (k:=λe d f c=>Bq (BY a) s e d f c) λ_ _ _=>Hc
 |no=>exact .no
theorem OH{o:Nat}:Kp (AE o x):=λb a=>by
 unfold AE;cases EH (x a)with
 |ok c=>exact S4
 |no=>exact .no
theorem XK{n s:Nat}{a:AA}{i:NN}:Kr λh=>NJ n s a i h:=by
 unfold NJ;cases i with
 |no=>exact .no
 |ok i=>
  simp only;cases xQ i n with
  |false=>exact .no
  |true=>
   cases a with
   |no=>exact .no
   |ok a=>exact S4
theorem VB{n s:Nat}:Kp (Ci n s x y):=λa b=>XK
theorem jn{s:Nat}:Kp (CF s x y):=λc b=>by
 unfold CF;cases x b with
 |slice a e d=>cases a;exact .no;exact XK
 |_=>exact .no
theorem ZB:Kp (Jb x y):=λe a=>by
 show Kr λb=>Kx (x a) (Dj (y a)) b
 unfold Kx;cases Dj (y a)with
 |no=>exact .no
 |ok c=>
  simp only;cases x a with
  |string d=>
   simp only;cases nth d.data.toList c with
   |some f=>exact .okI _ _
   |none=>exact .no
  |_=>exact .no
theorem Sj{i:Nat}:Kp (AW i x):=λc a=>by
 unfold AW;cases x a with
 |tuple vs=>
  simp only;cases nth vs.toList i with
  |some v=>exact .AEi (k:=λv b=>.ok v b) λv=>.ok v
  |none=>exact .no
 |_=>exact .no
theorem jc{n:Nat}:Kp (Si n x):=λc b=>by
 unfold Si;cases x b with
 |slice a e d=>cases a;exact .no;exact .bif (.ok _) .no
 |_=>exact .no
theorem dS:Kp (Bh x):=λc a=>by
 unfold Bh;cases x a with
 |slice d f e=>exact .ok _
 |chan b=>cases b;exact .no;exact .ok _
 |_=>exact .no
theorem dU:Kp (O8 x):=λd b=>by
 unfold O8;cases x b with
 |string e=>exact .AEn (k:=λa c=>.ok (.int .i64 (.ofNat a)) c) λa=>.ok _
 |_=>exact .no
theorem Oz{l:Bool}{a b:vz}:Kr λh=>IK l a b h:=by
 unfold IK;cases a with
 |int c a=>
  simp only;cases Yt b with
  |no=>exact .no
  |ok b=>exact .bif (.ok _) (.ok _)
 |_=>exact .no
theorem js:Kp (ZN x y):=λa b=>Oz
theorem jq:Kp (VG x y):=λa b=>Oz
theorem ZI:Kp (AO x):=λg d=>by
 unfold AO;cases EH (x d)with
 |no=>exact .no
 |ok a=>
  intro b c e;show AEV a c=tR c (AEV a b);have:rowOf c a.block=rowOf b a.block:=by unfold rowOf;rw[e]
  unfold AEV;rw[this];cases rowOf b a.block with
  |no=>rfl
  |ok h f i=>
   simp only;cases xQ a.off f with
   |false=>rfl
   |true=>simp only[BR];rfl
theorem ZK{n:Nat}:Kp (BK n x):=λg f=>by
 unfold BK;cases EH (x f)with
 |no=>exact .no
 |ok c=>exact .row (k:=λd e _ b=>bif wY (yK c.off n) e then Ud d c.off (λa=>.ok (.agg ⟨a⟩) b) n []else .no) (z:=λ_=>.no) (λd e _=>.bif (XD (k:=λa b=>.ok (.agg ⟨a⟩) b) (λa=>.ok _) _ _) .no) .no
theorem VD{K:KS}{zv:vz}{ok:Bool}:Kp (Fi K zv ok x y):=λg a=>by
 show Kr λb=>GT K zv (x a) (y a) ok b
 unfold GT;cases Gt K (y a)with
 |false=>exact .no
 |true=>
  simp only;cases x a with
  |map d=>
   cases d with
   |none=>exact NV
   |some d=>
    refine .ents (k:=λc _ b=>match JI K (y a) c with
     |some (BY e)=>El ok e.val IN b
     |some By=>El ok zv IS b
     |none=>.no) (z:=λ_=>.no) (λc _=>?_) .no
    cases JI K (y a) c with
    |none=>exact .no
    |some f=>cases f<;>exact NV
  |_=>exact .no
end
section
variable {ty:TTy}{f:Fr}
theorem gK{op:ABn}{t:Nat}{x y:xE}:Kp (Z7 ty f op t x y):=by
 unfold Z7;refine .wTy λa _=>.w2 λx y=>?_
 split
 ·split
  ·cases op<;>first|exact .oNo|exact .oNo
  ·exact .oNo
 ·cases op<;>first|exact jZ|exact jb|exact jl|exact jy|exact jg|exact j0|exact j7|exact ji|exact .oNo
 ·cases op<;>first|exact .oNo|exact j9|exact .oNo
 ·split
  ·cases op<;>first|exact Xg|exact .oNo
  ·exact .oNo
 ·split
  ·cases op<;>first|exact Xg|exact .oNo
  ·exact .oNo
 ·cases op<;>first|exact ra|exact .oNo
theorem rh{op:Op}(hk:kd ty op=.p\/∃x,kd ty op=.r x):Kp (opC ty f op):=by
 cases op with
 |move x=>exact .w1 λx=>Nh
 |assign x=>exact .w1 λx=>Nh
 |pick c l d=>exact .w1 λc=>.w2 λl d=>dY
 |build a H=>
  refine .wTy λb _=>.wZ ?_
  split
  ·split
   ·exact O7
   ·exact .oNo
  ·refine .wTy λj _=>?_
   split
   ·exact O7
   ·exact .oNo
  ·exact .oNo
 |load a x=>
  refine .wTy λb _=>.w1 λx=>?_
  split
  ·exact ZK
  ·exact ZI
 |nilCheck x=>exact .w1 λx=>ju
 |binOp op a x o J=>exact gK
 |unOp op a x=>
  refine .wTy λb _=>.w1 λx=>?_
  split<;>first|exact jw|exact .oNo|exact .oNo|exact .oNo
 |convert src p x=>
  refine .wTy λI z=>.wTy λB y=>.w1 λx=>?_
  split
  ·exact dM
  ·exact .oNo
  ·refine .wTy λj _=>?_
   split
   ·exact ZQ
   ·exact .oNo
  ·rename_i q s
   exfalso
   simp only[kd]at hk;cases k:wU src p with
   |true=>simp only[k]at hk;rcases hk with hk|⟨_,hk⟩<;>cases hk
   |false=>
    have e:NO ty src=IS:=by unfold NO;rw[z];simp only[s]
    have w:IB ty p=IN:=by unfold IB;rw[y];simp only[q]
    simp only[k,e,w]at hk;rcases hk with hk|⟨_,hk⟩<;>cases hk
  ·rename_i s q
   split
   ·rename_i k
    exfalso
    simp only[kd,k]at hk;rcases hk with hk|⟨_,hk⟩<;>cases hk
   ·exact .oNo
  ·exact .oNo
 |makeInterface a x=>
  refine .wTy λb _=>.w1 λx=>?_
  split
  ·exact .oNo
  ·exact ZG
 |makeFunc t l d=>
  show Kp (match cOs f l.toList,cOs f d.toList with
   |some u,BY c=>Em t u c
   |_,_=>oNo)
  split
  ·exact dQ
  ·exact .oNo
 |slice a x E D F=>
  refine .wTy λb _=>.w1 λx=>?_
  split
  ·split
   ·split
    ·exact .oNo
    ·exact .oNo
   ·exact .wTy λj _=>jj
   ·exact .wTy λj _=>U9
   ·exact .oNo
  ·exact .oNo
 |fieldAddr a x h=>
  refine .wTy λb _=>.w1 λx=>?_
  split
  ·split<;>first|exact OH|exact .oNo
  ·exact .oNo
 |field a x h=>
  refine .wTy λb _=>.w1 λx=>?_
  split
  ·split
   ·exact .wTy λm _=>.oNo
   ·exact .oNo
  ·exact .oNo
 |indexAddr a x h=>
  refine .wTy λb _=>.w2 λx o=>?_
  split
  ·exact .wTy λm _=>VB
  ·exact .wTy λm _=>jn
  ·exact .oNo
 |index a x h=>
  refine .wTy λb _=>.w2 λx o=>?_
  split
  ·exact .wTy λm _=>.oNo
  ·exact ZB
  ·exact .oNo
 |lookup a x h ok=>
  refine .wTy λb _=>.w2 λx o=>?_
  split
  ·exact .wTy λj _=>.wZ (.wZero λK=>.wKey λks=>VD)
  ·exact .oNo
 |extract a h=>exact .w1 λa=>Sj
 |sliceToArrayPointer a x=>
  refine .wTy λb _=>?_
  split
  ·exact .w1 λx=>jc
  ·exact .oNo
 |call c=>
  simp only[kd]at hk;cases n:c.callee with
  |builtin d=>
   show Kp (match cOs f c.args.toList with
    |some i=>match c.callee with
     |.builtin d=>K6 ty d c.argTypes.toList i
     |.value g=>match g with
      |.func g=>AU g i
      |g=>w1 f g λg=>ET g i
     |.invoke A G=>w1 f A λx=>oNo
    |none=>oNo)
   split
   ·rename_i i C
    simp only[n];cases d with
    |len=>
     unfold K6;split<;>rename_i e<;>first|(cases e;done)|skip
     all_goals (try (exact .oNo))
     split
     ·refine .wTy λb _=>?_
      split
      ·exact dS
      ·exact dU
      ·exact .oNo
      ·exact Nh
      ·exact .oNo
     ·exact .oNo
    |min=>
     unfold K6;split<;>rename_i e<;>first|(cases e;done)|exact js|exact .oNo
    |max=>
     unfold K6;split<;>rename_i e<;>first|(cases e;done)|exact jq|exact .oNo
    |_=>
     exfalso
     simp only[n]at hk;cases r:c.args.toList with
     |nil=>simp only[r]at hk;rcases hk with hk|⟨_,hk⟩<;>cases hk
     |cons _ _=>simp only[r]at hk;rcases hk with hk|⟨_,hk⟩<;>cases hk
   ·exact .oNo
  |_=>
   exfalso
   simp only[n]at hk;rcases hk with hk|⟨_,hk⟩<;>cases hk
 |_=>first|exact .oNo|(exfalso;rcases hk with hk|⟨_,hk⟩<;>cases hk)
end
abbrev Rho:=Nat->Option vz
def AEt(A:List Nat)(σ:Sg)(e:Env):Rho:=λb=>match Qe A σ (.tmp b)with
 |some a=>BY (MH a e)
 |none=>By
def evR(ρ:Rho):xE->Option vz
 |.tmp b=>ρ b
 |.const v=>if F6 v then BY v else By
 |.func a=>BY (.func (.func a) #[] #[])
 |.global _=>By
theorem Er(A:List Nat)(σ:Sg)(e:Env)(t:Nat):AEt A σ e t=match Dl t σ with
  |some a=>BY (MH a e)
  |none=>match memN t A with
   |true=>By
   |false=>match xQ t 240 with
    |true=>BY (J t e)
    |false=>By:=by
 show(match Qe A σ (.tmp t)with|some a=>BY (MH a e)|none=>By)=_;show(match (match Dl t σ with|some a=>BY a|none=>match memN t A with|true=>By|false=>match xQ t 240 with|true=>BY (Src.s t)|false=>By)with|some a=>BY (MH a e)|none=>By)=_;cases Dl t σ with
 |some a=>rfl
 |none=>
  cases memN t A with
  |true=>rfl
  |false=>cases xQ t 240<;>rfl
theorem fA{A:List Nat}{σ:Sg}{x:xE}{s:Src}(h:Qe A σ x=BY s)(e:Env):evR (AEt A σ e) x=BY (MH s e):=by
 cases x with
 |tmp b=>show(match Qe A σ (.tmp b)with|some s=>BY (MH s e)|none=>By)=_;rw[h]
 |const v=>
  have h:(match F6 v with|true=>BY (Src.c v)|false=>By)=BY s:=h;cases a:F6 v with
  |true=>rw[a]at h;cases h;show(if F6 v then BY v else By)=_;rw[IT a];rfl
  |false=>rw[a]at h;cases h
 |func c=>cases h;rfl
 |global _=>cases h
theorem nT{f:Fr}{x:xE}{y:O}(h:cO f x=BY y):∃s,Qe f.A f.σ x=BY s/\y=MH s:=by
 unfold cO at h;split at h
 ·rename_i s a;cases h;exact⟨s,a,rfl⟩
 ·cases h
theorem GJ{A:List Nat}{σ:Sg}{x:xE}{y:O}(h:cO ⟨A,σ⟩ x=BY y)(e:Env):evR (AEt A σ e) x=BY (y e):=by
 obtain⟨b,a,rfl⟩:=nT h;exact fA a e
theorem Ns{φ:Phi}{v:vz}(h:F6 v=IN):AEX φ v v:=by
 unfold F6 at h;split at h
 ·rename_i a
  exact .agg (l:=a.toList) (l':=a.toList) (.plain h)
 ·exact .plain h
structure AFs (A:List Nat)(σ:Sg):Prop where
 mem:∀p∈σ,memN p.1 A=IN
 nodup:(σ.map (·.1)).Nodup
 lt:∀p∈σ,∀n,p.2=.s n->n<240
theorem AFs.nil(A:List Nat):AFs A [] where
 mem:=λb a=>by cases a
 nodup:=List.nodup_nil
 lt:=λb a=>by cases a
theorem Fo{a b:Nat}(h:wU a b=IS):a≠b:=λc=>by rw[c,yG]at h;cases h
theorem E8:∀{σ:Sg} {t:Nat} {s:Src},Dl t σ=BY s->(t,s)∈σ
 |(c,e)::d,t,s,a=>by
  unfold Dl at a;split at a
  ·rename_i b
   cases a;have:=Ax.1 b;subst this;exact wJ
  ·exact wI _ (E8 a)
theorem Fh:∀{σ:Sg} {t:Nat} {s:Src},(σ.map (·.1)).Nodup->(t,s)∈σ->Dl t σ=BY s
 |(a,f)::e,t,s,c,h=>by
  unfold Dl;rw[yA,yO]at c;rcases wS.1 h with h|h
  ·cases h
   rw[yG]
  ·have:a≠t:=by
    intro d;subst d;exact c.1 (xA.2 ⟨_,h,rfl⟩)
   have b:wU a t=IS:=by
    cases b:wU a t with
    |true=>exact absurd (Ax.1 b) this
    |false=>rfl
   rw[b];exact Fh c.2 h
theorem E5:∀{σ:Sg} {d:Nat},(GM d σ).Sublist σ/\∀p∈GM d σ,p.2≠.s d
 |[],d=>⟨.slnil,λp hp=>by cases hp⟩
 |(g,.s h)::e,d=>by
  obtain⟨a,b⟩:=E5 (σ:=e) (d:=d);unfold GM;split
  ·exact⟨a.cons _,b⟩
  ·rename_i f
   refine⟨a.cons_cons _,λp hp=>?_⟩;rcases wS.1 hp with rfl|hp
   ·intro c;cases c;exact Fo f rfl
   ·exact b p hp
 |(g,.c v)::e,d=>by
  obtain⟨a,b⟩:=E5 (σ:=e) (d:=d);unfold GM;refine⟨a.cons_cons _,λp hp=>?_⟩;rcases wS.1 hp with rfl|hp
  ·intro c;cases c
  ·exact b p hp
theorem HC:∀{σ:Sg} {d:Nat},(GE d σ).Sublist σ/\∀p∈GE d σ,p.1≠d
 |[],d=>⟨.slnil,λp hp=>by cases hp⟩
 |(g,f)::e,d=>by
  obtain⟨a,b⟩:=HC (σ:=e) (d:=d);unfold GE;split
  ·exact⟨a.cons _,b⟩
  ·rename_i c
   refine⟨a.cons_cons _,λp hp=>?_⟩;rcases wS.1 hp with rfl|hp
   ·exact Fo c
   ·exact b p hp
theorem AFs.sub{A:List Nat}{σ d:Sg}(h:AFs A σ)(b:d.Sublist σ):AFs A d:=
 ⟨λc a=>h.mem c (b.subset a),(b.map (·.1)).nodup h.nodup,λc a=>h.lt c (b.subset a)⟩
theorem AFs.alias{A:List Nat}{σ:Sg}(h:AFs A σ){d:Nat}(e:memN d A=IN){s:Src}(g:∀n,s=.s n->n<240):AFs A ((d,s)::GE d σ):=by
 have b:=h.sub (HC (d:=d)).1;refine⟨λa hp=>?_,?_,λa hp=>?_⟩
 ·rcases wS.1 hp with rfl|hp
  ·exact e
  ·exact b.mem a hp
 rotate_left
 ·rcases wS.1 hp with rfl|hp
  ·exact g
  ·exact b.lt a hp
 ·rw[yA,yO]
  refine⟨λf=>?_,b.nodup⟩;obtain⟨a,hp,c⟩:=xA.1 f;exact(HC (d:=d)).2 a hp c
theorem kR{A:List Nat}{σ:Sg}{e:Env}(g:AFs A σ){d:Nat}(o:memN d A=IS)(n:d<240)(v:vz){t:Nat}{u:vz}
  (h:AEt A (GM d σ) (Env.set d v e) t=BY u):if t=d then u=v else AEt A σ e t=BY u:=by
 rw[Er]at h;cases k:Dl t (GM d σ)with
 |some s=>
  simp only[k]at h;cases h;have b:=E8 k;have m:=E5.1.subset b;have r:=(E5 (σ:=σ) (d:=d)).2 _ b;have j:=g.mem _ m;have w:t≠d:=by intro e;subst e;simp only at j;rw[o]at j;cases j
  rw[If w,Er,Fh g.nodup m];simp only
  congr 1
  cases s with
  |c v=>rfl
  |s f=>
   have q:f≠d:=λe=>r (by rw[e])
   show J f e=J f (Env.set d v e);have a:f<240:=g.lt _ m f rfl;rw[DD f a,DD f a,Env.AEm _ _ _ _ n a,If q]
 |none=>
  simp only[k]at h;cases b:memN t A with
  |true=>simp only[b]at h;cases h
  |false=>
   simp only[b]at h;cases i:xQ t 240 with
   |false=>simp only[i]at h;cases h
   |true=>
    simp only[i]at h;have a:=BM.1 i;cases h;have p:J t (Env.set d v e)=if t=d then v else e.get t:=by
     rw[DD t a,Env.AEm _ _ _ _ n a]
    rw[p];split
    ·rfl
    ·have l:Dl t σ=By:=by
      cases l:Dl t σ with
      |none=>rfl
      |some s=>
       have:=g.mem _ (E8 l);simp only at this;rw[b]at this;cases this
     rw[Er];simp only[l,b,i];rw[DD t a]
theorem ZY{A:List Nat}{σ:Sg}{e:Env}(g:AFs A σ){d:Nat}(r:memN d A=IN)(s:Src){t:Nat}{u:vz}
  (h:AEt A ((d,s)::GE d σ) e t=BY u):if t=d then u=MH s e else AEt A σ e t=BY u:=by
 rw[Er]at h;by_cases b:t=d
 ·rw[IT b]
  subst b;have:Dl t ((t,s)::GE t σ)=BY s:=by unfold Dl;rw[yG]
  simp only[this]at h;cases h;rfl
 ·rw[If b]
  have a:wU d t=IS:=by
   cases a:wU d t with
   |true=>exact absurd (Ax.1 a).symm b
   |false=>rfl
  have k:Dl t ((d,s)::GE d σ)=Dl t (GE d σ):=by conv=>lhs;unfold Dl;rw[a]
  have l:Dl t (GE d σ)=Dl t σ:=by
   cases i:Dl t (GE d σ)with
   |some f=>exact(Fh g.nodup (HC.1.subset (E8 i))).symm
   |none=>
    cases n:Dl t σ with
    |none=>rfl
    |some f=>
     have c:=E8 n;have:∀{σ:Sg},(t,f)∈σ->(t,f)∈GE d σ:=by
      intro σ c
      induction σ with
      |nil=>cases c
      |cons o w j=>
       obtain⟨p,q⟩:=o;unfold GE;rcases wS.1 c with h|h
       ·cases h
        have m:wU t d=IS:=by
         cases a:wU t d with
         |true=>exact absurd (Ax.1 a) b
         |false=>rfl
        rw[m];exact wJ
       ·split
        ·exact j h
        ·exact wI _ (j h)
     have:=Fh (g.sub (HC (d:=d)).1).nodup (this c);rw[i]at this;cases this
  rw[k,l]at h;rw[Er];exact h
structure Eff (T:Nat->Prop)(φ:Phi)(h:Hp)(w:xG)(φ':Phi)(h':Hp)(w':xG):Prop where
 le:φ.Le φ'
 new:∀i p,φ' i=BY p->φ i=BY p\/h.next<=i
 next:h.next<=h'.next
 size:w.heap.size<=w'.heap.size
 tape:w'.tape=w.tape
 os:w'.os=w.os
 output:w'.output=w.output
 frame:∀k,k<w.heap.size->(∀i p,φ i=BY p->p.inp=IS->T i->Live h i->p.blk≠k)->w'.heap[k]? =w.heap[k]?
 back:∀i p,φ' i=BY p->Live h' i->p.blk<w.heap.size->∃j q,φ j=BY q/\Live h j/\q.blk=p.blk/\q.inp=p.inp/\(j=i\/T j)
 kept:∀i,i<h.next->¬T i->h'.bl.get i=h.bl.get i
 shape:∀i,i<h.next->AEo (h.bl.get i) (h'.bl.get i)
 only:∀i,i<h.next->φ i=By->h'.bl.get i=h.bl.get i
 all:∀i,h.next<=i->i<h'.next->∃p,φ' i=BY p
theorem Evo.eff{φ ψ:Phi}{h h':Hp}{w w':xG}(ev:Evo φ h w ψ h' w'):Eff (λc=>h'.low<=c/\c<=h'.high) φ h w ψ h' w' where
 le:=ev.le
 new:=ev.new
 next:=ev.next
 size:=ev.size
 tape:=ev.tape
 os:=ev.os
 output:=ev.output
 frame:=λm i f=>ev.frame m i λb n d k e a j=>f b n d k ⟨e,a⟩ j
 back:=ev.back
 kept:=λb g l=>ev.kept b g (by
  rcases wh b h'.low with h|h
  ·exact .inl h
  ·rcases wh h'.high b with a|a
   ·exact .inr a
   ·exact absurd ⟨h,a⟩ l)
 shape:=ev.shape
 only:=ev.only
 all:=ev.all
theorem Eff.AFy{T:Nat->Prop}{φ ψ:Phi}{h h' g c:Hp}{w w':xG}(ev:Eff T φ h w ψ h' w')(a:g.bl=h.bl)(h2:g.next=h.next)(b:c.bl=h'.bl)(d:c.next=h'.next):Eff T φ g w ψ c w' where
 le:=ev.le
 new:=by rw[h2];exact ev.new
 next:=by rw[h2,d];exact ev.next
 size:=ev.size
 tape:=ev.tape
 os:=ev.os
 output:=ev.output
 frame:=by unfold Live;rw[a];exact ev.frame
 back:=by unfold Live;rw[a,b];exact ev.back
 kept:=by rw[a,h2,b];exact ev.kept
 shape:=by rw[a,h2,b];exact ev.shape
 only:=by rw[a,h2,b];exact ev.only
 all:=by rw[h2,d];exact ev.all
theorem Eff.evo{T:Nat->Prop}{φ ψ:Phi}{h h':Hp}{w w':xG}(ev:Eff T φ h w ψ h' w')(d:∀c,T c->h'.low<=c/\c<=h'.high)(b:h'.low<=h.low)(p:h.high<=h'.high):Evo φ h w ψ h' w' where
 le:=ev.le
 new:=ev.new
 next:=ev.next
 size:=ev.size
 tape:=ev.tape
 os:=ev.os
 output:=ev.output
 frame:=λu r o=>ev.frame u r λa g f s e b=>o a g f s (d a e).1 (d a e).2 b
 back:=λa g f b t=>by
  obtain⟨i,x,j,k,l,n,m⟩:=ev.back a g f b t;exact⟨i,x,j,k,l,n,m.imp id (d i)⟩
 kept:=λa q y=>ev.kept a q λe=>by have:=d a e;omega
 low:=b
 high:=p
 shape:=ev.shape
 only:=ev.only
 all:=ev.all
theorem AEZ.AFy{ty:TTy}{φ:Phi}{b:Nat->Prop}{h g:Hp}{w:xG}(H:AEZ ty φ b h w)(a:g.bl=h.bl)(h2:g.next=h.next):AEZ ty φ b g w where
 dom:=by rw[h2];exact H.dom
 inj:=by unfold Live;rw[a];exact H.inj
 row:=by rw[a];exact H.row
 fresh:=by rw[a,h2];exact H.fresh
 kind:=by rw[a];exact H.kind
 inp:=H.inp
def TouchR(ty:TTy)(ρ:Rho)(b:Nat->Prop)(op:Op):Prop:=match kd ty op with
 |.p=>True
 |.a=>True
 |.r d=>∀c,evR ρ d=BY c->∀a,AE0 c=.ok a->¬b a
 |.w _=>∀a,¬b a
 |.q=>∀a,¬b a
theorem Eff.cut{T:Nat->Prop}{φ ψ:Phi}{h h':Hp}{w w':xG}(ev:Eff T φ h w ψ h' w')(f:∀i p,φ i=BY p->i<h.next):Eff (λc=>T c/\c<h.next) φ h w ψ h' w' where
 le:=ev.le
 new:=ev.new
 next:=ev.next
 size:=ev.size
 tape:=ev.tape
 os:=ev.os
 output:=ev.output
 frame:=λx r q=>ev.frame x r λi p b s a d=>q i p b s ⟨a,f i p b⟩ d
 back:=λi p b d u=>by
  obtain⟨j,k,e,l,m,o,n⟩:=ev.back i p b d u;exact⟨j,k,e,l,m,o,n.imp id λa=>⟨a,f j k e⟩⟩
 kept:=λi g t=>ev.kept i g λa=>t ⟨a,g⟩
 shape:=ev.shape
 only:=ev.only
 all:=ev.all
theorem Eff.refl(φ:Phi)(h:Hp)(w:xG):Eff (λ_=>False) φ h w φ h w where
 le:=.refl φ
 new:=λ_ _ a=>.inl a
 next:=wB _
 size:=wB _
 tape:=rfl
 os:=rfl
 output:=rfl
 frame:=λ_ _ _=>rfl
 back:=λe f a d _=>⟨e,f,a,d,rfl,rfl,.inl rfl⟩
 kept:=λ_ _ _=>rfl
 shape:=λ_ _=>.refl _
 only:=λ_ _ _=>rfl
 all:=λ_ b c=>absurd c (AAg.2 b)
def AI6(ty:TTy)(o:zA)(b:AE5):Prop:=(kd ty o.op=.p\/∃a,kd ty o.op=.r a)\/(b≠.plain/\∀c a d,b≠.chk c a d)
structure Core (P:xU)(ty:TTy)(o:zA)(ah:AE5)(ρ:Rho)(h h':Hp)(v:vz)(T:Nat->Prop):Prop where
 AHJ:∀(φ:Phi) (E:Nat->Prop) (w:xG) (a:Act),AEZ ty φ E h w->(∀x∈o.op.operands.toList,∀u,evR ρ x=BY u->AEX φ u (a.eval x))->TouchR ty ρ E o.op->
  ∀(next:Act->xG->Prop) (Q:Exit->Act->xG->Prop),(∀ψ v' w',AEX ψ v v'->AEZ ty ψ E h' w'->Eff T φ h w ψ h' w'->Evo φ h w ψ h' w'->next (a.put o.dst v') w')->o.wp P a w next Q
 AG3:AI6 ty o ah->h'.low<=h.low/\h.high<=h'.high/\(∀c,T c->h'.low<=c/\c<=h'.high)/\h'.mark=h.mark
 tlt:∀c,T c->c<h.next
 tp:(kd ty o.op=.p\/∃x,kd ty o.op=.r x)->(∀c,¬T c)/\h'=h
 AEk:ah=.quiet .AEk->∀c,¬T c
 weak:ah=.quiet .weak->∀c,T c->h.mark<=c
 wr:∀x xs,ah=.wr x xs->∀c,T c->∃u,evR ρ x=BY u/\AE0 u=.ok c
structure AHq (ah:AE5)(ρ:Rho)(h:Hp):Prop where
 wrx:∀x xs,ah=.wr x xs->∀y∈xs,∀u u' b,evR ρ x=BY u->evR ρ y=BY u'->AE0 u=.ok b->AE0 u'≠.ok b
 chk:∀old x xs,ah=.chk old x xs->∀y∈xs,∀u u' b,evR ρ x=BY u->evR ρ y=BY u'->AE0 u=.ok b->AE0 u'≠.ok b
 old:∀x xs,ah=.chk IN x xs->∀u b,evR ρ x=BY u->AE0 u=.ok b->b<h.mark
 known:∀x xs,(ah=.wr x xs\/∃old,ah=.chk old x xs)->(∃u,evR ρ x=BY u)/\∀y∈xs,∃u,evR ρ y=BY u
structure SF (P:xU)(ty:TTy)(ops:List zA)(o:zA)(ah:AE5)(ρ ρ':Rho)(h h':Hp)(v:vz)(run:Bool)(T:Nat->Prop):Prop where
 slot:∀t u,ρ' t=BY u->if o.dst=BY t then u=v else ρ t=BY u
 grd:match o.guard with
  |none=>run=IN
  |some (g,want)=>∃og d c,ops[g]? =BY og/\og.dst=BY d/\ρ d=BY c/\((∃b,c=.bool b/\run=(want == b))\/(∃l,c=.tuple l/\run=IS))
 side:kd ty o.op≠.p->AHq ah ρ h
 core:(run=IN/\Core P ty o ah ρ h h' v T)\/(run=IS/\v=AEU/\h'=h/\∀c,¬T c)
section
variable {P:xU}{ty:TTy}{F:AES}
theorem M8(l:DI P ty)(k:Dg P ty F){A:List Nat}{σ:Sg}{e:Env}{o:zA}{g i:Hp}{v:vz}(s:opC ty ⟨A,σ⟩ o.op F e g=.ok v i)(φ:Phi)(c:Nat->Prop)(w:xG)(a:Act)(H:AEZ ty φ c g w)
  (n:∀x∈o.op.operands.toList,∀u,evR (AEt A σ e) x=BY u->AEX φ u (a.eval x))(b:TouchR ty (AEt A σ e) c o.op):Fb P ty φ c g v i o a w:=by
 refine ri l k H (f:=⟨A,σ⟩) (e:=e) (F:=F) (λx t y h=>n x t _ (GJ h e)) ?_ s;unfold Ht;unfold TouchR at b;cases d:kd ty o.op with
 |p=>trivial
 |a=>trivial
 |r x=>rw[d]at b;exact λy h j m=>b _ (GJ h e) j m
 |w x=>rw[d]at b;exact b
 |q=>rw[d]at b;exact b
def Kk(h:Hp):Hp:={next:=h.next,low:=h.next,high:=0,mark:=h.mark,bl:=h.bl}
theorem M4(hT:DI P ty)(hF:Dg P ty F){A:List Nat}{σ:Sg}{e:Env}{o:zA}{ah:AE5}(hah:ah=.plain\/∃old x xs,ah=.chk old x xs){h h':Hp}{v:vz}(hr:opC ty ⟨A,σ⟩ o.op F e h=.ok v h'):∃T,Core P ty o ah (AEt A σ e) h h' v T:=by
 have hns:ah≠.quiet .AEk:=by rcases hah with rfl|⟨_,_,_,rfl⟩<;>exact λh=>by cases h
 have hnw:ah≠.quiet .weak:=by rcases hah with rfl|⟨_,_,_,rfl⟩<;>exact λh=>by cases h
 have hnr:∀x xs,ah≠.wr x xs:=by rcases hah with rfl|⟨_,_,_,rfl⟩<;>exact λ_ _ h=>by cases h
 have hnm:¬(ah≠.plain/\∀old x xs,ah≠.chk old x xs):=by
  rcases hah with rfl|⟨_,_,_,rfl⟩
  ·exact λh=>h.1 rfl
  ·exact λh=>h.2 _ _ _ rfl
 by_cases hk:kd ty o.op=.p\/∃x,kd ty o.op=.r x
 ·have K:=rh (ty:=ty) (f:=⟨A,σ⟩) hk F e
  have hh:=K.same hr;have hr2:=K.at hr (Kk h) rfl;subst hh;refine⟨λ_=>False,{AHJ:=λφ E w a H hn ht next Q hnx=>?_,AG3:=λ_=>⟨wB _,wB _,λ_ h=>h.elim,rfl⟩,tlt:=λ_ h=>h.elim,tp:=λ_=>⟨λ_ h=>h,rfl⟩,AEk:=λh=>absurd h hns,weak:=λh=>absurd h hnw,wr:=λ_ _ h=>absurd h (hnr _ _)}⟩;have key:∀ψ v' w',AEX ψ v v'->AEZ ty ψ E (Kk h') w'->Evo φ (Kk h') w ψ (Kk h') w'->Eff (λ_=>False) φ h' w ψ h' w':=?_
  ·exact M8 hT hF hr2 φ E w a (H.AFy rfl rfl) hn ht next Q λψ v' w' hv H' ev=>hnx ψ v' w' hv (H'.AFy rfl rfl) (key ψ v' w' hv H' ev) ((key ψ v' w' hv H' ev).evo (λ_ h=>h.elim) (wB _) (wB _))
  intro ψ v' w' hv H' ev;have e1:Eff (λc=>h'.next<=c/\c<=0) φ h' w ψ h' w':=ev.eff.AFy rfl rfl rfl rfl;have hd:∀i p,φ i=BY p->i<h'.next:=λi p e=>(H.dom i p e).1
  have e2:=e1.cut hd;exact {e2 with
   frame:=λk hk hf=>e2.frame k hk λi p e hn ht=>by omega
   back:=λi p e hl hp=>by
    obtain⟨j,q,e1,e2,e3,e5,e4⟩:=e2.back i p e hl hp;exact⟨j,q,e1,e2,e3,e5,e4.imp id λht=>by omega⟩
   kept:=λi hi _=>e2.kept i hi λht=>by omega}
 ·refine⟨λc=>(h'.low<=c/\c<=h'.high)/\c<h.next,{AHJ:=λφ E w a H hn ht next Q hnx=>?_,AG3:=λh=>absurd h (λh=>h.elim hk hnm),tlt:=λ_ h=>h.2,tp:=λh=>absurd h hk,AEk:=λh=>absurd h hns,weak:=λh=>absurd h hnw,wr:=λ_ _ h=>absurd h (hnr _ _)}⟩
  exact M8 hT hF hr φ E w a H hn ht next Q λψ v' w' hv H' ev=>hnx ψ v' w' hv H' (ev.eff.cut λi p e=>(H.dom i p e).1) ev
theorem Jt(w:DI P ty)(t:Dg P ty F){A:List Nat}{σ:Sg}{e:Env}{o:zA}{d:AE5}{h h' a:Hp}{v:vz}(C:opC ty ⟨A,σ⟩ o.op F e (Kk h)=.ok v a)
  (i:h'.bl=a.bl)(h2:h'.next=a.next)(M:h'.low=min h.low a.low)(N:h'.high=max h.high a.high)(s:h'.mark=h.mark)
  (D:d=.quiet .AEk->h.next<=a.low)(H:d=.quiet .weak->h.mark<=a.low)
  (I:∀x xs,d=.wr x xs->∀c,a.low<=c->c<=a.high->c<h.next->∃u,evR (AEt A σ e) x=BY u/\AE0 u=.ok c)(z:¬(kd ty o.op=.p\/∃x,kd ty o.op=.r x)):∃T,Core P ty o d (AEt A σ e) h h' v T:=by
 refine⟨λc=>(a.low<=c/\c<=a.high)/\c<h.next,{AHJ:=λl n j r f y E next q B=>?_,AG3:=λ_=>⟨by omega,by omega,λc h=>by omega,s⟩,tlt:=λ_ h=>h.2,tp:=λh=>absurd h z,AEk:=λh c b=>?_,weak:=λh c b=>?_,wr:=λx xs h c b=>I x xs h c b.1.1 b.1.2 b.2}⟩
 ·refine M8 w t C l n j r (f.AFy rfl rfl) y E next q λm L k G p ev=>?_
  have g:Eff (λc=>a.low<=c/\c<=a.high) l h j m h' k:=ev.eff.AFy rfl rfl i h2;exact B m L k G (p.AFy i h2) (g.cut λJ K e=>(f.dom J K e).1) (g.evo (λc h=>by omega) (by omega) (by omega))
 ·have:=D h;omega
 ·have:=H h;omega
end
section
variable {P:xU}{ty:TTy}{F:AES}
structure AG4 (ty:TTy)(o:zA)(ah:AE5):Prop where
 quiet:∀m,ah=.quiet m->¬(kd ty o.op=.p\/∃x,kd ty o.op=.r x)
 wr:∀x xs,ah=.wr x xs->kd ty o.op=.w x
 chk:∀old x xs,ah=.chk old x xs->kd ty o.op=.r x
theorem AG4.plain(ty:TTy)(o:zA):AG4 ty o .plain:=⟨(λ_ a=>by cases a),(λ_ _ a=>by cases a),(λ_ _ _ a=>by cases a)⟩
theorem K8{b:Nat}{e:Env}:∀{h:List (Env->vz)},DE b e h=IN->∀g∈h,AE0 (g e)≠.ok b
 |[],_,g,c=>by cases c
 |x::j,a,g,c=>by
  unfold DE at a;cases d:AE0 (x e)with
  |no=>
   rw[d]at a;rcases wS.1 c with rfl|c
   ·rw[d];exact λa=>by cases a
   ·exact K8 a g c
  |ok i=>
   rw[d]at a;simp only at a;cases f:wU i b with
   |true=>rw[f]at a;cases a
   |false=>
    rw[f]at a;rcases wS.1 c with rfl|c
    ·rw[d];exact λa=>by cases a;exact Fo f rfl
    ·exact K8 a g c
theorem WA{w:Env->vz}{d:List (Env->vz)}{k:C}{e:Env}{h:Hp}{X:X}(a:Ck w d k F e h=X)(i:X≠.no):k F e h=X/\∀b,AE0 (w e)=.ok b->∀g∈d,AE0 (g e)≠.ok b:=by
 unfold Ck at a;cases f:AE0 (w e)with
 |no=>rw[f]at a;exact⟨a,λb h=>by cases h⟩
 |ok b=>
  rw[f]at a;simp only at a;cases c:DE b e d with
  |false=>rw[c]at a;exact absurd a.symm i
  |true=>rw[c]at a;exact⟨a,λj h=>by cases h;exact K8 c⟩
theorem gP{x:O}{k:C}{e:Env}{h:Hp}{X:X}(a:Ee x k F e h=X)(f:X≠.no):k F e h=X/\∀b,AE0 (x e)=.ok b->b<h.mark:=by
 unfold Ee at a;cases d:AE0 (x e)with
 |no=>rw[d]at a;exact⟨a,λb h=>by cases h⟩
 |ok b=>
  rw[d]at a;simp only at a;cases c:xQ b h.mark with
  |false=>rw[c]at a;exact absurd a.symm f
  |true=>rw[c]at a;exact⟨a,λg h=>by cases h;exact BM.1 c⟩
theorem Jn{f:Fr}:∀{l:List xE} {ys:List O},cOs f l=BY ys->∀x∈l,∃y,cO f x=BY y/\y∈ys
 |[],ys,a,x,hx=>by cases hx
 |z::l,ys,a,x,hx=>by
  unfold cOs at a;split at a
  ·rename_i y e
   split at a
   ·rename_i h d
    cases a;rcases wS.1 hx with rfl|hx
    ·exact⟨y,e,wJ⟩
    ·obtain⟨g,b,c⟩:=Jn d x hx
     exact⟨g,b,wI _ c⟩
   ·cases a
  ·cases a
theorem Q4{h a h':Hp}{v u:vz}(b:DK h v a=.ok u h'):u=v/\h'.bl=a.bl/\h'.next=a.next/\h'.low=min h.low a.low/\h'.high=max h.high a.high/\h'.mark=h.mark:=by
 unfold DK at b;rw[Ae,Ae,BV,Bz]at b;cases b;exact⟨rfl,rfl,rfl,rfl,rfl,rfl⟩
theorem AHq.none{b:AE5}{ρ:Rho}{h:Hp}(c:∀x xs,b≠.wr x xs)(h2:∀old x xs,b≠.chk old x xs):AHq b ρ h where
 wrx:=λx xs a=>absurd a (c x xs)
 chk:=λold x xs a=>absurd a (h2 old x xs)
 old:=λx xs a=>absurd a (h2 IN x xs)
 known:=λx xs a=>by
  rcases a with a|⟨old,a⟩
  ·exact absurd a (c x xs)
  ·exact absurd a (h2 old x xs)
theorem Mm(B:DI P ty)(z:Dg P ty F){A:List Nat}{σ:Sg}{e:Env}{h:Hp}{o:zA}{t:AE5}(Q:AG4 ty o t){L:OpF->C}{X:X}(b:Hu ⟨A,σ⟩ t (opC ty ⟨A,σ⟩ o.op) L F e h=X)(l:X≠.no):
  ∃p,L p F e h=X/\(∀v h',p F e h=.ok v h'->∃T,Core P ty o t (AEt A σ e) h h' v T)/\AHq t (AEt A σ e) h:=by
 cases t with
 |plain=>exact⟨_,b,λv h' a=>M4 B z (.inl rfl) a,.none (λ_ _ h=>by cases h) (λ_ _ _ h=>by cases h)⟩
 |quiet S=>
  refine⟨_,b,λv h' a=>?_,.none (λ_ _ h=>by cases h) (λ_ _ _ h=>by cases h)⟩;have J:=Q.quiet S rfl;unfold AZ at a;have a:(match opC ty ⟨A,σ⟩ o.op F e (Kk h)with|.ok v h'=>bif qOk S h h'.low then DK h v h' else .no|.no=>.no)=.ok v h':=a;cases m:opC ty ⟨A,σ⟩ o.op F e (Kk h)with
  |no=>rw[m]at a;cases a
  |ok D O=>
   rw[m]at a;obtain⟨f,a⟩:=Bx a;obtain⟨rfl,d,g,V,W,Y⟩:=Q4 a;refine Jt B z m d g V W Y (λe=>?_) (λe=>?_) (λ_ _ e=>by cases e) J
   ·cases e;exact Am.1 f
   ·cases e;exact Am.1 f
 |wr E G=>
  have J:=Q.wr E G rfl;unfold Hu at b;simp only at b;cases d:cO ⟨A,σ⟩ E with
  |none=>simp only[d]at b;exact absurd b.symm l
  |some s=>
   cases g:cOs ⟨A,σ⟩ G with
   |none=>simp only[d,g]at b;exact absurd b.symm l
   |some U=>
    simp only[d,g]at b;obtain⟨b,H⟩:=WA b l;refine⟨_,b,λv h' a=>?_,?_⟩
    ·unfold Ja at a
     have a:(match opC ty ⟨A,σ⟩ o.op F e (Kk h)with|.ok v h'=>bif Hr (AE0 (s e)) h h'.low h'.high then DK h v h' else .no|.no=>.no)=.ok v h':=a;cases m:opC ty ⟨A,σ⟩ o.op F e (Kk h)with
     |no=>rw[m]at a;cases a
     |ok D O=>
      rw[m]at a;obtain⟨f,a⟩:=Bx a;obtain⟨rfl,M,N,Z,q4,q5⟩:=Q4 a;refine Jt B z m M N Z q4 q5 (λe=>by cases e) (λe=>by cases e) (λw x c a0 c1 c2 c3=>?_) (by rw[J];rintro (h|⟨_,h⟩)<;>cases h);cases c;refine⟨s e,GJ d e,?_⟩;unfold Hr at f;cases j:AE0 (s e)with
      |no=>rw[j]at f;have f:=Am.1 f;omega
      |ok i=>
       rw[j]at f;simp only at f;cases I:wY i O.low with
       |false=>rw[I]at f;cases f
       |true=>
        rw[I]at f;have c4:=Am.1 I;have c5:=Am.1 f
        congr 1;omega
    ·refine {wrx:=λw x c r n D u' i k u j=>?_,chk:=λ_ _ _ h=>(by cases h),old:=λ_ _ h=>(by cases h),known:=λw x c=>?_}
     ·cases c
      obtain⟨y,q,K⟩:=Jn g r n;rw[GJ d e]at k;cases k;rw[GJ q e]at u;cases u;exact H i j y K
     ·rcases c with c|⟨_,c⟩
      ·cases c
       exact⟨⟨_,GJ d e⟩,λr n=>by obtain⟨y,q,_⟩:=Jn g r n;exact⟨_,GJ q e⟩⟩
      ·cases c
 |chk old E G=>
  unfold Hu at b;simp only at b;cases d:cO ⟨A,σ⟩ E with
  |none=>simp only[d]at b;exact absurd b.symm l
  |some s=>
   cases g:cOs ⟨A,σ⟩ G with
   |none=>simp only[d,g]at b;exact absurd b.symm l
   |some U=>
    simp only[d,g]at b;have R:Ck s U (L (opC ty ⟨A,σ⟩ o.op)) F e h=X/\(old=IN->∀i,AE0 (s e)=.ok i->i<h.mark):=by
     cases old with
     |true=>obtain⟨M,N⟩:=gP b l;exact⟨M,λ_=>N⟩
     |false=>exact⟨b,λh=>by cases h⟩
    obtain⟨b,H⟩:=WA R.1 l;refine⟨_,b,λv h' a=>M4 B z (.inr ⟨_,_,_,rfl⟩) a,?_⟩;refine {wrx:=λ_ _ h=>(by cases h),chk:=λ_ w x c r n D u' i k u j=>?_,old:=λw x c D i k j=>?_,known:=λw x c=>?_}
    ·cases c
     obtain⟨y,q,K⟩:=Jn g r n;rw[GJ d e]at k;cases k;rw[GJ q e]at u;cases u;exact H i j y K
    ·cases c
     rw[GJ d e]at k;cases k;exact R.2 rfl i j
    ·rcases c with c|⟨_,c⟩
     ·cases c
     ·cases c
      exact⟨⟨_,GJ d e⟩,λr n=>by obtain⟨y,q,_⟩:=Jn g r n;exact⟨_,GJ q e⟩⟩
structure Tr (P:xU)(ty:TTy)(all:List zA)(ahs:List AE5)(l:List zA)(ρ:Nat->Rho)(H:Nat->Hp)(V:Nat->vz)(run:Nat->Bool)(T:Nat->Nat->Prop):Prop where
 sf:∀j o,l[j]? =BY o->SF P ty all o (ahs.getD j .plain) (ρ j) (ρ (j+1)) (H j) (H (j+1)) (V j) (run j) (T j)
def RE{a:Type}(x:a)(f:Nat->a):Nat->a
 |0=>x
 |j+1=>f j
theorem Tr.cons{all:List zA}{a:List AE5}{o:zA}{l:List zA}{ρ:Nat->Rho}{H:Nat->Hp}{c:Nat->vz}{f:Nat->Bool}{T:Nat->Nat->Prop}(t:Tr P ty all a.tail l ρ H c f T)
  {g:Rho}{h0:Hp}{v0:vz}{e:Bool}{T0:Nat->Prop}(s:SF P ty all o (a.headD .plain) g (ρ 0) h0 (H 0) v0 e T0):Tr P ty all a (o::l) (RE g ρ) (RE h0 H) (RE v0 c) (RE e f) (RE T0 T) where
 sf:=λb h d=>by
  cases b with
  |zero=>
   cases d;have:a.getD 0 .plain=a.headD .plain:=by cases a<;>rfl
   rw[this];exact s
  |succ b=>
   have:a.getD (b+1) .plain=a.tail.getD b .plain:=by cases a<;>rfl
   rw[this];exact t.sf b h d
theorem N0{A:List Nat}{σ:Sg}{e:Env}(b:AFs A σ){d:Nat}(c:memN d A=IS)(f:d<240)(v:vz){o:zA}(g:o.dst=BY d)(t:Nat)(u:vz)
  (h:AEt A (GM d σ) (Env.set d v e) t=BY u):if o.dst=BY t then u=v else AEt A σ e t=BY u:=by
 have:=kR b c f v h;rw[g];by_cases a:t=d
 ·rw[IT a]at this;rw[IT (by rw[a])];exact this
 ·rw[If a]at this;rw[If (λe=>a (Option.some.inj e).symm)];exact this
theorem QU(hT:DI P ty)(hF:Dg P ty F){A:List Nat}{all:List zA}{k:Sg->C}:∀(l:List zA) (ahs:List AE5) (σ:Sg) (e:Env) (h:Hp) (X:X),(∀j o,l[j]? =BY o->AG4 ty o (ahs.getD j .plain))->AFs A σ->
  HU ty A all k ahs l σ F e h=X->X≠.no->
  ∃(ρ:Nat->Rho) (H:Nat->Hp) (V:Nat->vz) (run:Nat->Bool) (T:Nat->Nat->Prop) (σ':Sg) (e':Env),Tr P ty all ahs l ρ H V run T/\ρ 0=AEt A σ e/\H 0=h/\ρ l.length=AEt A σ' e'/\AFs A σ'/\k σ' F e' (H l.length)=X
 |[],ahs,σ,e,h,X,_,hS,hr,_=>by
  refine⟨λ_=>AEt A σ e,λ_=>h,λ_=>AEU,λ_=>IN,λ_ _=>False,σ,e,⟨λj o hj=>by cases hj⟩,rfl,rfl,rfl,hS,?_⟩;unfold HU at hr;exact hr
 |o::l,ahs,σ,e,h,X,hA,hS,hr,hn=>by
  have hA0:AG4 ty o (ahs.headD .plain):=by
   have:=hA 0 o rfl;cases ahs<;>exact this
  have hA1:∀j o',l[j]? =BY o'->AG4 ty o' (ahs.tail.getD j .plain):=λj o' hj=>by
   have:=hA (j+1) o' hj;cases ahs<;>exact this
  have fin:∀{σ1:Sg} {e1:Env} {h1:Hp} {v:vz} {r:Bool} {T0:Nat->Prop},AFs A σ1->HU ty A all k ahs.tail l σ1 F e1 h1=X->
    SF P ty all o (ahs.headD .plain) (AEt A σ e) (AEt A σ1 e1) h h1 v r T0->
    ∃(ρ:Nat->Rho) (H:Nat->Hp) (V:Nat->vz) (run:Nat->Bool) (T:Nat->Nat->Prop) (σ':Sg) (e':Env),Tr P ty all ahs (o::l) ρ H V run T/\ρ 0=AEt A σ e/\H 0=h/\ρ (o::l).length=AEt A σ' e'/\AFs A σ'/\k σ' F e' (H (o::l).length)=X:=by
   intro σ1 e1 h1 v r T0 hS1 hr1 sf;obtain⟨ρ,H,V,run,T,σ',e',t,q1,q2,q3,q4,q5⟩:=QU hT hF l ahs.tail σ1 e1 h1 X hA1 hS1 hr1 hn;exact⟨_,_,_,_,_,σ',e',t.cons (by rw[q1,q2];exact sf),rfl,rfl,q3,q4,q5⟩
  unfold HU at hr;cases hg:o.guard with
  |none=>
   cases hd:o.dst with
   |none=>
    simp only[hg,hd]at hr;obtain⟨p,hp,AGD,AGP⟩:=Mm hT hF hA0 hr hn;unfold cDo at hp;cases hq:p F e h with
    |no=>rw[hq]at hp;exact absurd hp.symm hn
    |ok v h1=>
     rw[hq]at hp;obtain⟨T0,core⟩:=AGD v h1 hq;exact fin hS hp {slot:=λt u ht=>(by rw[hd,If (by intro h;cases h)];exact ht),grd:=(by rw[hg]),side:=λ_=>AGP,core:=.inl ⟨rfl,core⟩}
   |some d=>
    simp only[hg,hd]at hr;cases hm:memN d A with
    |true=>
     simp only[hm]at hr;cases hop:o.op with
     |move x=>
      simp only[hop]at hr;cases hs:Qe A σ x with
      |none=>simp only[hs]at hr;exact absurd hr.symm hn
      |some s=>
       simp only[hs]at hr;have hlt:∀n,s=.s n->n<240:=by
        intro n hn;subst hn;cases x with
        |tmp t=>
         have hs:(match Dl t σ with|some s=>BY s|none=>match memN t A with|true=>By|false=>match xQ t 240 with|true=>BY (Src.s t)|false=>By)=BY (.s n):=hs;cases hf:Dl t σ with
         |some s'=>
          rw[hf]at hs;cases hs;exact hS.lt _ (E8 hf) n rfl
         |none=>
          rw[hf]at hs;simp only at hs;cases hm2:memN t A with
          |true=>rw[hm2]at hs;cases hs
          |false=>
           rw[hm2]at hs;simp only at hs;cases hb:xQ t 240 with
           |false=>rw[hb]at hs;cases hs
           |true=>rw[hb]at hs;cases hs;exact BM.1 hb
        |const v=>
         have hs:(match F6 v with|true=>BY (Src.c v)|false=>By)=BY (.s n):=hs;cases hp:F6 v<;>rw[hp]at hs<;>cases hs
        |func g=>cases hs
        |global g=>cases hs
       have hkp:kd ty o.op=.p:=by rw[hop];rfl
       refine fin (hS.alias hm hlt) hr (v:=MH s e) (r:=IN) (T0:=λ_=>False) {slot:=λt u ht=>?_,grd:=(by rw[hg]),side:=λh=>absurd hkp h,core:=.inl ⟨rfl,?_⟩}
       ·have:=ZY hS hm s ht
        rw[hd];by_cases htd:t=d
        ·rw[IT htd]at this;rw[IT (by rw[htd])];exact this
        ·rw[If htd]at this;rw[If (λe=>htd (Option.some.inj e).symm)];exact this
       ·refine {AHJ:=λφ E w a H hn ht next Q hnx=>?_,AG3:=λ_=>⟨wB _,wB _,λ_ h=>h.elim,rfl⟩,tlt:=λ_ h=>h.elim,tp:=λ_=>⟨λ_ h=>h,rfl⟩,AEk:=λ_ _ h=>h,weak:=λ_ _ h=>h.elim,wr:=λ_ _ _ _ h=>h.elim}
        have hv:=hn x (by rw[hop];simp[wm]) _ (fA hs e);have hx:execOp a.eval o=(do pure (.value (<- (pure (a.eval x):Sem vz)))):=by unfold execOp;rw[hop];rfl
        unfold AC9;rw[hx,wM,wN,wH,wN,AA5];exact hnx φ _ w hv H (.refl _ _ _) (.refl _ _ _)
     |_=>simp only[hop]at hr;exact absurd hr.symm hn
    |false=>
     simp only[hm]at hr;cases hb:xQ d 240 with
     |false=>simp only[hb]at hr;exact absurd hr.symm hn
     |true=>
      simp only[hb]at hr;have hlt:=BM.1 hb;obtain⟨p,hp,AGD,AGP⟩:=Mm hT hF hA0 hr hn;unfold Tu at hp;cases hq:p F e h with
      |no=>rw[hq]at hp;exact absurd hp.symm hn
      |ok v h1=>
       rw[hq]at hp;simp only at hp;rw[EN d hlt]at hp;obtain⟨T0,core⟩:=AGD v h1 hq;exact fin (hS.sub E5.1) hp {slot:=N0 hS hm hlt v hd,grd:=(by rw[hg]),side:=λ_=>AGP,core:=.inl ⟨rfl,core⟩}
  |some gw=>
   obtain⟨g,want⟩:=gw;cases hd:o.dst with
   |none=>simp only[hg,hd]at hr;exact absurd hr.symm hn
   |some d=>
    simp only[hg,hd]at hr;cases hm:memN d A with
    |true=>simp only[hm]at hr;exact absurd hr.symm hn
    |false=>
     simp only[hm]at hr;rw[Gh]at hr;cases hog:all[g]? with
     |none=>rw[hog]at hr;exact absurd hr.symm hn
     |some og=>
      rw[hog]at hr;simp only at hr;cases hgd:og.dst with
      |none=>simp only[hgd]at hr;exact absurd hr.symm hn
      |some dg=>
       simp only[hgd]at hr;cases hcg:cO ⟨A,σ⟩ (.tmp dg)with
       |none=>simp only[hcg]at hr;exact absurd hr.symm hn
       |some gg=>
        simp only[hcg]at hr;cases hb:xQ d 240 with
        |false=>simp only[hb]at hr;exact absurd hr.symm hn
        |true=>
         simp only[hb]at hr;have hlt:=BM.1 hb;obtain⟨p,hp,AGD,AGP⟩:=Mm hT hF hA0 hr hn;have hρ:AEt A σ e dg=BY (gg e):=GJ hcg e;unfold cG at hp;have AGX:Ff d (λe=>HU ty A all k ahs.tail l (GM d σ) F e h) AEU e=X->(∀r:Bool,r=IS->(match o.guard with
            |none=>r=IN
            |some (g,want)=>∃og d c,all[g]? =BY og/\og.dst=BY d/\AEt A σ e d=BY c/\((∃b,c=.bool b/\r=(want == b))\/(∃l,c=.tuple l/\r=IS))))->
           ∃(ρ:Nat->Rho) (H:Nat->Hp) (V:Nat->vz) (run:Nat->Bool) (T:Nat->Nat->Prop) (σ':Sg) (e':Env),Tr P ty all ahs (o::l) ρ H V run T/\ρ 0=AEt A σ e/\H 0=h/\ρ (o::l).length=AEt A σ' e'/\AFs A σ'/\k σ' F e' (H (o::l).length)=X:=by
          intro hp AJ3;rw[EN d hlt]at hp;exact fin (hS.sub E5.1) hp (v:=AEU) (r:=IS) (T0:=λ_=>False) {slot:=N0 hS hm hlt AEU hd,grd:=AJ3 IS rfl,side:=λ_=>AGP,core:=.inr ⟨rfl,rfl,rfl,λ_ h=>h⟩}
         split at hp
         ·rename_i b hgb
          cases hwb:want == b with
          |true=>
           rw[hwb]at hp;simp only[cond_true]at hp;unfold Tu at hp;cases hq:p F e h with
           |no=>rw[hq]at hp;exact absurd hp.symm hn
           |ok v h1=>
            rw[hq]at hp;simp only at hp;rw[EN d hlt]at hp;obtain⟨T0,core⟩:=AGD v h1 hq;exact fin (hS.sub E5.1) hp (r:=IN) {slot:=N0 hS hm hlt v hd,grd:=(by rw[hg];exact⟨og,dg,_,hog,hgd,hρ,.inl ⟨b,hgb,hwb.symm⟩⟩),side:=λ_=>AGP,core:=.inl ⟨rfl,core⟩}
          |false=>
           rw[hwb]at hp;exact AGX hp λr hr=>by rw[hg];exact⟨og,dg,_,hog,hgd,hρ,.inl ⟨b,hgb,by rw[hr,hwb]⟩⟩
         ·rename_i ls hgb
          exact AGX hp λr hr=>by rw[hg];exact⟨og,dg,_,hog,hgd,hρ,.inr ⟨ls,hgb,hr⟩⟩
         ·exact absurd hp.symm hn
end
abbrev nil:Nat->Prop:=λ_=>False
structure AR (N:Nat)(φ:Phi)(ρ:Rho)(a:Act):Prop where
 size:a.tmps.size=N
 defs:a.defers=[]
 rel:∀t u,ρ t=BY u->AEX φ u (a.tmps.getD t undef)
theorem AR.ev{N:Nat}{φ:Phi}{ρ:Rho}{a:Act}(h:AR N φ ρ a){x:xE}{u:vz}(b:evR ρ x=BY u):AEX φ u (a.eval x):=by
 cases x with
 |tmp e=>exact h.rel e u b
 |const v=>
  have b:(if F6 v then BY v else By)=BY u:=b;split at b
  ·rename_i d;cases b;exact Ns d
  ·cases b
 |func c=>cases b;exact .func _ .nil .nil
 |global c=>cases b
theorem IW(a:Act)(d:Option Nat)(v:vz)(t:Nat):(a.put d v).tmps.getD t undef=if d=BY t/\t<a.tmps.size then v else a.tmps.getD t undef:=by
 cases d with
 |none=>rw[If (λb=>by cases b.1)];rfl
 |some d=>
  show(a.tmps.setIfInBounds d v).getD t undef=_;rw[xY,yQ,xY];by_cases b:d=t
  ·subst b
   rw[IT rfl];by_cases c:d<a.tmps.size
   ·rw[IT c,IT ⟨rfl,c⟩];rfl
   ·rw[If c,If (λb=>c b.2),Array.getElem?_eq_none (by omega)]
  ·rw[If b,If (λc=>b (Option.some.inj c.1))]
theorem F8(a:Act)(d:Option Nat)(v:vz):(a.put d v).tmps.size=a.tmps.size:=by
 cases d with
 |none=>rfl
 |some d=>show(a.tmps.setIfInBounds d v).size=_;simp
theorem G3(a:Act)(d:Option Nat)(v:vz):(a.put d v).defers=a.defers:=by cases d<;>rfl
theorem AR.put{N:Nat}{φ ψ:Phi}{ρ ρ':Rho}{a:Act}(h:AR N φ ρ a)(e:φ.Le ψ){d:Option Nat}(c:∀t,d=BY t->t<N){v v':vz}(i:AEX ψ v v')
  (f:∀t u,ρ' t=BY u->if d=BY t then u=v else ρ t=BY u):AR N ψ ρ' (a.put d v') where
 size:=by rw[F8];exact h.size
 defs:=by rw[G3];exact h.defs
 rel:=λt u g=>by
  have:=f t u g;rw[IW];by_cases b:d=BY t
  ·rw[IT b]at this
   rw[IT ⟨b,by rw[h.size];exact c t b⟩,this];exact i
  ·rw[If b]at this
   rw[If (λh=>b h.1)];exact(h.rel t u this).mono e
theorem PS{P:xU}{ty:TTy}{all:List zA}{o:zA}{w:AE5}{ρ ρ':Rho}{h h':Hp}{v:vz}{t:Bool}{T:Nat->Prop}(s:SF P ty all o w ρ ρ' h h' v t T){a:Act}{φ:Phi}
  (B:∀g k j d u,o.guard=BY (g,k)->all[g]? =BY j->j.dst=BY d->ρ d=BY u->AEX φ u (a.tmps.getD d undef)):ABA o (yielded all.toArray a.tmps)=t:=by
 have i:=s.grd;unfold ABA;cases l:o.guard with
 |none=>rw[l]at i;exact i.symm
 |some y=>
  obtain⟨g,k⟩:=y;rw[l]at i;obtain⟨j,d,x,p,q,z,A⟩:=i;have b:=B g k j d x l p q z;simp only;have r:yielded all.toArray a.tmps g=match a.tmps[d]? with|some (.bool f)=>BY f|_=>By:=by
   unfold yielded;have:(all.toArray[g]?).bind (·.dst)=BY d:=by rw[xC,p];exact q
   rw[this];rfl
  rw[xY]at b;rcases A with ⟨f,rfl,m⟩|⟨C,rfl,m⟩
  ·have c:=b.AFP
   cases e:a.tmps[d]? with
   |none=>rw[e]at c;cases c
   |some n=>
    rw[e]at c;have c:n=.bool f:=c;rw[r,e,c,m];cases f<;>cases k<;>rfl
  ·rw[m,r]
   cases e:a.tmps[d]? with
   |none=>rfl
   |some n=>
    rw[e]at b;have b:AEX φ (.tuple C) n:=b;cases b;rfl
structure Txt (P:xU)(ty:TTy)(N:Nat)(φ0:Phi)(ρ:Nat->Rho)(H:Nat->Hp)(V:Nat->vz)(T:Nat->Nat->Prop)(n:Nat):Prop where
 next:∀j,j<n->(H j).next<=(H (j+1)).next
 shape:∀j,j<n->∀i,i<(H j).next->AEo ((H j).bl.get i) ((H (j+1)).bl.get i)
 kept:∀j,j<n->∀i,i<(H j).next->¬T j i->(H (j+1)).bl.get i=(H j).bl.get i
 fresh:∀j,j<=n->∀i,(H j).next<=i->(H j).bl.get i=.dead
 AHr:∀j,j<=n->∃(ψ:Phi) (w:xG) (a:Act),AEZ ty ψ nil (H j) w/\AR N ψ (ρ j) a/\φ0.Le ψ/\∀i,(H 0).next<=i->i<(H j).next->∃p,ψ i=BY p
section
variable {P:xU}{ty:TTy}
theorem Qk{N:Nat}{all:List zA}{Q:Exit->Act->xG->Prop}:∀(l:List zA) {j:List AE5} {ρ:Nat->Rho} {H:Nat->Hp} {i:Nat->vz} {u:Nat->Bool} {T:Nat->Nat->Prop} {a:Act} {w:xG} {φ:Phi},
  Tr P ty all j l ρ H i u T->(∀o∈l,∀d,o.dst=BY d->d<N)->AEZ ty φ nil (H 0) w->AR N φ (ρ 0) a->
  (Txt P ty N φ ρ H i T l.length->∀ψ a' w',AEZ ty ψ nil (H l.length) w'->AR N ψ (ρ l.length) a'->Evo φ (H 0) w ψ (H l.length) w'->Q .normal a' w')->wpList P all.toArray Q l a w
 |[],j,ρ,H,i,u,T,a,w,φ,_,_,f,g,A=>by
  refine A ?_ φ a w f g (.refl _ _ _);refine {next:=λb c=>absurd c (zP _),shape:=λb c=>absurd c (zP _),kept:=λb c=>absurd c (zP _),fresh:=λb c e s=>?_,AHr:=λb c=>?_}
  ·have:b=0:=AAt.1 c
   subst this;exact f.fresh e s
  ·have:b=0:=AAt.1 c
   subst this;exact⟨φ,w,a,f,g,.refl _,λe k m=>absurd m (AAg.2 k)⟩
 |o::l,j,ρ,H,i,u,T,a,w,φ,tr,D,f,g,A=>by
  have C:=tr.sf 0 o rfl;have a0:Tr P ty all j.tail l (λb=>ρ (b+1)) (λb=>H (b+1)) (λb=>i (b+1)) (λb=>u (b+1)) (λb=>T (b+1)):=
   ⟨λb U c=>by
    have:=tr.sf (b+1) U c;have y:j.getD (b+1) .plain=j.tail.getD b .plain:=by cases j<;>rfl
    rw[y]at this;exact this⟩
  have M:∀d,o.dst=BY d->d<N:=D o wJ;have rest:∀ψ r w',AEX ψ (i 0) r->AEZ ty ψ nil (H 1) w'->Eff (T 0) φ (H 0) w ψ (H 1) w'->Evo φ (H 0) w ψ (H 1) w'->wpList P all.toArray Q l (a.put o.dst r) w':=by
   intro ψ r w' p x eff evo;refine Qk l a0 (λo R=>D o (wI _ R)) x (g.put eff.le M p C.slot) λq ψ2 I w2 V W X=>A ?_ ψ2 I w2 V W (evo.trans X)
   refine {next:=λb c=>?_,shape:=λb c=>?_,kept:=λb c=>?_,fresh:=λb c e s=>?_,AHr:=λb c=>?_}
   ·cases b with
    |zero=>exact eff.next
    |succ b=>exact q.next b (by simpa using c)
   ·cases b with
    |zero=>exact eff.shape
    |succ b=>exact q.shape b (by simpa using c)
   ·cases b with
    |zero=>exact eff.kept
    |succ b=>exact q.kept b (by simpa using c)
   ·cases b with
    |zero=>exact f.fresh e s
    |succ b=>exact q.fresh b (by simpa using c) e s
   ·cases b with
    |zero=>exact⟨φ,w,a,f,g,.refl _,λe k m=>absurd m (AAg.2 k)⟩
    |succ b=>
     obtain⟨a1,w3,J,Y,Z,F,r4⟩:=q.AHr b (by simpa using c);refine⟨a1,w3,J,Y,Z,eff.le.trans F,λe k m=>?_⟩;rcases wh e (H 1).next with h|h
     ·obtain⟨t,S⟩:=eff.all e k h
      exact⟨t,F e t S⟩
     ·exact r4 e h m
  have E:=PS C (a:=a) (φ:=φ) λa4 a5 og d G _ _ _ n=>g.rel d G n
  unfold wpList;rcases C.core with ⟨B,core⟩|⟨B,p,z,hT⟩
  ·rw[E,B,IT rfl]
   refine .inl (core.AHJ φ nil w a f (λa6 _ G n=>g.ev n) ?_ _ _ λψ r w' p x eff evo=>rest ψ r w' p x eff evo);unfold TouchR;split<;>first|trivial|exact λ_ h=>h|exact λ_ _ _ _ h=>h
  ·rw[E,B,If (by simp)]
   have n:AEX φ (i 0) undef:=by rw[p];exact .tuple .nil
   have K:Evo φ (H 0) w φ (H 1) w:=by
    show Evo φ (H 0) w φ (H (0+1)) w;rw[z];exact .refl _ _ _
   have L:Eff (T 0) φ (H 0) w φ (H 1) w:=by
    show Eff (T 0) φ (H 0) w φ (H (0+1)) w;rw[z];exact {Eff.refl φ (H 0) w with frame:=λ_ _ _=>rfl,back:=λe t y O _=>⟨e,t,y,O,rfl,rfl,.inl rfl⟩,kept:=λ_ _ _=>rfl}
   exact rest φ undef w n (by show AEZ ty φ nil (H (0+1)) w;rw[z];exact f) L K
end
end
end Go.Proofs.YtldjiljipddebaaGreat

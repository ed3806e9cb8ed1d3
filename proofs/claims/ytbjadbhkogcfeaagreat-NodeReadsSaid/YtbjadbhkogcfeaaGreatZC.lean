/-
  Part ZC of what Lawnr stands on: printed by program, names and spaces cut.
-/
import Derived.Test.YtbjadbhkogcfeaaGreatZB
import GoSem.Dispatch
import Derived.WideShapes
import Derived.Sort.Walk0
open Go renaming Value→IN,IntKind→xy,Operand→yN,World→yQ,TypeId→ya,Program→yw,newRow→AA9,Addr→ABb,BinOp→ADW
open Nat renaming le_refl→IT,succ→xW,ble→xd,beq→xr,lt_or_ge→yG,zero_le→yK,le_trans→yP,eq_zero_or_pos→yd,mul→yl,blt→yu,add→zH,add_zero→zJ,beq_refl→zU,zero_mul→AAD,mod_eq_of_lt→AAc,succ_mul→AAk,le_of_eq→AA5,add_mul→AA6,min_le_left→ABG,mul_le_mul_right→ABX,not_lt→ABp,mul_le_mul→AB7,le_mul_of_pos_right→ACK,succ_ne_zero→AC9,sub_zero→ADi
open List renaming length_append→No,getElem?_eq_getElem→sh,getD_eq_getElem?_getD→xV,length_cons→xY,append_nil→xx,getElem?_append_left→yH,getElem?_append_right→yJ,getElem?_toArray→yO,getElem?_cons_zero→yW,getElem?_cons_succ→yj,getElem?_map→yx,getElem?_eq_none→zX,length_eq_zero_iff→zi
open Go.Result renaming andThen_ok→xU,ok→ADg
open Go.Sem renaming run_bind→xh,run_pure→xk,run_ite→ABL
open Bool renaming and_eq_true→yA,false_eq_true→yT,eq_iff_iff→zS,rec→AAI,not_eq_true'→AAz,or_eq_false_iff→ACe
open Go.Builtin renaming firstCells→yf,nextslicecap→zn,append_→zz,growBy→AAb,copy_→AAn,zeroCells→ABM,lenOf→ABy
open Int renaming toNat_natCast→yy,ofNat_eq_natCast→za,rec→AAd,natCast_mul→ADL
open Array renaming ext'→zF,range→ABF
open Option renaming map_some→zG,isSome_iff_exists→ABt,map_none→ACr
open Go.IntKind renaming i64→zk
open Go.Instr renaming sliceBounds→zl,sliceAt→zm,indexAt→AAT,loadAt→AAe,build→AAp,buildSlice→AAr,makeSlice→AA0,makeInterface→ABD,extract→ABa,fill→AB4,fieldAt→ACB,arrayAt→ACC,index→ACb,sliceBound→ACy,storeAt→ADM,slice→ADZ,alloc→ADa
open Std renaming lt_irrefl→ABV,lt_trichotomy→AC1,lt_trans→ADf
open UInt8 renaming lt_iff_toNat_lt→ACI,toNat_inj→ACz
open Go.Value renaming bool→ADd
open Go.Op renaming bytesLess→ADt,intArith→ADz
open Go.ByteArray renaming toList_eq→AD8
set_option linter.unusedVariables false
set_option linter.unusedSimpArgs false
namespace Go.Proofs.YtbjadbhkogcfeaaGreat
noncomputable section
open Go
section
variable {P:yw}{ty:TTy}{φ:Phi}{E:Nat->Prop}{h h':Hp}{w:yQ}{F:AEA}{e:Env}{v:IN}
theorem Mm{b:Bool}(hr:okB b h=.ok v h'):v=.bool b/\h'=h:=by cases b<;>cases hr<;>exact⟨rfl,rfl⟩
theorem El(k:xy)(n:Int)(h:Hp):okI k n h=.ok (.int k n) h:=by
 cases n with
 |ofNat m=>cases m<;>rfl
 |negSucc m=>show AEU m (fun m=>R.ok (.int k (.negSucc m)) h)=_;rw[Ap]
theorem FY{k:xy}{n:Int}(hr:okI k n h=.ok v h'):v=.int k n/\h'=h:=by
 rw[El]at hr;cases hr;exact⟨rfl,rfl⟩
theorem qv(a b:Nat):iLt (.ofNat a) (.ofNat b)=yu a b:=rfl
theorem qu(a b:Nat):iLt (.ofNat a) (.negSucc b)=false:=rfl
theorem qt(a b:Nat):iLt (.negSucc a) (.ofNat b)=true:=rfl
theorem qr(a b:Nat):iLt (.negSucc a) (.negSucc b)=yu b a:=rfl
theorem qq(a b:Nat):iEq (.ofNat a) (.ofNat b)=xr a b:=rfl
theorem qp(a b:Nat):iEq (.ofNat a) (.negSucc b)=false:=rfl
theorem qo(a b:Nat):iEq (.negSucc a) (.ofNat b)=false:=rfl
theorem qn(a b:Nat):iEq (.negSucc a) (.negSucc b)=xr a b:=rfl
theorem DC(a b:Int):iLt a b=decide (a<b):=by
 cases a<;>cases b<;>simp only[qv,qu,qt,qr]
 ·rename_i a b
  rw[zS,Bb,decide_eq_true_iff];exact Int.ofNat_lt.symm
 ·simp only[za];symm;rw[decide_eq_false_iff_not];omega
 ·simp only[za];symm;rw[decide_eq_true_iff];omega
 ·rename_i a b
  rw[zS,Bb,decide_eq_true_iff];omega
theorem DY(a b:Int):iEq a b=(a == b):=by
 cases a<;>cases b<;>simp only[qq,qp,qo,qn]
 ·rename_i a b
  rw[zS,Az,beq_iff_eq];simp only[za];omega
 ·simp only[za];symm;rw[beq_eq_false_iff_ne];omega
 ·simp only[za];symm;rw[beq_eq_false_iff_ne];omega
 ·rename_i a b
  rw[zS,Az,beq_iff_eq];omega
theorem cB(k:xy):((BE k:Nat):Int)<2 ^ k.bits/\(k.signed=true->((BE k:Nat):Int)<2 ^ (k.bits - 1)):=by
 cases k<;>decide
theorem Dl(k:xy)(m:Nat)(h:m<=BE k):k.wrap (m:Int)=m:=by
 have h1:=cB k;unfold IntKind.wrap;have e:((m:Int)) % (2 ^ k.bits:Int)=m:=Int.emod_eq_of_lt (by omega) (by omega);rw[e];simp only;rw[if_neg];intro hh;simp only[yA,decide_eq_true_eq]at hh;have:=h1.2 hh.1;omega
theorem DK(k:xy)(n:Int):Ec k n=k.wrap n:=by
 cases n with
 |ofNat m=>
  show AAI (motive:=fun _=>Int) (k.wrap (.ofNat m)) (.ofNat m) (xd m (BE k))=_;cases hb:xd m (BE k)with
  |false=>rfl
  |true=>exact(Dl k m (Au.1 hb)).symm
 |negSucc m=>rfl
theorem Hm{a b:xy}(h:Dh a b=true):b=a:=by
 have:=Az.1 h;cases a<;>cases b<;>first|rfl|(exact absurd this (by decide))
theorem Fw{k:xy}{x:IN}{n:Int}(h:Ct k x=.ok n):x=.int k n:=by
 cases x<;>first|(cases h;done)|skip
 rename_i q m;have h:AAI (motive:=fun _=>NI) .no (.ok m) (Dh k q)=.ok n:=h;cases hs:Dh k q with
 |false=>rw[hs]at h;cases h
 |true=>rw[hs]at h;cases h;rw[Hm hs]
theorem iH{k:xy}{x:IN}{n:Nat}(h:GR k x=.ok n):x=.int k n:=by
 cases x<;>first|(cases h;done)|skip
 rename_i q m;have h:AAI (motive:=fun _=>NN) .no (AAd (motive:=fun _=>NN) (fun m=>.ok m) (fun _=>.no) m) (Dh k q)=.ok n:=h;cases hs:Dh k q with
 |false=>rw[hs]at h;cases h
 |true=>
  rw[hs]at h;cases m with
  |ofNat m=>cases h;rw[Hm hs];rfl
  |negSucc m=>cases h
theorem Ux{x:IN}{n:Int}(h:XV x=.ok n):∃ k,x=.int k n:=by
 cases x<;>first|(cases h;done)|(cases h;exact⟨_,rfl⟩)
theorem iI{x:IN}{n:Nat}(h:DZ x=.ok n):∃ k,x=.int k n:=by
 cases x<;>first|(cases h;done)|skip
 rename_i q m;cases m with
 |ofNat m=>cases h;exact⟨_,rfl⟩
 |negSucc m=>cases h
theorem Hs{x:IN}{a:ABb}(h:Dt x=.ok a):x=.pointer (some a):=by
 cases x<;>first|(cases h;done)|skip
 rename_i o;cases o with
 |none=>cases h
 |some a=>cases h;rfl
theorem AEE.AEm{k:xy}{n:Int}{x:IN}(h:AEE φ (.int k n) x):x=.int k n:=by cases h;rfl
theorem AEE.AE3{b:Bool}{x:IN}(h:AEE φ (.bool b) x):x=.bool b:=by cases h;rfl
theorem AEE.AEq{s:ByteArray}{x:IN}(h:AEE φ (.string s) x):x=.string s:=by cases h;rfl
theorem AEE.AFC{a:ABb}{x:IN}(h:AEE φ (.pointer (some a)) x):∃ a',x=.pointer (some a')/\AFT φ a a':=by
 cases h with|ptr h=>exact⟨_,rfl,h⟩
def CE(op:ADW)(t:ya)(X Y:yN)(a b:IN):Sem IN:=do eqGuard op t X Y a b;binOp op t a b
theorem FM(op:ADW)(t:ya)(X Y:yN)(j k:xy)(m n:Int):(eqGuard op t X Y (.int j m) (.int k n)).run P w=.ok () w:=by cases op<;>rfl
theorem XT(op:ADW)(t:ya)(X Y:yN)(m n:ByteArray):(eqGuard op t X Y (.string m) (.string n)).run P w=.ok () w:=by cases op<;>rfl
theorem Qv(H:AEI ty φ E h w){x:O}{x':IN}(hx:AEE φ (x e) x')(hr:AQ x F e h=.ok v h'):Bp ty φ E h w v h' (.ok x' w):=by
 unfold AQ at hr;rw[E4]at hr;cases hr;exact .same H hx
theorem aQ(H:AEI ty φ E h w){c a b:O}{c' a' b':IN}(hc:AEE φ (c e) c')(ha:AEE φ (a e) a')(hb:AEE φ (b e) b')(hr:A1 c a b F e h=.ok v h'):
  Bp ty φ E h w v h' ((do pure (if <- asBool c' then a' else b'):Sem IN).run P w):=by
 unfold A1 at hr;cases hce:c e with
 |bool t=>
  rw[hce]at hr hc;obtain rfl:=hc.AE3;cases t with
  |false=>
   have hr:AFS (b e) h=.ok v h':=hr;rw[E4]at hr;cases hr;exact .same H hb
  |true=>
   have hr:AFS (a e) h=.ok v h':=hr;rw[E4]at hr;cases hr;exact .same H ha
 |_=>rw[hce]at hr;cases hr
theorem pf(H:AEI ty φ E h w){f:Int->Int->Bool}{k:xy}{x y:O}{x' y':IN}(hx:AEE φ (x e) x')(hy:AEE φ (y e) y')(hr:Ai f k x y F e h=.ok v h'):
  ∃ m n,x'=.int k m/\y'=.int k n/\v=.bool (f m n)/\h'=h:=by
 unfold Ai eZ at hr;cases h1:Ct k (x e)with
 |no=>rw[h1]at hr;cases hr
 |ok m=>
  cases h2:Ct k (y e)with
  |no=>rw[h1,h2]at hr;cases hr
  |ok n=>
   rw[h1,h2]at hr;rw[Fw h1]at hx;rw[Fw h2]at hy;obtain⟨r1,r2⟩:=Mm hr;exact⟨m,n,hx.AEm,hy.AEm,r1,r2⟩
theorem IB(H:AEI ty φ E h w){f:Int->Int->Bool}{op:ADW}(hop:(f=iEq/\op=.eql)\/(f=iNe/\op=.neq)\/(f=iLt/\op=.lss)\/(f=iLe/\op=.leq)\/(f=iGt/\op=.gtr)\/(f=iGe/\op=.geq))
  {k:xy}{x y:O}{x' y':IN}{t:ya}{X Y:yN}(hx:AEE φ (x e) x')(hy:AEE φ (y e) y')(hr:Ai f k x y F e h=.ok v h'):Bp ty φ E h w v h' ((CE op t X Y x' y').run P w):=by
 obtain⟨m,n,rfl,rfl,rfl,rfl⟩:=pf H hx hy hr;have key:(CE op t X Y (.int k m) (.int k n)).run P w=.ok (.bool (f m n)) w:=by
  unfold CE;rw[xh,FM,xU];rcases hop with ⟨rfl,rfl⟩|⟨rfl,rfl⟩|⟨rfl,rfl⟩|⟨rfl,rfl⟩|⟨rfl,rfl⟩|⟨rfl,rfl⟩<;>
   simp only[binOp,ne_eq,not_true_eq_false,if_false,Op.intCmp,xk,ADg.injEq,ADd.injEq,and_true,iNe,iLe,iGt,iGe,DC,DY]
  ·rfl
  ·rw[zS];simp only[decide_eq_true_iff,AAz,decide_eq_false_iff_not];omega
  ·rw[zS];simp only[decide_eq_true_iff,AAz,decide_eq_false_iff_not];omega
 rw[key];exact .same H (.bool _)
theorem V4{k:xy}{x y:O}{x' y':IN}(hx:AEE φ (x e) x')(hy:AEE φ (y e) y'){g:Int->Int->R}{r:R}
  (hr:NI.rec (motive:=fun _=>R) .no (fun a=>NI.rec (motive:=fun _=>R) .no (fun b=>g a b) (Ct k (y e))) (Ct k (x e))=r)(hne:r≠.no):
  ∃ m n,x'=.int k m/\y'=.int k n/\g m n=r:=by
 cases h1:Ct k (x e)with
 |no=>rw[h1]at hr;exact absurd hr.symm hne
 |ok m=>
  cases h2:Ct k (y e)with
  |no=>rw[h1,h2]at hr;exact absurd hr.symm hne
  |ok n=>
   rw[h1,h2]at hr;rw[Fw h1]at hx;rw[Fw h2]at hy;exact⟨m,n,hx.AEm,hy.AEm,hr⟩
theorem VL(H:AEI ty φ E h w){f:Int->Int->Int}{op:ADW}(hop:(f=Int.sub/\op=.sub)\/(f=Int.mul/\op=.mul))
  {k:xy}{x y:O}{x' y':IN}{t:ya}{X Y:yN}(hx:AEE φ (x e) x')(hy:AEE φ (y e) y')(hr:C1 f k x y F e h=.ok v h'):Bp ty φ E h w v h' ((CE op t X Y x' y').run P w):=by
 obtain⟨m,n,rfl,rfl,hg⟩:=V4 hx hy hr (by intro h;cases h);obtain⟨rfl,rfl⟩:=FY hg;have key:(CE op t X Y (.int k m) (.int k n)).run P w=.ok (.int k (Ec k (f m n))) w:=by
  unfold CE;rw[xh,FM,xU,DK];rcases hop with ⟨rfl,rfl⟩|⟨rfl,rfl⟩<;>
   simp only[binOp,ne_eq,not_true_eq_false,if_false,ADz,xk]<;>rfl
 rw[key];exact .same H (.int _ _)
theorem AFB{k:xy}{a b:Int}(hr:AAd (motive:=fun _=>R) (fun x=>AAd (motive:=fun _=>R)
   (fun y=>AAI (motive:=fun _=>R) (okI k (k.wrap (a+b)) h) (AEU (zH x y) fun n=>.ok (.int k (.ofNat n)) h) (xd (zH x y) (BE k)))
   (fun _=>okI k (Ec k (a+b)) h) b)
   (fun _=>okI k (Ec k (a+b)) h) a=.ok v h'):v=.int k (k.wrap (a+b))/\h'=h:=by
 cases a with
 |negSucc a=>
  have:=FY hr;rw[DK]at this;exact this
 |ofNat a=>
  cases b with
  |negSucc b=>have:=FY hr;rw[DK]at this;exact this
  |ofNat b=>
   simp only at hr;cases hb:xd (zH a b) (BE k)with
   |false=>rw[hb]at hr;exact FY hr
   |true=>
    rw[hb]at hr;simp only[Ap]at hr;cases hr;refine⟨?_,rfl⟩;have:=Dl k (a+b) (Au.1 hb);simp only[za];rw[<- Int.natCast_add,this];rfl
theorem iO(H:AEI ty φ E h w){k:xy}{x y:O}{x' y':IN}{t:ya}{X Y:yN}(hx:AEE φ (x e) x')(hy:AEE φ (y e) y')(hr:CG k (BE k) x y F e h=.ok v h'):
  Bp ty φ E h w v h' ((CE .add t X Y x' y').run P w):=by
 obtain⟨m,n,rfl,rfl,hg⟩:=V4 hx hy hr (by intro h;cases h);obtain⟨rfl,rfl⟩:=AFB hg;have key:(CE .add t X Y (.int k m) (.int k n)).run P w=.ok (.int k (k.wrap (m+n))) w:=by
  unfold CE;rw[xh,FM,xU];simp only[binOp,ne_eq,not_true_eq_false,if_false,ADz,xk]
 rw[key];exact .same H (.int _ _)
theorem QP{n:Int}(hb:iEq n 0=false):n≠0:=by
 rw[DY]at hb;simpa using hb
theorem ia(H:AEI ty φ E h w){k:xy}{x y:O}{x' y':IN}{t:ya}{X Y:yN}(hx:AEE φ (x e) x')(hy:AEE φ (y e) y')(hr:LH k x y F e h=.ok v h'):
  Bp ty φ E h w v h' ((CE .quo t X Y x' y').run P w):=by
 unfold LH ZP at hr;split at hr
 case h_2=>cases hr
 rename_i m h1;split at hr
 case h_2=>cases hr
 rename_i n h2;rw[Fw h1]at hx;rw[Fw h2]at hy;obtain rfl:=hx.AEm;obtain rfl:=hy.AEm;cases hb:iEq n 0 with
 |true=>rw[hb]at hr;cases hr
 |false=>
  rw[hb]at hr;obtain⟨rfl,rfl⟩:=FY hr;have key:(CE .quo t X Y (.int k m) (.int k n)).run P w=.ok (.int k (Ec k (m.tdiv n))) w:=by
   unfold CE;rw[xh,FM,xU,DK];simp only[binOp,ne_eq,not_true_eq_false,if_false,Op.intDiv,QP hb,xk]
  rw[key];exact .same H (.int _ _)
theorem iu(H:AEI ty φ E h w){k:xy}{x y:O}{x' y':IN}{t:ya}{X Y:yN}(hx:AEE φ (x e) x')(hy:AEE φ (y e) y')(hr:Qx k x y F e h=.ok v h'):
  Bp ty φ E h w v h' ((CE .rem t X Y x' y').run P w):=by
 unfold Qx bK at hr;split at hr
 case h_2=>cases hr
 rename_i m h1;split at hr
 case h_2=>cases hr
 rename_i n h2;rw[Fw h1]at hx;rw[Fw h2]at hy;obtain rfl:=hx.AEm;obtain rfl:=hy.AEm;cases hb:iEq n 0 with
 |true=>rw[hb]at hr;cases hr
 |false=>
  rw[hb]at hr;obtain⟨rfl,rfl⟩:=FY hr;have key:(CE .rem t X Y (.int k m) (.int k n)).run P w=.ok (.int k (m.tmod n)) w:=by
   unfold CE;rw[xh,FM,xU];simp only[binOp,ne_eq,not_true_eq_false,if_false,Op.intDiv,QP hb,xk]
  rw[key];exact .same H (.int _ _)
theorem iq(H:AEI ty φ E h w){x:O}{x':IN}(hx:AEE φ (x e) x')(hr:Dv x F e h=.ok v h'):Bp ty φ E h w v h' ((Op.unary .not x').run P w):=by
 unfold Dv at hr;split at hr
 ·rename_i b hb
  rw[hb]at hx;obtain rfl:=hx.AE3;obtain⟨rfl,rfl⟩:=Mm hr;exact .same H (.bool _)
 ·cases hr
theorem aE(H:AEI ty φ E h w){k:xy}{x:O}{x':IN}(hx:AEE φ (x e) x')(hr:C7 k x F e h=.ok v h'):
  ∃ q n,x'=.int q n/\Bp ty φ E h w v h' ((Conv.intToInt k n).run P w):=by
 unfold C7 at hr;split at hr
 ·rename_i n hn
  obtain⟨q,hq⟩:=Ux hn;rw[hq]at hx;obtain rfl:=hx.AEm;obtain⟨rfl,rfl⟩:=FY hr;rw[DK];exact⟨q,n,rfl,.same H (.int _ _)⟩
 ·cases hr
end
end
noncomputable section
open Go
section
variable {P:yw}{ty:TTy}{φ:Phi}{E:Nat->Prop}{h h':Hp}{w:yQ}{F:AEA}{e:Env}{v:IN}
def Jq:xy->Nat
 |.i8=>7|.i16=>15|.i32=>31|.i64=>63|.u8=>8|.u16=>16|.u32=>32|.u64=>64
theorem Rh(k:xy):BE k+1=2 ^ Jq k:=by cases k<;>rfl
theorem TQ(k:xy):Jq k<=k.bits:=by cases k<;>decide
theorem N7{k:xy}{a:Nat}(ha:a<=BE k):(BitVec.ofInt k.bits (a:Int)).toNat=a:=by
 have h1:=Rh k;have h2:2 ^ Jq k<=2 ^ k.bits:=Nat.pow_le_pow_right (by omega) (TQ k);rw[BitVec.ofInt_natCast,BitVec.toNat_ofNat,AAc (by omega)]
theorem E5{x:O}{x':IN}(hx:AEE φ (x e) x'){n:Nat}(h:DZ (x e)=.ok n):∃ k,x'=.int k n:=by
 obtain⟨k,hk⟩:=iI h;rw[hk]at hx;exact⟨k,hx.AEm⟩
theorem JV{k:xy}{x:O}{x':IN}(hx:AEE φ (x e) x'){n:Nat}(h:GR k (x e)=.ok n):x'=.int k n:=by
 rw[iH h]at hx;exact hx.AEm
theorem O7(H:AEI ty φ E h w){f:Nat->Nat->Nat}{op:ADW}(hop:(f=Nat.land/\op=.and)\/(f=Nat.lor/\op=.or)\/(f=Nat.xor/\op=.xor))
  {k:xy}{x y:O}{x' y':IN}{t:ya}{X Y:yN}(hx:AEE φ (x e) x')(hy:AEE φ (y e) y')(hr:KZ f k x y F e h=.ok v h'):Bp ty φ E h w v h' ((CE op t X Y x' y').run P w):=by
 unfold KZ Yf at hr;split at hr
 case h_2=>cases hr
 rename_i a h1;split at hr
 case h_2=>cases hr
 rename_i b h2;obtain⟨ha,hr⟩:=Bx hr;obtain⟨hb,hr⟩:=Bx hr;obtain rfl:=JV hx h1;obtain rfl:=JV hy h2;obtain⟨rfl,rfl⟩:=FY hr;have ha:=Au.1 ha;have hb:=Au.1 hb;have ea:=N7 ha;have eb:=N7 hb;have ht:=Rh k;have key:(CE op t X Y (.int k a) (.int k b)).run P w=.ok (.int k (.ofNat (f a b))) w:=by
  unfold CE;rw[xh,FM,xU];rcases hop with ⟨rfl,rfl⟩|⟨rfl,rfl⟩|⟨rfl,rfl⟩<;>
   simp only[binOp,ne_eq,not_true_eq_false,if_false,Op.intBits,xk,BitVec.toNat_and,BitVec.toNat_or,BitVec.toNat_xor,ea,eb]
  ·have:a &&& b<=BE k:=yP Nat.and_le_left ha
   rw[Dl k _ this];rfl
  ·have:a ||| b<2 ^ Jq k:=Nat.or_lt_two_pow (by omega) (by omega)
   rw[Dl k _ (by omega)];rfl
  ·have:a ^^^ b<2 ^ Jq k:=Nat.xor_lt_two_pow (by omega) (by omega)
   rw[Dl k _ (by omega)];rfl
 rw[key];exact .same H (.int _ _)
theorem QN(op:ADW)(hop:op=.shl\/op=.shr)(t:ya)(X Y:yN)(a b:IN):(eqGuard op t X Y a b).run P w=.ok () w:=by
 rcases hop with rfl|rfl<;>rfl
theorem iz(H:AEI ty φ E h w){k:xy}{x y:O}{x' y':IN}{t:ya}{X Y:yN}(hx:AEE φ (x e) x')(hy:AEE φ (y e) y')(hr:NM k x y F e h=.ok v h'):
  Bp ty φ E h w v h' ((CE .shl t X Y x' y').run P w):=by
 unfold NM bX at hr;split at hr
 case h_2=>cases hr
 rename_i a h1;split at hr
 case h_2=>cases hr
 rename_i b h2;obtain rfl:=JV hx h1;obtain⟨q,rfl⟩:=E5 hy h2;obtain⟨rfl,rfl⟩:=FY hr;have key:(CE .shl t X Y (.int k a) (.int q b)).run P w=.ok (.int k (k.wrap (.ofNat (a*2 ^ (min b k.bits))))) w:=by
  unfold CE;rw[xh,QN _ (.inl rfl),xU];have:¬ ((b:Int)<0):=by omega
  simp only[binOp,Op.shift,this,if_false,xk,yy];simp
 rw[key,DK,BW];exact .same H (.int _ _)
theorem i7(H:AEI ty φ E h w){k:xy}{x y:O}{x' y':IN}{t:ya}{X Y:yN}(hx:AEE φ (x e) x')(hy:AEE φ (y e) y')(hr:LJ k x y F e h=.ok v h'):
  Bp ty φ E h w v h' ((CE .shr t X Y x' y').run P w):=by
 unfold LJ bY at hr;split at hr
 case h_2=>cases hr
 rename_i a h1;split at hr
 case h_2=>cases hr
 rename_i b h2;obtain rfl:=JV hx h1;obtain⟨q,rfl⟩:=E5 hy h2;obtain⟨rfl,rfl⟩:=FY hr;have key:(CE .shr t X Y (.int k a) (.int q b)).run P w=.ok (.int k (.ofNat (a/2 ^ (min b k.bits)))) w:=by
  unfold CE;rw[xh,QN _ (.inr rfl),xU];have:¬ ((b:Int)<0):=by omega
  simp only[binOp,Op.shift,this,if_false,xk,yy]
  congr 2
  have e2:((2:Int) ^ min b k.bits)=((2 ^ min b k.bits:Nat):Int):=by simp
  rw[e2,Int.fdiv_eq_ediv_of_nonneg _ (Int.natCast_nonneg _)];rfl
 rw[key,BW];exact .same H (.int _ _)
theorem Lp:∀ x y:List UInt8,bEq x y=(x == y)
 |[],[]=>rfl
 |[],_::_=>rfl
 |_::_,[]=>rfl
 |a::x,b::y=>by
  have ih:=Lp x y;unfold bEq;rw[ih,List.cons_beq_cons];cases hab:xr a.toNat b.toNat with
  |true=>
   have:a=b:=ACz.1 (Az.1 hab);simp[this]
  |false=>
   have:a≠b:=fun h=>by rw[h]at hab;rw[zU]at hab;cases hab
   simp[this]
theorem Yb:∀ x y:List UInt8,bLt x y=ADt x y
 |[],[]=>rfl
 |[],_::_=>rfl
 |_::_,[]=>rfl
 |a::x,b::y=>by
  have ih:=Yb x y;unfold bLt ADt;rw[ih];cases hlt:yu a.toNat b.toNat with
  |true=>
   have:a<b:=ACI.2 (Bb.1 hlt);simp[this]
  |false=>
   have:¬ a<b:=fun h=>by rw[Bb.2 (ACI.1 h)]at hlt;cases hlt
   cases hab:xr a.toNat b.toNat with
   |true=>
    have:a=b:=ACz.1 (Az.1 hab);simp[this]
   |false=>
    have h2:a≠b:=fun h=>by rw[h]at hab;rw[zU]at hab;cases hab
    simp[this,h2]
theorem xK{f:List UInt8->List UInt8->Bool}{x y:O}{x' y':IN}(hx:AEE φ (x e) x')(hy:AEE φ (y e) y')(hr:Jd f x y F e h=.ok v h'):
  ∃ a b,x'=.string a/\y'=.string b/\v=.bool (f a.data.toList b.data.toList)/\h'=h:=by
 unfold Jd bj at hr;split at hr
 case h_2=>cases hr
 rename_i a h1;split at hr
 case h_2=>cases hr
 rename_i b h2;rw[h1]at hx;rw[h2]at hy;obtain⟨r1,r2⟩:=Mm hr;exact⟨a,b,hx.AEq,hy.AEq,r1,r2⟩
theorem IC(H:AEI ty φ E h w){f:List UInt8->List UInt8->Bool}{op:ADW}
  (hop:(f=bEq/\op=.eql)\/(f=(fun a b=> !bEq a b)/\op=.neq)\/(f=bLt/\op=.lss)\/(f=(fun a b=>bLt b a)/\op=.gtr)\/(f=(fun a b=> !bLt b a)/\op=.leq)\/(f=(fun a b=> !bLt a b)/\op=.geq))
  {x y:O}{x' y':IN}{t:ya}{X Y:yN}(hx:AEE φ (x e) x')(hy:AEE φ (y e) y')(hr:Jd f x y F e h=.ok v h'):Bp ty φ E h w v h' ((CE op t X Y x' y').run P w):=by
 obtain⟨a,b,rfl,rfl,rfl,rfl⟩:=xK hx hy hr;have key:(CE op t X Y (.string a) (.string b)).run P w=.ok (.bool (f a.data.toList b.data.toList)) w:=by
  unfold CE;rw[xh,XT,xU];rcases hop with ⟨rfl,rfl⟩|⟨rfl,rfl⟩|⟨rfl,rfl⟩|⟨rfl,rfl⟩|⟨rfl,rfl⟩|⟨rfl,rfl⟩<;>
   simp only[binOp,Op.stringOp,xk,ADg.injEq,ADd.injEq,and_true,Lp,Yb,AD8]
  all_goals
   rw[bytesLess_eq,bytesLess_eq,zS];simp only[AAz,ACe,Bool.or_eq_true,decide_eq_true_iff,decide_eq_false_iff_not,beq_iff_eq,beq_eq_false_iff_ne]
  ·constructor
   ·rintro⟨h1,h2⟩
    rcases AC1 a.data.toList b.data.toList with h|h|h
    ·exact absurd h h1
    ·exact absurd h h2
    ·exact h
   ·intro h
    exact⟨fun h2=>absurd (ADf h h2) (ABV),fun h2=>by rw[h2]at h;exact ABV h⟩
  ·constructor
   ·rintro (h1|h1) h
    ·exact ABV (ADf h h1)
    ·rw[h1]at h;exact ABV h
   ·intro h1
    rcases AC1 a.data.toList b.data.toList with h|h|h
    ·exact .inl h
    ·exact .inr h
    ·exact absurd h h1
 rw[key];exact .same H (.bool _)
theorem L9{a:ByteArray}{l:List UInt8}(h:a.data.toList=l):a=⟨⟨l⟩⟩:=by
 cases a;rename_i d;cases d;simp at h;rw[h]
end
end
noncomputable section
open Go
section
variable {P:yw}{ty:TTy}{φ:Phi}{E:Nat->Prop}{h h':Hp}{w:yQ}{F:AEA}{e:Env}{v:IN}
theorem Fj{x:O}{x':IN}(hx:AEE φ (x e) x'){a:ABb}(h:Dt (x e)=.ok a):∃ a',x'=.pointer (some a')/\AFT φ a a':=by
 rw[Hs h]at hx;exact hx.AFC
theorem GY(a:ABb):(Instr.sureAddr (.pointer (some a))).run P w=.ok a w:=rfl
theorem Xp(H:AEI ty φ E h w){x:O}{x':IN}{t:ya}{ti:TI}(T:AEg P t ti)(AHi:ti.k.agg=false)(hx:AEE φ (x e) x')
  (hE:∀ a,x e=.pointer (some a)->¬ E a.block)(hr:AM x F e h=.ok v h'):Bp ty φ E h w v h' ((AAe t x').run P w):=by
 unfold AM at hr;cases ha:Dt (x e)with
 |no=>rw[ha]at hr;cases hr
 |ok a=>
  rw[ha]at hr;obtain⟨a',rfl,hra⟩:=Fj hx ha;obtain⟨rfl,v',hc,hv⟩:=Qg H hr hra (hE a (Hs ha));have key:(AAe t (.pointer (some a'))).run P w=.ok v' w:=by
   simp only[AAe,xh,GY,xU,loadVar,T.agg,AHi,run_load,hc,yT,if_false]
  rw[key];exact .same H hv
theorem Qh(H:AEI ty φ E h w){n:Nat}{a a':ABb}(hr:loadN n a h=.ok v h')(ha:AFT φ a a')(hE:¬ E a.block):
  h'=h/\∃ l,AEE φ v (.agg ⟨l⟩)/\(loadCells a' n).run P w=.ok l.toArray w:=by
 unfold loadN at hr;split at hr
 case h_2=>cases hr
 rename_i c s en hrow;obtain⟨hb,hr⟩:=Bx hr;rw[Fq,xx]at hr;cases hr;obtain⟨l,hl,_,hrun,_⟩:=Qi H ha hE hrow (Au.1 hb);exact⟨rfl,l,.agg hl,hrun w rfl⟩
theorem Xr(H:AEI ty φ E h w){x:O}{x':IN}{t:ya}{ti:TI}(T:AEg P t ti)(AHi:ti.k.agg=true)(hx:AEE φ (x e) x')
  (hE:∀ a,x e=.pointer (some a)->¬ E a.block)(hr:BK ti.size x F e h=.ok v h'):Bp ty φ E h w v h' ((AAe t x').run P w):=by
 unfold BK at hr;split at hr
 case h_2=>cases hr
 rename_i a ha;obtain⟨a',rfl,hra⟩:=Fj hx ha;obtain⟨rfl,l,hv,hrun⟩:=Qh (P:=P) H hr hra (hE a (Hs ha));have key:(AAe t (.pointer (some a'))).run P w=.ok (.agg l.toArray) w:=by
  simp only[AAe,xh,GY,xU,loadVar,T.agg,AHi,T.size,hrun,if_true,xk]
 rw[key];exact .same H hv
def YQ(ty:TTy)(φ:Phi)(E:Nat->Prop)(h:Hp)(w:yQ)(v:IN)(h':Hp)(r:Result Unit):Prop:=
 v=AED/\∃ w',r=.ok () w'/\AEI ty φ E h' w'/\Evo φ h w φ h' w'
theorem PO{a:ABb}{u:IN}{k:Hp->R}(hr:Cx a (cellsOf u) h k=.ok v h'):known u=true:=by
 cases u<;>first|rfl|skip
 rename_i cc;cases cc with
 |some r=>rfl
 |none=>
 exfalso
 unfold Cx at hr;cases hrow:rowOf h a.block with
 |no=>rw[hrow]at hr;cases hr
 |ok c s e=>
  rw[hrow]at hr;simp only at hr;obtain⟨_,hr⟩:=Bx hr;have h1:=(Bx hr).1;cases h1
theorem Xv(H:AEI ty φ E h w){x y:O}{x' y':IN}{t:ya}{ti:TI}(T:AEg P t ti)(hx:AEE φ (x e) x')(hy:AEE φ (y e) y')
  (hE:∀ a,x e=.pointer (some a)->¬ E a.block)(hr:Ah ti.size x y F e h=.ok v h'):YQ ty φ E h w v h' ((ADM t x' y').run P w):=by
 unfold Ah at hr;split at hr
 case h_2=>cases hr
 rename_i a ha;obtain⟨a',rfl,hra⟩:=Fj hx ha;rw[BR]at hr;obtain⟨hb,hr⟩:=Bx hr;have hc:=KB hy (PO hr);obtain⟨h1,w1,hk,hrun,H1,ev⟩:=IH (P:=P) H hr hra hc (hE a (Hs ha));cases hk;refine⟨rfl,w1,?_,H1,ev⟩;have hsz:y'.cells.size=ti.size:=by
  have:=hc.length;rw[<- Az.1 hb,Bm,<- this];simp
 simp only[ADM,xh,GY,xU,storeVar,T.size,hsz,ne_eq,not_true_eq_false,if_false,hrun,xk]
theorem io(H:AEI ty φ E h w){x:O}{x':IN}(hx:AEE φ (x e) x')(hr:Bf x F e h=.ok v h'):
  AEE φ v x'/\h'=h/\(x'≠.pointer none/\x'≠.nilIface/\x'≠.nilFunc/\∀ nm f c,x'≠.func (.method nm) f c):=by
 unfold Bf Xd at hr;split at hr
 ·rename_i a ha
  cases hr;rw[ha]at hx;obtain⟨a',rfl,hra⟩:=hx.AFC;exact⟨.ptr hra,rfl,by simp⟩
 ·rename_i f a b ha
  cases hr;rw[ha]at hx;cases hx with|func fn h1 h2=>exact⟨.func _ h1 h2,rfl,by simp⟩
 ·rename_i a n c ha
  cases hr;rw[ha]at hx;refine⟨hx,rfl,?_⟩;cases hx<;>simp
 ·rename_i m ha
  cases hr;rw[ha]at hx;refine⟨hx,rfl,?_⟩;cases hx<;>simp
 ·rename_i t u ha
  rw[BR]at hr;cases hr;rw[ha]at hx;refine⟨hx,rfl,?_⟩;cases hx<;>simp
 ·cases hr
theorem Gj(H:AEI ty φ E h w){cs cs':List IN}{k:Nat->Hp->R}(hr:newRow h 0 cs k=.ok v h')(AEp:AEV φ cs cs')(t:ya):
  ∃ h1 ψ,k h.next h1=.ok v h'/\ψ h.next=some {blk:=w.heap.size,off:=0,sz:=cs.length,room:=cs.length,es:=1}/\
   AEI ty ψ E h1 {w with heap:=w.heap.push (.cells ⟨cs'⟩ t)}/\Evo φ h w ψ h1 {w with heap:=w.heap.push (.cells ⟨cs'⟩ t)}:=by
 have hlen:=AEp.length;obtain⟨h1,hk,H1,ev⟩:=N3 (cs':=⟨cs'⟩) (t:=t) (fr:=(0,0)) (w':={w with heap:=w.heap.push (.cells ⟨cs'⟩ t)})
  (p:={blk:=w.heap.size,off:=0,sz:=cs.length,room:=cs.length,es:=1}) H hr (by simp[hlen]) ⟨rfl,.inl ⟨rfl,rfl,rfl,.inl rfl⟩⟩ (by simp[hlen]) (.inl rfl)
  (fun j u hj=>by simpa using AEp.get j u hj) rfl rfl rfl rfl
 exact⟨h1,_,hk,Phi.AEy _ _ _,H1,ev⟩
theorem PJ{ψ:Phi}{n:Nat}{p:Pl}(hp:ψ n=some p)(ho:p.off=0):AEE ψ (.pointer (some ⟨n,0,none⟩)) (.pointer (some ⟨p.blk,0,none⟩)):=
 .ptr ⟨rfl,rfl,p,hp,rfl,by simp[ho]⟩
theorem iV(H:AEI ty φ E h w){x:O}{x':IN}{t:ya}(hx:AEE φ (x e) x')(hr:Cc x F e h=.ok v h'):Bp ty φ E h w v h' ((Instr.box t x').run P w):=by
 unfold Cc at hr;rw[BR]at hr;obtain⟨hkn,hr⟩:=Bx hr;obtain⟨h1,ψ,hk,hp,H1,ev⟩:=Gj H hr (KB hx hkn) t;cases hk;exact⟨_,_,ψ,rfl,PJ hp rfl,H1,ev⟩
theorem Xf(H:AEI ty φ E h w){t:ya}{ti:TI}(T:AEg P t ti){c:VT}(hz:ti.zero.length=ti.size)(hc:Bt .mt 0 ti.zero=some c)(hr:BV ti.size c F e h=.ok v h'):
  Bp ty φ E h w v h' ((ADa t true (.tuple #[])).run P w):=by
 obtain⟨z,_,hzr,hzc,hzp⟩:=T.AFH hz;have hr':newRow h 0 ti.zero Ir=.ok v h':=by
  unfold newRow CY;rw[hc];simp only[Ap,Bm,hz];exact hr
 obtain⟨h1,ψ,hk,hp,H1,ev⟩:=Gj H hr' (.plain hzp) t;cases hk;refine⟨_,_,ψ,?_,PJ hp rfl,H1,ev⟩;have e1:(⟨ti.zero⟩:Array IN)=z.cells:=by rw[<- hzc]
 simp only[ADa,xh,hzr,xU,newVar,AA9,run_newObj,xk,e1]
theorem RB(H:AEI ty φ E h w){a a':ABb}{n:Nat}(ha:AFT φ a a')(hr:OA a n h=.ok v h'):h'=h/\AEE φ v (.pointer (some (a'.add n))):=by
 unfold OA at hr;rw[Ap]at hr;cases hr;obtain⟨p,hp,rfl⟩:=ha.eq;rw[Addr.AFB];refine⟨rfl,.ptr ⟨rfl,rfl,p,hp,rfl,?_⟩⟩;show p.off+a.off+n=p.off+(a.off+n);omega
theorem Sb{fs:List (Nat×Nat×Nat)}{fields:Array Field}(hf:fields.toList.map (fun f=>(f.offset,P.cellsOf f.type,f.type))=fs){i o s t:Nat}(hi:nth fs i=some (o,s,t)):
  ∃ f,fields[i]? =some f/\f.offset=o/\P.cellsOf f.type=s/\f.type=t:=by
 rw[GE,<- hf,yx]at hi;cases hg:fields.toList[i]? with
 |none=>rw[hg]at hi;cases hi
 |some f=>
  rw[hg]at hi;simp only[zG,Option.some.injEq,Prod.mk.injEq]at hi;exact⟨f,by simpa using hg,hi.1,hi.2.1,hi.2.2⟩
theorem NL(H:AEI ty φ E h w){x:O}{x':IN}{t:ya}{ti:TI}(T:AEg P t ti){fs:List (Nat×Nat×Nat)}(hk:ti.k=.struct fs){i o s ft:Nat}(hi:nth fs i=some (o,s+1,ft))
  (hx:AEE φ (x e) x')(hr:AE o x F e h=.ok v h'):Bp ty φ E h w v h' ((ACB t x' i).run P w):=by
 unfold AE at hr;cases ha:Dt (x e)with
 |no=>rw[ha]at hr;cases hr
 |ok a=>
  rw[ha]at hr;obtain⟨a',rfl,hra⟩:=Fj hx ha;obtain⟨rfl,hv⟩:=RB H hra hr;obtain⟨d,hd,hkd⟩:=T.desc;rw[hk]at hkd;cases hkd with
  |struct hf hin=>
   obtain⟨f,hf1,hf2,hf3,hf4⟩:=Sb hf hi;have hsome:(P.info? f.type).isSome=true:=by
    have:=List.all_eq_true.1 hin f (by simpa using Array.mem_of_getElem? hf1);exact this
   obtain⟨inf,AGC⟩:=ABt.1 hsome;have key:(ACB t (.pointer (some a')) i).run P w=.ok (.pointer (some (a'.add o))) w:=by
    simp only[ACB,xh,hd,xU,hf1,GY,fieldPlace,run_sizeOf w AGC,hf3,hf2,AC9,if_false,xk,Nat.add_eq_zero_iff,reduceCtorEq,and_false]
   rw[key];exact .same H hv
theorem Uq(H:AEI ty φ E h w){n AEO:Nat}{a a':ABb}{ix:O}{ix':IN}(hi:AEE φ (ix e) ix')(ha:AFT φ a a')(hr:MN n AEO (.ok a) (DZ (ix e)) h=.ok v h'):
  ∃ k i,ix'=.int k (i:Nat)/\i<n/\h'=h/\AEE φ v (.pointer (some (a'.add (i*AEO)))):=by
 unfold MN at hr;cases h1:DZ (ix e)with
 |no=>rw[h1]at hr;cases hr
 |ok i=>
  rw[h1]at hr;simp only at hr;obtain⟨k,rfl⟩:=E5 hi h1;cases hb:yu i n with
  |false=>rw[hb]at hr;cases hr
  |true=>
   rw[hb]at hr;simp only at hr;obtain⟨r1,r2⟩:=RB H ha hr;exact⟨k,i,rfl,Bb.1 hb,r1,r2⟩
theorem S4(H:AEI ty φ E h w){x ix:O}{x' ix':IN}{t el:ya}{ti ei:TI}(T:AEg P t ti){n:Nat}(hk:ti.k=.arr n el)(TE:AEg P el ei)
  (hx:AEE φ (x e) x')(hi:AEE φ (ix e) ix')(hr:Ce n ei.size x ix F e h=.ok v h'):Bp ty φ E h w v h' ((AAT t x' ix').run P w):=by
 unfold Ce at hr;cases ha:Dt (x e)with
 |no=>
  rw[ha]at hr;unfold MN at hr;cases h1:DZ (ix e)with
  |no=>rw[h1]at hr;cases hr
  |ok i=>rw[h1]at hr;simp only at hr;cases hb:yu i n<;>rw[hb]at hr<;>cases hr
 |ok a=>
  rw[ha]at hr;obtain⟨a',rfl,hra⟩:=Fj hx ha;obtain⟨k,i,rfl,hlt,rfl,hv⟩:=Uq H hi hra hr;obtain⟨d,hd,hkd⟩:=T.desc;rw[hk]at hkd;cases hkd;have key:(AAT t (.pointer (some a')) (.int k (i:Nat))).run P w=.ok (.pointer (some (a'.add (i*ei.size)))) w:=by
   have h2:(0:Int)<=(i:Int)/\(i:Int)<(n:Int):=by omega
   simp only[AAT,asIntOf,xh,xk,hd,xU,GY,h2,and_self,if_true,TE.size,yy,ABL]
  rw[key];exact .same H hv
theorem Kh{a a':ABb}{n c c':Nat}(hn:n<=c)(h:AFs φ a c a' c')(h0:0<n):AFT φ a a':=by
 obtain⟨s1,s2,p,hp,hb,h|h⟩:=h
 ·exact⟨s1,s2,p,hp,hb,h.2.1⟩
 ·omega
theorem ic(H:AEI ty φ E h w){x ix:O}{x' ix':IN}{t el:ya}{ti ei:TI}(T:AEg P t ti)(hk:ti.k=.slice el)(TE:AEg P el ei)
  (hx:AEE φ (x e) x')(hi:AEE φ (ix e) ix')(hr:B9 ei.size x ix F e h=.ok v h'):Bp ty φ E h w v h' ((AAT t x' ix').run P w):=by
 unfold B9 at hr;split at hr
 case h_2=>cases hr
 rename_i a n c hxe;rw[hxe]at hx;cases hx with
 |@slice _ a' _ _ c' hn hs=>
  obtain⟨d,hd,hkd⟩:=T.desc;rw[hk]at hkd;cases hkd;cases h1:DZ (ix e)with
  |no=>rw[h1]at hr;cases hr
  |ok i0=>
   have hpos:0<n:=by
    rw[h1]at hr;unfold MN at hr;simp only at hr;cases hb:yu i0 n with
    |false=>rw[hb]at hr;cases hr
    |true=>have:=Bb.1 hb;omega
   obtain⟨k,i,rfl,hlt,rfl,hv⟩:=Uq H hi (Kh hn hs hpos) hr;have key:(AAT t (.slice (some a') n c') (.int k (i:Nat))).run P w=.ok (.pointer (some (a'.add (i*ei.size)))) w:=by
    have h2:(0:Int)<=(i:Int)/\(i:Int)<(n:Int):=by omega
    simp only[AAT,asIntOf,xh,xk,hd,xU,h2,and_self,if_true,TE.size,yy,ABL]
   rw[key];exact .same H hv
theorem Xh(H:AEI ty φ E h w){x ix:O}{x' ix':IN}{t:ya}{ti:TI}(T:AEg P t ti)(hk:ti.k=.string)
  (hx:AEE φ (x e) x')(hi:AEE φ (ix e) ix')(hr:Io x ix F e h=.ok v h'):Bp ty φ E h w v h' ((ACb t x' ix').run P w):=by
 unfold Io J2 at hr;split at hr
 case h_2=>cases hr
 rename_i i h1;obtain⟨k,rfl⟩:=E5 hi h1;split at hr
 case h_2=>cases hr
 rename_i s hxe;rw[hxe]at hx;obtain rfl:=hx.AEq;split at hr
 case h_2=>cases hr
 rename_i b hb;obtain⟨rfl,rfl⟩:=FY hr;obtain⟨d,hd,hkd⟩:=T.desc;rw[hk]at hkd;cases hkd;rw[GE]at hb;have AGY:s[i]? =some b:=by
  have h0:i<s.data.toList.length:=by
   rcases yG i s.data.toList.length with h|h
   ·exact h
   ·rw[zX h]at hb;cases hb
  have h1:i<s.size:=h0;rw[getElem?_pos s i h1];rw[sh h0]at hb;rw[<- Option.some.inj hb];rfl
 have key:(ACb t (.string s) (.int k (i:Nat))).run P w=.ok (.int .u8 b.toNat) w:=by
  have h0:(0:Int)<=(i:Int):=by omega
  simp only[ACb,asIntOf,xh,xk,hd,xU,h0,if_true,yy,AGY]
 rw[key];exact .same H (.int _ _)
theorem Qu(H:AEI ty φ E h w){x:O}{x':IN}{i:Nat}(hx:AEE φ (x e) x')(hr:Aa i x F e h=.ok v h'):Bp ty φ E h w v h' ((ABa x' i).run P w):=by
 unfold Aa at hr;split at hr
 case h_2=>cases hr
 rename_i vs hxe;rw[hxe]at hx;cases hx with
 |@tuple l l' hl=>
  split at hr
  case h_2=>cases hr
  rename_i u hu;rw[BR]at hr;cases hr;rw[GE]at hu;obtain⟨u',hu',hru⟩:=hl.get i _ hu;have:(⟨l'⟩:Array IN)[i]? =some u':=by simpa using hu'
  simp only[ABa,this,xk];exact .same H hru
theorem _root_.Go.Proofs.YtbjadbhkogcfeaaGreat.KOk.AGZ{k:TK}{d:TypeDesc}(hkd:KOk P k d)(hk:k≠.iface)(ms:Array (String×ya)):d≠.interface ms:=by
 cases hkd with
 |other ho=>intro he;subst he;cases ho
 |iface ms'=>exact absurd rfl hk
 |_=>intro he;cases he
theorem Xm(H:AEI ty φ E h w){x:O}{x':IN}{t:ya}{ti:TI}(T:AEg P t ti)(hk:ti.k≠.iface)
  (hx:AEE φ (x e) x')(hr:Mi t x F e h=.ok v h'):Bp ty φ E h w v h' ((ABD t x').run P w):=by
 unfold Mi at hr;rw[BR]at hr;cases hr;obtain⟨d,hd,hkd⟩:=T.und;have key:(ABD t x').run P w=.ok (.iface t x') w:=by
  simp only[ABD,xh,run_underlying hd,xU];cases d<;>first|rfl|exact absurd rfl (hkd.AGZ hk _)
 rw[key];exact .same H (.iface t hx)
theorem ie(H:AEI ty φ E h w){t:ya}(hr:Xs F e h=.ok v h'):Bp ty φ E h w v h' ((Instr.makeMap t none).run P w):=by
 unfold Xs at hr;obtain⟨bl,hbl,hk⟩:=IA hr;cases hk
 let w':yQ:={w with heap:=w.heap.push (.map #[] 0)}
 have hs:w'.heap.size=w.heap.size+1:=by simp[w']
 have hsame:∀ k,k<w.heap.size->w'.heap[k]? =w.heap[k]?:=fun k hk=>by
  show(w.heap.push _)[k]? =_;rw[Array.getElem?_push_lt hk,Array.getElem?_eq_getElem hk]
 refine⟨.map (some w.heap.size),w',φ.put h.next {blk:=w.heap.size,off:=0,sz:=0,room:=0,es:=1},rfl,.map (Phi.AEy _ _ _),
  H.new hbl (by omega) (by show w.heap.size<_;omega) (fun j q e _=>by have:=(H.dom j q e).2;show _≠w.heap.size;omega) (fun k hk _=>hsame k hk) ?_,
  .made H hbl (IT _) (by omega) hsame rfl rfl rfl⟩
 have:w'.heap[w.heap.size]? =some (.map #[] 0):=by show(w.heap.push _)[w.heap.size]? =_;simp
 rw[this];exact .map .nil
end
end
noncomputable section
open Go
inductive AFk (φ:Phi)(e:Env):Option O->Option IN->Prop
 |none:AFk φ e none none
 |some {o:O} {x:IN} (h:AEE φ (o e) x):AFk φ e (some o) (some x)
section
variable {P:yw}{ty:TTy}{φ:Phi}{E:Nat->Prop}{h h':Hp}{w:yQ}{F:AEA}{e:Env}{v:IN}
theorem GI{o:O}{x:IN}(hx:AEE φ (o e) x){d y:Nat}{k:Nat->R}(hr:Cu e (some o) d y k=.ok v h'):
  ∃ n,n<=y/\k n=.ok v h'/\∀ Y,n<=Y->∀ code w,(ACy x Y code).run P w=.ok n w:=by
 unfold Cu at hr;simp only at hr;split at hr
 case h_2=>cases hr
 rename_i n hn;obtain⟨hb,hr⟩:=Bx hr;obtain⟨k',rfl⟩:=E5 hx hn;refine⟨n,Au.1 hb,hr,fun Y hY code w=>?_⟩;have h2:(0:Int)<=(n:Int)/\(n:Int)<=(Y:Int):=by omega
 simp only[ACy,asIntOf,xh,xk,xU,h2,and_self,if_true,yy]
theorem SJ(d y:Nat)(k:Nat->R):Cu e none d y k=k d:=rfl
theorem J6{lo hi mx:Option O}{lo' hi' mx':Option IN}(hl:AFk φ e lo lo')(hh:AFk φ e hi hi')(hm:AFk φ e mx mx'){len cap cap':Nat}(hc:cap<=cap')(hlen:len<=cap)
  {k:Nat->Nat->Nat->R}(hr:Dc e len cap lo hi mx k=.ok v h')(s:Bool):
  ∃ l b m,k l b m=.ok v h'/\l<=b/\b<=m/\m<=cap/\(mx.isSome=false->m=cap)/\∀ w,(zl s len cap' lo' hi' mx').run P w=.ok (l,b,if mx.isSome then m else cap') w:=by
 unfold Dc at hr;cases hm with
 |none=>
  simp only at hr;cases hh with
  |none=>
   rw[SJ]at hr;cases hl with
   |none=>exact⟨0,len,cap,hr,yK _,hlen,IT _,fun _=>rfl,fun w=>rfl⟩
   |some hl=>
    obtain⟨l,h1,hk,hs⟩:=GI (P:=P) hl hr;exact⟨l,len,cap,hk,h1,hlen,IT _,fun _=>rfl,fun w=>by
     simp only[zl,xh,xk,xU,hs len h1];rfl⟩
  |some hh=>
   obtain⟨b,h2,hr,hs2⟩:=GI (P:=P) hh hr;cases hl with
   |none=>exact⟨0,b,cap,hr,yK _,h2,IT _,fun _=>rfl,fun w=>by
     simp only[zl,xh,xk,xU,hs2 cap' (yP h2 hc)];rfl⟩
   |some hl=>
    obtain⟨l,h1,hk,hs⟩:=GI (P:=P) hl hr;exact⟨l,b,cap,hk,h1,h2,IT _,fun _=>rfl,fun w=>by
     simp only[zl,xh,xk,xU,hs2 cap' (yP h2 hc),hs b h1];rfl⟩
 |some hm=>
  simp only at hr;obtain⟨m,h3,hr,hs3⟩:=GI (P:=P) hm hr;cases hh with
  |none=>cases hr
  |some hh=>
   simp only at hr;obtain⟨b,h2,hr,hs2⟩:=GI (P:=P) hh hr;cases hl with
   |none=>exact⟨0,b,m,hr,yK _,h2,h3,fun h=>(by cases h),fun w=>by
     simp only[zl,xh,xk,xU,hs3 cap' (yP h3 hc),hs2 m h2];rfl⟩
   |some hl=>
    obtain⟨l,h1,hk,hs⟩:=GI (P:=P) hl hr;exact⟨l,b,m,hk,h1,h2,h3,fun h=>(by cases h),fun w=>by
     simp only[zl,xh,xk,xU,hs3 cap' (yP h3 hc),hs2 m h2,hs b h1];rfl⟩
theorem AFs.le{a a':ABb}{c c':Nat}(h:AFs φ a c a' c'):c<=c':=by
 obtain⟨_,_,p,_,_,h|h⟩:=h
 ·rcases h.2.2 with h|h
  ·exact AA5 h.symm
  ·exact h.2.1
 ·omega
theorem Iv(a:Option ABb)(size l b m:Nat)(h:Hp):
  Br a size l b m h=.ok (.slice (if m=l then a else a.map fun a=>if l*size=0 then a else⟨a.block,a.off+l*size,none⟩) (b - l) (m - l)) h:=by
 unfold Br;rw[Ap,Ap];by_cases hml:m=l
 ·subst hml;rw[zU,if_pos rfl];rfl
 ·have hb:xr m l=false:=by
   cases hb:xr m l
   ·rfl
   ·exact absurd (Az.1 hb) hml
  rw[hb,if_neg hml];cases a with
  |none=>rfl
  |some a=>
   have e:yl l size=l*size:=rfl;rw[e];cases hm:l*size with
   |zero=>rw[zG,if_pos rfl];rfl
   |succ q=>rw[zG,if_neg (AC9 q)];simp only[Ap];rfl
theorem eo{a a':ABb}{c c':Nat}(hs:AFs φ a c a' c'){size l b m:Nat}(hlb:l<=b)(hbm:b<=m)(hmc:m<=c){mx:Bool}(hm:mx=false->m=c)
  (hfit:mx=false->0<l->∀ p,φ a.block=some p->p.es=size\/(p.room=p.sz/\p.es=1)):
  AEE φ (.slice (if m=l then some a else(some a).map fun a=>if l*size=0 then a else⟨a.block,a.off+l*size,none⟩) (b - l) (m - l))
   (.slice (if(if mx then m else c')=l then some a' else(some a').map (·.add (l*size))) (b - l) ((if mx then m else c') - l)):=by
 obtain⟨s1,s2,p,hp,hb,hor⟩:=hs;obtain⟨ab,ao,asp⟩:=a;obtain⟨ab',ao',AIe⟩:=a';simp only at s1 s2 hp hb hor;subst s1;subst s2;subst hb;simp only[zG,Addr.AFB];have hle:m<=(if mx then m else c'):=by
  cases mx
  ·have:=hm rfl
   simp only[yT,if_false];rcases hor with h|h
   ·rcases h.2.2 with h|h<;>omega
   ·omega
  ·simp
 by_cases hml:m=l
 ·rw[if_pos hml]
  by_cases AHP:(if mx then m else c')=l
  ·rw[if_pos AHP]
   refine .slice (by omega) ⟨rfl,rfl,p,hp,rfl,.inr ⟨by omega,.inl (by omega)⟩⟩
  ·rw[if_neg AHP]
   cases mx with
   |true=>exact absurd hml AHP
   |false=>
    simp only[yT,if_false]at AHP hle ⊢;have AIf:=hm rfl;refine .slice (by omega) ⟨rfl,rfl,p,hp,rfl,.inr ⟨by omega,.inr ?_⟩⟩;simp only;rcases yd l with h0|h0
    ·subst h0
     simp only[AAD,zJ,ADi];rcases hor with h|h
     ·omega
     ·rcases h.2 with h|h
      ·omega
      ·exact h
    ·rcases hor with ⟨_,hoff,h|⟨h1,h2,h3⟩⟩|h
     ·omega
     ·rcases hfit rfl h0 p hp with he|⟨hr1,hr2⟩
      ·have hcl:c=l:=by omega
       have hmul:(c' - l)*p.es+l*p.es=c'*p.es:=by rw[<- AA6];congr 1;omega
       subst hcl;rw[<- he];omega
      ·rw[hr2]at h1 h3;omega
     ·omega
 ·have hne:¬ ((if mx=true then m else c')=l):=by omega
  rw[if_neg hml,if_neg hne];have hpos:0<c:=by omega
  rcases hor with ⟨_,hoff,hcap⟩|h
  case inr=>omega
  have hA:∀ X:ABb,X=(if l*size=0 then(⟨ab,ao,none⟩:ABb)else⟨ab,ao+l*size,none⟩)->X=⟨ab,ao+l*size,none⟩:=by
   intro X hX;rw[hX];split
   ·rename_i h;rw[h];rfl
   ·rfl
  rw[hA _ rfl];refine .slice (by omega) ⟨rfl,rfl,p,hp,rfl,.inl ⟨by omega,by simp only;omega,?_⟩⟩;cases mx with
  |true=>exact .inl rfl
  |false=>
   simp only[yT,if_false];have AIf:=hm rfl;subst AIf;rcases hcap with h|⟨h1,h2,h3⟩
   ·exact .inl (by rw[h])
   ·rcases yd l with h0|h0
    ·subst h0;refine .inr ?_;simp only[AAD,zJ,ADi];exact⟨h1,h2,h3⟩
    ·rcases hfit rfl h0 p hp with he|⟨hr1,hr2⟩
     ·refine .inr ?_
      have e1:(m - l)*p.es+l*p.es=m*p.es:=by rw[<- AA6];congr 1;omega
      have e2:(c' - l)*p.es+l*p.es=c'*p.es:=by rw[<- AA6];congr 1;omega
      rw[<- he];omega
     ·rw[hr2]at h1 h3;exact .inl (by omega)
theorem gW(H:AEI ty φ E h w){el:Nat}{ei:TI}(hty:ty.get el=some ei){a:ABb}(hf:Ez el (some a) h=true):∀ p,φ a.block=some p->p.es=ei.size\/(p.room=p.sz/\p.es=1):=by
 intro p hp;unfold Ez at hf;simp only at hf;split at hf
 ·rename_i c s en hrow
  have hk:=H.kind a.block p c s en hp (DU hrow);rcases hk.2 with ⟨_,h1,h2,_⟩|⟨t,ti,h1,h2,h3⟩
  ·exact .inr ⟨h1,h2⟩
  ·subst h1
   have:t=el:=Az.1 hf;subst this;rw[hty]at h2;cases h2;exact .inl h3
 ·cases hf
theorem iY(H:AEI ty φ E h w){x:O}{x':IN}{t el:ya}{ti ei:TI}(T:AEg P t ti)(hk:ti.k=.slice el)(hty:ty.get el=some ei)(TE:AEg P el ei)
  {lo hi mx:Option O}{lo' hi' mx':Option IN}(hx:AEE φ (x e) x')(hl:AFk φ e lo lo')(hh:AFk φ e hi hi')(hm:AFk φ e mx mx')
  (hr:EB el ei.size x lo hi mx F e h=.ok v h'):Bp ty φ E h w v h' ((zm t x' lo' hi' mx').run P w):=by
 unfold EB at hr;split at hr
 case h_2=>cases hr
 rename_i a n c hxe;rw[hxe]at hx;obtain⟨d,hd,hkd⟩:=T.desc;rw[hk]at hkd;cases hkd;cases hx with
 |AE0=>
  ·obtain⟨l,b,m,hk2,h1,h2,h3,h4,hs⟩:=J6 (P:=P) hl hh hm (IT 0) (IT 0) hr true
   have AFj:Br none ei.size l b m h=.ok v h':=by
    unfold EL at hk2;split at hk2
    ·exact hk2
    ·split at hk2
     ·exact hk2
     ·exact(Bx hk2).2
   rw[Iv]at AFj;cases AFj;have key:(zm t (.slice none 0 0) lo' hi' mx').run P w=.ok (.slice none (b - l) (m - l)) w:=by
    have hmm:(if mx.isSome then m else 0)=m:=by
     split
     ·rfl
     ·rename_i hf;exact(h4 (by simpa using hf)).symm
    rw[hmm]at hs;simp only[zm,ADZ,xh,hd,xU,hs,TE.size,xk,ACr,ite_self]
   rw[key];simp only[ACr,ite_self];have e1:m=0:=by omega
   have e2:b=0:=by omega
   have e3:l=0:=by omega
   subst e1;subst e2;subst e3;exact .same H .AE0
 |@slice a a' _ _ c' hn hsl=>
  obtain⟨l,b,m,hk2,h1,h2,h3,h4,hs⟩:=J6 (P:=P) hl hh hm hsl.le hn hr true;have AFj:Br (some a) ei.size l b m h=.ok v h'/\(mx.isSome=false->0<l->∀ p,φ a.block=some p->p.es=ei.size\/(p.room=p.sz/\p.es=1)):=by
   unfold EL at hk2;split at hk2
   ·rename_i hmx;exact⟨hk2,fun hf=>by rw[hmx]at hf;cases hf⟩
   ·split at hk2
    ·exact⟨hk2,fun _ h0=>absurd h0 (Nat.lt_irrefl 0)⟩
    ·obtain⟨hf,hk2⟩:=Bx hk2
     exact⟨hk2,fun _ _=>gW H hty hf⟩
  obtain⟨AFj,hfit⟩:=AFj;rw[Iv]at AFj;cases AFj;have key:(zm t (.slice (some a') n c') lo' hi' mx').run P w=
    .ok (.slice (if(if mx.isSome then m else c')=l then some a' else(some a').map (·.add (l*ei.size))) (b - l) ((if mx.isSome then m else c') - l)) w:=by
   simp only[zm,ADZ,xh,hd,xU,hs,TE.size,xk]
  rw[key];exact .same H (eo hsl h1 h2 h3 h4 hfit)
end
end
noncomputable section
open Go
theorem F4{α:Type}(xs:List α):∀ n,(Bc xs n).length=n*xs.length
 |0=>by simp[Bc]
 |n+1=>by
  show(xs++Bc xs n).length=_;rw[No,F4 xs n,AAk,Nat.add_comm]
theorem RH{α:Type}(xs:List α):∀ n i,i<n*xs.length->(Bc xs n)[i]? =xs[i % xs.length]?
 |0,i,h=>by simp at h
 |n+1,i,h=>by
  show(xs++Bc xs n)[i]? =_;rcases yG i xs.length with hl|hl
  ·rw[yH hl,AAc hl]
  ·have h2:i - xs.length<n*xs.length:=by rw[AAk]at h;omega
   rw[yJ hl,RH xs n _ h2,<- Nat.mod_eq_sub_mod hl]
theorem Hl{φ:Phi}{l l':List IN}(h:AEV φ l l'):∀ n,AEV φ (Bc l n) (Bc l' n)
 |0=>.nil
 |n+1=>h.append (Hl h n)
theorem NE(z:Array IN)(n:Nat):((ABF (n*z.size)).map (fun i=>z[i % z.size]!))=⟨Bc z.toList n⟩:=by
 apply zF;apply List.ext_getElem?;intro i;simp only[Array.toList_map,yx,Array.toList_range];rcases yG i (n*z.size)with h|h
 ·have h1:i<n*z.toList.length:=by simpa using h
  rw[RH _ _ _ h1,List.getElem?_range h,zG];have h2:0<z.size:=by
   rcases yd z.size with h0|h0
   ·rw[h0]at h;simp at h
   ·exact h0
  have h3:i % z.size<z.size:=Nat.mod_lt _ h2;simp[h3]
 ·rw[zX (by simpa using h),zX (by rw[F4];simpa using h)];rfl
theorem G3(z:Array IN)(n:Nat):ABM z n=⟨Bc z.toList n⟩:=NE z n
theorem AEr(cs:List IN)(off:Nat)(vs:List IN):lay cs off vs=cs.take off++vs++cs.drop (off+vs.length):=by
 unfold lay;rw[M8,Pz,Bm];rfl
theorem Sv{cs:List IN}{off:Nat}{vs:List IN}(h:off+vs.length<=cs.length):(lay cs off vs).length=cs.length:=by
 rw[AEr];simp;omega
theorem gy{φ:Phi}{cs cs' vs vs':List IN}(h:AEV φ cs cs')(hv:AEV φ vs vs')(off:Nat):AEV φ (lay cs off vs) (lay cs' off vs'):=by
 rw[AEr,AEr,hv.length];exact((h.take off).append hv).append (h.drop _)
theorem Ng(off:Nat):∀ (vs:List IN) (j:Nat) (cs:Array IN),off+j+vs.length<=cs.size->
  ((vs.zipIdx j).foldl (fun cs (c,j)=>cs.setIfInBounds (off+j) c) cs).toList=lay cs.toList (off+j) vs
 |[],j,cs,h=>by rw[AEr];simp
 |v::vs,j,cs,h=>by
  simp only[xY]at h;rw[List.zipIdx_cons,List.foldl_cons];have:=Ng off vs (j+1) (cs.setIfInBounds (off+j) v) (by simp;omega);rw[this,AEr,AEr];have hlt:off+j<cs.toList.length:=by simp;omega
  rw[Array.toList_setIfInBounds,show off+(j+1)=off+j+1 by omega];rw[xY,List.take_set,List.drop_set_of_lt (by omega)];have e1:(cs.toList.take (off+j+1)).set (off+j) v=cs.toList.take (off+j)++[v]:=by
   rw[List.take_succ_eq_append_getElem hlt,List.set_append_right _ _ (by simp;omega)];have:(off+j - (cs.toList.take (off+j)).length)=0:=by simp;omega
   rw[this];rfl
  rw[e1,show off+j+1+vs.length=off+j+(vs.length+1)by omega];simp
section
variable {φ:Phi}{h':Hp}{e:Env}{v:IN}
inductive AGO (φ:Phi)(e:Env)(place:Nat->Option (Nat×Nat)):List (Nat×Nat×O)->List (Nat×IN)->Prop
 |nil:AGO φ e place [] []
 |cons {i off size:Nat} {o:O} {x:IN} {l:List (Nat×Nat×O)} {l':List (Nat×IN)} (hp:place i=some (off,size)) (hx:AEE φ (o e) x) (t:AGO φ e place l l'):
  AGO φ e place ((off,size,o)::l) ((i,x)::l')
theorem JI{place:Nat->Option (Nat×Nat)}{k:List IN->R}:∀ {ps:List (Nat×Nat×O)} {ps':List (Nat×IN)},AGO φ e place ps ps'->∀ {cs cs':List IN},AEV φ cs cs'->
  EX cs e k ps=.ok v h'->∃ r r',k r=.ok v h'/\AEV φ r r'/\r.length=cs.length/\AB4 place ⟨cs'⟩ ps'=some ⟨r'⟩
 |_,_,.nil,cs,cs',hc,hr=>by
  unfold EX at hr;rw[C2]at hr;exact⟨cs,cs',hr,hc,rfl,rfl⟩
 |_,_,.cons (off:=off) (size:=size) (o:=o) (x:=x) hp hx t,cs,cs',hc,hr=>by
  unfold EX at hr;rw[BR]at hr;obtain⟨hkn,hr⟩:=Bx hr;obtain⟨hb1,hr⟩:=Bx hr;obtain⟨hb2,hr⟩:=Bx hr;have hcl:=KB hx hkn;have h1:=Az.1 hb1;have h2:=Au.1 hb2;rw[Bm]at h1 h2;have h3:=hcl.length;have h4:=hc.length;obtain⟨r,r',hk,hrr,hlen,hf⟩:=JI t (gy hc hcl off) hr;have h2':off+size<=cs.length:=h2;have hsz:x.cells.size=size:=by rw[<- h1,<- h3];simp
  refine⟨r,r',hk,hrr,by rw[hlen,Sv (by omega)],?_⟩;rw[AB4,hp];simp only;rw[if_neg (by simp[hsz];omega)];have AHj:(x.cells.zipIdx.foldl (fun cs (c,j)=>cs.setIfInBounds (off+j) c) (⟨cs'⟩:Array IN))=⟨lay cs' off x.cells.toList⟩:=by
   apply zF;have:=Ng off x.cells.toList 0 ⟨cs'⟩ (by simp[hsz];omega);rw[<- Array.foldl_toList,Array.toList_zipIdx];exact this
  rw[AHj];exact hf
end
end
noncomputable section
open Go
section
variable {P:yw}{ty:TTy}{φ:Phi}{E:Nat->Prop}{h h':Hp}{w:yQ}{F:AEA}{e:Env}{v:IN}
theorem Sz(H:AEI ty φ E h w){t:ya}{ti:TI}(T:AEg P t ti){fs:List (Nat×Nat×Nat)}(hk:ti.k=.struct fs)(hz:ti.zero.length=ti.size)
  {ps:List (Nat×Nat×O)}{ps':Array (Nat×IN)}(hp:AGO φ e (Mr fs) ps ps'.toList)
  (hr:BC ti.zero ps F e h=.ok v h'):Bp ty φ E h w v h' ((AAp t ps').run P w):=by
 unfold BC at hr;obtain⟨z,_,hzr,hzc,hzp⟩:=T.AFH hz;obtain⟨r,r',hk2,hrr,hlen,hf⟩:=JI hp (.plain hzp) hr;cases hk2;obtain⟨d,hd,hkd⟩:=T.desc;rw[hk]at hkd;cases hkd with
 |@struct fs fields hfl hin=>
  have hmap:∀ w,(fields.mapM (fun f=>(do pure (f.offset,<- sizeOf f.type):Sem (Nat×Nat)))).run P w=.ok (fields.map fun f=>(f.offset,P.cellsOf f.type)) w:=by
   intro w;rw[<- Array.toArray_toList (xs:=fields),List.mapM_toArray,List.map_toArray];have:∀ l:List Field,l.all (fun f=>(P.info? f.type).isSome)=true->(l.mapM (fun f=>(do pure (f.offset,<- sizeOf f.type):Sem (Nat×Nat)))).run P w=.ok (l.map fun f=>(f.offset,P.cellsOf f.type)) w:=by
    intro l
    induction l with
    |nil=>intro _;rfl
    |cons f l ih=>
     intro hall;simp only[List.all_cons,yA]at hall;obtain⟨inf,AGC⟩:=ABt.1 hall.1;simp only[List.mapM_cons,xh,run_sizeOf w AGC,xU,xk,ih hall.2,List.map_cons]
   simp only[Sem.run_map,this _ hin,xU]
  have AGz:Mr fs=fun i=>(fields.map fun f=>(f.offset,P.cellsOf f.type))[i]?:=by
   funext i
   unfold Mr;rw[GE,<- hfl,yx,Array.getElem?_map,<- Array.getElem?_toList];cases fields.toList[i]?<;>rfl
  rw[AGz]at hf;have hz':(⟨ti.zero⟩:Array IN)=z.cells:=by rw[<- hzc]
  rw[hz']at hf;have key:(AAp t ps').run P w=.ok (.agg ⟨r'⟩) w:=by
   simp only[AAp,xh,hzr,xU,hd,hmap,hf,xk]
  rw[key];exact .same H (.agg hrr)
theorem Sy(H:AEI ty φ E h w){t el:ya}{ti ei:TI}(T:AEg P t ti){n:Nat}(hk:ti.k=.arr n el)(TE:AEg P el ei)(hz:ti.zero.length=ti.size)
  {ps:List (Nat×Nat×O)}{ps':Array (Nat×IN)}(hp:AGO φ e (fun i=>some (yl i ei.size,ei.size)) ps ps'.toList)
  (hr:BC ti.zero ps F e h=.ok v h'):Bp ty φ E h w v h' ((AAp t ps').run P w):=by
 unfold BC at hr;obtain⟨z,_,hzr,hzc,hzp⟩:=T.AFH hz;obtain⟨r,r',hk2,hrr,hlen,hf⟩:=JI hp (.plain hzp) hr;cases hk2;obtain⟨d,hd,hkd⟩:=T.desc;rw[hk]at hkd;cases hkd;have hz':(⟨ti.zero⟩:Array IN)=z.cells:=by rw[<- hzc]
 rw[hz']at hf;have hf':AB4 (fun i=>some (i*ei.size,ei.size)) z.cells ps'.toList=some ⟨r'⟩:=hf;have key:(AAp t ps').run P w=.ok (.agg ⟨r'⟩) w:=by
  simp only[AAp,xh,hzr,xU,hd,TE.size,hf',xk]
 rw[key];exact .same H (.agg hrr)
theorem Vj{ψ:Phi}{n s l c:Nat}{p:Pl}(hp:ψ n=some p)(ho:p.off=0)(hl:l<=c)(hc:c=0\/0<c):AEE ψ (.slice (some ⟨n,0,none⟩) l c) (.slice (some ⟨p.blk,0,none⟩) l c):=by
 refine .slice hl ⟨rfl,rfl,p,hp,rfl,?_⟩;rcases hc with h|h
 ·exact .inr ⟨h,.inl h⟩
 ·exact .inl ⟨h,by simp[ho],.inl rfl⟩
theorem Mf(H:AEI ty φ E h w){t el:ya}{ti ei:TI}(T:AEg P t ti)(hk:ti.k=.slice el)(TE:AEg P el ei)(hz:ei.zero.length=ei.size)
  {len:Nat}(hlen:len*ei.size<=16777216){ps:List (Nat×Nat×O)}{ps':Array (Nat×IN)}(hp:AGO φ e (fun i=>some (yl i ei.size,ei.size)) ps ps'.toList)
  (hr:Ar len (Bc ei.zero len) ps F e h=.ok v h'):Bp ty φ E h w v h' ((AAr t len ps').run P w):=by
 unfold Ar at hr;obtain⟨z,_,hzr,hzc,hzp⟩:=TE.AFH hz;obtain⟨r,r',hk2,hrr,hlr,hf⟩:=JI hp (Hl (.plain hzp) len) hr;obtain⟨h1,ψ,hk3,hps,H1,ev⟩:=Gj H hk2 hrr el;cases hk3;obtain⟨d,hd,hkd⟩:=T.desc;rw[hk]at hkd;cases hkd;have hzs:z.cells.size=ei.size:=by rw[<- hz,<- hzc];simp
 have hf':AB4 (fun i=>some (i*ei.size,ei.size)) ⟨Bc ei.zero len⟩ ps'.toList=some ⟨r'⟩:=hf;have AFe:(ABF (len*ei.size)).map (fun i=>z.cells[i % z.cells.size]!)=⟨Bc ei.zero len⟩:=by
  rw[<- hzc,<- hzs];exact NE z.cells len
 have hng:¬ (len*ei.size > 2 ^ 24):=by omega
 have key:(AAr t len ps').run P w=.ok (.slice (some ⟨w.heap.size,0,none⟩) len len) {w with heap:=w.heap.push (.cells ⟨r'⟩ el)}:=by
  by_cases h0:len*ei.size=0
  ·have:(ABF (len*ei.size)).map (fun i=>(#[]:Array IN)[i % (#[]:Array IN).size]!)=⟨Bc ei.zero len⟩:=by
    rw[<- AFe,h0];simp
   simp only[AAr,xh,hd,xU,TE.size,hng,h0,if_false,if_true,xk,Nat.not_lt_zero,gt_iff_lt];rw[h0]at this;simp only[this,hf',AA9,xh,run_newObj,xU,xk]
  ·simp only[AAr,xh,hd,xU,TE.size,hng,h0,if_false,hzr,xk,AFe,hf',AA9,run_newObj]
 rw[key];exact⟨_,_,ψ,rfl,Vj (s:=0) hps rfl (IT _) (yd _),H1,ev⟩
theorem Hr{n:Nat}(h:n<=9223372036854775807):zk.wrap (n:Int)=n:=Dl .i64 n h
theorem iE:most=1099511627776:=rfl
theorem VI:JU=70368744177664:=rfl
theorem H8{n:Nat}(h:n<=1099511627776):n<=JU:=yP h (by rw[VI];omega)
theorem VJ{c b:Nat}(h:xd (yl (xW c) (xW b)) JU=true):c<=70368744177664/\(c+1)*(b+1)<=70368744177664:=by
 have h1:=Au.1 h;rw[VI]at h1;have h2:(c+1)*(b+1)<=70368744177664:=h1;refine⟨?_,h2⟩;have:c+1<=(c+1)*(b+1):=ACK _ (by omega);omega
theorem iF{c b:Nat}(h:xd (yl (xW c) (xW b)) most=true):c<=1099511627776/\(c+1)*(b+1)<=1099511627776:=by
 have h1:=Au.1 h;rw[iE]at h1;have h2:(c+1)*(b+1)<=1099511627776:=h1;refine⟨?_,h2⟩;have:c+1<=(c+1)*(b+1):=ACK _ (by omega);omega
theorem aN(H:AEI ty φ E h w){t el:ya}{ti ei:TI}(T:AEg P t ti)(hk:ti.k=.slice el)(TE:AEg P el ei)(hz:ei.zero.length=ei.size)
  {l c:O}{l' c':IN}(hl:AEE φ (l e) l')(hc:AEE φ (c e) c')(hr:HC ei.bytes ei.zero l c F e h=.ok v h'):Bp ty φ E h w v h' ((AA0 t l' c').run P w):=by
 unfold HC Qj at hr;split at hr
 case h_2=>cases hr
 rename_i a h1;split at hr
 case h_2=>cases hr
 rename_i b h2;obtain⟨k1,rfl⟩:=E5 hl h1;obtain⟨k2,rfl⟩:=E5 hc h2;obtain⟨hb1,hr⟩:=Bx hr;obtain⟨hb2,hr⟩:=Bx hr;have hle:=Au.1 hb1;obtain⟨hm1,hm2⟩:=iF hb2;obtain⟨z,_,hzr,hzc,hzp⟩:=TE.AFH hz;have hzs:z.cells.size=ei.size:=by rw[<- hz,<- hzc];simp
 have AEp:AEV φ (Bc ei.zero b) (Bc ei.zero b):=Hl (.plain hzp) b;obtain⟨h1',ψ,hk3,hps,H1,ev⟩:=Gj H hr AEp el;cases hk3;obtain⟨d,hd,hkd⟩:=T.desc;rw[hk]at hkd;cases hkd;obtain⟨inf,AGC,hs,hbt,_⟩:=TE.info;have AFe:(ABF (b*ei.size)).map (fun i=>z.cells[i % z.cells.size]!)=⟨Bc ei.zero b⟩:=by
  rw[<- hzc,<- hzs];exact NE z.cells b
 have w1:zk.wrap (a:Int)=a:=Hr (by omega);have w2:zk.wrap (b:Int)=b:=Hr (by omega);have hbytes:¬ ((ei.bytes:Int)*(b:Int) > 2 ^ 48):=by
  have:ei.bytes*b<=(b+1)*(ei.bytes+1):=by rw[Nat.mul_comm];exact AB7 (by omega) (by omega)
  have h3:((ei.bytes*b:Nat):Int)<=1099511627776:=by omega
  rw[<- ADL];omega
 have AG0:((decide ((b:Int)<0) || decide ((ei.bytes:Int)*(b:Int) > 2 ^ 48)) || decide ((a:Int)<0) || decide ((a:Int) > (b:Int)))=false:=by
  simp only[ACe,decide_eq_false_iff_not];refine⟨⟨⟨by omega,hbytes⟩,by omega⟩,by omega⟩
 have key:(AA0 t (.int k1 (a:Nat)) (.int k2 (b:Nat))).run P w=.ok (.slice (some ⟨w.heap.size,0,none⟩) a b) {w with heap:=w.heap.push (.cells ⟨Bc ei.zero b⟩ el)}:=by
  by_cases h0:b*ei.size=0
  ·have e0:(ABF (b*ei.size)).map (fun i=>(#[]:Array IN)[i % (#[]:Array IN).size]!)=⟨Bc ei.zero b⟩:=by
    rw[<- AFe,h0];simp
   rw[h0]at e0;simp only[AA0,xh,hd,xU,asInt,asIntOf,xk,run_typeInfo _ AGC,hbt,w1,w2,AG0,yT,if_false,run_askRoom,yy,TE.size,h0,if_true,e0,AA9,run_newObj,ABL]
  ·simp only[AA0,xh,hd,xU,asInt,asIntOf,xk,run_typeInfo _ AGC,hbt,w1,w2,AG0,yT,if_false,run_askRoom,yy,TE.size,h0,hzr,AFe,AA9,run_newObj,ABL]
 rw[key];exact⟨_,_,ψ,rfl,Vj (s:=0) hps rfl hle (yd _),H1,ev⟩
end
end
noncomputable section
open Go
section
variable {P:yw}{ty:TTy}{φ:Phi}{E:Nat->Prop}{h h':Hp}{w:yQ}{F:AEA}{e:Env}{v:IN}
theorem S2(H:AEI ty φ E h w){x:O}{x':IN}{t el:ya}{ti ei:TI}(T:AEg P t ti){n:Nat}(hk:ti.k=.arr n el)(TE:AEg P el ei)
  {lo hi mx:Option O}{lo' hi' mx':Option IN}(hx:AEE φ (x e) x')(hl:AFk φ e lo lo')(hh:AFk φ e hi hi')(hm:AFk φ e mx mx')
  (hr:F1 n ei.size x lo hi mx F e h=.ok v h'):Bp ty φ E h w v h' ((zm t x' lo' hi' mx').run P w):=by
 unfold F1 at hr;split at hr
 case h_2=>cases hr
 rename_i a ha;obtain⟨a',rfl,hra⟩:=Fj hx ha;obtain⟨d,hd,hkd⟩:=T.desc;rw[hk]at hkd;cases hkd;obtain⟨l,b,m,hk2,h1,h2,h3,h4,hs⟩:=J6 (P:=P) hl hh hm (IT n) (IT n) hr false;have hmm:(if mx.isSome then m else n)=m:=by
  split
  ·rfl
  ·rename_i hf;exact(h4 (by simpa using hf)).symm
 rw[hmm]at hs;rw[Iv]at hk2;cases hk2;have key:(zm t (.pointer (some a')) lo' hi' mx').run P w=.ok (.slice (some (if m=l then a' else a'.add (l*ei.size))) (b - l) (m - l)) w:=by
  simp only[zm,xh,hd,xU,GY,hs,TE.size,xk]
 rw[key];refine .same H ?_;have s1:=hra.1;obtain⟨p,hp,rfl⟩:=hra.eq;obtain⟨ab,ao,asp⟩:=a;simp only at s1 hp;subst s1;simp only[Addr.AFB,zG];by_cases hml:m=l
 ·rw[if_pos hml,if_pos hml]
  exact .slice (by omega) ⟨rfl,rfl,p,hp,rfl,.inr ⟨by omega,.inl (by omega)⟩⟩
 ·rw[if_neg hml,if_neg hml]
  have hA:(if l*ei.size=0 then(⟨ab,ao,none⟩:ABb)else⟨ab,ao+l*ei.size,none⟩)=⟨ab,ao+l*ei.size,none⟩:=by
   split
   ·rename_i h;rw[h];rfl
   ·rfl
  rw[hA];exact .slice (by omega) ⟨rfl,rfl,p,hp,rfl,.inl ⟨by omega,by simp only;omega,.inl rfl⟩⟩
theorem aI(H:AEI ty φ E h w){fn:Fn}{f c:List O}{f' c':List IN}(hf:AEV φ (vals e f) f')(hc:AEV φ (vals e c) c')(hr:EZ fn f c F e h=.ok v h'):
  Bp ty φ E h w v h' (.ok (.func fn ⟨f'⟩ ⟨c'⟩) w):=by
 unfold EZ at hr;rw[C2,C2]at hr;cases hr;exact .same H (.func fn hf hc)
theorem iR(H:AEI ty φ E h w){x:O}{x':IN}{t el:ya}{ti:TI}(T:AEg P t ti){n:Nat}(hk:ti.k=.arr n el)(hn:0<n)(hx:AEE φ (x e) x')
  (hr:Qs n x F e h=.ok v h'):Bp ty φ E h w v h' ((ACC t x').run P w):=by
 unfold Qs at hr;split at hr
 case h_2=>cases hr
 rename_i a l c hxe;rw[hxe]at hx;obtain⟨hb,hr⟩:=Bx hr;cases hr;have hb:=Au.1 hb;obtain⟨d,hd,hkd⟩:=T.desc;rw[hk]at hkd;cases hkd;cases hx with
 |@slice _ a' _ _ c' hlc hs=>
  have key:(ACC t (.slice (some a') l c')).run P w=.ok (.pointer (some a')) w:=by
   simp only[ACC,xh,hd,xU,ABp.2 hb,if_false,xk]
  rw[key];exact .same H (.ptr (Kh hlc hs (by omega)))
theorem N1(H:AEI ty φ E h w){lt:Bool}{x y:O}{x' y':IN}(hx:AEE φ (x e) x')(hy:AEE φ (y e) y')(hr:Hf lt (x e) (y e) h=.ok v h'):
  ∃ k q m n,x'=.int k m/\y'=.int q n/\h'=h/\v=.int k (if(if lt then n<m else m<n)then n else m):=by
 unfold Hf at hr;split at hr
 case h_2=>cases hr
 rename_i k m hxe;split at hr
 case h_2=>cases hr
 rename_i n hye;obtain⟨q,hq⟩:=Ux hye;rw[hxe]at hx;rw[hq]at hy;refine⟨k,q,m,n,hx.AEm,hy.AEm,?_⟩;cases lt
 ·simp only[cond_false]at hr
  cases hb:iLt m n with
  |false=>
   rw[hb]at hr;cases hr;rw[DC]at hb;have:=of_decide_eq_false hb;refine⟨rfl,?_⟩;simp[this]
  |true=>
   rw[hb]at hr;cases hr;rw[DC]at hb;have:=of_decide_eq_true hb;refine⟨rfl,?_⟩;simp[this]
 ·simp only[cond_true]at hr
  cases hb:iLt n m with
  |false=>
   rw[hb]at hr;cases hr;rw[DC]at hb;have:=of_decide_eq_false hb;refine⟨rfl,?_⟩;simp[this]
  |true=>
   rw[hb]at hr;cases hr;rw[DC]at hb;have:=of_decide_eq_true hb;refine⟨rfl,?_⟩;simp[this]
theorem ik(H:AEI ty φ E h w){x y:O}{x' y':IN}{ats:Array ya}{t:ya}(hx:AEE φ (x e) x')(hy:AEE φ (y e) y')(hr:Xt x y F e h=.ok v h'):
  Bp ty φ E h w v h' ((Builtin.min_ ats t #[x',y']).run P w):=by
 obtain⟨k,q,m,n,rfl,rfl,rfl,rfl⟩:=N1 H hx hy hr;exact .same H (.int _ _)
theorem ii(H:AEI ty φ E h w){x y:O}{x' y':IN}{ats:Array ya}{t:ya}(hx:AEE φ (x e) x')(hy:AEE φ (y e) y')(hr:S7 x y F e h=.ok v h'):
  Bp ty φ E h w v h' ((Builtin.max_ ats t #[x',y']).run P w):=by
 obtain⟨k,q,m,n,rfl,rfl,rfl,rfl⟩:=N1 H hx hy hr;exact .same H (.int _ _)
theorem G6:∀ l:List UInt8,Cn l=l.map fun b=>.int .u8 (b.toNat:Int)
 |[]=>rfl
 |b::l=>by unfold Cn;rw[Ap,G6 l];rfl
theorem Kq(l:List UInt8):AEV φ (Cn l) (l.map fun b=>.int .u8 (b.toNat:Int)):=by
 rw[G6]
 induction l with
 |nil=>exact .nil
 |cons b l ih=>exact .cons (.int _ _) ih
theorem F6(H:AEI ty φ E h w){size n:Nat}{x x':IN}(hE:∀ a l c,x=.slice (some a) l c->¬ E a.block)(hx:AEE φ x x'){k:List IN->R}(hr:BP h size x n k=.ok v h')
  (hn:∀ m,lenV x=.ok m->n<=m):
  ∃ cs cs':List IN,k cs=.ok v h'/\AEV φ cs cs'/\(∀ w':yQ,w'.heap=w.heap->(yf size n x').run P w'=.ok ⟨cs'⟩ w')/\(∀ a l c,x'=.slice (some a) l c->cs'.length=n*size)/\(∀ s,x'=.string s->cs'.length=n/\size=1)/\
   (∀ a l c,x=.slice (some a) l c->0<c->∃ p cs t fr,φ a.block=some p/\w.heap[p.blk]? =some (.cells cs t fr)/\∀ (j:Nat) (u:IN),cs'[j]? =some u->cs[p.off+a.off+j]? =some u):=by
 unfold BP at hr;split at hr
 ·cases hx
  exact⟨[],[],hr,.nil,(fun _ _=>rfl),(fun _ _ _ h=>by cases h),(fun _ h=>by cases h),(fun _ _ _ h=>by cases h)⟩
 ·rename_i a l c
  split at hr
  case h_2=>cases hr
  rename_i ct s en hrow;obtain⟨hb,hr⟩:=Bx hr;rw[Fq,xx]at hr;cases hx with
  |@slice _ a' _ _ c' hlc hs=>
   rcases yd c with h0|h0
   ·have hl0:l=0:=by omega
    have hn0:n=0:=by have:=hn l rfl;omega
    subst hn0;refine⟨_,[],hr,by simp[AFU];exact .nil,fun w' _=>?_,(fun _ _ _ h=>by simp),(fun _ h=>by cases h),(fun _ _ _ h hpos=>by cases h;omega)⟩;simp only[yf,AAD];rfl
   ·obtain⟨s1,s2,p,hp,hbl,hor⟩:=hs
    have ha:AFT φ a a':=by
     rcases hor with h|h
     ·exact⟨s1,s2,p,hp,hbl,h.2.1⟩
     ·omega
    obtain⟨cs',hcs,hlen,hrun,hcell⟩:=Qi (P:=P) H ha (hE _ _ _ rfl) hrow (Au.1 hb);exact⟨_,cs',hr,hcs,hrun,(fun _ _ _ _=>hlen),(fun _ h=>by cases h),(fun _ _ _ h _=>by cases h;exact hcell)⟩
 ·rename_i s
  obtain rfl:=hx.AEq;have hn':n<=s.data.toList.length:=by
   have:=hn (BF s.data.toList) rfl
   rwa [Bm]at this
  obtain⟨hone,hr⟩:=Bx hr;rw[M8]at hr;refine⟨_,_,hr,Kq _,fun w' _=>?_,(fun _ _ _ h=>by cases h),(fun _ _=>⟨by simp only[List.length_map,List.length_take];omega,Az.1 hone⟩),(fun _ _ _ h=>by cases h)⟩;simp only[yf,xk]
  congr 1
  apply zF;simp[List.extract_eq_take_drop]
 ·rename_i c
  cases c with
  |none=>cases hr
  |some r=>
   cases hx;have hn0:n=0:=by have:=hn 0 rfl;omega
   subst hn0;exact⟨[],[],hr,.nil,(fun w' _=>by simp only[yf,AAD];rfl),(fun _ _ _ h=>by simp),(fun _ h=>by cases h),(fun _ _ _ h=>by cases h)⟩
 ·cases hr
theorem Qd{x x':IN}(hx:AEE φ x x'){n:Nat}(h:lenV x=.ok n):(ABy x').run P w=.ok n w:=by
 unfold lenV at h;split at h
 ·cases h;cases hx<;>rfl
 ·cases h
  obtain rfl:=hx.AEq;simp only[ABy,xk,Bm];rfl
 ·rename_i c
  cases c with
  |none=>cases h
  |some r=>
   cases h;cases hx;rfl
 ·cases h
theorem aF(H:AEI ty φ E h w)(hE:∀ b,¬ E b){d x:O}{d' x':IN}{ats:Array ya}{dt t el:ya}(h0:ats[0]? =some dt){ti ei:TI}(T:AEg P dt ti)(hk:ti.k=.slice el)(TE:AEg P el ei)
  (hd:AEE φ (d e) d')(hx:AEE φ (x e) x')(hr:Jb ei.size d x F e h=.ok v h'):Bp ty φ E h w v h' ((AAn ats t #[d',x']).run P w):=by
 unfold Jb Pv at hr;split at hr
 case h_2=>cases hr
 rename_i base dl dc hde;rw[hde]at hd;split at hr
 case h_2=>cases hr
 rename_i xl hxl;rw[Ap,BW]at hr;obtain⟨cs,cs',hr,hcs,AHk,hl1,hl2,_⟩:=F6 (P:=P) H (fun _ _ _ _=>hE _) hx hr (fun m hm=>by rw[hxl]at hm;cases hm;exact ABG _ _);have hrun:=AHk w rfl;obtain⟨dd,hdd,hkd⟩:=T.desc;rw[hk]at hkd;cases hkd;have hlen:=Qd (P:=P) (w:=w) hx hxl;split at hr
 ·cases hr
  cases hd;have key:(AAn ats t #[.slice none 0 0,x']).run P w=.ok (goInt ((min xl 0:Nat):Int)) w:=by
   simp only[AAn,h0,xh,hdd,xU,hlen,TE.size,xk,yO,yW,yj];have:Nat.min xl 0=min xl 0:=rfl;rw[this,hrun];rfl
  rw[key];exact .same H (.int _ _)
 ·rename_i a hr0
  cases hd with
  |@slice _ a' _ _ dc' hlc hs=>
   have AG1:∃ h1 w1,(.ok (.int .i64 (.ofNat (min xl dl))) h1:R)=.ok v h'/\(storeCells a' cs').run P w=.ok () w1/\AEI ty φ E h1 w1/\Evo φ h w φ h1 w1:=by
    rcases yd dc with h0|h0
    ·have hdl:dl=0:=by omega
     subst hdl;have AGr:cs'=[]:=by
      have hz:min xl 0=0:=Nat.min_zero _;rw[hz]at hrun hl1 hl2;cases x'<;>first|(simp only[yf]at hrun;cases hrun;done)|skip
      ·exact zi.1 (hl2 _ rfl).1
      ·rename_i sa sl AJO
       cases sa with
       |none=>simp only[yf,xk]at hrun;cases hrun;rfl
       |some sa=>exact zi.1 (by have:=hl1 sa sl AJO rfl;simpa using this)
     subst AGr;have:cs=[]:=by cases hcs;rfl
     subst this;unfold Cx at hr;split at hr
     case h_2=>cases hr
     rename_i ct s en hrow;obtain⟨_,hr⟩:=Bx hr;obtain⟨_,hr⟩:=Bx hr;simp only[Bt]at hr;obtain⟨bl,AEK,hbl,hk2⟩:=FP hr;obtain⟨_,_,p,hp,_,_⟩:=hs;have hold:=H.row a.block p hp (hE _);have AF3:=DU hrow;rw[AF3]at hold;have AEw:Live h a.block:=by unfold Live;rw[AF3];intro hd;cases hd
     exact⟨_,w,hk2,rfl,H.put (hE _) AEK hp AEw hbl rfl (fun _ _=>rfl) hold,.put (H.AFA hp AEK) hp AEw hbl (by rw[DU hrow];exact .inr ⟨rfl,rfl⟩) rfl (fun _ _=>rfl) rfl rfl rfl⟩
    ·obtain⟨s1,s2,p,hp,hbl,hor⟩:=hs
     have ha:AFT φ a a':=by
      rcases hor with h|h
      ·exact⟨s1,s2,p,hp,hbl,h.2.1⟩
      ·omega
     exact IH (P:=P) H hr ha hcs (hE _)
   obtain⟨h1,w1,hk2,AGa,H1,ev⟩:=AG1;cases hk2;have key:(AAn ats t #[.slice (some a') dl dc',x']).run P w=.ok (goInt ((min xl dl:Nat):Int)) w1:=by
    simp only[AAn,h0,xh,hdd,xU,hlen,TE.size,xk,yO,yW,yj];have:Nat.min xl dl=min xl dl:=rfl;rw[this,hrun];simp only[xU,AGa,xh,xk]
   rw[key];exact⟨_,_,φ,rfl,.int _ _,H1,ev⟩
end
end
noncomputable section
open Go
section
variable {P:yw}{ty:TTy}{φ:Phi}{E:Nat->Prop}{h h':Hp}{w:yQ}{e:Env}{v:IN}
theorem AEI.of_heap(H:AEI ty φ E h w){w':yQ}(hw:w'.heap=w.heap):AEI ty φ E h w' where
 dom:=by rw[hw];exact H.dom
 inj:=H.inj
 row:=by rw[hw];exact H.row
 fresh:=H.fresh
 kind:=H.kind
 inp:=H.inp
theorem YB(H:AEI ty φ E h w)(hE:∀ b,¬ E b){a a':ABb}{c c' o:Nat}{vs vs':List IN}{k:Hp->R}(hs:AFs φ a c a' c')(h0:c=0->vs=[])
  (hr:Cx (FB a o) vs h k=.ok v h')(hv:AEV φ vs vs'):
  ∃ h1 w1,k h1=.ok v h'/\(storeCells (a'.add o) vs').run P w=.ok () w1/\AEI ty φ E h1 w1/\Evo φ h w φ h1 w1:=by
 obtain⟨s1,s2,p,hp,hbl,hor⟩:=hs;have AJP:(FB a o).block=a.block:=by unfold FB;split<;>rfl
 rcases yd c with hc|hc
 ·have:=h0 hc
  subst this;have:vs'=[]:=by cases hv;rfl
  subst this;unfold Cx at hr;split at hr
  case h_2=>cases hr
  rename_i ct s en hrow;obtain⟨_,hr⟩:=Bx hr;obtain⟨_,hr⟩:=Bx hr;simp only[Bt]at hr;obtain⟨bl,AEK,AGI,hk2⟩:=FP hr;rw[AJP]at hrow AGI hk2 AEK;have hold:=H.row a.block p hp (hE _);have AF3:=DU hrow;rw[AF3]at hold;have AEw:Live h a.block:=by unfold Live;rw[AF3];intro hd;cases hd
  exact⟨_,w,hk2,rfl,H.put (hE _) AEK hp AEw AGI rfl (fun _ _=>rfl) hold,.put (H.AFA hp AEK) hp AEw AGI (by rw[DU hrow];exact .inr ⟨rfl,rfl⟩) rfl (fun _ _=>rfl) rfl rfl rfl⟩
 ·have hoff:a'.off=p.off+a.off:=by
   rcases hor with h|h
   ·exact h.2.1
   ·omega
  obtain⟨ab',ao',AIe⟩:=a';obtain⟨ab,ao,asp⟩:=a;simp only at s1 s2 hp hbl hoff;subst s1;subst s2;subst hbl;subst hoff;have AJQ:FB ⟨ab,ao,none⟩ o=⟨ab,ao+o,none⟩:=by
   unfold FB;cases o<;>rfl
  rw[AJQ]at hr;rw[Addr.AFB];refine IH (P:=P) H hr ⟨rfl,rfl,p,hp,rfl,?_⟩ hv (hE _);show p.off+ao+o=p.off+(ao+o);omega
theorem Nj(N:Nat):∀ (r c:Nat),c<N->AAb N r c<=N+(N+768)/4
 |0,c,h=>by unfold AAb;omega
 |r+1,c,h=>by
  unfold AAb;split
  ·omega
  ·rcases yG (c+(c+768)/4) N with h2|h2
   ·exact Nj N r _ h2
   ·cases r with
    |zero=>unfold AAb;omega
    |succ r=>unfold AAb;rw[if_pos h2];omega
theorem iK{need cap:Nat}(h:cap<need):zn need cap<=2*need:=by
 unfold zn;split
 ·omega
 ·split
  ·omega
  ·have:=Nj need 4 cap h
   omega
theorem ML(H:AEI ty φ E h w){en:Nat}{ei:TI}(hty:ty.get en=some ei){need c:Nat}(AG2:0<need)(hc:need<=c){cs cs' rest:List IN}(AEp:AEV φ cs cs')(hlen:cs.length=need*ei.size)
  (AFf:rest.length=(c - need)*ei.size){w':yQ}(hw':w'.heap=w.heap.push (.cells ⟨cs'++rest⟩ en))(ht:w'.tape=w.tape)(ho:w'.os=w.os)(hout:w'.output=w.output)
  {t:VT}{n:Nat}(hT:∀ j,j<cs.length->t.get j=cs.getD j undef)(hN:n=cs.length)(hr:CY h (xW en) t n (GG need need)=.ok v h'):∃ ψ,AEE ψ v (.slice (some ⟨w.heap.size,0,none⟩) need c)/\AEI ty ψ E h' w'/\Evo φ h w ψ h' w':=by
 have hl':=AEp.length;have hmul:(c - need)*ei.size+need*ei.size=c*ei.size:=by rw[<- AA6];congr 1;omega
 have hsz:(⟨cs'++rest⟩:Array IN).size=c*ei.size:=by simp[hl',AFf,hlen];omega
 obtain⟨h1,hk,H1,ev⟩:=Mc (cs:=cs) (cs':=⟨cs'++rest⟩) (t:=en) (fr:=(0,0)) (w':=w')
  (p:={blk:=w.heap.size,off:=0,sz:=cs.length,room:=(⟨cs'++rest⟩:Array IN).size,es:=ei.size}) H hr hT hN rfl ⟨rfl,.inr ⟨en,ei,rfl,hty,rfl⟩⟩ (by simp[hl']) (.inl rfl)
  (fun j u hj=>by
   obtain⟨u',hu,hru⟩:=AEp.get j u hj;refine⟨u',?_,hru⟩;have hj':j<cs'.length:=by
    rcases yG j cs'.length with h|h
    ·exact h
    ·rw[zX h]at hu;cases hu
   simp only[yO];rw[yH hj'];exact hu) hw' ht ho hout
 cases hk;refine⟨_,.slice (IT _) ⟨rfl,rfl,_,Phi.AEy _ _ _,rfl,.inl ⟨AG2,rfl,.inr ⟨?_,hc,?_⟩⟩⟩,H1,ev⟩
 ·simp only;omega
 ·simp only[hsz];omega
theorem Zj(H:AEI ty φ E h w)(hE:∀ b,¬ E b){en:Nat}{ei:TI}(hty:ty.get en=some ei)(hes:0<ei.size){base:Option ABb}{base':Option ABb}{sl sc sc' need:Nat}
  (hsl:AEE φ (.slice base sl sc) (.slice base' sl sc'))(AG2:sc<need){olds news AFl news':List IN}(ho:AEV φ olds AFl)(hn:AEV φ news news')
  (hol:olds.length=sl*ei.size)(hnl:(olds++news).length=need*ei.size)(hone:∀ v∈news',v.oneCell'=true)
  (hcell:∀ a a',base=some a->base'=some a'->0<sc->∃ p cs t fr,φ a.block=some p/\w.heap[p.blk]? =some (.cells cs t fr)/\∀ j u,AFl[j]? =some u->cs[p.off+a.off+j]? =some u)
  {tr:VT}{n:Nat}(hT:∀ j,j<(olds++news).length->tr.get j=(olds++news).getD j undef)(hN:n=(olds++news).length)(hr:E3 ei.size en base sc need tr n h=.ok v h'):
  (∀ c rest,need<=c->rest.length=(c - need)*ei.size->∀ w':yQ,sc'<need->w'.heap=w.heap.push (.cells ⟨(AFl++news')++rest⟩ en)->w'.tape=w.tape->w'.os=w.os->w'.output=w.output->
   ∃ ψ,AEE ψ v (.slice (some ⟨w.heap.size,0,none⟩) need c)/\AEI ty ψ E h' w'/\Evo φ h w ψ h' w')/\
  (∀ a',base'=some a'->need<=sc'->∃ w' ψ,(storeCells (a'.add (sl*ei.size)) news').run P w=.ok () w'/\AEE ψ v (.slice (some a') need sc')/\AEI ty ψ E h' w'/\Evo φ h w ψ h' w'):=by
 have AEp:=ho.append hn;have AFr:0<need:=by omega
 unfold E3 at hr;split at hr
 ·
  cases hsl;refine⟨fun c rest hc AFf w' _ hw' ht hos hout=>ML H hty AFr hc AEp hnl AFf hw' ht hos hout hT hN hr,fun a' ha=>by cases ha⟩
 ·rename_i _ a
  cases hsl with
  |@slice _ a' _ _ _ hlc hs=>
  split at hr
  case h_2=>cases hr
  rename_i ct s en0 hrow;obtain⟨s1,s2,p,hp,hbl,hor⟩:=hs;have AGb:=H.kind a.block p ct s en0 hp (DU hrow);have AEw:Live h a.block:=by unfold Live;rw[DU hrow];intro hd;cases hd
  have AG3:(p.room=p.sz/\p.es=1)->sc'=sc:=by
   rintro⟨q1,q2⟩;rcases hor with ⟨q3,q4,q5|⟨q5,q6,q7⟩⟩|⟨q3,q4|q4⟩
   ·exact q5
   ·rw[q2]at q5 q7;omega
   ·omega
   ·rw[q2]at q4;omega
  have real:sc'=sc->CY h (xW en) tr n (GG need need)=.ok v h'->
    (∀ c rest,need<=c->rest.length=(c - need)*ei.size->∀ w':yQ,sc'<need->w'.heap=w.heap.push (.cells ⟨(AFl++news')++rest⟩ en)->w'.tape=w.tape->w'.os=w.os->w'.output=w.output->
     ∃ ψ,AEE ψ v (.slice (some ⟨w.heap.size,0,none⟩) need c)/\AEI ty ψ E h' w'/\Evo φ h w ψ h' w')/\
    (∀ a'',some a'=some a''->need<=sc'->∃ w' ψ,(storeCells (a''.add (sl*ei.size)) news').run P w=.ok () w'/\AEE ψ v (.slice (some a'') need sc')/\AEI ty ψ E h' w'/\Evo φ h w ψ h' w'):=by
   intro hsc hr;exact⟨fun c rest hc AFf w' _ hw' ht hos hout=>ML H hty AFr hc AEp hnl AFf hw' ht hos hout hT hN hr,fun a'' _ h2=>by omega⟩
  split at hr
  ·refine real (AG3 ?_) hr
   rcases AGb.2 with ⟨_,q1,q2,_⟩|⟨t,ti,q1,_⟩
   ·exact⟨q1,q2⟩
   ·cases q1
  ·rename_i e0
   obtain⟨hb,hr⟩:=Bx hr;have hen:e0=en:=Az.1 hb;subst hen;have AIg:p.es=ei.size:=by
    rcases AGb.2 with ⟨q0,_⟩|⟨t,ti,q1,q2,q3⟩
    ·cases q0
    ·have:t=e0:=by omega
     subst this;rw[hty]at q2;cases q2;exact q3
   split at hr
   ·obtain⟨bl,AEK,AE6,hr⟩:=FP hr
    have Hk:=H.kill AE6 (lo:=B8 h.low a.block) (hi:=Cw h.high a.block) (mk:=h.mark);refine⟨fun c rest hc AFf w' _ hw' ht hos hout=>?_,fun a'' AJR hcap=>?_⟩
    ·obtain⟨ψ,hv,H2,ev⟩:=ML Hk hty AFr hc AEp hnl AFf hw' ht hos hout hT hN hr
     refine⟨ψ,hv,H2,?_⟩;have evk:Evo φ h w φ {next:=h.next,low:=B8 h.low a.block,high:=Cw h.high a.block,mark:=h.mark,bl:=bl} w:={
      le:=.refl _,new:=fun _ _ e=>.inl e,next:=IT _,size:=IT _,tape:=rfl,os:=rfl,output:=rfl,frame:=fun _ _ _=>rfl,
      back:=fun i q e hl _=>⟨i,q,e,fun hd=>hl (by show bl.get i=_;rw[BT.AEG AE6];split<;>first|rfl|exact hd),rfl,rfl,.inl rfl⟩,
      kept:=fun i _ hi=>by
       show bl.get i=_;have hi:i<B8 h.low a.block\/Cw h.high a.block<i:=hi;rw[BW,B3]at hi;rw[BT.AEG AE6,if_neg (by omega)],
      low:=by show B8 _ _<=_;rw[BW];exact ABG _ _,
      high:=by show _<=Cw _ _;rw[B3];exact Nat.le_max_left _ _,
      shape:=fun i _=>by
       show AET _ (bl.get i);rw[BT.AEG AE6];split
       ·exact .inl rfl
       ·exact .refl _,
      only:=fun i _ h0=>by
       show bl.get i=_;rw[BT.AEG AE6,if_neg (fun e=>by rw[e,hp]at h0;cases h0)],
      all:=fun _ h1 h2=>absurd h2 (ABp.2 h1)}
     exact evk.trans ev
    ·cases AJR
     obtain⟨p0,cs,t,fr,hp0,hwc,R⟩:∃ p0 cs t fr,φ a.block=some p0/\w.heap[p0.blk]? =some (.cells cs t fr)/\AFt ty φ p0 ct s (e0+1) cs fr:=by
      obtain⟨cs,t,fr,q1,q2⟩:=H.rowAt hp (hE _) hrow;exact⟨p,cs,t,fr,hp,q1,q2⟩
     rw[hp]at hp0;cases hp0;obtain⟨ab',ao',AIe⟩:=a';simp only at s2 hbl hor;subst s2;subst hbl;have AHl:p.off<=ao'/\ao'+sc' * ei.size<=p.off+p.room/\(0<sc->ao'=p.off+a.off):=by
      have hz:p.sz<=p.room:=R.room;rw[AIg]at hor;rcases hor with ⟨q3,q4,q5|⟨q5,q6,q7⟩⟩|⟨q3,q4|⟨q4,q5⟩⟩
      ·omega
      ·exact⟨by omega,by omega,fun _=>q4⟩
      ·omega
      ·exact⟨by omega,by omega,fun h=>by omega⟩
     have AHh:=R.fits;have hmul:need*ei.size<=sc'*ei.size:=ABX _ hcap;have hlo:=ho.length;have hln:=hn.length;have AKi:olds.length+news.length=need*ei.size:=by rw[<- hnl];simp
     rw[Addr.AFB];have hst:(storeCells ⟨p.blk,ao'+sl*ei.size,none⟩ news').run P w=.ok () (w.setCells p.blk (ao'+sl*ei.size) news'):=by
      refine run_storeCells_cells (P:=P) p.blk (ao'+sl*ei.size) news' 0 w (fun j hj=>?_) (fun j hj=>?_) hone
      ·rw[JA hwc];simp;omega
      ·exact Nh hwc R.AId (by omega)
     obtain⟨cs',e1,e2,e3,e4,e5,e6,e7,e8⟩:=GF p.blk t fr news' (ao'+sl * ei.size) cs w hwc (by omega);unfold CY at hr;rw[Ap]at hr;obtain⟨bl2,AGI,hk2⟩:=IA hr;cases hk2
     let p':Pl:={blk:=p.blk,off:=ao',sz:=need*ei.size,room:=p.off+p.room - ao',es:=ei.size}
     have hB:AE9 ty (φ.put h.next p') p' (.cells tr n (e0+1)) ((w.setCells p.blk (ao'+sl*ei.size) news').heap[p'.blk]?):=by
      show AE9 ty (φ.put h.next p') p' _ ((w.setCells p.blk (ao'+sl*ei.size) news').heap[p.blk]?);rw[e1,hN,hnl];refine .cells {
       kind:=⟨rfl,.inr ⟨e0,ei,rfl,hty,rfl⟩⟩,room:=(by show need*ei.size<=p.off+p.room - ao';omega),fits:=(by show ao'+(p.off+p.room - ao')<=cs'.size;omega),
       loose:=.inl (by rw[e2];exact R.AId),cell:=fun j hj=>?_}
      have hj2:j<(olds++news).length:=by omega
      rw[hT j hj2];show ∃ v,cs'[ao'+j]? =some v/\_;have hD:(olds++news).getD j undef=(olds++news)[j]:=by
       rw[xV,sh hj2];rfl
      rw[hD];obtain⟨u',hu,hru⟩:=AEp.get j _ (sh hj2);refine⟨u',?_,hru.mono (Phi.AFX H.AE1)⟩;rw[e3];rcases yG j olds.length with hjo|hjo
      ·rw[if_neg (by omega)]
       rw[yH (by omega)]at hu;have AIh:0<sc:=by
        rcases yd sc with q|q
        ·have:sl=0:=by omega
         rw[this,AAD]at hol;omega
        ·exact q
       obtain⟨p1,cs1,t1,fr1,hp1,hw1,hc1⟩:=hcell a _ rfl rfl AIh;rw[hp]at hp1;cases hp1;rw[hwc]at hw1;cases hw1;rw[AHl.2.2 AIh];exact hc1 j u' hu
      ·rw[if_pos (by omega)]
       rw[yJ (by omega)]at hu;rw[<- hu];congr 1;omega
     have AG4:∀ j q,φ j=some q->Live ({next:=h.next,low:=B8 h.low a.block,high:=Cw h.high a.block,mark:=h.mark,bl:=bl}:Hp) j->q.blk≠p'.blk:=by
      intro j q hq hl hqb;have hl':bl.get j≠.dead:=hl;rw[BT.AEG AE6]at hl';split at hl'
      ·exact hl' rfl
      ·rename_i hjb
       exact hjb (H.inj j a.block q p hq hp (hE _) (hE _) hl' AEw (.inr (H.AFA hp AEK)) hqb)
     have H2:=Hk.new (lo:=B8 h.low a.block) (hi:=Cw h.high a.block) (mk:=h.mark) (w':=w.setCells p.blk (ao'+sl*ei.size) news') (p:=p') AGI (AA5 e4.symm) (by rw[e4];exact(H.dom _ _ hp).2) AG4 (fun k _ hk=>e5 k hk) hB;refine⟨_,_,hst,?_,H2,Evo.grow H (H.AFA hp AEK) rfl hp AEw AE6 AGI rfl e4 e5 e6 e7 e8⟩;refine .slice (IT _) ⟨rfl,rfl,p',Phi.AEy _ _ _,rfl,.inl ⟨AFr,rfl,.inr ⟨?_,hcap,?_⟩⟩⟩
     ·show 0+need*ei.size=need*ei.size;omega
     ·show 0+sc'*ei.size<=p.off+p.room - ao';omega
   ·rename_i hend
    refine real ?_ hr;rcases hor with ⟨q3,q4,q5|⟨q5,q6,q7⟩⟩|⟨q3,_⟩
    ·exact q5
    ·exfalso
     unfold Ko at hend;cases sc with
     |zero=>omega
     |succ n=>
      simp only at hend;have:xr (zH a.off (yl (n+1) ei.size)) s=true:=Az.2 (by rw[<- AGb.1,<- q5,AIg];rfl);rw[this]at hend;cases hend
    ·exfalso
     subst q3;cases hend
end
end
noncomputable section
open Go
section
variable {P:yw}{ty:TTy}{φ:Phi}{E:Nat->Prop}{h h':Hp}{w:yQ}{F:AEA}{e:Env}{v:IN}
theorem Zi{AEO en:Nat}{base:Option ABb}{sc need:Nat}{cs:List IN}(hr:JQ AEO en base sc need cs h=.ok v h'):
  ∃ (t:VT) (m:Nat),(∀ j,j<cs.length->t.get j=cs.getD j undef)/\m=cs.length/\E3 AEO en base sc need t m h=.ok v h':=by
 unfold JQ at hr;split at hr
 case h_2=>cases hr
 rename_i c AEl;exact⟨c,_,M0 AEl,Bm _,hr⟩
open Classical in
theorem QM{AEO en:Nat}{base:Option ABb}{sl sc need:Nat}{news:List IN}
  (hr:G9 AEO en base sl sc need news h (BP h AEO (.slice base sl sc) sl fun olds=>JQ AEO en base sc need (olds++news) h)=.ok v h'):
  ∃ AKw:List IN->R,BP h AEO (.slice base sl sc) sl AKw=.ok v h'/\∀ olds,AKw olds=.ok v h'->∃ (t:VT) (m:Nat),(∀ j,j<(olds++news).length->t.get j=(olds++news).getD j undef)/\
   m=(olds++news).length/\E3 AEO en base sc need t m h=.ok v h':=by
 have AGG:BP h AEO (.slice base sl sc) sl (fun olds=>JQ AEO en base sc need (olds++news) h)=.ok v h'->
   ∃ AKw:List IN->R,BP h AEO (.slice base sl sc) sl AKw=.ok v h'/\∀ olds,AKw olds=.ok v h'->∃ (t:VT) (m:Nat),(∀ j,j<(olds++news).length->t.get j=(olds++news).getD j undef)/\
    m=(olds++news).length/\E3 AEO en base sc need t m h=.ok v h':=fun hr=>⟨_,hr,fun olds h=>Zi h⟩
 unfold G9 at hr;split at hr
 ·exact AGG hr
 ·rename_i _ a
  split at hr
  ·rename_i hoff
   split at hr
   ·rename_i c sz ec hrow
    split at hr
    ·rename_i hb
     have hsz:sz=sl * AEO:=Az.1 hb;split at hr
     case h_2=>cases hr
     rename_i t AEl;refine⟨fun olds=>if olds=AFU c 0 sz then E3 AEO en (some a) sc need t (zH sz (BF news)) h else .no,?_,fun olds ho=>?_⟩
     ·unfold BP
      simp only[hrow,hoff];have hle:xd (zH 0 (yl sl AEO)) sz=true:=Au.2 (by show 0+sl*AEO<=sz;omega);rw[hle,Fq,xx];have:yl sl AEO=sz:=hsz.symm;rw[this];simp only[cond_true,if_true];exact hr
     ·by_cases he:olds=AFU c 0 sz
      ·simp only[he,if_true]at ho
       subst he;refine⟨t,_,fun j hj=>?_,?_,ho⟩
       ·have hl:(AFU c 0 sz).length=sz:=F5 c 0 sz
        rw[Gt _ _ _ _ AEl j,xV (l:=AFU c 0 sz++news)];rw[No,hl]at hj;rcases yG j sz with hjs|hjs
        ·rw[if_neg (by omega),yH (by omega)]
         simp[AFU,hjs]
        ·rw[if_pos (by omega),yJ (by omega),hl,<- xV]
       ·rw[No,F5,Bm];rfl
      ·simp only[he,if_false]at ho;cases ho
    ·exact AGG hr
   ·exact AGG hr
  ·exact AGG hr
def CT(elem:ya)(size:Nat)(base:Option ABb)(s:IN)(sLen sCap n:Nat)(AFg:Bool)(x:IN)(AEt:Sem (Array IN)):Sem IN:=do
 let need:=sLen+n
 if need<=sCap then
  let new <- AEt
  if let some a:=base then storeCells (a.add (sLen*size)) new.toList
  pure (.slice base need sCap)
 else
  if(need:Int) > zk.max/\(AFg\/(<- typeInfo elem).bytes=0)then runtimePanic (.error "growslice: len out of range")
  if zn need sCap*(<- typeInfo elem).bytes > 2 ^ 48 then(if AFg then runtimePanic (.error "growslice: len out of range")else do
   if !(<- Builtin.mayShare size sLen n base x)then mark .noRoom
   unsupported (.resourceLimit "append: a slice or a string whose bytes no memory bears"))
  let AF4 <- choose (.appendCap need sCap elem)
  askRoom (AF4*(<- typeInfo elem).bytes)
  let old <- yf size sLen s
  let new <- AEt
  let rest:=ABM (<- zeroValue elem).cells (AF4 - need)
  pure (.slice (some (<- AA9 elem (old++new++rest))) need AF4)
theorem IQ(H:AEI ty φ E h w)(hE:∀ b,¬ E b){en:Nat}{ei:TI}(hty:ty.get en=some ei)(TE:AEg P en ei)(hes:0<ei.size)(hz:ei.zero.length=ei.size)
  {base base':Option ABb}{sl sc sc' n:Nat}(hs:AEE φ (.slice base sl sc) (.slice base' sl sc')){AFg:Bool}{x':IN}{AEt:Sem (Array IN)}{news news':List IN}
  (hn:AEV φ news news')(hnl:news.length=n*ei.size)(AHQ:∀ w':yQ,w'.heap=w.heap->AEt.run P w'=.ok ⟨news'⟩ w')
  (hr:(∃ k,sl+n<=sc/\k=(match base with
    |none=>(.ok (.slice none (sl+n) sc) h:R)
    |some a=>Cx (FB a (sl*ei.size)) news h fun h=>.ok (.slice (some a) (sl+n) sc) h)/\k=.ok v h')\/
   (sc<sl+n/\xd (yl (xW (sl+n)) (xW ei.bytes)) JU=true/\Ba news=true/\
    ∃ AKw:List IN->R,BP h ei.size (.slice base sl sc) sl AKw=.ok v h'/\∀ olds,AKw olds=.ok v h'->∃ (t:VT) (m:Nat),(∀ j,j<(olds++news).length->t.get j=(olds++news).getD j undef)/\
     m=(olds++news).length/\E3 ei.size en base sc (sl+n) t m h=.ok v h')):
  Bp ty φ E h w v h' ((CT en ei.size base' (.slice base' sl sc') sl sc' n AFg x' AEt).run P w):=by
 obtain⟨inf,AGC,hsz,hbt,_⟩:=TE.info;obtain⟨z,_,hzr,hzc,hzp⟩:=TE.AFH hz;have hzs:z.cells.size=ei.size:=by rw[<- hz,<- hzc];simp
 rcases hr with ⟨k,hle,rfl,hr⟩|⟨hlt,AHm,hone,AKw,hr,hG⟩
 ·cases hs with
  |AE0=>
   cases hr;have:n=0:=by omega
   subst this;have key:(CT en ei.size none (.slice none 0 0) 0 0 0 AFg x' AEt).run P w=.ok (.slice none 0 0) w:=by
    simp only[CT,IT,if_true,xh,AHQ w rfl,xU,xk]
   rw[key];exact .same H .AE0
  |@slice a a' _ _ _ hlc hs=>
   simp only at hr;have h0:sc=0->news=[]:=fun h0=>zi.1 (by
    have:n=0:=by omega
    rw[hnl,this,AAD])
   obtain⟨h1,w1,hk,hrun,H1,ev⟩:=YB (P:=P) H hE hs h0 hr hn;cases hk;have hcc:sl+n<=sc':=yP hle hs.le;have key:(CT en ei.size (some a') (.slice (some a') sl sc') sl sc' n AFg x' AEt).run P w=.ok (.slice (some a') (sl+n) sc') w1:=by
    simp only[CT,hcc,if_true,xh,AHQ w rfl,xU,hrun,xk]
   rw[key];exact⟨_,_,φ,rfl,.slice hle hs,H1,ev⟩
 ·have hs0:=hs
  obtain⟨olds,AFl,hr,ho,hrun,hl1,hl2,hcell⟩:=F6 (P:=P) H (fun _ _ _ _=>hE _) hs hr (fun m hm=>by cases hm;exact IT _);obtain⟨tr,tn,hT,hN,hr⟩:=hG olds hr;have AHn:=IY hn hone;obtain⟨hm1,hm2⟩:=VJ AHm;have hol:olds.length=sl*ei.size:=by
   rw[<- ho.length];cases base' with
   |none=>cases hs;have:=hrun w rfl;simp only[yf,xk]at this;cases this;simp
   |some a'=>exact hl1 a' sl sc' rfl
  have AJS:(olds++news).length=(sl+n)*ei.size:=by rw[No,hol,hnl,AA6]
  obtain⟨AJT,AHo⟩:=Zj (P:=P) H hE hty hes hs hlt ho hn hol AJS AHn (fun a a' ha ha' hpos=>hcell a sl sc (by rw[ha]) hpos) hT hN hr;rcases yG sc' (sl+n)with hroom|hroom
  ·
   let q:Question:=.appendCap (sl+n) sc' en
   let c:Nat:=q.cut (w.tape w.drawn q)
   let w1:yQ:={w with drawn:=w.drawn+1}
   have hc:sl+n<=c:=Nat.le_add_right _ _;have hrl:(Bc z.cells.toList (c - (sl+n))).length=(c - (sl+n))*ei.size:=by rw[F4];simp[hzs]
   obtain⟨ψ,hv,H2,ev⟩:=AJT c (Bc z.cells.toList (c - (sl+n))) hc hrl {w1 with heap:=w.heap.push (.cells ⟨(AFl++news')++Bc z.cells.toList (c - (sl+n))⟩ en)} hroom rfl rfl rfl rfl;have AGJ:¬ ((sl+n:Nat):Int) > zk.max:=by
    have:zk.max=9223372036854775807:=by decide
    rw[this];omega
   have hnx:¬ (zn (sl+n) sc'*ei.bytes > 2 ^ 48):=by
    have h1:=iK hroom;have h2:zn (sl+n) sc'*ei.bytes<=(2*(sl+n))*ei.bytes:=ABX _ h1;have h3:(2*(sl+n))*ei.bytes<=(2*(sl+n+1))*(ei.bytes+1):=AB7 (by omega) (by omega);have h4:(2*(sl+n+1))*(ei.bytes+1)=2*((sl+n+1)*(ei.bytes+1)):=by rw[Nat.mul_assoc]
    omega
   have AJU:¬ (sl+n<=sc'):=by omega
   have key:(CT en ei.size base' (.slice base' sl sc') sl sc' n AFg x' AEt).run P w=.ok (.slice (some ⟨w.heap.size,0,none⟩) (sl+n) c)
     {w1 with heap:=w.heap.push (.cells ⟨(AFl++news')++Bc z.cells.toList (c - (sl+n))⟩ en)}:=by
    have ho1:=hrun w1 rfl;have hn1:=AHQ w1 rfl;have AFm:q.forced=false:=rfl;simp only[CT,AJU,if_false,xh,run_typeInfo _ AGC,xU,AGJ,false_and,xk,hbt,hnx,ABL,run_choose,AFm,yT,run_askRoom];show((yf ei.size sl (.slice base' sl sc')).run P w1).andThen _=_;rw[ho1];simp only[xU];show(AEt.run P w1).andThen _=_;rw[hn1];have AHp:∀ a b:List IN,(⟨a⟩:Array IN)++(⟨b⟩:Array IN)=⟨a++b⟩:=fun a b=>by apply zF;simp
    simp only[xU,hzr,G3,AA9,xh,run_newObj,xk,AHp];rfl
   rw[key];exact⟨_,_,ψ,rfl,hv,H2,ev⟩
  ·
   cases base' with
   |none=>cases hs;omega
   |some a'=>
    obtain⟨w',ψ,hst,hv,H2,ev⟩:=AHo a' rfl hroom;have key:(CT en ei.size (some a') (.slice (some a') sl sc') sl sc' n AFg x' AEt).run P w=.ok (.slice (some a') (sl+n) sc') w':=by
     simp only[CT,hroom,if_true,xh,AHQ w rfl,xU,hst,xk]
    rw[key];exact⟨_,_,ψ,rfl,hv,H2,ev⟩
theorem J0{ats:Array ya}{dt st t el:ya}(h0:ats[0]? =some dt)(h1:ats[1]? =some st){ti xi:TI}(T:AEg P dt ti)(hk:ti.k=.slice el)(TX:AEg P st xi)(hx:(∃ q,xi.k=.slice q)\/xi.k=.string){ei:TI}(TE:AEg P el ei){base:Option ABb}{sl sc n:Nat}{x:IN}
  (hn:(ABy x).run P w=.ok n w):
  (zz ats t #[.slice base sl sc,x]).run P w=(CT el ei.size base (.slice base sl sc) sl sc n false x (yf ei.size n x)).run P w:=by
 obtain⟨d,hd,hkd⟩:=T.desc;rw[hk]at hkd;cases hkd;obtain⟨dx,hdx,hkx⟩:=TX.desc;rcases hx with ⟨q,hx⟩|hx<;>rw[hx]at hkx<;>cases hkx<;>
 ·unfold zz CT
  simp only[xh,hd,xU,TE.size,xk,h0,h1,yO,yW,yj,hdx,yT,if_false,hn,Bool.not_false,if_true];rfl
theorem Me(H:AEI ty φ E h w)(hE:∀ b,¬ E b){s x:O}{s' x':IN}{ats:Array ya}{dt st t el:ya}(h0:ats[0]? =some dt)(h1:ats[1]? =some st){ti xi ei:TI}(T:AEg P dt ti)(hk:ti.k=.slice el)(TX:AEg P st xi)(hxk:(∃ q,xi.k=.slice q)\/xi.k=.string)
  (hty:ty.get el=some ei)(TE:AEg P el ei)(hes:0<ei.size)(hz:ei.zero.length=ei.size)
  (hs:AEE φ (s e) s')(hx:AEE φ (x e) x')(hr:Bo ei.size ei.bytes el s x F e h=.ok v h'):Bp ty φ E h w v h' ((zz ats t #[s',x']).run P w):=by
 unfold Bo Dm at hr;split at hr
 case h_2=>cases hr
 rename_i base sl sc hse;rw[hse]at hs;split at hr
 case h_2=>cases hr
 rename_i n hn;obtain⟨news,news',hr,hnr,hrun,hl1,hl2,_⟩:=F6 (P:=P) H (fun _ _ _ _=>hE _) hx hr (fun m hm=>by rw[hn]at hm;cases hm;exact IT _);rw[Ap]at hr;have hlen:=Qd (P:=P) (w:=w) hx hn;have hb:∃ base' sc',s'=.slice base' sl sc':=by
  cases hs
  ·exact⟨_,_,rfl⟩
  ·exact⟨_,_,rfl⟩
 obtain⟨base',sc',rfl⟩:=hb;rw[J0 h0 h1 T hk TX hxk TE hlen];have hnl:news.length=n*ei.size:=by
  rw[<- hnr.length];cases x' with
  |string s=>obtain⟨q1,q2⟩:=hl2 s rfl;rw[q1,q2,Nat.mul_one]
  |slice a l c=>
   cases a with
   |some a=>exact hl1 a l c rfl
   |none=>
    have:=hrun w rfl;simp only[yf,xk]at this;cases this;have hn0:n=0:=by
     generalize x e=xv at hx hn;cases hx
     ·unfold lenV at hn;cases hn;rfl
     ·unfold lenV at hn;cases hn
    rw[hn0];simp
  |_=>have:=hrun w rfl;simp only[yf]at this;cases this
 refine IQ (P:=P) H hE hty TE hes hz hs hnr hnl hrun ?_;split at hr
 ·rename_i hb
  refine .inl ⟨_,Au.1 hb,rfl,?_⟩;exact hr
 ·rename_i hb
  obtain⟨hm,hr⟩:=Bx hr;obtain⟨hone,hr⟩:=Bx hr;refine .inr ⟨?_,hm,hone,QM hr⟩;rcases yG sc (sl+n)with h|h
  ·exact h
  ·exact absurd (Au.2 (show zH sl n<=sc from h)) (by rw[hb];simp)
theorem LD{ats:Array ya}{dt st t el:ya}(h0:ats[0]? =some dt)(h1:ats[1]? =some st){ti xi:TI}(T:AEg P dt ti)(hk:ti.k=.slice el)(TX:AEg P st xi){q:xy}(hx:xi.k=.int q){ei:TI}(TE:AEg P el ei){base:Option ABb}{sl sc n:Nat}{q':xy}
  (hn1:n<=70368744177664)(hn2:n*ei.bytes<=70368744177664):
  (zz ats t #[.slice base sl sc,.int q' (n:Nat)]).run P w=(CT el ei.size base (.slice base sl sc) sl sc n true (.int q' (n:Nat))
   (if n*ei.size=0 then pure #[]else do pure (ABM (<- zeroValue el).cells n))).run P w:=by
 obtain⟨d,hd,hkd⟩:=T.desc;rw[hk]at hkd;cases hkd;obtain⟨dx,hdx,hkx⟩:=TX.desc;rw[hx]at hkx;cases hkx;obtain⟨inf,AGC,hsz,hbt,_⟩:=TE.info;have w1:zk.wrap (n:Int)=n:=Hr (by omega);have q0:¬ ((n:Int)<0):=by omega
 have q1:¬ ((n:Int)*(ei.bytes:Int) > 2 ^ 48):=by rw[<- ADL];omega
 unfold zz CT;simp only[xh,hd,xU,TE.size,xk,yO,yW,yj,h0,h1,hdx,if_true,asInt,asIntOf,w1,q0,if_false,run_typeInfo _ AGC,hbt,q1,yy,Bool.not_true,yT];rfl
theorem Qr(H:AEI ty φ E h w)(hE:∀ b,¬ E b){s x:O}{s' x':IN}{ats:Array ya}{dt st t el:ya}(h0:ats[0]? =some dt)(h1:ats[1]? =some st){ti xi ei:TI}(T:AEg P dt ti)(hk:ti.k=.slice el)(TX:AEg P st xi){q:xy}(hxk:xi.k=.int q)
  (hty:ty.get el=some ei)(TE:AEg P el ei)(hes:0<ei.size)(hz:ei.zero.length=ei.size)
  (hs:AEE φ (s e) s')(hx:AEE φ (x e) x')(hr:FW ei.size ei.bytes el ei.zero s x F e h=.ok v h'):Bp ty φ E h w v h' ((zz ats t #[s',x']).run P w):=by
 unfold FW Ht at hr;split at hr
 case h_2=>cases hr
 rename_i base sl sc hse;rw[hse]at hs;split at hr
 case h_2=>cases hr
 rename_i n hn;obtain⟨q',rfl⟩:=E5 hx hn;rw[Ap]at hr;have hb:∃ base' sc',s'=.slice base' sl sc':=by
  cases hs
  ·exact⟨_,_,rfl⟩
  ·exact⟨_,_,rfl⟩
 obtain⟨base',sc',rfl⟩:=hb;obtain⟨hm,hr⟩:=Bx hr;obtain⟨hone,hr⟩:=Bx hr;obtain⟨hm1,hm2⟩:=VJ hm;have AKj:sl+n<=70368744177664:=hm1;have AKk:(sl+n+1)*(ei.bytes+1)<=70368744177664:=hm2;have hnb:n*ei.bytes<=(sl+n+1)*(ei.bytes+1):=AB7 (by omega) (by omega);rw[LD h0 h1 T hk TX hxk TE (by omega) (by omega)];obtain⟨z,_,hzr,hzc,hzp⟩:=TE.AFH hz;have hzs:z.cells.size=ei.size:=by rw[<- hz,<- hzc];simp
 have AEp:AEV φ (Bc ei.zero n) (Bc ei.zero n):=Hl (.plain hzp) n;have hnl:(Bc ei.zero n).length=n*ei.size:=by rw[F4,hz]
 have AHq:Ba (Bc ei.zero n)=true:=by
  have app:∀ a b:List IN,Ba a=true->Ba b=true->Ba (a++b)=true:=by
   intro a
   induction a with
   |nil=>intro b _ h;exact h
   |cons u a ih=>
    intro b h1 h2;unfold Ba at h1;cases hu:oneCell u with
    |false=>rw[hu]at h1;cases h1
    |true=>
     rw[hu]at h1;show(bif oneCell u then Ba (a++b)else false)=true;rw[hu];exact ih b h1 h2
  have:∀ n,Ba (Bc ei.zero n)=true:=by
   intro n
   induction n with
   |zero=>rfl
   |succ n ih=>exact app _ _ hone ih
  exact this n
 refine IQ (P:=P) H hE hty TE hes hz hs AEp hnl (fun w' _=>?_) ?_
 ·by_cases h0:n*ei.size=0
  ·rw[if_pos h0]
   have:Bc ei.zero n=[]:=zi.1 (by rw[hnl,h0]);rw[this];rfl
  ·rw[if_neg h0]
   simp only[xh,hzr,xU,G3,hzc,xk]
 ·split at hr
  ·rename_i hb
   exact .inl ⟨_,Au.1 hb,rfl,hr⟩
  ·rename_i hb
   refine .inr ⟨?_,hm,AHq,QM hr⟩;rcases yG sc (sl+n)with h|h
   ·exact h
   ·exact absurd (Au.2 (show zH sl n<=sc from h)) (by rw[hb];simp)
end
end
end Go.Proofs.YtbjadbhkogcfeaaGreat

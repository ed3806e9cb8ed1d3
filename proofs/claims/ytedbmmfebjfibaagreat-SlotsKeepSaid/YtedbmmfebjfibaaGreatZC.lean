/-
  Part ZC of what Lawke stands on: printed by program, names and spaces cut.
-/
import Derived.Test.YtedbmmfebjfibaaGreatZB
import GoSem.Dispatch
import Derived.WideShapes
import Derived.Sort.Walk0
open Go renaming Value→IN,IntKind→wH,Operand→wV,World→wb,TypeId→we,Program→xD,newRow→AAe,Addr→ABF,BinOp→ACo
open Nat renaming le_refl→IT,succ→vo,ble→vx,beq→wB,lt_or_ge→wN,zero_le→wP,mul→wY,le_trans→wd,eq_zero_or_pos→wg,blt→wz,add→xc,beq_refl→xu,add_zero→yc,zero_mul→zB,succ_mul→zW,mod_eq_of_lt→zc,le_of_eq→AAB,min_le_left→AAK,add_mul→AAn,not_lt→AAx,le_mul_of_pos_right→ABf,succ_ne_zero→ACf,sub_zero→ACg
open Go.Result renaming andThen_ok→If,ok→ADT
open List renaming getElem?_eq_getElem→sh,length_cons→vw,getElem?_append_left→wD,append_nil→wF,getElem?_toArray→wO,getElem?_append_right→wQ,getElem?_cons_zero→wR,getElem?_cons_succ→wy,getElem?_map→xH,getElem?_eq_none→xd,extract_eq_take_drop→zV,length_eq_zero_iff→zt
open Go.Sem renaming run_bind→vq,run_pure→vt,run_ite→zz
open Bool renaming and_eq_true→wJ,false_eq_true→wW,eq_iff_iff→yL,rec→zD,not_eq_true'→AAf,or_eq_false_iff→AB2
open Go.Builtin renaming firstCells→w9,nextslicecap→zA,growBy→zP,copy_→za,lenOf→ACZ
open Array renaming ext'→xG,range→AAJ
open Int renaming toNat_natCast→xI,ofNat_eq_natCast→yE,rec→zR
open Option renaming map_some→xa,isSome_iff_exists→AA4,map_none→ACI
open Go.Instr renaming sliceAt→xe,sliceBounds→yQ,indexAt→zH,loadAt→zS,build→zf,buildSlice→zh,makeSlice→zp,makeInterface→AAH,index→AAI,extract→AAd,fill→ABD,fieldAt→ABM,arrayAt→ABN,slice→ABz,sliceBound→ACO,storeAt→ACw,field→ADJ,alloc→ADK
open Go.IntKind renaming i64→yK,u8→AA7
open Std renaming lt_irrefl→AAX,lt_trichotomy→ACR,lt_trans→ADS
open Go.Value renaming bool→AAj
open UInt8 renaming lt_iff_toNat_lt→ABc,toNat_inj→ACQ
open Go.Op renaming unary→ABm,bytesLess→ADh,stringOp→ADu,intArith→ADv,intBits→AD5
open BitVec renaming toNat_xor→ACF,ofInt→ACy
open Go.ByteArray renaming toList_eq→AD9
set_option linter.unusedVariables false
set_option linter.unusedSimpArgs false
namespace Go.Proofs.YtedbmmfebjfibaaGreat
noncomputable section
open Go
section
variable {P:xD}{U:TTy}{φ:Phi}{E:Nat->Prop}{h h':Hp}{w:wb}{F:AEB}{e:Env}{v:IN}
theorem I9{b:Bool}(hr:okB b h=.ok v h'):v=.bool b/\h'=h:=by cases b<;>cases hr<;>exact⟨rfl,rfl⟩
theorem El(k:wH)(n:Int)(h:Hp):okI k n h=.ok (.int k n) h:=by
 cases n with
 |ofNat m=>cases m<;>rfl
 |negSucc m=>show AEU m (fun m=>R.ok (.int k (.negSucc m)) h)=_;rw[AZ]
theorem Em{k:wH}{n:Int}(hr:okI k n h=.ok v h'):v=.int k n/\h'=h:=by
 rw[El]at hr;cases hr;exact⟨rfl,rfl⟩
theorem qD(a b:Nat):iLt (.ofNat a) (.ofNat b)=wz a b:=rfl
theorem qC(a b:Nat):iLt (.ofNat a) (.negSucc b)=false:=rfl
theorem qB(a b:Nat):iLt (.negSucc a) (.ofNat b)=true:=rfl
theorem qA(a b:Nat):iLt (.negSucc a) (.negSucc b)=wz b a:=rfl
theorem pz(a b:Nat):iEq (.ofNat a) (.ofNat b)=wB a b:=rfl
theorem py(a b:Nat):iEq (.ofNat a) (.negSucc b)=false:=rfl
theorem px(a b:Nat):iEq (.negSucc a) (.ofNat b)=false:=rfl
theorem pu(a b:Nat):iEq (.negSucc a) (.negSucc b)=wB a b:=rfl
theorem C4(a b:Int):iLt a b=decide (a<b):=by
 cases a<;>cases b<;>simp only[qD,qC,qB,qA]
 ·rename_i a b
  rw[yL,BD,decide_eq_true_iff];exact Int.ofNat_lt.symm
 ·simp only[yE];symm;rw[decide_eq_false_iff_not];omega
 ·simp only[yE];symm;rw[decide_eq_true_iff];omega
 ·rename_i a b
  rw[yL,BD,decide_eq_true_iff];omega
theorem EM(a b:Int):iEq a b=(a == b):=by
 cases a<;>cases b<;>simp only[pz,py,px,pu]
 ·rename_i a b
  rw[yL,Am,beq_iff_eq];simp only[yE];omega
 ·simp only[yE];symm;rw[beq_eq_false_iff_ne];omega
 ·simp only[yE];symm;rw[beq_eq_false_iff_ne];omega
 ·rename_i a b
  rw[yL,Am,beq_iff_eq];omega
theorem dp(k:wH):((BC k:Nat):Int)<2 ^ k.bits/\(k.signed=true->((BC k:Nat):Int)<2 ^ (k.bits - 1)):=by
 cases k<;>decide
theorem DN(k:wH)(m:Nat)(h:m<=BC k):k.wrap (m:Int)=m:=by
 have h1:=dp k;unfold IntKind.wrap;have e:((m:Int)) % (2 ^ k.bits:Int)=m:=Int.emod_eq_of_lt (by omega) (by omega);rw[e];simp only;rw[if_neg];intro hh;simp only[wJ,decide_eq_true_eq]at hh;have:=h1.2 hh.1;omega
theorem C1(k:wH)(n:Int):EU k n=k.wrap n:=by
 cases n with
 |ofNat m=>
  show zD (motive:=fun _=>Int) (k.wrap (.ofNat m)) (.ofNat m) (vx m (BC k))=_;cases hb:vx m (BC k)with
  |false=>rfl
  |true=>exact(DN k m (Ac.1 hb)).symm
 |negSucc m=>rfl
theorem H5{a b:wH}(h:Fj a b=true):b=a:=by
 have:=Am.1 h;cases a<;>cases b<;>first|rfl|(exact absurd this (by decide))
theorem FK{k:wH}{x:IN}{n:Int}(h:Ce k x=.ok n):x=.int k n:=by
 cases x<;>first|(cases h;done)|skip
 rename_i q m;have h:zD (motive:=fun _=>NI) .no (.ok m) (Fj k q)=.ok n:=h;cases hs:Fj k q with
 |false=>rw[hs]at h;cases h
 |true=>rw[hs]at h;cases h;rw[H5 hs]
theorem iH{k:wH}{x:IN}{n:Nat}(h:Fw k x=.ok n):x=.int k n:=by
 cases x<;>first|(cases h;done)|skip
 rename_i q m;have h:zD (motive:=fun _=>NN) .no (zR (motive:=fun _=>NN) (fun m=>.ok m) (fun _=>.no) m) (Fj k q)=.ok n:=h;cases hs:Fj k q with
 |false=>rw[hs]at h;cases h
 |true=>
  rw[hs]at h;cases m with
  |ofNat m=>cases h;rw[H5 hs];rfl
  |negSucc m=>cases h
theorem WN{x:IN}{n:Int}(h:X0 x=.ok n):∃ k,x=.int k n:=by
 cases x<;>first|(cases h;done)|(cases h;exact⟨_,rfl⟩)
theorem iI{x:IN}{n:Nat}(h:DE x=.ok n):∃ k,x=.int k n:=by
 cases x<;>first|(cases h;done)|skip
 rename_i q m;cases m with
 |ofNat m=>cases h;exact⟨_,rfl⟩
 |negSucc m=>cases h
theorem IB{x:IN}{a:ABF}(h:Dq x=.ok a):x=.pointer (some a):=by
 cases x<;>first|(cases h;done)|skip
 rename_i o;cases o with
 |none=>cases h
 |some a=>cases h;rfl
theorem AED.AEj{k:wH}{n:Int}{x:IN}(h:AED φ (.int k n) x):x=.int k n:=by cases h;rfl
theorem AED.AE7{b:Bool}{x:IN}(h:AED φ (.bool b) x):x=.bool b:=by cases h;rfl
theorem AED.AEZ{s:ByteArray}{x:IN}(h:AED φ (.string s) x):x=.string s:=by cases h;rfl
theorem AED.AFI{a:ABF}{x:IN}(h:AED φ (.pointer (some a)) x):∃ a',x=.pointer (some a')/\AFY φ a a':=by
 cases h with|ptr h=>exact⟨_,rfl,h⟩
def Br(op:ACo)(t:we)(X Y:wV)(a b:IN):Sem IN:=do eqGuard op t X Y a b;binOp op t a b
theorem FP(op:ACo)(t:we)(X Y:wV)(j k:wH)(m n:Int):(eqGuard op t X Y (.int j m) (.int k n)).run P w=.ok () w:=by cases op<;>rfl
theorem OS(op:ACo)(t:we)(X Y:wV)(m n:ByteArray):(eqGuard op t X Y (.string m) (.string n)).run P w=.ok () w:=by cases op<;>rfl
theorem SK(H:AEG U φ E h w){x:O}{x':IN}(hx:AED φ (x e) x')(hr:AP x F e h=.ok v h'):BR U φ E h w v h' (.ok x' w):=by
 unfold AP at hr;rw[E9]at hr;cases hr;exact .same H hx
theorem cR(H:AEG U φ E h w){c a b:O}{c' a' b':IN}(hc:AED φ (c e) c')(ha:AED φ (a e) a')(hb:AED φ (b e) b')(hr:A0 c a b F e h=.ok v h'):
  BR U φ E h w v h' ((do pure (if <- asBool c' then a' else b'):Sem IN).run P w):=by
 unfold A0 at hr;cases hce:c e with
 |bool t=>
  rw[hce]at hr hc;obtain rfl:=hc.AE7;cases t with
  |false=>
   have hr:AFX (b e) h=.ok v h':=hr;rw[E9]at hr;cases hr;exact .same H hb
  |true=>
   have hr:AFX (a e) h=.ok v h':=hr;rw[E9]at hr;cases hr;exact .same H ha
 |_=>rw[hce]at hr;cases hr
theorem pC(H:AEG U φ E h w){f:Int->Int->Bool}{k:wH}{x y:O}{x' y':IN}(hx:AED φ (x e) x')(hy:AED φ (y e) y')(hr:Ai f k x y F e h=.ok v h'):
  ∃ m n,x'=.int k m/\y'=.int k n/\v=.bool (f m n)/\h'=h:=by
 unfold Ai fT at hr;cases h1:Ce k (x e)with
 |no=>rw[h1]at hr;cases hr
 |ok m=>
  cases h2:Ce k (y e)with
  |no=>rw[h1,h2]at hr;cases hr
  |ok n=>
   rw[h1,h2]at hr;rw[FK h1]at hx;rw[FK h2]at hy;obtain⟨r1,r2⟩:=I9 hr;exact⟨m,n,hx.AEj,hy.AEj,r1,r2⟩
theorem IW(H:AEG U φ E h w){f:Int->Int->Bool}{op:ACo}(hop:(f=iEq/\op=.eql)\/(f=iNe/\op=.neq)\/(f=iLt/\op=.lss)\/(f=iLe/\op=.leq)\/(f=iGt/\op=.gtr)\/(f=iGe/\op=.geq))
  {k:wH}{x y:O}{x' y':IN}{t:we}{X Y:wV}(hx:AED φ (x e) x')(hy:AED φ (y e) y')(hr:Ai f k x y F e h=.ok v h'):BR U φ E h w v h' ((Br op t X Y x' y').run P w):=by
 obtain⟨m,n,rfl,rfl,rfl,rfl⟩:=pC H hx hy hr;have key:(Br op t X Y (.int k m) (.int k n)).run P w=.ok (.bool (f m n)) w:=by
  unfold Br;rw[vq,FP,If];rcases hop with ⟨rfl,rfl⟩|⟨rfl,rfl⟩|⟨rfl,rfl⟩|⟨rfl,rfl⟩|⟨rfl,rfl⟩|⟨rfl,rfl⟩<;>
   simp only[binOp,ne_eq,not_true_eq_false,if_false,Op.intCmp,vt,ADT.injEq,AAj.injEq,and_true,iNe,iLe,iGt,iGe,C4,EM]
  ·rfl
  ·rw[yL];simp only[decide_eq_true_iff,AAf,decide_eq_false_iff_not];omega
  ·rw[yL];simp only[decide_eq_true_iff,AAf,decide_eq_false_iff_not];omega
 rw[key];exact .same H (.bool _)
theorem XH{k:wH}{x y:O}{x' y':IN}(hx:AED φ (x e) x')(hy:AED φ (y e) y'){g:Int->Int->R}{r:R}
  (hr:NI.rec (motive:=fun _=>R) .no (fun a=>NI.rec (motive:=fun _=>R) .no (fun b=>g a b) (Ce k (y e))) (Ce k (x e))=r)(hne:r≠.no):
  ∃ m n,x'=.int k m/\y'=.int k n/\g m n=r:=by
 cases h1:Ce k (x e)with
 |no=>rw[h1]at hr;exact absurd hr.symm hne
 |ok m=>
  cases h2:Ce k (y e)with
  |no=>rw[h1,h2]at hr;exact absurd hr.symm hne
  |ok n=>
   rw[h1,h2]at hr;rw[FK h1]at hx;rw[FK h2]at hy;exact⟨m,n,hx.AEj,hy.AEj,hr⟩
theorem WZ(H:AEG U φ E h w){f:Int->Int->Int}{op:ACo}(hop:(f=Int.sub/\op=.sub)\/(f=Int.mul/\op=.mul))
  {k:wH}{x y:O}{x' y':IN}{t:we}{X Y:wV}(hx:AED φ (x e) x')(hy:AED φ (y e) y')(hr:Cr f k x y F e h=.ok v h'):BR U φ E h w v h' ((Br op t X Y x' y').run P w):=by
 obtain⟨m,n,rfl,rfl,hg⟩:=XH hx hy hr (by intro h;cases h);obtain⟨rfl,rfl⟩:=Em hg;have key:(Br op t X Y (.int k m) (.int k n)).run P w=.ok (.int k (EU k (f m n))) w:=by
  unfold Br;rw[vq,FP,If,C1];rcases hop with ⟨rfl,rfl⟩|⟨rfl,rfl⟩<;>
   simp only[binOp,ne_eq,not_true_eq_false,if_false,ADv,vt]<;>rfl
 rw[key];exact .same H (.int _ _)
theorem AFF{k:wH}{a b:Int}(hr:zR (motive:=fun _=>R) (fun x=>zR (motive:=fun _=>R)
   (fun y=>zD (motive:=fun _=>R) (okI k (k.wrap (a+b)) h) (AEU (xc x y) fun n=>.ok (.int k (.ofNat n)) h) (vx (xc x y) (BC k)))
   (fun _=>okI k (EU k (a+b)) h) b)
   (fun _=>okI k (EU k (a+b)) h) a=.ok v h'):v=.int k (k.wrap (a+b))/\h'=h:=by
 cases a with
 |negSucc a=>
  have:=Em hr;rw[C1]at this;exact this
 |ofNat a=>
  cases b with
  |negSucc b=>have:=Em hr;rw[C1]at this;exact this
  |ofNat b=>
   simp only at hr;cases hb:vx (xc a b) (BC k)with
   |false=>rw[hb]at hr;exact Em hr
   |true=>
    rw[hb]at hr;simp only[AZ]at hr;cases hr;refine⟨?_,rfl⟩;have:=DN k (a+b) (Ac.1 hb);simp only[yE];rw[<- Int.natCast_add,this];rfl
theorem iO(H:AEG U φ E h w){k:wH}{x y:O}{x' y':IN}{t:we}{X Y:wV}(hx:AED φ (x e) x')(hy:AED φ (y e) y')(hr:CG k (BC k) x y F e h=.ok v h'):
  BR U φ E h w v h' ((Br .add t X Y x' y').run P w):=by
 obtain⟨m,n,rfl,rfl,hg⟩:=XH hx hy hr (by intro h;cases h);obtain⟨rfl,rfl⟩:=AFF hg;have key:(Br .add t X Y (.int k m) (.int k n)).run P w=.ok (.int k (k.wrap (m+n))) w:=by
  unfold Br;rw[vq,FP,If];simp only[binOp,ne_eq,not_true_eq_false,if_false,ADv,vt]
 rw[key];exact .same H (.int _ _)
theorem RL{n:Int}(hb:iEq n 0=false):n≠0:=by
 rw[EM]at hb;simpa using hb
theorem ii(H:AEG U φ E h w){k:wH}{x y:O}{x' y':IN}{t:we}{X Y:wV}(hx:AED φ (x e) x')(hy:AED φ (y e) y')(hr:Lj k x y F e h=.ok v h'):
  BR U φ E h w v h' ((Br .quo t X Y x' y').run P w):=by
 unfold Lj aJ at hr;split at hr
 case h_2=>cases hr
 rename_i m h1;split at hr
 case h_2=>cases hr
 rename_i n h2;rw[FK h1]at hx;rw[FK h2]at hy;obtain rfl:=hx.AEj;obtain rfl:=hy.AEj;cases hb:iEq n 0 with
 |true=>rw[hb]at hr;cases hr
 |false=>
  rw[hb]at hr;obtain⟨rfl,rfl⟩:=Em hr;have key:(Br .quo t X Y (.int k m) (.int k n)).run P w=.ok (.int k (EU k (m.tdiv n))) w:=by
   unfold Br;rw[vq,FP,If,C1];simp only[binOp,ne_eq,not_true_eq_false,if_false,Op.intDiv,RL hb,vt]
  rw[key];exact .same H (.int _ _)
theorem jB(H:AEG U φ E h w){k:wH}{x y:O}{x' y':IN}{t:we}{X Y:wV}(hx:AED φ (x e) x')(hy:AED φ (y e) y')(hr:N1 k x y F e h=.ok v h'):
  BR U φ E h w v h' ((Br .rem t X Y x' y').run P w):=by
 unfold N1 dG at hr;split at hr
 case h_2=>cases hr
 rename_i m h1;split at hr
 case h_2=>cases hr
 rename_i n h2;rw[FK h1]at hx;rw[FK h2]at hy;obtain rfl:=hx.AEj;obtain rfl:=hy.AEj;cases hb:iEq n 0 with
 |true=>rw[hb]at hr;cases hr
 |false=>
  rw[hb]at hr;obtain⟨rfl,rfl⟩:=Em hr;have key:(Br .rem t X Y (.int k m) (.int k n)).run P w=.ok (.int k (m.tmod n)) w:=by
   unfold Br;rw[vq,FP,If];simp only[binOp,ne_eq,not_true_eq_false,if_false,Op.intDiv,RL hb,vt]
  rw[key];exact .same H (.int _ _)
theorem i9(H:AEG U φ E h w){x:O}{x':IN}(hx:AED φ (x e) x')(hr:Ds x F e h=.ok v h'):BR U φ E h w v h' ((ABm .not x').run P w):=by
 unfold Ds at hr;split at hr
 ·rename_i b hb
  rw[hb]at hx;obtain rfl:=hx.AE7;obtain⟨rfl,rfl⟩:=I9 hr;exact .same H (.bool _)
 ·cases hr
theorem iw(H:AEG U φ E h w){k:wH}{x:O}{x':IN}(hx:AED φ (x e) x')(hr:cL k x F e h=.ok v h'):BR U φ E h w v h' ((ABm .neg x').run P w):=by
 unfold cL at hr;split at hr
 ·rename_i n hn
  rw[FK hn]at hx;obtain rfl:=hx.AEj;obtain⟨rfl,rfl⟩:=Em hr;rw[C1];exact .same H (.int _ _)
 ·cases hr
theorem bt(H:AEG U φ E h w){k:wH}{x:O}{x':IN}(hx:AED φ (x e) x')(hr:Cm k x F e h=.ok v h'):
  ∃ q n,x'=.int q n/\BR U φ E h w v h' ((Conv.intToInt k n).run P w):=by
 unfold Cm at hr;split at hr
 ·rename_i n hn
  obtain⟨q,hq⟩:=WN hn;rw[hq]at hx;obtain rfl:=hx.AEj;obtain⟨rfl,rfl⟩:=Em hr;rw[C1];exact⟨q,n,rfl,.same H (.int _ _)⟩
 ·cases hr
end
end
noncomputable section
open Go
section
variable {P:xD}{U:TTy}{φ:Phi}{E:Nat->Prop}{h h':Hp}{w:wb}{F:AEB}{e:Env}{v:IN}
def KA:wH->Nat
 |.i8=>7|.i16=>15|.i32=>31|.i64=>63|.u8=>8|.u16=>16|.u32=>32|.u64=>64
theorem TL(k:wH):BC k+1=2 ^ KA k:=by cases k<;>rfl
theorem U8(k:wH):KA k<=k.bits:=by cases k<;>decide
theorem K8{k:wH}{a:Nat}(ha:a<=BC k):(ACy k.bits (a:Int)).toNat=a:=by
 have h1:=TL k;have h2:2 ^ KA k<=2 ^ k.bits:=Nat.pow_le_pow_right (by omega) (U8 k);rw[BitVec.ofInt_natCast,BitVec.toNat_ofNat,zc (by omega)]
theorem EP{x:O}{x':IN}(hx:AED φ (x e) x'){n:Nat}(h:DE (x e)=.ok n):∃ k,x'=.int k n:=by
 obtain⟨k,hk⟩:=iI h;rw[hk]at hx;exact⟨k,hx.AEj⟩
theorem Hu{k:wH}{x:O}{x':IN}(hx:AED φ (x e) x'){n:Nat}(h:Fw k (x e)=.ok n):x'=.int k n:=by
 rw[iH h]at hx;exact hx.AEj
theorem P5(H:AEG U φ E h w){f:Nat->Nat->Nat}{op:ACo}(hop:(f=Nat.land/\op=.and)\/(f=Nat.lor/\op=.or)\/(f=Nat.xor/\op=.xor))
  {k:wH}{x y:O}{x' y':IN}{t:we}{X Y:wV}(hx:AED φ (x e) x')(hy:AED φ (y e) y')(hr:K4 f k x y F e h=.ok v h'):BR U φ E h w v h' ((Br op t X Y x' y').run P w):=by
 unfold K4 ZE at hr;split at hr
 case h_2=>cases hr
 rename_i a h1;split at hr
 case h_2=>cases hr
 rename_i b h2;obtain⟨ha,hr⟩:=Bp hr;obtain⟨hb,hr⟩:=Bp hr;obtain rfl:=Hu hx h1;obtain rfl:=Hu hy h2;obtain⟨rfl,rfl⟩:=Em hr;have ha:=Ac.1 ha;have hb:=Ac.1 hb;have ea:=K8 ha;have eb:=K8 hb;have ht:=TL k;have key:(Br op t X Y (.int k a) (.int k b)).run P w=.ok (.int k (.ofNat (f a b))) w:=by
  unfold Br;rw[vq,FP,If];rcases hop with ⟨rfl,rfl⟩|⟨rfl,rfl⟩|⟨rfl,rfl⟩<;>
   simp only[binOp,ne_eq,not_true_eq_false,if_false,AD5,vt,BitVec.toNat_and,BitVec.toNat_or,ACF,ea,eb]
  ·have:a &&& b<=BC k:=wd Nat.and_le_left ha
   rw[DN k _ this];rfl
  ·have:a ||| b<2 ^ KA k:=Nat.or_lt_two_pow (by omega) (by omega)
   rw[DN k _ (by omega)];rfl
  ·have:a ^^^ b<2 ^ KA k:=Nat.xor_lt_two_pow (by omega) (by omega)
   rw[DN k _ (by omega)];rfl
 rw[key];exact .same H (.int _ _)
theorem RJ(op:ACo)(hop:op=.shl\/op=.shr)(t:we)(X Y:wV)(a b:IN):(eqGuard op t X Y a b).run P w=.ok () w:=by
 rcases hop with rfl|rfl<;>rfl
theorem jD(H:AEG U φ E h w){k:wH}{x y:O}{x' y':IN}{t:we}{X Y:wV}(hx:AED φ (x e) x')(hy:AED φ (y e) y')(hr:N2 k x y F e h=.ok v h'):
  BR U φ E h w v h' ((Br .shl t X Y x' y').run P w):=by
 unfold N2 dQ at hr;split at hr
 case h_2=>cases hr
 rename_i a h1;split at hr
 case h_2=>cases hr
 rename_i b h2;obtain rfl:=Hu hx h1;obtain⟨q,rfl⟩:=EP hy h2;obtain⟨rfl,rfl⟩:=Em hr;have key:(Br .shl t X Y (.int k a) (.int q b)).run P w=.ok (.int k (k.wrap (.ofNat (a*2 ^ (min b k.bits))))) w:=by
  unfold Br;rw[vq,RJ _ (.inl rfl),If];have:¬ ((b:Int)<0):=by omega
  simp only[binOp,Op.shift,this,if_false,vt,xI];simp
 rw[key,C1,BM];exact .same H (.int _ _)
theorem jF(H:AEG U φ E h w){k:wH}{x y:O}{x' y':IN}{t:we}{X Y:wV}(hx:AED φ (x e) x')(hy:AED φ (y e) y')(hr:Lk k x y F e h=.ok v h'):
  BR U φ E h w v h' ((Br .shr t X Y x' y').run P w):=by
 unfold Lk dR at hr;split at hr
 case h_2=>cases hr
 rename_i a h1;split at hr
 case h_2=>cases hr
 rename_i b h2;obtain rfl:=Hu hx h1;obtain⟨q,rfl⟩:=EP hy h2;obtain⟨rfl,rfl⟩:=Em hr;have key:(Br .shr t X Y (.int k a) (.int q b)).run P w=.ok (.int k (.ofNat (a/2 ^ (min b k.bits)))) w:=by
  unfold Br;rw[vq,RJ _ (.inr rfl),If];have:¬ ((b:Int)<0):=by omega
  simp only[binOp,Op.shift,this,if_false,vt,xI]
  congr 2
  have e2:((2:Int) ^ min b k.bits)=((2 ^ min b k.bits:Nat):Int):=by simp
  rw[e2,Int.fdiv_eq_ediv_of_nonneg _ (Int.natCast_nonneg _)];rfl
 rw[key,BM];exact .same H (.int _ _)
theorem MS:∀ x y:List UInt8,bEq x y=(x == y)
 |[],[]=>rfl
 |[],_::_=>rfl
 |_::_,[]=>rfl
 |a::x,b::y=>by
  have ih:=MS x y;unfold bEq;rw[ih,List.cons_beq_cons];cases hab:wB a.toNat b.toNat with
  |true=>
   have:a=b:=ACQ.1 (Am.1 hab);simp[this]
  |false=>
   have:a≠b:=fun h=>by rw[h]at hab;rw[xu]at hab;cases hab
   simp[this]
theorem ZA:∀ x y:List UInt8,bLt x y=ADh x y
 |[],[]=>rfl
 |[],_::_=>rfl
 |_::_,[]=>rfl
 |a::x,b::y=>by
  have ih:=ZA x y;unfold bLt ADh;rw[ih];cases hlt:wz a.toNat b.toNat with
  |true=>
   have:a<b:=ABc.2 (BD.1 hlt);simp[this]
  |false=>
   have:¬ a<b:=fun h=>by rw[BD.2 (ABc.1 h)]at hlt;cases hlt
   cases hab:wB a.toNat b.toNat with
   |true=>
    have:a=b:=ACQ.1 (Am.1 hab);simp[this]
   |false=>
    have h2:a≠b:=fun h=>by rw[h]at hab;rw[xu]at hab;cases hab
    simp[this,h2]
theorem vT{f:List UInt8->List UInt8->Bool}{x y:O}{x' y':IN}(hx:AED φ (x e) x')(hy:AED φ (y e) y')(hr:Jt f x y F e h=.ok v h'):
  ∃ a b,x'=.string a/\y'=.string b/\v=.bool (f a.data.toList b.data.toList)/\h'=h:=by
 unfold Jt da at hr;split at hr
 case h_2=>cases hr
 rename_i a h1;split at hr
 case h_2=>cases hr
 rename_i b h2;rw[h1]at hx;rw[h2]at hy;obtain⟨r1,r2⟩:=I9 hr;exact⟨a,b,hx.AEZ,hy.AEZ,r1,r2⟩
theorem IY(H:AEG U φ E h w){f:List UInt8->List UInt8->Bool}{op:ACo}
  (hop:(f=bEq/\op=.eql)\/(f=(fun a b=> !bEq a b)/\op=.neq)\/(f=bLt/\op=.lss)\/(f=(fun a b=>bLt b a)/\op=.gtr)\/(f=(fun a b=> !bLt b a)/\op=.leq)\/(f=(fun a b=> !bLt a b)/\op=.geq))
  {x y:O}{x' y':IN}{t:we}{X Y:wV}(hx:AED φ (x e) x')(hy:AED φ (y e) y')(hr:Jt f x y F e h=.ok v h'):BR U φ E h w v h' ((Br op t X Y x' y').run P w):=by
 obtain⟨a,b,rfl,rfl,rfl,rfl⟩:=vT hx hy hr;have key:(Br op t X Y (.string a) (.string b)).run P w=.ok (.bool (f a.data.toList b.data.toList)) w:=by
  unfold Br;rw[vq,OS,If];rcases hop with ⟨rfl,rfl⟩|⟨rfl,rfl⟩|⟨rfl,rfl⟩|⟨rfl,rfl⟩|⟨rfl,rfl⟩|⟨rfl,rfl⟩<;>
   simp only[binOp,ADu,vt,ADT.injEq,AAj.injEq,and_true,MS,ZA,AD9]
  all_goals
   rw[bytesLess_eq,bytesLess_eq,yL];simp only[AAf,AB2,Bool.or_eq_true,decide_eq_true_iff,decide_eq_false_iff_not,beq_iff_eq,beq_eq_false_iff_ne]
  ·constructor
   ·rintro⟨h1,h2⟩
    rcases ACR a.data.toList b.data.toList with h|h|h
    ·exact absurd h h1
    ·exact absurd h h2
    ·exact h
   ·intro h
    exact⟨fun h2=>absurd (ADS h h2) (AAX),fun h2=>by rw[h2]at h;exact AAX h⟩
  ·constructor
   ·rintro (h1|h1) h
    ·exact AAX (ADS h h1)
    ·rw[h1]at h;exact AAX h
   ·intro h1
    rcases ACR a.data.toList b.data.toList with h|h|h
    ·exact .inl h
    ·exact .inr h
    ·exact absurd h h1
 rw[key];exact .same H (.bool _)
theorem Hc{a:ByteArray}{l:List UInt8}(h:a.data.toList=l):a=⟨⟨l⟩⟩:=by
 cases a;rename_i d;cases d;simp at h;rw[h]
theorem iY(H:AEG U φ E h w){x y:O}{x' y':IN}{t:we}{X Y:wV}(hx:AED φ (x e) x')(hy:AED φ (y e) y')(hr:iW x y F e h=.ok v h'):
  BR U φ E h w v h' ((Br .add t X Y x' y').run P w):=by
 unfold iW fO at hr;split at hr
 case h_2=>cases hr
 rename_i a h1;split at hr
 case h_2=>cases hr
 rename_i b h2;rw[h1]at hx;rw[h2]at hy;obtain rfl:=hx.AEZ;obtain rfl:=hy.AEZ;obtain⟨hb,hr⟩:=Bp hr;cases hr;have hb:=Ac.1 hb;rw[BL,BL]at hb;have key:(Br .add t X Y (.string a) (.string b)).run P w=.ok (.string (a++b)) w:=by
  unfold Br;rw[vq,OS,If];have e1:a.size=a.data.toList.length:=rfl;have e2:b.size=b.data.toList.length:=rfl;have:¬ ((a.size+b.size:Nat):Int) > yK.max:=by
   rw[e1,e2];have h1:yK.max=9223372036854775807:=by decide
   have h2:most=1099511627776:=rfl;rw[h1];rw[h2]at hb;have h3:a.data.toList.length+b.data.toList.length<=1099511627776:=hb;omega
  simp only[binOp,ADu,this,if_false,vt]
 rw[key,<- Hc (a:=a++b) (l:=a.data.toList++b.data.toList) (by simp)];exact .same H (.string _)
theorem ib(H:AEG U φ E h w){x:O}{x':IN}(hx:AED φ (x e) x')(hr:bz x F e h=.ok v h'):BR U φ E h w v h' ((ABm .xor x').run P w):=by
 unfold bz at hr;split at hr
 ·rename_i n hn
  obtain rfl:=Hu hx hn;obtain⟨hb,hr⟩:=Bp hr;have hb:=Ac.1 hb;obtain⟨rfl,rfl⟩:=Em hr;have key:(ABm .xor (.int .u8 n)).run P w=.ok (.int .u8 (.ofNat (255 - n))) w:=by
   simp only[ABm,AD5,vt,ACF];have ea:=K8 (k:=.u8) hb;have e1:(ACy AA7.bits (if AA7.signed then -1 else AA7.max)).toNat=255:=by decide
   rw[e1,ea];have e2:255 ^^^ n=255 - n:=by
    have:∀ n:Fin 256,255 ^^^ n.val=255 - n.val:=by decide +kernel
    exact this ⟨n,by omega⟩
   rw[e2,DN .u8 (255 - n) (by show _<=255;omega)];rfl
  rw[key];exact .same H (.int _ _)
 ·cases hr
end
end
noncomputable section
open Go
section
variable {P:xD}{U:TTy}{φ:Phi}{E:Nat->Prop}{h h':Hp}{w:wb}{F:AEB}{e:Env}{v:IN}
theorem F0{x:O}{x':IN}(hx:AED φ (x e) x'){a:ABF}(h:Dq (x e)=.ok a):∃ a',x'=.pointer (some a')/\AFY φ a a':=by
 rw[IB h]at hx;exact hx.AFI
theorem Gh(a:ABF):(Instr.sureAddr (.pointer (some a))).run P w=.ok a w:=rfl
theorem YQ(H:AEG U φ E h w){x:O}{x':IN}{t:we}{ti:TI}(T:AEd P t ti)(AGg:ti.k.agg=false)(hx:AED φ (x e) x')
  (hE:∀ a,x e=.pointer (some a)->¬ E a.block)(hr:AN x F e h=.ok v h'):BR U φ E h w v h' ((zS t x').run P w):=by
 unfold AN at hr;cases ha:Dq (x e)with
 |no=>rw[ha]at hr;cases hr
 |ok a=>
  rw[ha]at hr;obtain⟨a',rfl,hra⟩:=F0 hx ha;obtain⟨rfl,v',hc,hv⟩:=Rn H hr hra (hE a (IB ha));have key:(zS t (.pointer (some a'))).run P w=.ok v' w:=by
   simp only[zS,vq,Gh,If,loadVar,T.agg,AGg,run_load,hc,wW,if_false]
  rw[key];exact .same H hv
theorem Ro(H:AEG U φ E h w){n:Nat}{a a':ABF}(hr:loadN n a h=.ok v h')(ha:AFY φ a a')(hE:¬ E a.block):
  h'=h/\∃ l,AED φ v (.agg ⟨l⟩)/\(loadCells a' n).run P w=.ok l.toArray w:=by
 unfold loadN at hr;split at hr
 case h_2=>cases hr
 rename_i c s en hrow;obtain⟨hb,hr⟩:=Bp hr;rw[F6,wF]at hr;cases hr;obtain⟨l,hl,_,hrun,_⟩:=Rr H ha hE hrow (Ac.1 hb);exact⟨rfl,l,.agg hl,hrun w rfl⟩
theorem YS(H:AEG U φ E h w){x:O}{x':IN}{t:we}{ti:TI}(T:AEd P t ti)(AGg:ti.k.agg=true)(hx:AED φ (x e) x')
  (hE:∀ a,x e=.pointer (some a)->¬ E a.block)(hr:Bd ti.size x F e h=.ok v h'):BR U φ E h w v h' ((zS t x').run P w):=by
 unfold Bd at hr;split at hr
 case h_2=>cases hr
 rename_i a ha;obtain⟨a',rfl,hra⟩:=F0 hx ha;obtain⟨rfl,l,hv,hrun⟩:=Ro (P:=P) H hr hra (hE a (IB ha));have key:(zS t (.pointer (some a'))).run P w=.ok (.agg l.toArray) w:=by
  simp only[zS,vq,Gh,If,loadVar,T.agg,AGg,T.size,hrun,if_true,vt]
 rw[key];exact .same H hv
def Y3(U:TTy)(φ:Phi)(E:Nat->Prop)(h:Hp)(w:wb)(v:IN)(h':Hp)(r:Result Unit):Prop:=
 v=AEE/\∃ w',r=.ok () w'/\AEG U φ E h' w'/\Evo φ h w φ h' w'
theorem QO{a:ABF}{u:IN}{k:Hp->R}(hr:Co a (cellsOf u) h k=.ok v h'):known u=true:=by
 cases u<;>first|rfl|skip
 rename_i cc;cases cc with
 |some r=>rfl
 |none=>
 exfalso
 unfold Co at hr;cases hrow:rowOf h a.block with
 |no=>rw[hrow]at hr;cases hr
 |ok c s e=>
  rw[hrow]at hr;simp only at hr;obtain⟨_,hr⟩:=Bp hr;have h1:=(Bp hr).1;cases h1
theorem YW(H:AEG U φ E h w){x y:O}{x' y':IN}{t:we}{ti:TI}(T:AEd P t ti)(hx:AED φ (x e) x')(hy:AED φ (y e) y')
  (hE:∀ a,x e=.pointer (some a)->¬ E a.block)(hr:Av ti.size x y F e h=.ok v h'):Y3 U φ E h w v h' ((ACw t x' y').run P w):=by
 unfold Av at hr;split at hr
 case h_2=>cases hr
 rename_i a ha;obtain⟨a',rfl,hra⟩:=F0 hx ha;rw[BH]at hr;obtain⟨hb,hr⟩:=Bp hr;have hc:=KX hy (QO hr);obtain⟨h1,w1,hk,hrun,H1,ev⟩:=Ig (P:=P) H hr hra hc (hE a (IB ha));cases hk;refine⟨rfl,w1,?_,H1,ev⟩;have hsz:y'.cells.size=ti.size:=by
  have:=hc.length;rw[<- Am.1 hb,BL,<- this];simp
 simp only[ACw,vq,Gh,If,storeVar,T.size,hsz,ne_eq,not_true_eq_false,if_false,hrun,vt]
theorem i6(H:AEG U φ E h w){x:O}{x':IN}(hx:AED φ (x e) x')(hr:Bl x F e h=.ok v h'):
  AED φ v x'/\h'=h/\(x'≠.pointer none/\x'≠.nilIface/\x'≠.nilFunc/\∀ nm f c,x'≠.func (.method nm) f c):=by
 unfold Bl YD at hr;split at hr
 ·rename_i a ha
  cases hr;rw[ha]at hx;obtain⟨a',rfl,hra⟩:=hx.AFI;exact⟨.ptr hra,rfl,by simp⟩
 ·rename_i f a b ha
  cases hr;rw[ha]at hx;cases hx with|func fn h1 h2=>exact⟨.func _ h1 h2,rfl,by simp⟩
 ·rename_i a n c ha
  cases hr;rw[ha]at hx;refine⟨hx,rfl,?_⟩;cases hx<;>simp
 ·rename_i m ha
  cases hr;rw[ha]at hx;refine⟨hx,rfl,?_⟩;cases hx<;>simp
 ·rename_i t u ha
  rw[BH]at hr;cases hr;rw[ha]at hx;refine⟨hx,rfl,?_⟩;cases hx<;>simp
 ·cases hr
theorem Gv(H:AEG U φ E h w){cs cs':List IN}{k:Nat->Hp->R}(hr:newRow h 0 cs k=.ok v h')(AEh:AEX φ cs cs')(t:we):
  ∃ h1 ψ,k h.next h1=.ok v h'/\ψ h.next=some {blk:=w.heap.size,off:=0,sz:=cs.length,room:=cs.length,es:=1}/\
   AEG U ψ E h1 {w with heap:=w.heap.push (.cells ⟨cs'⟩ t)}/\Evo φ h w ψ h1 {w with heap:=w.heap.push (.cells ⟨cs'⟩ t)}:=by
 have hlen:=AEh.length;obtain⟨h1,hk,H1,ev⟩:=Oi (cs':=⟨cs'⟩) (t:=t) (fr:=(0,0)) (w':={w with heap:=w.heap.push (.cells ⟨cs'⟩ t)})
  (p:={blk:=w.heap.size,off:=0,sz:=cs.length,room:=cs.length,es:=1}) H hr (by simp[hlen]) ⟨rfl,.inl ⟨rfl,rfl,rfl,.inl rfl⟩⟩ (by simp[hlen]) (.inl rfl)
  (fun j u hj=>by simpa using AEh.get j u hj) rfl rfl rfl rfl
 exact⟨h1,_,hk,Phi.AEx _ _ _,H1,ev⟩
theorem QG{ψ:Phi}{n:Nat}{p:Pl}(hp:ψ n=some p)(ho:p.off=0):AED ψ (.pointer (some ⟨n,0,none⟩)) (.pointer (some ⟨p.blk,0,none⟩)):=
 .ptr ⟨rfl,rfl,p,hp,rfl,by simp[ho]⟩
theorem iV(H:AEG U φ E h w){x:O}{x':IN}{t:we}(hx:AED φ (x e) x')(hr:DA x F e h=.ok v h'):BR U φ E h w v h' ((Instr.box t x').run P w):=by
 unfold DA at hr;rw[BH]at hr;obtain⟨hkn,hr⟩:=Bp hr;obtain⟨h1,ψ,hk,hp,H1,ev⟩:=Gv H hr (KX hx hkn) t;cases hk;exact⟨_,_,ψ,rfl,QG hp rfl,H1,ev⟩
theorem YF(H:AEG U φ E h w){t:we}{ti:TI}(T:AEd P t ti){c:VT}(hz:ti.zero.length=ti.size)(hc:B3 .mt 0 ti.zero=some c)(hr:B7 ti.size c F e h=.ok v h'):
  BR U φ E h w v h' ((ADK t true (.tuple #[])).run P w):=by
 obtain⟨z,_,hzr,hzc,hzp⟩:=T.AFG hz;have hr':newRow h 0 ti.zero JB=.ok v h':=by
  unfold newRow CL;rw[hc];simp only[AZ,BL,hz];exact hr
 obtain⟨h1,ψ,hk,hp,H1,ev⟩:=Gv H hr' (.plain hzp) t;cases hk;refine⟨_,_,ψ,?_,QG hp rfl,H1,ev⟩;have e1:(⟨ti.zero⟩:Array IN)=z.cells:=by rw[<- hzc]
 simp only[ADK,vq,hzr,If,newVar,AAe,run_newObj,vt,e1]
theorem Sk(H:AEG U φ E h w){a a':ABF}{n:Nat}(ha:AFY φ a a')(hr:Ou a n h=.ok v h'):h'=h/\AED φ v (.pointer (some (a'.add n))):=by
 unfold Ou at hr;rw[AZ]at hr;cases hr;obtain⟨p,hp,rfl⟩:=ha.eq;rw[Addr.AFF];refine⟨rfl,.ptr ⟨rfl,rfl,p,hp,rfl,?_⟩⟩;show p.off+a.off+n=p.off+(a.off+n);omega
theorem Mm{fs:List (Nat×Nat×Nat)}{fields:Array Field}(hf:fields.toList.map (fun f=>(f.offset,P.cellsOf f.type,f.type))=fs){i o s t:Nat}(hi:nth fs i=some (o,s,t)):
  ∃ f,fields[i]? =some f/\f.offset=o/\P.cellsOf f.type=s/\f.type=t:=by
 rw[Fc,<- hf,xH]at hi;cases hg:fields.toList[i]? with
 |none=>rw[hg]at hi;cases hi
 |some f=>
  rw[hg]at hi;simp only[xa,Option.some.injEq,Prod.mk.injEq]at hi;exact⟨f,by simpa using hg,hi.1,hi.2.1,hi.2.2⟩
theorem N0(H:AEG U φ E h w){x:O}{x':IN}{t:we}{ti:TI}(T:AEd P t ti){fs:List (Nat×Nat×Nat)}(hk:ti.k=.struct fs){i o s ft:Nat}(hi:nth fs i=some (o,s+1,ft))
  (hx:AED φ (x e) x')(hr:AF o x F e h=.ok v h'):BR U φ E h w v h' ((ABM t x' i).run P w):=by
 unfold AF at hr;cases ha:Dq (x e)with
 |no=>rw[ha]at hr;cases hr
 |ok a=>
  rw[ha]at hr;obtain⟨a',rfl,hra⟩:=F0 hx ha;obtain⟨rfl,hv⟩:=Sk H hra hr;obtain⟨d,hd,hkd⟩:=T.desc;rw[hk]at hkd;cases hkd with
  |struct hf hin=>
   obtain⟨f,hf1,hf2,hf3,hf4⟩:=Mm hf hi;have hsome:(P.info? f.type).isSome=true:=by
    have:=List.all_eq_true.1 hin f (by simpa using Array.mem_of_getElem? hf1);exact this
   obtain⟨inf,AGK⟩:=AA4.1 hsome;have key:(ABM t (.pointer (some a')) i).run P w=.ok (.pointer (some (a'.add o))) w:=by
    simp only[ABM,vq,hd,If,hf1,Gh,fieldPlace,run_sizeOf w AGK,hf3,hf2,ACf,if_false,vt,Nat.add_eq_zero_iff,reduceCtorEq,and_false]
   rw[key];exact .same H hv
theorem WH(H:AEG U φ E h w){n AEM:Nat}{a a':ABF}{ix:O}{ix':IN}(hi:AED φ (ix e) ix')(ha:AFY φ a a')(hr:My n AEM (.ok a) (DE (ix e)) h=.ok v h'):
  ∃ k i,ix'=.int k (i:Nat)/\i<n/\h'=h/\AED φ v (.pointer (some (a'.add (i*AEM)))):=by
 unfold My at hr;cases h1:DE (ix e)with
 |no=>rw[h1]at hr;cases hr
 |ok i=>
  rw[h1]at hr;simp only at hr;obtain⟨k,rfl⟩:=EP hi h1;cases hb:wz i n with
  |false=>rw[hb]at hr;cases hr
  |true=>
   rw[hb]at hr;simp only at hr;obtain⟨r1,r2⟩:=Sk H ha hr;exact⟨k,i,rfl,BD.1 hb,r1,r2⟩
theorem Un(H:AEG U φ E h w){x ix:O}{x' ix':IN}{t el:we}{ti ei:TI}(T:AEd P t ti){n:Nat}(hk:ti.k=.arr n el)(TE:AEd P el ei)
  (hx:AED φ (x e) x')(hi:AED φ (ix e) ix')(hr:Cb n ei.size x ix F e h=.ok v h'):BR U φ E h w v h' ((zH t x' ix').run P w):=by
 unfold Cb at hr;cases ha:Dq (x e)with
 |no=>
  rw[ha]at hr;unfold My at hr;cases h1:DE (ix e)with
  |no=>rw[h1]at hr;cases hr
  |ok i=>rw[h1]at hr;simp only at hr;cases hb:wz i n<;>rw[hb]at hr<;>cases hr
 |ok a=>
  rw[ha]at hr;obtain⟨a',rfl,hra⟩:=F0 hx ha;obtain⟨k,i,rfl,hlt,rfl,hv⟩:=WH H hi hra hr;obtain⟨d,hd,hkd⟩:=T.desc;rw[hk]at hkd;cases hkd;have key:(zH t (.pointer (some a')) (.int k (i:Nat))).run P w=.ok (.pointer (some (a'.add (i*ei.size)))) w:=by
   have h2:(0:Int)<=(i:Int)/\(i:Int)<(n:Int):=by omega
   simp only[zH,asIntOf,vq,vt,hd,If,Gh,h2,and_self,if_true,TE.size,xI,zz]
  rw[key];exact .same H hv
theorem LD{a a':ABF}{n c c':Nat}(hn:n<=c)(h:AF0 φ a c a' c')(h0:0<n):AFY φ a a':=by
 obtain⟨s1,s2,p,hp,hb,h|h⟩:=h
 ·exact⟨s1,s2,p,hp,hb,h.2.1⟩
 ·omega
theorem ik(H:AEG U φ E h w){x ix:O}{x' ix':IN}{t el:we}{ti ei:TI}(T:AEd P t ti)(hk:ti.k=.slice el)(TE:AEd P el ei)
  (hx:AED φ (x e) x')(hi:AED φ (ix e) ix')(hr:CB ei.size x ix F e h=.ok v h'):BR U φ E h w v h' ((zH t x' ix').run P w):=by
 unfold CB at hr;split at hr
 case h_2=>cases hr
 rename_i a n c hxe;rw[hxe]at hx;cases hx with
 |@slice _ a' _ _ c' hn hs=>
  obtain⟨d,hd,hkd⟩:=T.desc;rw[hk]at hkd;cases hkd;cases h1:DE (ix e)with
  |no=>rw[h1]at hr;cases hr
  |ok i0=>
   have hpos:0<n:=by
    rw[h1]at hr;unfold My at hr;simp only at hr;cases hb:wz i0 n with
    |false=>rw[hb]at hr;cases hr
    |true=>have:=BD.1 hb;omega
   obtain⟨k,i,rfl,hlt,rfl,hv⟩:=WH H hi (LD hn hs hpos) hr;have key:(zH t (.slice (some a') n c') (.int k (i:Nat))).run P w=.ok (.pointer (some (a'.add (i*ei.size)))) w:=by
    have h2:(0:Int)<=(i:Int)/\(i:Int)<(n:Int):=by omega
    simp only[zH,asIntOf,vq,vt,hd,If,h2,and_self,if_true,TE.size,xI,zz]
   rw[key];exact .same H hv
theorem Se(H:AEG U φ E h w){t:we}{ti:TI}(T:AEd P t ti){l l':List IN}(hl:AEX φ l l'){off:Nat}(hr:Oq ti.k.agg ti.size l off h=.ok v h'):
  BR U φ E h w v h' ((part t ⟨l'⟩ off).run P w):=by
 unfold Oq at hr;split at hr
 ·rename_i AGg
  rw[CX,H8,JU]at hr;cases hr;have key:(part t ⟨l'⟩ off).run P w=.ok (.agg ⟨(l'.drop off).take ti.size⟩) w:=by
   simp only[part,vq,T.agg,AGg,If,if_true,T.size,vt]
   congr 2
   apply xG;simp[Array.toList_extract,zV]
  rw[key];exact .same H (.agg ((hl.drop off).take ti.size))
 ·rename_i AGg
  split at hr
  ·rename_i u hu
   rw[BH]at hr;cases hr;rw[Fc]at hu;obtain⟨u',hu',hru⟩:=hl.get off _ hu;have key:(part t ⟨l'⟩ off).run P w=.ok u' w:=by
    have:(⟨l'⟩:Array IN)[off]? =some u':=by simpa using hu'
    simp only[part,vq,T.agg,AGg,If,wW,if_false,this,vt]
   rw[key];exact .same H hru
  ·cases hr
theorem YM(H:AEG U φ E h w){x:O}{x':IN}{t:we}{ti fi:TI}(T:AEd P t ti){fs:List (Nat×Nat×Nat)}(hk:ti.k=.struct fs){i o s ft:Nat}(hi:nth fs i=some (o,s,ft))(TF:AEd P ft fi)
  (hx:AED φ (x e) x')(hr:NO fi.k.agg fi.size o x F e h=.ok v h'):BR U φ E h w v h' ((ADJ t x' i).run P w):=by
 unfold NO at hr;split at hr
 case h_2=>cases hr
 rename_i cs hxe;rw[hxe]at hx;cases hx with
 |agg hl=>
  obtain⟨d,hd,hkd⟩:=T.desc;rw[hk]at hkd;cases hkd with
  |struct hf hin=>
   obtain⟨f,hf1,hf2,hf3,hf4⟩:=Mm hf hi;have:=Se (P:=P) H TF hl hr;simp only[ADJ,vq,hd,If,hf1,asAgg,vt,hf2,hf4];exact this
theorem ql(H:AEG U φ E h w){x ix:O}{x' ix':IN}{t el:we}{ti ei:TI}(T:AEd P t ti){n:Nat}(hk:ti.k=.arr n el)(TE:AEd P el ei)
  (hx:AED φ (x e) x')(hi:AED φ (ix e) ix')(hr:oAt ei.k.agg n ei.size x ix F e h=.ok v h'):BR U φ E h w v h' ((AAI t x' ix').run P w):=by
 unfold oAt atF at hr;split at hr
 case h_2=>cases hr
 rename_i i h1;obtain⟨hb,hr⟩:=Bp hr;obtain⟨k,rfl⟩:=EP hi h1;split at hr
 case h_2=>cases hr
 rename_i cs hxe;rw[hxe]at hx;cases hx with
 |agg hl=>
  obtain⟨d,hd,hkd⟩:=T.desc;rw[hk]at hkd;cases hkd;have:=Se (P:=P) H TE hl hr;have hlt:=BD.1 hb;have h2:(0:Int)<=(i:Int)/\(i:Int)<(n:Int):=by omega
  simp only[AAI,asIntOf,vq,vt,hd,If,h2,and_self,if_true,TE.size,xI,zz];exact this
theorem YH(H:AEG U φ E h w){x ix:O}{x' ix':IN}{t:we}{ti:TI}(T:AEd P t ti)(hk:ti.k=.string)
  (hx:AED φ (x e) x')(hi:AED φ (ix e) ix')(hr:I7 x ix F e h=.ok v h'):BR U φ E h w v h' ((AAI t x' ix').run P w):=by
 unfold I7 KH at hr;split at hr
 case h_2=>cases hr
 rename_i i h1;obtain⟨k,rfl⟩:=EP hi h1;split at hr
 case h_2=>cases hr
 rename_i s hxe;rw[hxe]at hx;obtain rfl:=hx.AEZ;split at hr
 case h_2=>cases hr
 rename_i b hb;obtain⟨rfl,rfl⟩:=Em hr;obtain⟨d,hd,hkd⟩:=T.desc;rw[hk]at hkd;cases hkd;rw[Fc]at hb;have AGL:s[i]? =some b:=by
  have h0:i<s.data.toList.length:=by
   rcases wN i s.data.toList.length with h|h
   ·exact h
   ·rw[xd h]at hb;cases hb
  have h1:i<s.size:=h0;rw[getElem?_pos s i h1];rw[sh h0]at hb;rw[<- Option.some.inj hb];rfl
 have key:(AAI t (.string s) (.int k (i:Nat))).run P w=.ok (.int .u8 b.toNat) w:=by
  have h0:(0:Int)<=(i:Int):=by omega
  simp only[AAI,asIntOf,vq,vt,hd,If,h0,if_true,xI,AGL]
 rw[key];exact .same H (.int _ _)
theorem SH(H:AEG U φ E h w){x:O}{x':IN}{i:Nat}(hx:AED φ (x e) x')(hr:Af i x F e h=.ok v h'):BR U φ E h w v h' ((AAd x' i).run P w):=by
 unfold Af at hr;split at hr
 case h_2=>cases hr
 rename_i vs hxe;rw[hxe]at hx;cases hx with
 |@tuple l l' hl=>
  split at hr
  case h_2=>cases hr
  rename_i u hu;rw[BH]at hr;cases hr;rw[Fc]at hu;obtain⟨u',hu',hru⟩:=hl.get i _ hu;have:(⟨l'⟩:Array IN)[i]? =some u':=by simpa using hu'
  simp only[AAd,this,vt];exact .same H hru
theorem _root_.Go.Proofs.YtedbmmfebjfibaaGreat.KOk.AFf{k:TK}{d:TypeDesc}(hkd:KOk P k d)(hk:k≠.iface)(ms:Array (String×we)):d≠.interface ms:=by
 cases hkd with
 |other ho=>intro he;subst he;cases ho
 |iface ms'=>exact absurd rfl hk
 |_=>intro he;cases he
theorem YO(H:AEG U φ E h w){x:O}{x':IN}{t:we}{ti:TI}(T:AEd P t ti)(hk:ti.k≠.iface)
  (hx:AED φ (x e) x')(hr:NP t x F e h=.ok v h'):BR U φ E h w v h' ((AAH t x').run P w):=by
 unfold NP at hr;rw[BH]at hr;cases hr;obtain⟨d,hd,hkd⟩:=T.und;have key:(AAH t x').run P w=.ok (.iface t x') w:=by
  simp only[AAH,vq,run_underlying hd,If];cases d<;>first|rfl|exact absurd rfl (hkd.AFf hk _)
 rw[key];exact .same H (.iface t hx)
theorem im(H:AEG U φ E h w){t:we}(hr:YT F e h=.ok v h'):BR U φ E h w v h' ((Instr.makeMap t none).run P w):=by
 unfold YT at hr;obtain⟨bl,hbl,hk⟩:=GX hr;cases hk
 let w':wb:={w with heap:=w.heap.push (.map #[] 0)}
 have hs:w'.heap.size=w.heap.size+1:=by simp[w']
 have hsame:∀ k,k<w.heap.size->w'.heap[k]? =w.heap[k]?:=fun k hk=>by
  show(w.heap.push _)[k]? =_;rw[Array.getElem?_push_lt hk,Array.getElem?_eq_getElem hk]
 refine⟨.map (some w.heap.size),w',φ.put h.next {blk:=w.heap.size,off:=0,sz:=0,room:=0,es:=1},rfl,.map (Phi.AEx _ _ _),
  H.new hbl (by omega) (by show w.heap.size<_;omega) (fun j q e _=>by have:=(H.dom j q e).2;show _≠w.heap.size;omega) (fun k hk _=>hsame k hk) ?_,
  .made H hbl (IT _) (by omega) hsame rfl rfl rfl⟩
 have:w'.heap[w.heap.size]? =some (.map #[] 0):=by show(w.heap.push _)[w.heap.size]? =_;simp
 rw[this];exact .map .nil
end
end
noncomputable section
open Go
inductive AFl (φ:Phi)(e:Env):Option O->Option IN->Prop
 |none:AFl φ e none none
 |some {o:O} {x:IN} (h:AED φ (o e) x):AFl φ e (some o) (some x)
section
variable {P:xD}{U:TTy}{φ:Phi}{E:Nat->Prop}{h h':Hp}{w:wb}{F:AEB}{e:Env}{v:IN}
theorem GO{o:O}{x:IN}(hx:AED φ (o e) x){d y:Nat}{k:Nat->R}(hr:Ck e (some o) d y k=.ok v h'):
  ∃ n,n<=y/\k n=.ok v h'/\∀ Y,n<=Y->∀ code w,(ACO x Y code).run P w=.ok n w:=by
 unfold Ck at hr;simp only at hr;split at hr
 case h_2=>cases hr
 rename_i n hn;obtain⟨hb,hr⟩:=Bp hr;obtain⟨k',rfl⟩:=EP hx hn;refine⟨n,Ac.1 hb,hr,fun Y hY code w=>?_⟩;have h2:(0:Int)<=(n:Int)/\(n:Int)<=(Y:Int):=by omega
 simp only[ACO,asIntOf,vq,vt,If,h2,and_self,if_true,xI]
theorem Th(d y:Nat)(k:Nat->R):Ck e none d y k=k d:=rfl
theorem ID{lo hi mx:Option O}{lo' hi' mx':Option IN}(hl:AFl φ e lo lo')(hh:AFl φ e hi hi')(hm:AFl φ e mx mx'){len cap cap':Nat}(hc:cap<=cap')(hlen:len<=cap)
  {k:Nat->Nat->Nat->R}(hr:DR e len cap lo hi mx k=.ok v h')(s:Bool):
  ∃ l b m,k l b m=.ok v h'/\l<=b/\b<=m/\m<=cap/\(mx.isSome=false->m=cap)/\∀ w,(yQ s len cap' lo' hi' mx').run P w=.ok (l,b,if mx.isSome then m else cap') w:=by
 unfold DR at hr;cases hm with
 |none=>
  simp only at hr;cases hh with
  |none=>
   rw[Th]at hr;cases hl with
   |none=>exact⟨0,len,cap,hr,wP _,hlen,IT _,fun _=>rfl,fun w=>rfl⟩
   |some hl=>
    obtain⟨l,h1,hk,hs⟩:=GO (P:=P) hl hr;exact⟨l,len,cap,hk,h1,hlen,IT _,fun _=>rfl,fun w=>by
     simp only[yQ,vq,vt,If,hs len h1];rfl⟩
  |some hh=>
   obtain⟨b,h2,hr,hs2⟩:=GO (P:=P) hh hr;cases hl with
   |none=>exact⟨0,b,cap,hr,wP _,h2,IT _,fun _=>rfl,fun w=>by
     simp only[yQ,vq,vt,If,hs2 cap' (wd h2 hc)];rfl⟩
   |some hl=>
    obtain⟨l,h1,hk,hs⟩:=GO (P:=P) hl hr;exact⟨l,b,cap,hk,h1,h2,IT _,fun _=>rfl,fun w=>by
     simp only[yQ,vq,vt,If,hs2 cap' (wd h2 hc),hs b h1];rfl⟩
 |some hm=>
  simp only at hr;obtain⟨m,h3,hr,hs3⟩:=GO (P:=P) hm hr;cases hh with
  |none=>cases hr
  |some hh=>
   simp only at hr;obtain⟨b,h2,hr,hs2⟩:=GO (P:=P) hh hr;cases hl with
   |none=>exact⟨0,b,m,hr,wP _,h2,h3,fun h=>(by cases h),fun w=>by
     simp only[yQ,vq,vt,If,hs3 cap' (wd h3 hc),hs2 m h2];rfl⟩
   |some hl=>
    obtain⟨l,h1,hk,hs⟩:=GO (P:=P) hl hr;exact⟨l,b,m,hk,h1,h2,h3,fun h=>(by cases h),fun w=>by
     simp only[yQ,vq,vt,If,hs3 cap' (wd h3 hc),hs2 m h2,hs b h1];rfl⟩
theorem AF0.le{a a':ABF}{c c':Nat}(h:AF0 φ a c a' c'):c<=c':=by
 obtain⟨_,_,p,_,_,h|h⟩:=h
 ·rcases h.2.2 with h|h
  ·exact AAB h.symm
  ·exact h.2.1
 ·omega
theorem JF(a:Option ABF)(size l b m:Nat)(h:Hp):
  Bn a size l b m h=.ok (.slice (if m=l then a else a.map fun a=>if l*size=0 then a else⟨a.block,a.off+l*size,none⟩) (b - l) (m - l)) h:=by
 unfold Bn;rw[AZ,AZ];by_cases hml:m=l
 ·subst hml;rw[xu,if_pos rfl];rfl
 ·have hb:wB m l=false:=by
   cases hb:wB m l
   ·rfl
   ·exact absurd (Am.1 hb) hml
  rw[hb,if_neg hml];cases a with
  |none=>rfl
  |some a=>
   have e:wY l size=l*size:=rfl;rw[e];cases hm:l*size with
   |zero=>rw[xa,if_pos rfl];rfl
   |succ q=>rw[xa,if_neg (ACf q)];simp only[AZ];rfl
theorem fZ{a a':ABF}{c c':Nat}(hs:AF0 φ a c a' c'){size l b m:Nat}(hlb:l<=b)(hbm:b<=m)(hmc:m<=c){mx:Bool}(hm:mx=false->m=c)
  (hfit:mx=false->0<l->∀ p,φ a.block=some p->p.es=size\/(p.room=p.sz/\p.es=1)):
  AED φ (.slice (if m=l then some a else(some a).map fun a=>if l*size=0 then a else⟨a.block,a.off+l*size,none⟩) (b - l) (m - l))
   (.slice (if(if mx then m else c')=l then some a' else(some a').map (·.add (l*size))) (b - l) ((if mx then m else c') - l)):=by
 obtain⟨s1,s2,p,hp,hb,hor⟩:=hs;obtain⟨ab,ao,asp⟩:=a;obtain⟨ab',ao',AIe⟩:=a';simp only at s1 s2 hp hb hor;subst s1;subst s2;subst hb;simp only[xa,Addr.AFF];have hle:m<=(if mx then m else c'):=by
  cases mx
  ·have:=hm rfl
   simp only[wW,if_false];rcases hor with h|h
   ·rcases h.2.2 with h|h<;>omega
   ·omega
  ·simp
 by_cases hml:m=l
 ·rw[if_pos hml]
  by_cases AHW:(if mx then m else c')=l
  ·rw[if_pos AHW]
   refine .slice (by omega) ⟨rfl,rfl,p,hp,rfl,.inr ⟨by omega,.inl (by omega)⟩⟩
  ·rw[if_neg AHW]
   cases mx with
   |true=>exact absurd hml AHW
   |false=>
    simp only[wW,if_false]at AHW hle ⊢;have AIf:=hm rfl;refine .slice (by omega) ⟨rfl,rfl,p,hp,rfl,.inr ⟨by omega,.inr ?_⟩⟩;simp only;rcases wg l with h0|h0
    ·subst h0
     simp only[zB,yc,ACg];rcases hor with h|h
     ·omega
     ·rcases h.2 with h|h
      ·omega
      ·exact h
    ·rcases hor with ⟨_,hoff,h|⟨h1,h2,h3⟩⟩|h
     ·omega
     ·rcases hfit rfl h0 p hp with he|⟨hr1,hr2⟩
      ·have hcl:c=l:=by omega
       have hmul:(c' - l)*p.es+l*p.es=c'*p.es:=by rw[<- AAn];congr 1;omega
       subst hcl;rw[<- he];omega
      ·rw[hr2]at h1 h3;omega
     ·omega
 ·have hne:¬ ((if mx=true then m else c')=l):=by omega
  rw[if_neg hml,if_neg hne];have hpos:0<c:=by omega
  rcases hor with ⟨_,hoff,hcap⟩|h
  case inr=>omega
  have hA:∀ X:ABF,X=(if l*size=0 then(⟨ab,ao,none⟩:ABF)else⟨ab,ao+l*size,none⟩)->X=⟨ab,ao+l*size,none⟩:=by
   intro X hX;rw[hX];split
   ·rename_i h;rw[h];rfl
   ·rfl
  rw[hA _ rfl];refine .slice (by omega) ⟨rfl,rfl,p,hp,rfl,.inl ⟨by omega,by simp only;omega,?_⟩⟩;cases mx with
  |true=>exact .inl rfl
  |false=>
   simp only[wW,if_false];have AIf:=hm rfl;subst AIf;rcases hcap with h|⟨h1,h2,h3⟩
   ·exact .inl (by rw[h])
   ·rcases wg l with h0|h0
    ·subst h0;refine .inr ?_;simp only[zB,yc,ACg];exact⟨h1,h2,h3⟩
    ·rcases hfit rfl h0 p hp with he|⟨hr1,hr2⟩
     ·refine .inr ?_
      have e1:(m - l)*p.es+l*p.es=m*p.es:=by rw[<- AAn];congr 1;omega
      have e2:(c' - l)*p.es+l*p.es=c'*p.es:=by rw[<- AAn];congr 1;omega
      rw[<- he];omega
     ·rw[hr2]at h1 h3;exact .inl (by omega)
theorem gY(H:AEG U φ E h w){el:Nat}{ei:TI}(hty:U.get el=some ei){a:ABF}(hf:E0 el (some a) h=true):∀ p,φ a.block=some p->p.es=ei.size\/(p.room=p.sz/\p.es=1):=by
 intro p hp;unfold E0 at hf;simp only at hf;split at hf
 ·rename_i c s en hrow
  have hk:=H.kind a.block p c s en hp (DC hrow);rcases hk.2 with ⟨_,h1,h2,_⟩|⟨t,ti,h1,h2,h3⟩
  ·exact .inr ⟨h1,h2⟩
  ·subst h1
   have:t=el:=Am.1 hf;subst this;rw[hty]at h2;cases h2;exact .inl h3
 ·cases hf
theorem ie(H:AEG U φ E h w){x:O}{x':IN}{t el:we}{ti ei:TI}(T:AEd P t ti)(hk:ti.k=.slice el)(hty:U.get el=some ei)(TE:AEd P el ei)
  {lo hi mx:Option O}{lo' hi' mx':Option IN}(hx:AED φ (x e) x')(hl:AFl φ e lo lo')(hh:AFl φ e hi hi')(hm:AFl φ e mx mx')
  (hr:D5 el ei.size x lo hi mx F e h=.ok v h'):BR U φ E h w v h' ((xe t x' lo' hi' mx').run P w):=by
 unfold D5 at hr;split at hr
 case h_2=>cases hr
 rename_i a n c hxe;rw[hxe]at hx;obtain⟨d,hd,hkd⟩:=T.desc;rw[hk]at hkd;cases hkd;cases hx with
 |AEz=>
  ·obtain⟨l,b,m,hk2,h1,h2,h3,h4,hs⟩:=ID (P:=P) hl hh hm (IT 0) (IT 0) hr true
   have AFp:Bn none ei.size l b m h=.ok v h':=by
    unfold EL at hk2;split at hk2
    ·exact hk2
    ·split at hk2
     ·exact hk2
     ·exact(Bp hk2).2
   rw[JF]at AFp;cases AFp;have key:(xe t (.slice none 0 0) lo' hi' mx').run P w=.ok (.slice none (b - l) (m - l)) w:=by
    have hmm:(if mx.isSome then m else 0)=m:=by
     split
     ·rfl
     ·rename_i hf;exact(h4 (by simpa using hf)).symm
    rw[hmm]at hs;simp only[xe,ABz,vq,hd,If,hs,TE.size,vt,ACI,ite_self]
   rw[key];simp only[ACI,ite_self];have e1:m=0:=by omega
   have e2:b=0:=by omega
   have e3:l=0:=by omega
   subst e1;subst e2;subst e3;exact .same H .AEz
 |@slice a a' _ _ c' hn hsl=>
  obtain⟨l,b,m,hk2,h1,h2,h3,h4,hs⟩:=ID (P:=P) hl hh hm hsl.le hn hr true;have AFp:Bn (some a) ei.size l b m h=.ok v h'/\(mx.isSome=false->0<l->∀ p,φ a.block=some p->p.es=ei.size\/(p.room=p.sz/\p.es=1)):=by
   unfold EL at hk2;split at hk2
   ·rename_i hmx;exact⟨hk2,fun hf=>by rw[hmx]at hf;cases hf⟩
   ·split at hk2
    ·exact⟨hk2,fun _ h0=>absurd h0 (Nat.lt_irrefl 0)⟩
    ·obtain⟨hf,hk2⟩:=Bp hk2
     exact⟨hk2,fun _ _=>gY H hty hf⟩
  obtain⟨AFp,hfit⟩:=AFp;rw[JF]at AFp;cases AFp;have key:(xe t (.slice (some a') n c') lo' hi' mx').run P w=
    .ok (.slice (if(if mx.isSome then m else c')=l then some a' else(some a').map (·.add (l*ei.size))) (b - l) ((if mx.isSome then m else c') - l)) w:=by
   simp only[xe,ABz,vq,hd,If,hs,TE.size,vt]
  rw[key];exact .same H (fZ hsl h1 h2 h3 h4 hfit)
end
end
noncomputable section
open Go
theorem GB{α:Type}(xs:List α):∀ n,(BQ xs n).length=n*xs.length
 |0=>by simp[BQ]
 |n+1=>by
  show(xs++BQ xs n).length=_;rw[List.length_append,GB xs n,zW,Nat.add_comm]
theorem Ss{α:Type}(xs:List α):∀ n i,i<n*xs.length->(BQ xs n)[i]? =xs[i % xs.length]?
 |0,i,h=>by simp at h
 |n+1,i,h=>by
  show(xs++BQ xs n)[i]? =_;rcases wN i xs.length with hl|hl
  ·rw[wD hl,zc hl]
  ·have h2:i - xs.length<n*xs.length:=by rw[zW]at h;omega
   rw[wQ hl,Ss xs n _ h2,<- Nat.mod_eq_sub_mod hl]
theorem H3{φ:Phi}{l l':List IN}(h:AEX φ l l'):∀ n,AEX φ (BQ l n) (BQ l' n)
 |0=>.nil
 |n+1=>h.append (H3 h n)
theorem Nt(z:Array IN)(n:Nat):((AAJ (n*z.size)).map (fun i=>z[i % z.size]!))=⟨BQ z.toList n⟩:=by
 apply xG;apply List.ext_getElem?;intro i;simp only[Array.toList_map,xH,Array.toList_range];rcases wN i (n*z.size)with h|h
 ·have h1:i<n*z.toList.length:=by simpa using h
  rw[Ss _ _ _ h1,List.getElem?_range h,xa];have h2:0<z.size:=by
   rcases wg z.size with h0|h0
   ·rw[h0]at h;simp at h
   ·exact h0
  have h3:i % z.size<z.size:=Nat.mod_lt _ h2;simp[h3]
 ·rw[xd (by simpa using h),xd (by rw[GB];simpa using h)];rfl
theorem HD(z:Array IN)(n:Nat):Builtin.zeroCells z n=⟨BQ z.toList n⟩:=Nt z n
theorem AEs(cs:List IN)(off:Nat)(vs:List IN):lay cs off vs=cs.take off++vs++cs.drop (off+vs.length):=by
 unfold lay;rw[H8,JU,BL];rfl
theorem UX{cs:List IN}{off:Nat}{vs:List IN}(h:off+vs.length<=cs.length):(lay cs off vs).length=cs.length:=by
 rw[AEs];simp;omega
theorem gz{φ:Phi}{cs cs' vs vs':List IN}(h:AEX φ cs cs')(hv:AEX φ vs vs')(off:Nat):AEX φ (lay cs off vs) (lay cs' off vs'):=by
 rw[AEs,AEs,hv.length];exact((h.take off).append hv).append (h.drop _)
theorem OI(off:Nat):∀ (vs:List IN) (j:Nat) (cs:Array IN),off+j+vs.length<=cs.size->
  ((vs.zipIdx j).foldl (fun cs (c,j)=>cs.setIfInBounds (off+j) c) cs).toList=lay cs.toList (off+j) vs
 |[],j,cs,h=>by rw[AEs];simp
 |v::vs,j,cs,h=>by
  simp only[vw]at h;rw[List.zipIdx_cons,List.foldl_cons];have:=OI off vs (j+1) (cs.setIfInBounds (off+j) v) (by simp;omega);rw[this,AEs,AEs];have hlt:off+j<cs.toList.length:=by simp;omega
  rw[Array.toList_setIfInBounds,show off+(j+1)=off+j+1 by omega];rw[vw,List.take_set,List.drop_set_of_lt (by omega)];have e1:(cs.toList.take (off+j+1)).set (off+j) v=cs.toList.take (off+j)++[v]:=by
   rw[List.take_succ_eq_append_getElem hlt,List.set_append_right _ _ (by simp;omega)];have:(off+j - (cs.toList.take (off+j)).length)=0:=by simp;omega
   rw[this];rfl
  rw[e1,show off+j+1+vs.length=off+j+(vs.length+1)by omega];simp
section
variable {φ:Phi}{h':Hp}{e:Env}{v:IN}
inductive AGW (φ:Phi)(e:Env)(place:Nat->Option (Nat×Nat)):List (Nat×Nat×O)->List (Nat×IN)->Prop
 |nil:AGW φ e place [] []
 |cons {i off size:Nat} {o:O} {x:IN} {l:List (Nat×Nat×O)} {l':List (Nat×IN)} (hp:place i=some (off,size)) (hx:AED φ (o e) x) (t:AGW φ e place l l'):
  AGW φ e place ((off,size,o)::l) ((i,x)::l')
theorem JY{place:Nat->Option (Nat×Nat)}{k:List IN->R}:∀ {ps:List (Nat×Nat×O)} {ps':List (Nat×IN)},AGW φ e place ps ps'->∀ {cs cs':List IN},AEX φ cs cs'->
  EX cs e k ps=.ok v h'->∃ r r',k r=.ok v h'/\AEX φ r r'/\r.length=cs.length/\ABD place ⟨cs'⟩ ps'=some ⟨r'⟩
 |_,_,.nil,cs,cs',hc,hr=>by
  unfold EX at hr;rw[CX]at hr;exact⟨cs,cs',hr,hc,rfl,rfl⟩
 |_,_,.cons (off:=off) (size:=size) (o:=o) (x:=x) hp hx t,cs,cs',hc,hr=>by
  unfold EX at hr;rw[BH]at hr;obtain⟨hkn,hr⟩:=Bp hr;obtain⟨hb1,hr⟩:=Bp hr;obtain⟨hb2,hr⟩:=Bp hr;have hcl:=KX hx hkn;have h1:=Am.1 hb1;have h2:=Ac.1 hb2;rw[BL]at h1 h2;have h3:=hcl.length;have h4:=hc.length;obtain⟨r,r',hk,hrr,hlen,hf⟩:=JY t (gz hc hcl off) hr;have h2':off+size<=cs.length:=h2;have hsz:x.cells.size=size:=by rw[<- h1,<- h3];simp
  refine⟨r,r',hk,hrr,by rw[hlen,UX (by omega)],?_⟩;rw[ABD,hp];simp only;rw[if_neg (by simp[hsz];omega)];have AHq:(x.cells.zipIdx.foldl (fun cs (c,j)=>cs.setIfInBounds (off+j) c) (⟨cs'⟩:Array IN))=⟨lay cs' off x.cells.toList⟩:=by
   apply xG;have:=OI off x.cells.toList 0 ⟨cs'⟩ (by simp[hsz];omega);rw[<- Array.foldl_toList,Array.toList_zipIdx];exact this
  rw[AHq];exact hf
end
end
noncomputable section
open Go
section
variable {P:xD}{U:TTy}{φ:Phi}{E:Nat->Prop}{h h':Hp}{w:wb}{F:AEB}{e:Env}{v:IN}
theorem Uf(H:AEG U φ E h w){t:we}{ti:TI}(T:AEd P t ti){fs:List (Nat×Nat×Nat)}(hk:ti.k=.struct fs)(hz:ti.zero.length=ti.size)
  {ps:List (Nat×Nat×O)}{ps':Array (Nat×IN)}(hp:AGW φ e (Na fs) ps ps'.toList)
  (hr:B5 ti.zero ps F e h=.ok v h'):BR U φ E h w v h' ((zf t ps').run P w):=by
 unfold B5 at hr;obtain⟨z,_,hzr,hzc,hzp⟩:=T.AFG hz;obtain⟨r,r',hk2,hrr,hlen,hf⟩:=JY hp (.plain hzp) hr;cases hk2;obtain⟨d,hd,hkd⟩:=T.desc;rw[hk]at hkd;cases hkd with
 |@struct fs fields hfl hin=>
  have hmap:∀ w,(fields.mapM (fun f=>(do pure (f.offset,<- sizeOf f.type):Sem (Nat×Nat)))).run P w=.ok (fields.map fun f=>(f.offset,P.cellsOf f.type)) w:=by
   intro w;rw[<- Array.toArray_toList (xs:=fields),List.mapM_toArray,List.map_toArray];have:∀ l:List Field,l.all (fun f=>(P.info? f.type).isSome)=true->(l.mapM (fun f=>(do pure (f.offset,<- sizeOf f.type):Sem (Nat×Nat)))).run P w=.ok (l.map fun f=>(f.offset,P.cellsOf f.type)) w:=by
    intro l
    induction l with
    |nil=>intro _;rfl
    |cons f l ih=>
     intro hall;simp only[List.all_cons,wJ]at hall;obtain⟨inf,AGK⟩:=AA4.1 hall.1;simp only[List.mapM_cons,vq,run_sizeOf w AGK,If,vt,ih hall.2,List.map_cons]
   simp only[Sem.run_map,this _ hin,If]
  have AG8:Na fs=fun i=>(fields.map fun f=>(f.offset,P.cellsOf f.type))[i]?:=by
   funext i
   unfold Na;rw[Fc,<- hfl,xH,Array.getElem?_map,<- Array.getElem?_toList];cases fields.toList[i]?<;>rfl
  rw[AG8]at hf;have hz':(⟨ti.zero⟩:Array IN)=z.cells:=by rw[<- hzc]
  rw[hz']at hf;have key:(zf t ps').run P w=.ok (.agg ⟨r'⟩) w:=by
   simp only[zf,vq,hzr,If,hd,hmap,hf,vt]
  rw[key];exact .same H (.agg hrr)
theorem Ue(H:AEG U φ E h w){t el:we}{ti ei:TI}(T:AEd P t ti){n:Nat}(hk:ti.k=.arr n el)(TE:AEd P el ei)(hz:ti.zero.length=ti.size)
  {ps:List (Nat×Nat×O)}{ps':Array (Nat×IN)}(hp:AGW φ e (fun i=>some (wY i ei.size,ei.size)) ps ps'.toList)
  (hr:B5 ti.zero ps F e h=.ok v h'):BR U φ E h w v h' ((zf t ps').run P w):=by
 unfold B5 at hr;obtain⟨z,_,hzr,hzc,hzp⟩:=T.AFG hz;obtain⟨r,r',hk2,hrr,hlen,hf⟩:=JY hp (.plain hzp) hr;cases hk2;obtain⟨d,hd,hkd⟩:=T.desc;rw[hk]at hkd;cases hkd;have hz':(⟨ti.zero⟩:Array IN)=z.cells:=by rw[<- hzc]
 rw[hz']at hf;have hf':ABD (fun i=>some (i*ei.size,ei.size)) z.cells ps'.toList=some ⟨r'⟩:=hf;have key:(zf t ps').run P w=.ok (.agg ⟨r'⟩) w:=by
  simp only[zf,vq,hzr,If,hd,TE.size,hf',vt]
 rw[key];exact .same H (.agg hrr)
theorem W3{ψ:Phi}{n s l c:Nat}{p:Pl}(hp:ψ n=some p)(ho:p.off=0)(hl:l<=c)(hc:c=0\/0<c):AED ψ (.slice (some ⟨n,0,none⟩) l c) (.slice (some ⟨p.blk,0,none⟩) l c):=by
 refine .slice hl ⟨rfl,rfl,p,hp,rfl,?_⟩;rcases hc with h|h
 ·exact .inr ⟨h,.inl h⟩
 ·exact .inl ⟨h,by simp[ho],.inl rfl⟩
theorem NL(H:AEG U φ E h w){t el:we}{ti ei:TI}(T:AEd P t ti)(hk:ti.k=.slice el)(TE:AEd P el ei)(hz:ei.zero.length=ei.size)
  {len:Nat}(hlen:len*ei.size<=16777216){ps:List (Nat×Nat×O)}{ps':Array (Nat×IN)}(hp:AGW φ e (fun i=>some (wY i ei.size,ei.size)) ps ps'.toList)
  (hr:Aj len (BQ ei.zero len) ps F e h=.ok v h'):BR U φ E h w v h' ((zh t len ps').run P w):=by
 unfold Aj at hr;obtain⟨z,_,hzr,hzc,hzp⟩:=TE.AFG hz;obtain⟨r,r',hk2,hrr,hlr,hf⟩:=JY hp (H3 (.plain hzp) len) hr;obtain⟨h1,ψ,hk3,hps,H1,ev⟩:=Gv H hk2 hrr el;cases hk3;obtain⟨d,hd,hkd⟩:=T.desc;rw[hk]at hkd;cases hkd;have hzs:z.cells.size=ei.size:=by rw[<- hz,<- hzc];simp
 have hf':ABD (fun i=>some (i*ei.size,ei.size)) ⟨BQ ei.zero len⟩ ps'.toList=some ⟨r'⟩:=hf;have AFm:(AAJ (len*ei.size)).map (fun i=>z.cells[i % z.cells.size]!)=⟨BQ ei.zero len⟩:=by
  rw[<- hzc,<- hzs];exact Nt z.cells len
 have hng:¬ (len*ei.size > 2 ^ 24):=by omega
 have key:(zh t len ps').run P w=.ok (.slice (some ⟨w.heap.size,0,none⟩) len len) {w with heap:=w.heap.push (.cells ⟨r'⟩ el)}:=by
  by_cases h0:len*ei.size=0
  ·have:(AAJ (len*ei.size)).map (fun i=>(#[]:Array IN)[i % (#[]:Array IN).size]!)=⟨BQ ei.zero len⟩:=by
    rw[<- AFm,h0];simp
   simp only[zh,vq,hd,If,TE.size,hng,h0,if_false,if_true,vt,Nat.not_lt_zero,gt_iff_lt];rw[h0]at this;simp only[this,hf',AAe,vq,run_newObj,If,vt]
  ·simp only[zh,vq,hd,If,TE.size,hng,h0,if_false,hzr,vt,AFm,hf',AAe,run_newObj]
 rw[key];exact⟨_,_,ψ,rfl,W3 (s:=0) hps rfl (IT _) (wg _),H1,ev⟩
theorem IA{n:Nat}(h:n<=9223372036854775807):yK.wrap (n:Int)=n:=DN .i64 n h
theorem iE:most=1099511627776:=rfl
theorem WW:Jm=70368744177664:=rfl
theorem IR{n:Nat}(h:n<=1099511627776):n<=Jm:=wd h (by rw[WW];omega)
theorem WX{c b:Nat}(h:vx (wY (vo c) (vo b)) Jm=true):c<=70368744177664/\(c+1)*(b+1)<=70368744177664:=by
 have h1:=Ac.1 h;rw[WW]at h1;have h2:(c+1)*(b+1)<=70368744177664:=h1;refine⟨?_,h2⟩;have:c+1<=(c+1)*(b+1):=ABf _ (by omega);omega
theorem iF{c b:Nat}(h:vx (wY (vo c) (vo b)) most=true):c<=1099511627776/\(c+1)*(b+1)<=1099511627776:=by
 have h1:=Ac.1 h;rw[iE]at h1;have h2:(c+1)*(b+1)<=1099511627776:=h1;refine⟨?_,h2⟩;have:c+1<=(c+1)*(b+1):=ABf _ (by omega);omega
theorem cK(H:AEG U φ E h w){t el:we}{ti ei:TI}(T:AEd P t ti)(hk:ti.k=.slice el)(TE:AEd P el ei)(hz:ei.zero.length=ei.size)
  {l c:O}{l' c':IN}(hl:AED φ (l e) l')(hc:AED φ (c e) c')(hr:Gb ei.bytes ei.zero l c F e h=.ok v h'):BR U φ E h w v h' ((zp t l' c').run P w):=by
 unfold Gb Ru at hr;split at hr
 case h_2=>cases hr
 rename_i a h1;split at hr
 case h_2=>cases hr
 rename_i b h2;obtain⟨k1,rfl⟩:=EP hl h1;obtain⟨k2,rfl⟩:=EP hc h2;obtain⟨hb1,hr⟩:=Bp hr;obtain⟨hb2,hr⟩:=Bp hr;have hle:=Ac.1 hb1;obtain⟨hm1,hm2⟩:=iF hb2;obtain⟨z,_,hzr,hzc,hzp⟩:=TE.AFG hz;have hzs:z.cells.size=ei.size:=by rw[<- hz,<- hzc];simp
 have AEh:AEX φ (BQ ei.zero b) (BQ ei.zero b):=H3 (.plain hzp) b;obtain⟨h1',ψ,hk3,hps,H1,ev⟩:=Gv H hr AEh el;cases hk3;obtain⟨d,hd,hkd⟩:=T.desc;rw[hk]at hkd;cases hkd;obtain⟨inf,AGK,hs,hbt,_⟩:=TE.info;have AFm:(AAJ (b*ei.size)).map (fun i=>z.cells[i % z.cells.size]!)=⟨BQ ei.zero b⟩:=by
  rw[<- hzc,<- hzs];exact Nt z.cells b
 have w1:yK.wrap (a:Int)=a:=IA (by omega);have w2:yK.wrap (b:Int)=b:=IA (by omega);have hbytes:¬ ((ei.bytes:Int)*(b:Int) > 2 ^ 48):=by
  have:ei.bytes*b<=(b+1)*(ei.bytes+1):=by rw[Nat.mul_comm];exact Nat.mul_le_mul (by omega) (by omega)
  have h3:((ei.bytes*b:Nat):Int)<=1099511627776:=by omega
  rw[<- Int.natCast_mul];omega
 have AG9:((decide ((b:Int)<0) || decide ((ei.bytes:Int)*(b:Int) > 2 ^ 48)) || decide ((a:Int)<0) || decide ((a:Int) > (b:Int)))=false:=by
  simp only[AB2,decide_eq_false_iff_not];refine⟨⟨⟨by omega,hbytes⟩,by omega⟩,by omega⟩
 have key:(zp t (.int k1 (a:Nat)) (.int k2 (b:Nat))).run P w=.ok (.slice (some ⟨w.heap.size,0,none⟩) a b) {w with heap:=w.heap.push (.cells ⟨BQ ei.zero b⟩ el)}:=by
  by_cases h0:b*ei.size=0
  ·have e0:(AAJ (b*ei.size)).map (fun i=>(#[]:Array IN)[i % (#[]:Array IN).size]!)=⟨BQ ei.zero b⟩:=by
    rw[<- AFm,h0];simp
   rw[h0]at e0;simp only[zp,vq,hd,If,asInt,asIntOf,vt,run_typeInfo _ AGK,hbt,w1,w2,AG9,wW,if_false,run_askRoom,xI,TE.size,h0,if_true,e0,AAe,run_newObj,zz]
  ·simp only[zp,vq,hd,If,asInt,asIntOf,vt,run_typeInfo _ AGK,hbt,w1,w2,AG9,wW,if_false,run_askRoom,xI,TE.size,h0,hzr,AFm,AAe,run_newObj,zz]
 rw[key];exact⟨_,_,ψ,rfl,W3 (s:=0) hps rfl hle (wg _),H1,ev⟩
end
end
noncomputable section
open Go
section
variable {P:xD}{U:TTy}{φ:Phi}{E:Nat->Prop}{h h':Hp}{w:wb}{F:AEB}{e:Env}{v:IN}
theorem Uh(H:AEG U φ E h w){x:O}{x':IN}{t el:we}{ti ei:TI}(T:AEd P t ti){n:Nat}(hk:ti.k=.arr n el)(TE:AEd P el ei)
  {lo hi mx:Option O}{lo' hi' mx':Option IN}(hx:AED φ (x e) x')(hl:AFl φ e lo lo')(hh:AFl φ e hi hi')(hm:AFl φ e mx mx')
  (hr:GA n ei.size x lo hi mx F e h=.ok v h'):BR U φ E h w v h' ((xe t x' lo' hi' mx').run P w):=by
 unfold GA at hr;split at hr
 case h_2=>cases hr
 rename_i a ha;obtain⟨a',rfl,hra⟩:=F0 hx ha;obtain⟨d,hd,hkd⟩:=T.desc;rw[hk]at hkd;cases hkd;obtain⟨l,b,m,hk2,h1,h2,h3,h4,hs⟩:=ID (P:=P) hl hh hm (IT n) (IT n) hr false;have hmm:(if mx.isSome then m else n)=m:=by
  split
  ·rfl
  ·rename_i hf;exact(h4 (by simpa using hf)).symm
 rw[hmm]at hs;rw[JF]at hk2;cases hk2;have key:(xe t (.pointer (some a')) lo' hi' mx').run P w=.ok (.slice (some (if m=l then a' else a'.add (l*ei.size))) (b - l) (m - l)) w:=by
  simp only[xe,vq,hd,If,Gh,hs,TE.size,vt]
 rw[key];refine .same H ?_;have s1:=hra.1;obtain⟨p,hp,rfl⟩:=hra.eq;obtain⟨ab,ao,asp⟩:=a;simp only at s1 hp;subst s1;simp only[Addr.AFF,xa];by_cases hml:m=l
 ·rw[if_pos hml,if_pos hml]
  exact .slice (by omega) ⟨rfl,rfl,p,hp,rfl,.inr ⟨by omega,.inl (by omega)⟩⟩
 ·rw[if_neg hml,if_neg hml]
  have hA:(if l*ei.size=0 then(⟨ab,ao,none⟩:ABF)else⟨ab,ao+l*ei.size,none⟩)=⟨ab,ao+l*ei.size,none⟩:=by
   split
   ·rename_i h;rw[h];rfl
   ·rfl
  rw[hA];exact .slice (by omega) ⟨rfl,rfl,p,hp,rfl,.inl ⟨by omega,by simp only;omega,.inl rfl⟩⟩
theorem Uj(H:AEG U φ E h w){x:O}{x':IN}{t:we}{ti:TI}(T:AEd P t ti)(hk:ti.k=.string){lo hi:Option O}{lo' hi':Option IN}(hx:AED φ (x e) x')
  (hl:AFl φ e lo lo')(hh:AFl φ e hi hi')(hr:IX x lo hi F e h=.ok v h'):BR U φ E h w v h' ((xe t x' lo' hi' none).run P w):=by
 unfold IX at hr;split at hr
 case h_2=>cases hr
 rename_i s hxe;rw[hxe]at hx;obtain rfl:=hx.AEZ;obtain⟨d,hd,hkd⟩:=T.desc;rw[hk]at hkd;cases hkd;obtain⟨l,b,m,hk2,h1,h2,h3,h4,hs⟩:=ID (P:=P) hl hh .none (IT _) (IT _) hr false;cases hk2;have e1:BA s.data.toList=s.size:=BL _;rw[e1]at hs h3;have key:(xe t (.string s) lo' hi' none).run P w=.ok (.string (s.extract l b)) w:=by
  simp only[xe,ABz,vq,hd,If,Option.isSome_none,wW,if_false,vt,hs]
 rw[key,<- Hc (a:=s.extract l b) (l:=Lb (Nat.sub b l) (Ml l s.data.toList)) (by
  rw[H8,JU];simp[zV])]
 exact .same H (.string _)
theorem cU(H:AEG U φ E h w){x:O}{x':IN}(hx:AED φ (x e) x')(hr:SN x F e h=.ok v h'):∃ s,x'=.string s/\BR U φ E h w v h' (.ok x' w):=by
 unfold SN at hr;split at hr
 case h_2=>cases hr
 rename_i s hxe;rw[hxe]at hx;cases hr;obtain rfl:=hx.AEZ;exact⟨s,rfl,.same H hx⟩
theorem cC(H:AEG U φ E h w){fn:Fn}{f c:List O}{f' c':List IN}(hf:AEX φ (vals e f) f')(hc:AEX φ (vals e c) c')(hr:FA fn f c F e h=.ok v h'):
  BR U φ E h w v h' (.ok (.func fn ⟨f'⟩ ⟨c'⟩) w):=by
 unfold FA at hr;rw[CX,CX]at hr;cases hr;exact .same H (.func fn hf hc)
theorem iR(H:AEG U φ E h w){x:O}{x':IN}{t el:we}{ti:TI}(T:AEd P t ti){n:Nat}(hk:ti.k=.arr n el)(hn:0<n)(hx:AED φ (x e) x')
  (hr:SD n x F e h=.ok v h'):BR U φ E h w v h' ((ABN t x').run P w):=by
 unfold SD at hr;split at hr
 case h_2=>cases hr
 rename_i a l c hxe;rw[hxe]at hx;obtain⟨hb,hr⟩:=Bp hr;cases hr;have hb:=Ac.1 hb;obtain⟨d,hd,hkd⟩:=T.desc;rw[hk]at hkd;cases hkd;cases hx with
 |@slice _ a' _ _ c' hlc hs=>
  have key:(ABN t (.slice (some a') l c')).run P w=.ok (.pointer (some a')) w:=by
   simp only[ABN,vq,hd,If,AAx.2 hb,if_false,vt]
  rw[key];exact .same H (.ptr (LD hlc hs (by omega)))
theorem Og(H:AEG U φ E h w){lt:Bool}{x y:O}{x' y':IN}(hx:AED φ (x e) x')(hy:AED φ (y e) y')(hr:Ht lt (x e) (y e) h=.ok v h'):
  ∃ k q m n,x'=.int k m/\y'=.int q n/\h'=h/\v=.int k (if(if lt then n<m else m<n)then n else m):=by
 unfold Ht at hr;split at hr
 case h_2=>cases hr
 rename_i k m hxe;split at hr
 case h_2=>cases hr
 rename_i n hye;obtain⟨q,hq⟩:=WN hye;rw[hxe]at hx;rw[hq]at hy;refine⟨k,q,m,n,hx.AEj,hy.AEj,?_⟩;cases lt
 ·simp only[cond_false]at hr
  cases hb:iLt m n with
  |false=>
   rw[hb]at hr;cases hr;rw[C4]at hb;have:=of_decide_eq_false hb;refine⟨rfl,?_⟩;simp[this]
  |true=>
   rw[hb]at hr;cases hr;rw[C4]at hb;have:=of_decide_eq_true hb;refine⟨rfl,?_⟩;simp[this]
 ·simp only[cond_true]at hr
  cases hb:iLt n m with
  |false=>
   rw[hb]at hr;cases hr;rw[C4]at hb;have:=of_decide_eq_false hb;refine⟨rfl,?_⟩;simp[this]
  |true=>
   rw[hb]at hr;cases hr;rw[C4]at hb;have:=of_decide_eq_true hb;refine⟨rfl,?_⟩;simp[this]
theorem ir(H:AEG U φ E h w){x y:O}{x' y':IN}{ats:Array we}{t:we}(hx:AED φ (x e) x')(hy:AED φ (y e) y')(hr:YU x y F e h=.ok v h'):
  BR U φ E h w v h' ((Builtin.min_ ats t #[x',y']).run P w):=by
 obtain⟨k,q,m,n,rfl,rfl,rfl,rfl⟩:=Og H hx hy hr;exact .same H (.int _ _)
theorem ip(H:AEG U φ E h w){x y:O}{x' y':IN}{ats:Array we}{t:we}(hx:AED φ (x e) x')(hy:AED φ (y e) y')(hr:Ur x y F e h=.ok v h'):
  BR U φ E h w v h' ((Builtin.max_ ats t #[x',y']).run P w):=by
 obtain⟨k,q,m,n,rfl,rfl,rfl,rfl⟩:=Og H hx hy hr;exact .same H (.int _ _)
theorem HH:∀ l:List UInt8,Ch l=l.map fun b=>.int .u8 (b.toNat:Int)
 |[]=>rfl
 |b::l=>by unfold Ch;rw[AZ,HH l];rfl
theorem LL(l:List UInt8):AEX φ (Ch l) (l.map fun b=>.int .u8 (b.toNat:Int)):=by
 rw[HH]
 induction l with
 |nil=>exact .nil
 |cons b l ih=>exact .cons (.int _ _) ih
theorem GE(H:AEG U φ E h w){size n:Nat}{x x':IN}(hE:∀ a l c,x=.slice (some a) l c->¬ E a.block)(hx:AED φ x x'){k:List IN->R}(hr:BJ h size x n k=.ok v h')
  (hn:∀ m,lenV x=.ok m->n<=m):
  ∃ cs cs':List IN,k cs=.ok v h'/\AEX φ cs cs'/\(∀ w':wb,w'.heap=w.heap->(w9 size n x').run P w'=.ok ⟨cs'⟩ w')/\(∀ a l c,x'=.slice (some a) l c->cs'.length=n*size)/\(∀ s,x'=.string s->cs'.length=n/\size=1)/\
   (∀ a l c,x=.slice (some a) l c->0<c->∃ p cs t fr,φ a.block=some p/\w.heap[p.blk]? =some (.cells cs t fr)/\∀ (j:Nat) (u:IN),cs'[j]? =some u->cs[p.off+a.off+j]? =some u):=by
 unfold BJ at hr;split at hr
 ·cases hx
  exact⟨[],[],hr,.nil,(fun _ _=>rfl),(fun _ _ _ h=>by cases h),(fun _ h=>by cases h),(fun _ _ _ h=>by cases h)⟩
 ·rename_i a l c
  split at hr
  case h_2=>cases hr
  rename_i ct s en hrow;obtain⟨hb,hr⟩:=Bp hr;rw[F6,wF]at hr;cases hx with
  |@slice _ a' _ _ c' hlc hs=>
   rcases wg c with h0|h0
   ·have hl0:l=0:=by omega
    have hn0:n=0:=by have:=hn l rfl;omega
    subst hn0;refine⟨_,[],hr,by simp[AFZ];exact .nil,fun w' _=>?_,(fun _ _ _ h=>by simp),(fun _ h=>by cases h),(fun _ _ _ h hpos=>by cases h;omega)⟩;simp only[w9,zB];rfl
   ·obtain⟨s1,s2,p,hp,hbl,hor⟩:=hs
    have ha:AFY φ a a':=by
     rcases hor with h|h
     ·exact⟨s1,s2,p,hp,hbl,h.2.1⟩
     ·omega
    obtain⟨cs',hcs,hlen,hrun,hcell⟩:=Rr (P:=P) H ha (hE _ _ _ rfl) hrow (Ac.1 hb);exact⟨_,cs',hr,hcs,hrun,(fun _ _ _ _=>hlen),(fun _ h=>by cases h),(fun _ _ _ h _=>by cases h;exact hcell)⟩
 ·rename_i s
  obtain rfl:=hx.AEZ;have hn':n<=s.data.toList.length:=by
   have:=hn (BA s.data.toList) rfl
   rwa [BL]at this
  obtain⟨hone,hr⟩:=Bp hr;rw[H8]at hr;refine⟨_,_,hr,LL _,fun w' _=>?_,(fun _ _ _ h=>by cases h),(fun _ _=>⟨by simp only[List.length_map,List.length_take];omega,Am.1 hone⟩),(fun _ _ _ h=>by cases h)⟩;simp only[w9,vt]
  congr 1
  apply xG;simp[zV]
 ·rename_i c
  cases c with
  |none=>cases hr
  |some r=>
   cases hx;have hn0:n=0:=by have:=hn 0 rfl;omega
   subst hn0;exact⟨[],[],hr,.nil,(fun w' _=>by simp only[w9,zB];rfl),(fun _ _ _ h=>by simp),(fun _ h=>by cases h),(fun _ _ _ h=>by cases h)⟩
 ·cases hr
theorem Ri{x x':IN}(hx:AED φ x x'){n:Nat}(h:lenV x=.ok n):(ACZ x').run P w=.ok n w:=by
 unfold lenV at h;split at h
 ·cases h;cases hx<;>rfl
 ·cases h
  obtain rfl:=hx.AEZ;simp only[ACZ,vt,BL];rfl
 ·rename_i c
  cases c with
  |none=>cases h
  |some r=>
   cases h;cases hx;rfl
 ·cases h
theorem bu(H:AEG U φ E h w)(hE:∀ b,¬ E b){d x:O}{d' x':IN}{ats:Array we}{dt t el:we}(h0:ats[0]? =some dt){ti ei:TI}(T:AEd P dt ti)(hk:ti.k=.slice el)(TE:AEd P el ei)
  (hd:AED φ (d e) d')(hx:AED φ (x e) x')(hr:Jq ei.size d x F e h=.ok v h'):BR U φ E h w v h' ((za ats t #[d',x']).run P w):=by
 unfold Jq Qt at hr;split at hr
 case h_2=>cases hr
 rename_i base dl dc hde;rw[hde]at hd;split at hr
 case h_2=>cases hr
 rename_i xl hxl;rw[AZ,BM]at hr;obtain⟨cs,cs',hr,hcs,AHr,hl1,hl2,_⟩:=GE (P:=P) H (fun _ _ _ _=>hE _) hx hr (fun m hm=>by rw[hxl]at hm;cases hm;exact AAK _ _);have hrun:=AHr w rfl;obtain⟨dd,hdd,hkd⟩:=T.desc;rw[hk]at hkd;cases hkd;have hlen:=Ri (P:=P) (w:=w) hx hxl;split at hr
 ·cases hr
  cases hd;have key:(za ats t #[.slice none 0 0,x']).run P w=.ok (goInt ((min xl 0:Nat):Int)) w:=by
   simp only[za,h0,vq,hdd,If,hlen,TE.size,vt,wO,wR,wy];have:Nat.min xl 0=min xl 0:=rfl;rw[this,hrun];rfl
  rw[key];exact .same H (.int _ _)
 ·rename_i a hr0
  cases hd with
  |@slice _ a' _ _ dc' hlc hs=>
   have AHA:∃ h1 w1,(.ok (.int .i64 (.ofNat (min xl dl))) h1:R)=.ok v h'/\(storeCells a' cs').run P w=.ok () w1/\AEG U φ E h1 w1/\Evo φ h w φ h1 w1:=by
    rcases wg dc with h0|h0
    ·have hdl:dl=0:=by omega
     subst hdl;have AG0:cs'=[]:=by
      have hz:min xl 0=0:=Nat.min_zero _;rw[hz]at hrun hl1 hl2;cases x'<;>first|(simp only[w9]at hrun;cases hrun;done)|skip
      ·exact zt.1 (hl2 _ rfl).1
      ·rename_i sa sl AJW
       cases sa with
       |none=>simp only[w9,vt]at hrun;cases hrun;rfl
       |some sa=>exact zt.1 (by have:=hl1 sa sl AJW rfl;simpa using this)
     subst AG0;have:cs=[]:=by cases hcs;rfl
     subst this;unfold Co at hr;split at hr
     case h_2=>cases hr
     rename_i ct s en hrow;obtain⟨_,hr⟩:=Bp hr;obtain⟨_,hr⟩:=Bp hr;simp only[B3]at hr;obtain⟨bl,AEO,hbl,hk2⟩:=FR hr;obtain⟨_,_,p,hp,_,_⟩:=hs;have hold:=H.row a.block p hp (hE _);have AGA:=DC hrow;rw[AGA]at hold;have AEy:Live h a.block:=by unfold Live;rw[AGA];intro hd;cases hd
     exact⟨_,w,hk2,rfl,H.put (hE _) AEO hp AEy hbl rfl (fun _ _=>rfl) hold,.put (H.AFE hp AEO) hp AEy hbl (by rw[DC hrow];exact .inr ⟨rfl,rfl⟩) rfl (fun _ _=>rfl) rfl rfl rfl⟩
    ·obtain⟨s1,s2,p,hp,hbl,hor⟩:=hs
     have ha:AFY φ a a':=by
      rcases hor with h|h
      ·exact⟨s1,s2,p,hp,hbl,h.2.1⟩
      ·omega
     exact Ig (P:=P) H hr ha hcs (hE _)
   obtain⟨h1,w1,hk2,AF3,H1,ev⟩:=AHA;cases hk2;have key:(za ats t #[.slice (some a') dl dc',x']).run P w=.ok (goInt ((min xl dl:Nat):Int)) w1:=by
    simp only[za,h0,vq,hdd,If,hlen,TE.size,vt,wO,wR,wy];have:Nat.min xl dl=min xl dl:=rfl;rw[this,hrun];simp only[If,AF3,vq,vt]
   rw[key];exact⟨_,_,φ,rfl,.int _ _,H1,ev⟩
end
end
noncomputable section
open Go
section
variable {P:xD}{U:TTy}{φ:Phi}{E:Nat->Prop}{h h':Hp}{w:wb}{e:Env}{v:IN}
theorem AEG.of_heap(H:AEG U φ E h w){w':wb}(hw:w'.heap=w.heap):AEG U φ E h w' where
 dom:=by rw[hw];exact H.dom
 inj:=H.inj
 row:=by rw[hw];exact H.row
 fresh:=H.fresh
 kind:=H.kind
 inp:=H.inp
theorem Ym(H:AEG U φ E h w)(hE:∀ b,¬ E b){a a':ABF}{c c' o:Nat}{vs vs':List IN}{k:Hp->R}(hs:AF0 φ a c a' c')(h0:c=0->vs=[])
  (hr:Co (FD a o) vs h k=.ok v h')(hv:AEX φ vs vs'):
  ∃ h1 w1,k h1=.ok v h'/\(storeCells (a'.add o) vs').run P w=.ok () w1/\AEG U φ E h1 w1/\Evo φ h w φ h1 w1:=by
 obtain⟨s1,s2,p,hp,hbl,hor⟩:=hs;have hblk:(FD a o).block=a.block:=by unfold FD;split<;>rfl
 rcases wg c with hc|hc
 ·have:=h0 hc
  subst this;have:vs'=[]:=by cases hv;rfl
  subst this;unfold Co at hr;split at hr
  case h_2=>cases hr
  rename_i ct s en hrow;obtain⟨_,hr⟩:=Bp hr;obtain⟨_,hr⟩:=Bp hr;simp only[B3]at hr;obtain⟨bl,AEO,AGP,hk2⟩:=FR hr;rw[hblk]at hrow AGP hk2 AEO;have hold:=H.row a.block p hp (hE _);have AGA:=DC hrow;rw[AGA]at hold;have AEy:Live h a.block:=by unfold Live;rw[AGA];intro hd;cases hd
  exact⟨_,w,hk2,rfl,H.put (hE _) AEO hp AEy AGP rfl (fun _ _=>rfl) hold,.put (H.AFE hp AEO) hp AEy AGP (by rw[DC hrow];exact .inr ⟨rfl,rfl⟩) rfl (fun _ _=>rfl) rfl rfl rfl⟩
 ·have hoff:a'.off=p.off+a.off:=by
   rcases hor with h|h
   ·exact h.2.1
   ·omega
  obtain⟨ab',ao',AIe⟩:=a';obtain⟨ab,ao,asp⟩:=a;simp only at s1 s2 hp hbl hoff;subst s1;subst s2;subst hbl;subst hoff;have AJX:FD ⟨ab,ao,none⟩ o=⟨ab,ao+o,none⟩:=by
   unfold FD;cases o<;>rfl
  rw[AJX]at hr;rw[Addr.AFF];refine Ig (P:=P) H hr ⟨rfl,rfl,p,hp,rfl,?_⟩ hv (hE _);show p.off+ao+o=p.off+(ao+o);omega
theorem OM(N:Nat):∀ (r c:Nat),c<N->zP N r c<=N+(N+768)/4
 |0,c,h=>by unfold zP;omega
 |r+1,c,h=>by
  unfold zP;split
  ·omega
  ·rcases wN (c+(c+768)/4) N with h2|h2
   ·exact OM N r _ h2
   ·cases r with
    |zero=>unfold zP;omega
    |succ r=>unfold zP;rw[if_pos h2];omega
theorem iK{need cap:Nat}(h:cap<need):zA need cap<=2*need:=by
 unfold zA;split
 ·omega
 ·split
  ·omega
  ·have:=OM need 4 cap h
   omega
theorem Mv(H:AEG U φ E h w){en:Nat}{ei:TI}(hty:U.get en=some ei){need c:Nat}(AHB:0<need)(hc:need<=c){cs cs' rest:List IN}(AEh:AEX φ cs cs')(hlen:cs.length=need*ei.size)
  (AFn:rest.length=(c - need)*ei.size){w':wb}(hw':w'.heap=w.heap.push (.cells ⟨cs'++rest⟩ en))(ht:w'.tape=w.tape)(ho:w'.os=w.os)(hout:w'.output=w.output)
  {t:VT}{n:Nat}(hT:∀ j,j<cs.length->t.get j=cs.getD j undef)(hN:n=cs.length)(hr:CL h (vo en) t n (Eo need need)=.ok v h'):∃ ψ,AED ψ v (.slice (some ⟨w.heap.size,0,none⟩) need c)/\AEG U ψ E h' w'/\Evo φ h w ψ h' w':=by
 have hl':=AEh.length;have hmul:(c - need)*ei.size+need*ei.size=c*ei.size:=by rw[<- AAn];congr 1;omega
 have hsz:(⟨cs'++rest⟩:Array IN).size=c*ei.size:=by simp[hl',AFn,hlen];omega
 obtain⟨h1,hk,H1,ev⟩:=NJ (cs:=cs) (cs':=⟨cs'++rest⟩) (t:=en) (fr:=(0,0)) (w':=w')
  (p:={blk:=w.heap.size,off:=0,sz:=cs.length,room:=(⟨cs'++rest⟩:Array IN).size,es:=ei.size}) H hr hT hN rfl ⟨rfl,.inr ⟨en,ei,rfl,hty,rfl⟩⟩ (by simp[hl']) (.inl rfl)
  (fun j u hj=>by
   obtain⟨u',hu,hru⟩:=AEh.get j u hj;refine⟨u',?_,hru⟩;have hj':j<cs'.length:=by
    rcases wN j cs'.length with h|h
    ·exact h
    ·rw[xd h]at hu;cases hu
   simp only[wO];rw[wD hj'];exact hu) hw' ht ho hout
 cases hk;refine⟨_,.slice (IT _) ⟨rfl,rfl,_,Phi.AEx _ _ _,rfl,.inl ⟨AHB,rfl,.inr ⟨?_,hc,?_⟩⟩⟩,H1,ev⟩
 ·simp only;omega
 ·simp only[hsz];omega
theorem aa(H:AEG U φ E h w)(hE:∀ b,¬ E b){en:Nat}{ei:TI}(hty:U.get en=some ei)(hes:0<ei.size){base:Option ABF}{base':Option ABF}{sl sc sc' need:Nat}
  (hsl:AED φ (.slice base sl sc) (.slice base' sl sc'))(AHB:sc<need){olds news AFq news':List IN}(ho:AEX φ olds AFq)(hn:AEX φ news news')
  (hol:olds.length=sl*ei.size)(hnl:(olds++news).length=need*ei.size)(hone:∀ v∈news',v.oneCell'=true)
  (hcell:∀ a a',base=some a->base'=some a'->0<sc->∃ p cs t fr,φ a.block=some p/\w.heap[p.blk]? =some (.cells cs t fr)/\∀ j u,AFq[j]? =some u->cs[p.off+a.off+j]? =some u)
  {tr:VT}{n:Nat}(hT:∀ j,j<(olds++news).length->tr.get j=(olds++news).getD j undef)(hN:n=(olds++news).length)(hr:E5 ei.size en base sc need tr n h=.ok v h'):
  (∀ c rest,need<=c->rest.length=(c - need)*ei.size->∀ w':wb,sc'<need->w'.heap=w.heap.push (.cells ⟨(AFq++news')++rest⟩ en)->w'.tape=w.tape->w'.os=w.os->w'.output=w.output->
   ∃ ψ,AED ψ v (.slice (some ⟨w.heap.size,0,none⟩) need c)/\AEG U ψ E h' w'/\Evo φ h w ψ h' w')/\
  (∀ a',base'=some a'->need<=sc'->∃ w' ψ,(storeCells (a'.add (sl*ei.size)) news').run P w=.ok () w'/\AED ψ v (.slice (some a') need sc')/\AEG U ψ E h' w'/\Evo φ h w ψ h' w'):=by
 have AEh:=ho.append hn;have AFx:0<need:=by omega
 unfold E5 at hr;split at hr
 ·
  cases hsl;refine⟨fun c rest hc AFn w' _ hw' ht hos hout=>Mv H hty AFx hc AEh hnl AFn hw' ht hos hout hT hN hr,fun a' ha=>by cases ha⟩
 ·rename_i _ a
  cases hsl with
  |@slice _ a' _ _ _ hlc hs=>
  split at hr
  case h_2=>cases hr
  rename_i ct s en0 hrow;obtain⟨s1,s2,p,hp,hbl,hor⟩:=hs;have AGh:=H.kind a.block p ct s en0 hp (DC hrow);have AEy:Live h a.block:=by unfold Live;rw[DC hrow];intro hd;cases hd
  have AHC:(p.room=p.sz/\p.es=1)->sc'=sc:=by
   rintro⟨q1,q2⟩;rcases hor with ⟨q3,q4,q5|⟨q5,q6,q7⟩⟩|⟨q3,q4|q4⟩
   ·exact q5
   ·rw[q2]at q5 q7;omega
   ·omega
   ·rw[q2]at q4;omega
  have real:sc'=sc->CL h (vo en) tr n (Eo need need)=.ok v h'->
    (∀ c rest,need<=c->rest.length=(c - need)*ei.size->∀ w':wb,sc'<need->w'.heap=w.heap.push (.cells ⟨(AFq++news')++rest⟩ en)->w'.tape=w.tape->w'.os=w.os->w'.output=w.output->
     ∃ ψ,AED ψ v (.slice (some ⟨w.heap.size,0,none⟩) need c)/\AEG U ψ E h' w'/\Evo φ h w ψ h' w')/\
    (∀ a'',some a'=some a''->need<=sc'->∃ w' ψ,(storeCells (a''.add (sl*ei.size)) news').run P w=.ok () w'/\AED ψ v (.slice (some a'') need sc')/\AEG U ψ E h' w'/\Evo φ h w ψ h' w'):=by
   intro hsc hr;exact⟨fun c rest hc AFn w' _ hw' ht hos hout=>Mv H hty AFx hc AEh hnl AFn hw' ht hos hout hT hN hr,fun a'' _ h2=>by omega⟩
  split at hr
  ·refine real (AHC ?_) hr
   rcases AGh.2 with ⟨_,q1,q2,_⟩|⟨t,ti,q1,_⟩
   ·exact⟨q1,q2⟩
   ·cases q1
  ·rename_i e0
   obtain⟨hb,hr⟩:=Bp hr;have hen:e0=en:=Am.1 hb;subst hen;have AIg:p.es=ei.size:=by
    rcases AGh.2 with ⟨q0,_⟩|⟨t,ti,q1,q2,q3⟩
    ·cases q0
    ·have:t=e0:=by omega
     subst this;rw[hty]at q2;cases q2;exact q3
   split at hr
   ·obtain⟨bl,AEO,AFB,hr⟩:=FR hr
    have Hk:=H.kill AFB (lo:=B6 h.low a.block) (hi:=Cq h.high a.block) (mk:=h.mark);refine⟨fun c rest hc AFn w' _ hw' ht hos hout=>?_,fun a'' AJY hcap=>?_⟩
    ·obtain⟨ψ,hv,H2,ev⟩:=Mv Hk hty AFx hc AEh hnl AFn hw' ht hos hout hT hN hr
     refine⟨ψ,hv,H2,?_⟩;have evk:Evo φ h w φ {next:=h.next,low:=B6 h.low a.block,high:=Cq h.high a.block,mark:=h.mark,bl:=bl} w:={
      le:=.refl _,new:=fun _ _ e=>.inl e,next:=IT _,size:=IT _,tape:=rfl,os:=rfl,output:=rfl,frame:=fun _ _ _=>rfl,
      back:=fun i q e hl _=>⟨i,q,e,fun hd=>hl (by show bl.get i=_;rw[BT.AEH AFB];split<;>first|rfl|exact hd),rfl,rfl,.inl rfl⟩,
      kept:=fun i _ hi=>by
       show bl.get i=_;have hi:i<B6 h.low a.block\/Cq h.high a.block<i:=hi;rw[BM,B4]at hi;rw[BT.AEH AFB,if_neg (by omega)],
      low:=by show B6 _ _<=_;rw[BM];exact AAK _ _,
      high:=by show _<=Cq _ _;rw[B4];exact Nat.le_max_left _ _,
      shape:=fun i _=>by
       show AEW _ (bl.get i);rw[BT.AEH AFB];split
       ·exact .inl rfl
       ·exact .refl _,
      only:=fun i _ h0=>by
       show bl.get i=_;rw[BT.AEH AFB,if_neg (fun e=>by rw[e,hp]at h0;cases h0)],
      all:=fun _ h1 h2=>absurd h2 (AAx.2 h1)}
     exact evk.trans ev
    ·cases AJY
     obtain⟨p0,cs,t,fr,hp0,hwc,R⟩:∃ p0 cs t fr,φ a.block=some p0/\w.heap[p0.blk]? =some (.cells cs t fr)/\AF1 U φ p0 ct s (e0+1) cs fr:=by
      obtain⟨cs,t,fr,q1,q2⟩:=H.rowAt hp (hE _) hrow;exact⟨p,cs,t,fr,hp,q1,q2⟩
     rw[hp]at hp0;cases hp0;obtain⟨ab',ao',AIe⟩:=a';simp only at s2 hbl hor;subst s2;subst hbl;have AHs:p.off<=ao'/\ao'+sc' * ei.size<=p.off+p.room/\(0<sc->ao'=p.off+a.off):=by
      have hz:p.sz<=p.room:=R.room;rw[AIg]at hor;rcases hor with ⟨q3,q4,q5|⟨q5,q6,q7⟩⟩|⟨q3,q4|⟨q4,q5⟩⟩
      ·omega
      ·exact⟨by omega,by omega,fun _=>q4⟩
      ·omega
      ·exact⟨by omega,by omega,fun h=>by omega⟩
     have AHp:=R.fits;have hmul:need*ei.size<=sc'*ei.size:=Nat.mul_le_mul_right _ hcap;have hlo:=ho.length;have hln:=hn.length;have AKm:olds.length+news.length=need*ei.size:=by rw[<- hnl];simp
     rw[Addr.AFF];have hst:(storeCells ⟨p.blk,ao'+sl*ei.size,none⟩ news').run P w=.ok () (w.setCells p.blk (ao'+sl*ei.size) news'):=by
      refine run_storeCells_cells (P:=P) p.blk (ao'+sl*ei.size) news' 0 w (fun j hj=>?_) (fun j hj=>?_) hone
      ·rw[IE hwc];simp;omega
      ·exact OJ hwc R.AId (by omega)
     obtain⟨cs',e1,e2,e3,e4,e5,e6,e7,e8⟩:=GM p.blk t fr news' (ao'+sl * ei.size) cs w hwc (by omega);unfold CL at hr;rw[AZ]at hr;obtain⟨bl2,AGP,hk2⟩:=GX hr;cases hk2
     let p':Pl:={blk:=p.blk,off:=ao',sz:=need*ei.size,room:=p.off+p.room - ao',es:=ei.size}
     have hB:AFA U (φ.put h.next p') p' (.cells tr n (e0+1)) ((w.setCells p.blk (ao'+sl*ei.size) news').heap[p'.blk]?):=by
      show AFA U (φ.put h.next p') p' _ ((w.setCells p.blk (ao'+sl*ei.size) news').heap[p.blk]?);rw[e1,hN,hnl];refine .cells {
       kind:=⟨rfl,.inr ⟨e0,ei,rfl,hty,rfl⟩⟩,room:=(by show need*ei.size<=p.off+p.room - ao';omega),fits:=(by show ao'+(p.off+p.room - ao')<=cs'.size;omega),
       loose:=.inl (by rw[e2];exact R.AId),cell:=fun j hj=>?_}
      have hj2:j<(olds++news).length:=by omega
      rw[hT j hj2];show ∃ v,cs'[ao'+j]? =some v/\_;have hD:(olds++news).getD j undef=(olds++news)[j]:=by
       rw[List.getD_eq_getElem?_getD,sh hj2];rfl
      rw[hD];obtain⟨u',hu,hru⟩:=AEh.get j _ (sh hj2);refine⟨u',?_,hru.mono (Phi.AFb H.AE4)⟩;rw[e3];rcases wN j olds.length with hjo|hjo
      ·rw[if_neg (by omega)]
       rw[wD (by omega)]at hu;have AIh:0<sc:=by
        rcases wg sc with q|q
        ·have:sl=0:=by omega
         rw[this,zB]at hol;omega
        ·exact q
       obtain⟨p1,cs1,t1,fr1,hp1,hw1,hc1⟩:=hcell a _ rfl rfl AIh;rw[hp]at hp1;cases hp1;rw[hwc]at hw1;cases hw1;rw[AHs.2.2 AIh];exact hc1 j u' hu
      ·rw[if_pos (by omega)]
       rw[wQ (by omega)]at hu;rw[<- hu];congr 1;omega
     have AHD:∀ j q,φ j=some q->Live ({next:=h.next,low:=B6 h.low a.block,high:=Cq h.high a.block,mark:=h.mark,bl:=bl}:Hp) j->q.blk≠p'.blk:=by
      intro j q hq hl hqb;have hl':bl.get j≠.dead:=hl;rw[BT.AEH AFB]at hl';split at hl'
      ·exact hl' rfl
      ·rename_i hjb
       exact hjb (H.inj j a.block q p hq hp (hE _) (hE _) hl' AEy (.inr (H.AFE hp AEO)) hqb)
     have H2:=Hk.new (lo:=B6 h.low a.block) (hi:=Cq h.high a.block) (mk:=h.mark) (w':=w.setCells p.blk (ao'+sl*ei.size) news') (p:=p') AGP (AAB e4.symm) (by rw[e4];exact(H.dom _ _ hp).2) AHD (fun k _ hk=>e5 k hk) hB;refine⟨_,_,hst,?_,H2,Evo.grow H (H.AFE hp AEO) rfl hp AEy AFB AGP rfl e4 e5 e6 e7 e8⟩;refine .slice (IT _) ⟨rfl,rfl,p',Phi.AEx _ _ _,rfl,.inl ⟨AFx,rfl,.inr ⟨?_,hcap,?_⟩⟩⟩
     ·show 0+need*ei.size=need*ei.size;omega
     ·show 0+sc'*ei.size<=p.off+p.room - ao';omega
   ·rename_i hend
    refine real ?_ hr;rcases hor with ⟨q3,q4,q5|⟨q5,q6,q7⟩⟩|⟨q3,_⟩
    ·exact q5
    ·exfalso
     unfold LJ at hend;cases sc with
     |zero=>omega
     |succ n=>
      simp only at hend;have:wB (xc a.off (wY (n+1) ei.size)) s=true:=Am.2 (by rw[<- AGh.1,<- q5,AIg];rfl);rw[this]at hend;cases hend
    ·exfalso
     subst q3;cases hend
end
end
end Go.Proofs.YtedbmmfebjfibaaGreat

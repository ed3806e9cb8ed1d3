/-
  Part ZC of what Lawru stands on: printed by program, names and spaces cut.
-/
import Derived.Test.YtedbmmfebjfibaaGreatZB
import GoSem.Dispatch
import Derived.WideShapes
import Derived.Sort.Walk0
open Go renaming Value→BY,IntKind→vQ,Operand→vm,World→vt,TypeId→vx,Program→wK,newRow→zo,Addr→AAa,BinOp→AB6
open Nat renaming le_refl→IN,succ→vD,ble→vJ,beq→vO,lt_or_ge→vd,zero_le→vi,mul→vr,le_trans→vw,eq_zero_or_pos→vy,blt→wF,add→wg,beq_refl→wz,add_zero→xM,zero_mul→yd,mod_eq_of_lt→yi,succ_mul→zM,le_of_eq→zO,min_le_left→zW,add_mul→zy,not_lt→AAJ,le_mul_of_pos_right→AAv,succ_ne_zero→ABu,sub_zero→ABv
open Go.Result renaming andThen_ok→IS,ok→ACk
open List renaming getElem?_eq_getElem→No,length_cons→vI,getElem?_append_left→vP,append_nil→vR,getElem?_toArray→vb,getElem?_append_right→ve,getElem?_cons_zero→vf,getElem?_cons_succ→wE,getElem?_map→wN,getElem?_eq_none→wi,extract_eq_take_drop→ya,length_eq_zero_iff→zE
open Go.Sem renaming run_bind→vE,run_pure→vF,run_ite→zL
open Bool renaming and_eq_true→vT,false_eq_true→vo,eq_iff_iff→xI,rec→yC,not_eq_true'→zp,or_eq_false_iff→ABL
open Go.Builtin renaming firstCells→wH,nextslicecap→xz,growBy→yQ,copy_→yg,lenOf→ABo
open Array renaming ext'→wO,range→zV
open Int renaming toNat_natCast→wP,ofNat_eq_natCast→xE,rec→yS
open Option renaming map_some→we,isSome_iff_exists→AAP,map_none→ABb
open Go.Instr renaming sliceAt→wl,sliceBounds→xN,indexAt→yG,loadAt→yT,build→yl,buildSlice→yn,makeSlice→zB,makeInterface→zT,index→zU,extract→zn,fill→AAY,fieldAt→AAg,arrayAt→AAh,slice→ABI,sliceBound→ABf,storeAt→ACD,field→ACa,alloc→ACb
open Go.IntKind renaming i64→xH,u8→AAT
open Std renaming lt_irrefl→zh,lt_trichotomy→ABi,lt_trans→ACj
open Go.Value renaming bool→zu
open UInt8 renaming lt_iff_toNat_lt→AAs,toNat_inj→ABh
open Go.Op renaming unary→AA4,bytesLess→ACz,stringOp→ADB,intArith→ADC,intBits→ADM
open BitVec renaming toNat_xor→ABY,ofInt→ACG
open Go.ByteArray renaming toList_eq→ADQ
set_option linter.unusedVariables false
set_option linter.unusedSimpArgs false
namespace Go.Proofs.YtedbmmfebjfibaaGreat
noncomputable section
open Go
section
variable {P:wK}{ty:TTy}{φ:Phi}{E:Nat→Prop}{h h':Hp}{w:vt}{F:ADS}{e:Env}{v:BY}
theorem Ig{b:Bool}(hr:okB b h=.ok v h'):v=.bool b∧h'=h:=by cases b<;>cases hr<;>exact⟨rfl,rfl⟩
theorem Ea(k:vQ)(n:Int)(h:Hp):okI k n h=.ok (.int k n) h:=by
 cases n with
 |ofNat m=>cases m<;>rfl
 |negSucc m=>show ADi m (fun m=>R.ok (.int k (.negSucc m)) h)=_;rw[AZ]
theorem Eb{k:vQ}{n:Int}(hr:okI k n h=.ok v h'):v=.int k n∧h'=h:=by
 rw[Ea]at hr;cases hr;exact⟨rfl,rfl⟩
theorem mW(a b:Nat):iLt (.ofNat a) (.ofNat b)=wF a b:=rfl
theorem mV(a b:Nat):iLt (.ofNat a) (.negSucc b)=false:=rfl
theorem mU(a b:Nat):iLt (.negSucc a) (.ofNat b)=true:=rfl
theorem mT(a b:Nat):iLt (.negSucc a) (.negSucc b)=wF b a:=rfl
theorem mS(a b:Nat):iEq (.ofNat a) (.ofNat b)=vO a b:=rfl
theorem mR(a b:Nat):iEq (.ofNat a) (.negSucc b)=false:=rfl
theorem mQ(a b:Nat):iEq (.negSucc a) (.ofNat b)=false:=rfl
theorem mP(a b:Nat):iEq (.negSucc a) (.negSucc b)=vO a b:=rfl
theorem Cs(a b:Int):iLt a b=decide (a<b):=by
 cases a<;>cases b<;>simp only[mW,mV,mU,mT]
 ·rename_i a b
  rw[xI,A9,decide_eq_true_iff];exact Int.ofNat_lt.symm
 ·simp only[xE];symm;rw[decide_eq_false_iff_not];omega
 ·simp only[xE];symm;rw[decide_eq_true_iff];omega
 ·rename_i a b
  rw[xI,A9,decide_eq_true_iff];omega
theorem D9(a b:Int):iEq a b=(a == b):=by
 cases a<;>cases b<;>simp only[mS,mR,mQ,mP]
 ·rename_i a b
  rw[xI,Am,beq_iff_eq];simp only[xE];omega
 ·simp only[xE];symm;rw[beq_eq_false_iff_ne];omega
 ·simp only[xE];symm;rw[beq_eq_false_iff_ne];omega
 ·rename_i a b
  rw[xI,Am,beq_iff_eq];omega
theorem ae(k:vQ):((BB k:Nat):Int)<2 ^ k.bits∧(k.signed=true→((BB k:Nat):Int)<2 ^ (k.bits - 1)):=by
 cases k<;>decide
theorem DA(k:vQ)(m:Nat)(h:m≤BB k):k.wrap (m:Int)=m:=by
 have h1:=ae k;unfold IntKind.wrap;have e:((m:Int)) % (2 ^ k.bits:Int)=m:=Int.emod_eq_of_lt (by omega) (by omega);rw[e];simp only;rw[if_neg];intro hh;simp only[vT,decide_eq_true_eq]at hh;have:=h1.2 hh.1;omega
theorem Cr(k:vQ)(n:Int):EH k n=k.wrap n:=by
 cases n with
 |ofNat m=>
  show yC (motive:=fun _=>Int) (k.wrap (.ofNat m)) (.ofNat m) (vJ m (BB k))=_;cases hb:vJ m (BB k)with
  |false=>rfl
  |true=>exact(DA k m (Ab.1 hb)).symm
 |negSucc m=>rfl
theorem Hc{a b:vQ}(h:FW a b=true):b=a:=by
 have:=Am.1 h;cases a<;>cases b<;>first|rfl|(exact absurd this (by decide))
theorem E5{k:vQ}{x:BY}{n:Int}(h:CW k x=.ok n):x=.int k n:=by
 cases x<;>first|(cases h;done)|skip
 rename_i q m;have h:yC (motive:=fun _=>NI) .no (.ok m) (FW k q)=.ok n:=h;cases hs:FW k q with
 |false=>rw[hs]at h;cases h
 |true=>rw[hs]at h;cases h;rw[Hc hs]
theorem d7{k:vQ}{x:BY}{n:Nat}(h:Ff k x=.ok n):x=.int k n:=by
 cases x<;>first|(cases h;done)|skip
 rename_i q m;have h:yC (motive:=fun _=>NN) .no (yS (motive:=fun _=>NN) (fun m=>.ok m) (fun _=>.no) m) (FW k q)=.ok n:=h;cases hs:FW k q with
 |false=>rw[hs]at h;cases h
 |true=>
  rw[hs]at h;cases m with
  |ofNat m=>cases h;rw[Hc hs];rfl
  |negSucc m=>cases h
theorem UY{x:BY}{n:Int}(h:WA x=.ok n):∃ k,x=.int k n:=by
 cases x<;>first|(cases h;done)|(cases h;exact⟨_,rfl⟩)
theorem d8{x:BY}{n:Nat}(h:Cz x=.ok n):∃ k,x=.int k n:=by
 cases x<;>first|(cases h;done)|skip
 rename_i q m;cases m with
 |ofNat m=>cases h;exact⟨_,rfl⟩
 |negSucc m=>cases h
theorem Hi{x:BY}{a:AAa}(h:Dh x=.ok a):x=.pointer (some a):=by
 cases x<;>first|(cases h;done)|skip
 rename_i o;cases o with
 |none=>cases h
 |some a=>cases h;rfl
theorem ADU.ADz{k:vQ}{n:Int}{x:BY}(h:ADU φ (.int k n) x):x=.int k n:=by cases h;rfl
theorem ADU.AEK{b:Bool}{x:BY}(h:ADU φ (.bool b) x):x=.bool b:=by cases h;rfl
theorem ADU.ADr{s:ByteArray}{x:BY}(h:ADU φ (.string s) x):x=.string s:=by cases h;rfl
theorem ADU.AEa{a:AAa}{x:BY}(h:ADU φ (.pointer (some a)) x):∃ a',x=.pointer (some a')∧AEn φ a a':=by
 cases h with|ptr h=>exact⟨_,rfl,h⟩
def Bn(op:AB6)(t:vx)(X Y:vm)(a b:BY):Sem BY:=do eqGuard op t X Y a b;binOp op t a b
theorem FB(op:AB6)(t:vx)(X Y:vm)(j k:vQ)(m n:Int):(eqGuard op t X Y (.int j m) (.int k n)).run P w=.ok () w:=by cases op<;>rfl
theorem NY(op:AB6)(t:vx)(X Y:vm)(m n:ByteArray):(eqGuard op t X Y (.string m) (.string n)).run P w=.ok () w:=by cases op<;>rfl
theorem Qu(H:ADX ty φ E h w){x:O}{x':BY}(hx:ADU φ (x e) x')(hr:AE x F e h=.ok v h'):BM ty φ E h w v h' (.ok x' w):=by
 unfold AE at hr;rw[Et]at hr;cases hr;exact .same H hx
theorem Zf(H:ADX ty φ E h w){c a b:O}{c' a' b':BY}(hc:ADU φ (c e) c')(ha:ADU φ (a e) a')(hb:ADU φ (b e) b')(hr:A0 c a b F e h=.ok v h'):
  BM ty φ E h w v h' ((do pure (if ← asBool c' then a' else b'):Sem BY).run P w):=by
 unfold A0 at hr;cases hce:c e with
 |bool t=>
  rw[hce]at hr hc;obtain rfl:=hc.AEK;cases t with
  |false=>
   have hr:AEm (b e) h=.ok v h':=hr;rw[Et]at hr;cases hr;exact .same H hb
  |true=>
   have hr:AEm (a e) h=.ok v h':=hr;rw[Et]at hr;cases hr;exact .same H ha
 |_=>rw[hce]at hr;cases hr
theorem lX(H:ADX ty φ E h w){f:Int→Int→Bool}{k:vQ}{x y:O}{x' y':BY}(hx:ADU φ (x e) x')(hy:ADU φ (y e) y')(hr:Ai f k x y F e h=.ok v h'):
  ∃ m n,x'=.int k m∧y'=.int k n∧v=.bool (f m n)∧h'=h:=by
 unfold Ai cF at hr;cases h1:CW k (x e)with
 |no=>rw[h1]at hr;cases hr
 |ok m=>
  cases h2:CW k (y e)with
  |no=>rw[h1,h2]at hr;cases hr
  |ok n=>
   rw[h1,h2]at hr;rw[E5 h1]at hx;rw[E5 h2]at hy;obtain⟨r1,r2⟩:=Ig hr;exact⟨m,n,hx.ADz,hy.ADz,r1,r2⟩
theorem Hz(H:ADX ty φ E h w){f:Int→Int→Bool}{op:AB6}(hop:(f=iEq∧op=.eql)∨(f=iNe∧op=.neq)∨(f=iLt∧op=.lss)∨(f=iLe∧op=.leq)∨(f=iGt∧op=.gtr)∨(f=iGe∧op=.geq))
  {k:vQ}{x y:O}{x' y':BY}{t:vx}{X Y:vm}(hx:ADU φ (x e) x')(hy:ADU φ (y e) y')(hr:Ai f k x y F e h=.ok v h'):BM ty φ E h w v h' ((Bn op t X Y x' y').run P w):=by
 obtain⟨m,n,rfl,rfl,rfl,rfl⟩:=lX H hx hy hr;have key:(Bn op t X Y (.int k m) (.int k n)).run P w=.ok (.bool (f m n)) w:=by
  unfold Bn;rw[vE,FB,IS];rcases hop with ⟨rfl,rfl⟩|⟨rfl,rfl⟩|⟨rfl,rfl⟩|⟨rfl,rfl⟩|⟨rfl,rfl⟩|⟨rfl,rfl⟩<;>
   simp only[binOp,ne_eq,not_true_eq_false,if_false,Op.intCmp,vF,ACk.injEq,zu.injEq,and_true,iNe,iLe,iGt,iGe,Cs,D9]
  ·rfl
  ·rw[xI];simp only[decide_eq_true_iff,zp,decide_eq_false_iff_not];omega
  ·rw[xI];simp only[decide_eq_true_iff,zp,decide_eq_false_iff_not];omega
 rw[key];exact .same H (.bool _)
theorem VI{k:vQ}{x y:O}{x' y':BY}(hx:ADU φ (x e) x')(hy:ADU φ (y e) y'){g:Int→Int→R}{r:R}
  (hr:NI.rec (motive:=fun _=>R) .no (fun a=>NI.rec (motive:=fun _=>R) .no (fun b=>g a b) (CW k (y e))) (CW k (x e))=r)(hne:r≠.no):
  ∃ m n,x'=.int k m∧y'=.int k n∧g m n=r:=by
 cases h1:CW k (x e)with
 |no=>rw[h1]at hr;exact absurd hr.symm hne
 |ok m=>
  cases h2:CW k (y e)with
  |no=>rw[h1,h2]at hr;exact absurd hr.symm hne
  |ok n=>
   rw[h1,h2]at hr;rw[E5 h1]at hx;rw[E5 h2]at hy;exact⟨m,n,hx.ADz,hy.ADz,hr⟩
theorem Un(H:ADX ty φ E h w){f:Int→Int→Int}{op:AB6}(hop:(f=Int.sub∧op=.sub)∨(f=Int.mul∧op=.mul))
  {k:vQ}{x y:O}{x' y':BY}{t:vx}{X Y:vm}(hx:ADU φ (x e) x')(hy:ADU φ (y e) y')(hr:Cj f k x y F e h=.ok v h'):BM ty φ E h w v h' ((Bn op t X Y x' y').run P w):=by
 obtain⟨m,n,rfl,rfl,hg⟩:=VI hx hy hr (by intro h;cases h);obtain⟨rfl,rfl⟩:=Eb hg;have key:(Bn op t X Y (.int k m) (.int k n)).run P w=.ok (.int k (EH k (f m n))) w:=by
  unfold Bn;rw[vE,FB,IS,Cr];rcases hop with ⟨rfl,rfl⟩|⟨rfl,rfl⟩<;>
   simp only[binOp,ne_eq,not_true_eq_false,if_false,ADC,vF]<;>rfl
 rw[key];exact .same H (.int _ _)
theorem AET{k:vQ}{a b:Int}(hr:yS (motive:=fun _=>R) (fun x=>yS (motive:=fun _=>R)
   (fun y=>yC (motive:=fun _=>R) (okI k (k.wrap (a+b)) h) (ADi (wg x y) fun n=>.ok (.int k (.ofNat n)) h) (vJ (wg x y) (BB k)))
   (fun _=>okI k (EH k (a+b)) h) b)
   (fun _=>okI k (EH k (a+b)) h) a=.ok v h'):v=.int k (k.wrap (a+b))∧h'=h:=by
 cases a with
 |negSucc a=>
  have:=Eb hr;rw[Cr]at this;exact this
 |ofNat a=>
  cases b with
  |negSucc b=>have:=Eb hr;rw[Cr]at this;exact this
  |ofNat b=>
   simp only at hr;cases hb:vJ (wg a b) (BB k)with
   |false=>rw[hb]at hr;exact Eb hr
   |true=>
    rw[hb]at hr;simp only[AZ]at hr;cases hr;refine⟨?_,rfl⟩;have:=DA k (a+b) (Ab.1 hb);simp only[xE];rw[← Int.natCast_add,this];rfl
theorem eG(H:ADX ty φ E h w){k:vQ}{x y:O}{x' y':BY}{t:vx}{X Y:vm}(hx:ADU φ (x e) x')(hy:ADU φ (y e) y')(hr:CC k (BB k) x y F e h=.ok v h'):
  BM ty φ E h w v h' ((Bn .add t X Y x' y').run P w):=by
 obtain⟨m,n,rfl,rfl,hg⟩:=VI hx hy hr (by intro h;cases h);obtain⟨rfl,rfl⟩:=AET hg;have key:(Bn .add t X Y (.int k m) (.int k n)).run P w=.ok (.int k (k.wrap (m+n))) w:=by
  unfold Bn;rw[vE,FB,IS];simp only[binOp,ne_eq,not_true_eq_false,if_false,ADC,vF]
 rw[key];exact .same H (.int _ _)
theorem QG{n:Int}(hb:iEq n 0=false):n≠0:=by
 rw[D9]at hb;simpa using hb
theorem eZ(H:ADX ty φ E h w){k:vQ}{x y:O}{x' y':BY}{t:vx}{X Y:vm}(hx:ADU φ (x e) x')(hy:ADU φ (y e) y')(hr:KL k x y F e h=.ok v h'):
  BM ty φ E h w v h' ((Bn .quo t X Y x' y').run P w):=by
 unfold KL YV at hr;split at hr
 case h_2=>cases hr
 rename_i m h1;split at hr
 case h_2=>cases hr
 rename_i n h2;rw[E5 h1]at hx;rw[E5 h2]at hy;obtain rfl:=hx.ADz;obtain rfl:=hy.ADz;cases hb:iEq n 0 with
 |true=>rw[hb]at hr;cases hr
 |false=>
  rw[hb]at hr;obtain⟨rfl,rfl⟩:=Eb hr;have key:(Bn .quo t X Y (.int k m) (.int k n)).run P w=.ok (.int k (EH k (m.tdiv n))) w:=by
   unfold Bn;rw[vE,FB,IS,Cr];simp only[binOp,ne_eq,not_true_eq_false,if_false,Op.intDiv,QG hb,vF]
  rw[key];exact .same H (.int _ _)
theorem fH(H:ADX ty φ E h w){k:vQ}{x y:O}{x' y':BY}{t:vx}{X Y:vm}(hx:ADU φ (x e) x')(hy:ADU φ (y e) y')(hr:K8 k x y F e h=.ok v h'):
  BM ty φ E h w v h' ((Bn .rem t X Y x' y').run P w):=by
 unfold K8 Z9 at hr;split at hr
 case h_2=>cases hr
 rename_i m h1;split at hr
 case h_2=>cases hr
 rename_i n h2;rw[E5 h1]at hx;rw[E5 h2]at hy;obtain rfl:=hx.ADz;obtain rfl:=hy.ADz;cases hb:iEq n 0 with
 |true=>rw[hb]at hr;cases hr
 |false=>
  rw[hb]at hr;obtain⟨rfl,rfl⟩:=Eb hr;have key:(Bn .rem t X Y (.int k m) (.int k n)).run P w=.ok (.int k (m.tmod n)) w:=by
   unfold Bn;rw[vE,FB,IS];simp only[binOp,ne_eq,not_true_eq_false,if_false,Op.intDiv,QG hb,vF]
  rw[key];exact .same H (.int _ _)
theorem fF(H:ADX ty φ E h w){x:O}{x':BY}(hx:ADU φ (x e) x')(hr:Dq x F e h=.ok v h'):BM ty φ E h w v h' ((AA4 .not x').run P w):=by
 unfold Dq at hr;split at hr
 ·rename_i b hb
  rw[hb]at hx;obtain rfl:=hx.AEK;obtain⟨rfl,rfl⟩:=Ig hr;exact .same H (.bool _)
 ·cases hr
theorem ez(H:ADX ty φ E h w){k:vQ}{x:O}{x':BY}(hx:ADU φ (x e) x')(hr:Zb k x F e h=.ok v h'):BM ty φ E h w v h' ((AA4 .neg x').run P w):=by
 unfold Zb at hr;split at hr
 ·rename_i n hn
  rw[E5 hn]at hx;obtain rfl:=hx.ADz;obtain⟨rfl,rfl⟩:=Eb hr;rw[Cr];exact .same H (.int _ _)
 ·cases hr
theorem ZO(H:ADX ty φ E h w){k:vQ}{x:O}{x':BY}(hx:ADU φ (x e) x')(hr:Cf k x F e h=.ok v h'):
  ∃ q n,x'=.int q n∧BM ty φ E h w v h' ((Conv.intToInt k n).run P w):=by
 unfold Cf at hr;split at hr
 ·rename_i n hn
  obtain⟨q,hq⟩:=UY hn;rw[hq]at hx;obtain rfl:=hx.ADz;obtain⟨rfl,rfl⟩:=Eb hr;rw[Cr];exact⟨q,n,rfl,.same H (.int _ _)⟩
 ·cases hr
end
end
noncomputable section
open Go
section
variable {P:wK}{ty:TTy}{φ:Phi}{E:Nat→Prop}{h h':Hp}{w:vt}{F:ADS}{e:Env}{v:BY}
def Jh:vQ→Nat
 |.i8=>7|.i16=>15|.i32=>31|.i64=>63|.u8=>8|.u16=>16|.u32=>32|.u64=>64
theorem Rr(k:vQ):BB k+1=2 ^ Jh k:=by cases k<;>rfl
theorem TU(k:vQ):Jh k≤k.bits:=by cases k<;>decide
theorem KQ{k:vQ}{a:Nat}(ha:a≤BB k):(ACG k.bits (a:Int)).toNat=a:=by
 have h1:=Rr k;have h2:2 ^ Jh k≤2 ^ k.bits:=Nat.pow_le_pow_right (by omega) (TU k);rw[BitVec.ofInt_natCast,BitVec.toNat_ofNat,yi (by omega)]
theorem EC{x:O}{x':BY}(hx:ADU φ (x e) x'){n:Nat}(h:Cz (x e)=.ok n):∃ k,x'=.int k n:=by
 obtain⟨k,hk⟩:=d8 h;rw[hk]at hx;exact⟨k,hx.ADz⟩
theorem HT{k:vQ}{x:O}{x':BY}(hx:ADU φ (x e) x'){n:Nat}(h:Ff k (x e)=.ok n):x'=.int k n:=by
 rw[d7 h]at hx;exact hx.ADz
theorem Ow(H:ADX ty φ E h w){f:Nat→Nat→Nat}{op:AB6}(hop:(f=Nat.land∧op=.and)∨(f=Nat.lor∧op=.or)∨(f=Nat.xor∧op=.xor))
  {k:vQ}{x y:O}{x' y':BY}{t:vx}{X Y:vm}(hx:ADU φ (x e) x')(hy:ADU φ (y e) y')(hr:KJ f k x y F e h=.ok v h'):BM ty φ E h w v h' ((Bn op t X Y x' y').run P w):=by
 unfold KJ XR at hr;split at hr
 case h_2=>cases hr
 rename_i a h1;split at hr
 case h_2=>cases hr
 rename_i b h2;obtain⟨ha,hr⟩:=Bk hr;obtain⟨hb,hr⟩:=Bk hr;obtain rfl:=HT hx h1;obtain rfl:=HT hy h2;obtain⟨rfl,rfl⟩:=Eb hr;have ha:=Ab.1 ha;have hb:=Ab.1 hb;have ea:=KQ ha;have eb:=KQ hb;have ht:=Rr k;have key:(Bn op t X Y (.int k a) (.int k b)).run P w=.ok (.int k (.ofNat (f a b))) w:=by
  unfold Bn;rw[vE,FB,IS];rcases hop with ⟨rfl,rfl⟩|⟨rfl,rfl⟩|⟨rfl,rfl⟩<;>
   simp only[binOp,ne_eq,not_true_eq_false,if_false,ADM,vF,BitVec.toNat_and,BitVec.toNat_or,ABY,ea,eb]
  ·have:a &&& b≤BB k:=vw Nat.and_le_left ha
   rw[DA k _ this];rfl
  ·have:a ||| b<2 ^ Jh k:=Nat.or_lt_two_pow (by omega) (by omega)
   rw[DA k _ (by omega)];rfl
  ·have:a ^^^ b<2 ^ Jh k:=Nat.xor_lt_two_pow (by omega) (by omega)
   rw[DA k _ (by omega)];rfl
 rw[key];exact .same H (.int _ _)
theorem QF(op:AB6)(hop:op=.shl∨op=.shr)(t:vx)(X Y:vm)(a b:BY):(eqGuard op t X Y a b).run P w=.ok () w:=by
 rcases hop with rfl|rfl<;>rfl
theorem fJ(H:ADX ty φ E h w){k:vQ}{x y:O}{x' y':BY}{t:vx}{X Y:vm}(hx:ADU φ (x e) x')(hy:ADU φ (y e) y')(hr:NE k x y F e h=.ok v h'):
  BM ty φ E h w v h' ((Bn .shl t X Y x' y').run P w):=by
 unfold NE aM at hr;split at hr
 case h_2=>cases hr
 rename_i a h1;split at hr
 case h_2=>cases hr
 rename_i b h2;obtain rfl:=HT hx h1;obtain⟨q,rfl⟩:=EC hy h2;obtain⟨rfl,rfl⟩:=Eb hr;have key:(Bn .shl t X Y (.int k a) (.int q b)).run P w=.ok (.int k (k.wrap (.ofNat (a*2 ^ (min b k.bits))))) w:=by
  unfold Bn;rw[vE,QF _ (.inl rfl),IS];have:¬ ((b:Int)<0):=by omega
  simp only[binOp,Op.shift,this,if_false,vF,wP];simp
 rw[key,Cr,BJ];exact .same H (.int _ _)
theorem fM(H:ADX ty φ E h w){k:vQ}{x y:O}{x' y':BY}{t:vx}{X Y:vm}(hx:ADU φ (x e) x')(hy:ADU φ (y e) y')(hr:K9 k x y F e h=.ok v h'):
  BM ty φ E h w v h' ((Bn .shr t X Y x' y').run P w):=by
 unfold K9 aN at hr;split at hr
 case h_2=>cases hr
 rename_i a h1;split at hr
 case h_2=>cases hr
 rename_i b h2;obtain rfl:=HT hx h1;obtain⟨q,rfl⟩:=EC hy h2;obtain⟨rfl,rfl⟩:=Eb hr;have key:(Bn .shr t X Y (.int k a) (.int q b)).run P w=.ok (.int k (.ofNat (a/2 ^ (min b k.bits)))) w:=by
  unfold Bn;rw[vE,QF _ (.inr rfl),IS];have:¬ ((b:Int)<0):=by omega
  simp only[binOp,Op.shift,this,if_false,vF,wP]
  congr 2
  have e2:((2:Int) ^ min b k.bits)=((2 ^ min b k.bits:Nat):Int):=by simp
  rw[e2,Int.fdiv_eq_ediv_of_nonneg _ (Int.natCast_nonneg _)];rfl
 rw[key,BJ];exact .same H (.int _ _)
theorem Lh:∀ x y:List UInt8,bEq x y=(x == y)
 |[],[]=>rfl
 |[],_::_=>rfl
 |_::_,[]=>rfl
 |a::x,b::y=>by
  have ih:=Lh x y;unfold bEq;rw[ih,List.cons_beq_cons];cases hab:vO a.toNat b.toNat with
  |true=>
   have:a=b:=ABh.1 (Am.1 hab);simp[this]
  |false=>
   have:a≠b:=fun h=>by rw[h]at hab;rw[wz]at hab;cases hab
   simp[this]
theorem XN:∀ x y:List UInt8,bLt x y=ACz x y
 |[],[]=>rfl
 |[],_::_=>rfl
 |_::_,[]=>rfl
 |a::x,b::y=>by
  have ih:=XN x y;unfold bLt ACz;rw[ih];cases hlt:wF a.toNat b.toNat with
  |true=>
   have:a<b:=AAs.2 (A9.1 hlt);simp[this]
  |false=>
   have:¬ a<b:=fun h=>by rw[A9.2 (AAs.1 h)]at hlt;cases hlt
   cases hab:vO a.toNat b.toNat with
   |true=>
    have:a=b:=ABh.1 (Am.1 hab);simp[this]
   |false=>
    have h2:a≠b:=fun h=>by rw[h]at hab;rw[wz]at hab;cases hab
    simp[this,h2]
theorem tM{f:List UInt8→List UInt8→Bool}{x y:O}{x' y':BY}(hx:ADU φ (x e) x')(hy:ADU φ (y e) y')(hr:JS f x y F e h=.ok v h'):
  ∃ a b,x'=.string a∧y'=.string b∧v=.bool (f a.data.toList b.data.toList)∧h'=h:=by
 unfold JS aW at hr;split at hr
 case h_2=>cases hr
 rename_i a h1;split at hr
 case h_2=>cases hr
 rename_i b h2;rw[h1]at hx;rw[h2]at hy;obtain⟨r1,r2⟩:=Ig hr;exact⟨a,b,hx.ADr,hy.ADr,r1,r2⟩
theorem H5(H:ADX ty φ E h w){f:List UInt8→List UInt8→Bool}{op:AB6}
  (hop:(f=bEq∧op=.eql)∨(f=(fun a b=> !bEq a b)∧op=.neq)∨(f=bLt∧op=.lss)∨(f=(fun a b=>bLt b a)∧op=.gtr)∨(f=(fun a b=> !bLt b a)∧op=.leq)∨(f=(fun a b=> !bLt a b)∧op=.geq))
  {x y:O}{x' y':BY}{t:vx}{X Y:vm}(hx:ADU φ (x e) x')(hy:ADU φ (y e) y')(hr:JS f x y F e h=.ok v h'):BM ty φ E h w v h' ((Bn op t X Y x' y').run P w):=by
 obtain⟨a,b,rfl,rfl,rfl,rfl⟩:=tM hx hy hr;have key:(Bn op t X Y (.string a) (.string b)).run P w=.ok (.bool (f a.data.toList b.data.toList)) w:=by
  unfold Bn;rw[vE,NY,IS];rcases hop with ⟨rfl,rfl⟩|⟨rfl,rfl⟩|⟨rfl,rfl⟩|⟨rfl,rfl⟩|⟨rfl,rfl⟩|⟨rfl,rfl⟩<;>
   simp only[binOp,ADB,vF,ACk.injEq,zu.injEq,and_true,Lh,XN,ADQ]
  all_goals
   rw[bytesLess_eq,bytesLess_eq,xI];simp only[zp,ABL,Bool.or_eq_true,decide_eq_true_iff,decide_eq_false_iff_not,beq_iff_eq,beq_eq_false_iff_ne]
  ·constructor
   ·rintro⟨h1,h2⟩
    rcases ABi a.data.toList b.data.toList with h|h|h
    ·exact absurd h h1
    ·exact absurd h h2
    ·exact h
   ·intro h
    exact⟨fun h2=>absurd (ACj h h2) (zh),fun h2=>by rw[h2]at h;exact zh h⟩
  ·constructor
   ·rintro (h1|h1) h
    ·exact zh (ACj h h1)
    ·rw[h1]at h;exact zh h
   ·intro h1
    rcases ABi a.data.toList b.data.toList with h|h|h
    ·exact .inl h
    ·exact .inr h
    ·exact absurd h h1
 rw[key];exact .same H (.bool _)
theorem HC{a:ByteArray}{l:List UInt8}(h:a.data.toList=l):a=⟨⟨l⟩⟩:=by
 cases a;rename_i d;cases d;simp at h;rw[h]
theorem eQ(H:ADX ty φ E h w){x y:O}{x' y':BY}{t:vx}{X Y:vm}(hx:ADU φ (x e) x')(hy:ADU φ (y e) y')(hr:eO x y F e h=.ok v h'):
  BM ty φ E h w v h' ((Bn .add t X Y x' y').run P w):=by
 unfold eO cC at hr;split at hr
 case h_2=>cases hr
 rename_i a h1;split at hr
 case h_2=>cases hr
 rename_i b h2;rw[h1]at hx;rw[h2]at hy;obtain rfl:=hx.ADr;obtain rfl:=hy.ADr;obtain⟨hb,hr⟩:=Bk hr;cases hr;have hb:=Ab.1 hb;rw[BI,BI]at hb;have key:(Bn .add t X Y (.string a) (.string b)).run P w=.ok (.string (a++b)) w:=by
  unfold Bn;rw[vE,NY,IS];have e1:a.size=a.data.toList.length:=rfl;have e2:b.size=b.data.toList.length:=rfl;have:¬ ((a.size+b.size:Nat):Int) > xH.max:=by
   rw[e1,e2];have h1:xH.max=9223372036854775807:=by decide
   have h2:most=1099511627776:=rfl;rw[h1];rw[h2]at hb;have h3:a.data.toList.length+b.data.toList.length≤1099511627776:=hb;omega
  simp only[binOp,ADB,this,if_false,vF]
 rw[key,← HC (a:=a++b) (l:=a.data.toList++b.data.toList) (by simp)];exact .same H (.string _)
theorem eU(H:ADX ty φ E h w){x:O}{x':BY}(hx:ADU φ (x e) x')(hr:ZQ x F e h=.ok v h'):BM ty φ E h w v h' ((AA4 .xor x').run P w):=by
 unfold ZQ at hr;split at hr
 ·rename_i n hn
  obtain rfl:=HT hx hn;obtain⟨hb,hr⟩:=Bk hr;have hb:=Ab.1 hb;obtain⟨rfl,rfl⟩:=Eb hr;have key:(AA4 .xor (.int .u8 n)).run P w=.ok (.int .u8 (.ofNat (255 - n))) w:=by
   simp only[AA4,ADM,vF,ABY];have ea:=KQ (k:=.u8) hb;have e1:(ACG AAT.bits (if AAT.signed then -1 else AAT.max)).toNat=255:=by decide
   rw[e1,ea];have e2:255 ^^^ n=255 - n:=by
    have:∀ n:Fin 256,255 ^^^ n.val=255 - n.val:=by decide +kernel
    exact this ⟨n,by omega⟩
   rw[e2,DA .u8 (255 - n) (by show _≤255;omega)];rfl
  rw[key];exact .same H (.int _ _)
 ·cases hr
end
end
noncomputable section
open Go
section
variable {P:wK}{ty:TTy}{φ:Phi}{E:Nat→Prop}{h h':Hp}{w:vt}{F:ADS}{e:Env}{v:BY}
theorem Fh{x:O}{x':BY}(hx:ADU φ (x e) x'){a:AAa}(h:Dh (x e)=.ok a):∃ a',x'=.pointer (some a')∧AEn φ a a':=by
 rw[Hi h]at hx;exact hx.AEa
theorem GP(a:AAa):(Instr.sureAddr (.pointer (some a))).run P w=.ok a w:=rfl
theorem Wb(H:ADX ty φ E h w){x:O}{x':BY}{t:vx}{ti:TI}(T:ADt P t ti)(AFt:ti.k.agg=false)(hx:ADU φ (x e) x')
  (hE:∀ a,x e=.pointer (some a)→¬ E a.block)(hr:AP x F e h=.ok v h'):BM ty φ E h w v h' ((yT t x').run P w):=by
 unfold AP at hr;cases ha:Dh (x e)with
 |no=>rw[ha]at hr;cases hr
 |ok a=>
  rw[ha]at hr;obtain⟨a',rfl,hra⟩:=Fh hx ha;obtain⟨rfl,v',hc,hv⟩:=Qc H hr hra (hE a (Hi ha));have key:(yT t (.pointer (some a'))).run P w=.ok v' w:=by
   simp only[yT,vE,GP,IS,loadVar,T.agg,AFt,run_load,hc,vo,if_false]
  rw[key];exact .same H hv
theorem Qd(H:ADX ty φ E h w){n:Nat}{a a':AAa}(hr:loadN n a h=.ok v h')(ha:AEn φ a a')(hE:¬ E a.block):
  h'=h∧∃ l,ADU φ v (.agg ⟨l⟩)∧(loadCells a' n).run P w=.ok l.toArray w:=by
 unfold loadN at hr;split at hr
 case h_2=>cases hr
 rename_i c s en hrow;obtain⟨hb,hr⟩:=Bk hr;rw[Fo,vR]at hr;cases hr;obtain⟨l,hl,_,hrun,_⟩:=Qe H ha hE hrow (Ab.1 hb);exact⟨rfl,l,.agg hl,hrun w rfl⟩
theorem Wd(H:ADX ty φ E h w){x:O}{x':BY}{t:vx}{ti:TI}(T:ADt P t ti)(AFt:ti.k.agg=true)(hx:ADU φ (x e) x')
  (hE:∀ a,x e=.pointer (some a)→¬ E a.block)(hr:Bb ti.size x F e h=.ok v h'):BM ty φ E h w v h' ((yT t x').run P w):=by
 unfold Bb at hr;split at hr
 case h_2=>cases hr
 rename_i a ha;obtain⟨a',rfl,hra⟩:=Fh hx ha;obtain⟨rfl,l,hv,hrun⟩:=Qd (P:=P) H hr hra (hE a (Hi ha));have key:(yT t (.pointer (some a'))).run P w=.ok (.agg l.toArray) w:=by
  simp only[yT,vE,GP,IS,loadVar,T.agg,AFt,T.size,hrun,if_true,vF]
 rw[key];exact .same H hv
def XG(ty:TTy)(φ:Phi)(E:Nat→Prop)(h:Hp)(w:vt)(v:BY)(h':Hp)(r:Result Unit):Prop:=
 v=ADV∧∃ w',r=.ok () w'∧ADX ty φ E h' w'∧Evo φ h w φ h' w'
theorem PF{a:AAa}{u:BY}{k:Hp→R}(hr:Ci a (cellsOf u) h k=.ok v h'):known u=true:=by
 cases u<;>first|rfl|skip
 rename_i cc;cases cc with
 |some r=>rfl
 |none=>
 exfalso
 unfold Ci at hr;cases hrow:rowOf h a.block with
 |no=>rw[hrow]at hr;cases hr
 |ok c s e=>
  rw[hrow]at hr;simp only at hr;obtain⟨_,hr⟩:=Bk hr;have h1:=(Bk hr).1;cases h1
theorem Wj(H:ADX ty φ E h w){x y:O}{x' y':BY}{t:vx}{ti:TI}(T:ADt P t ti)(hx:ADU φ (x e) x')(hy:ADU φ (y e) y')
  (hE:∀ a,x e=.pointer (some a)→¬ E a.block)(hr:Au ti.size x y F e h=.ok v h'):XG ty φ E h w v h' ((ACD t x' y').run P w):=by
 unfold Au at hr;split at hr
 case h_2=>cases hr
 rename_i a ha;obtain⟨a',rfl,hra⟩:=Fh hx ha;rw[BC]at hr;obtain⟨hb,hr⟩:=Bk hr;have hc:=J0 hy (PF hr);obtain⟨h1,w1,hk,hrun,H1,ev⟩:=IB (P:=P) H hr hra hc (hE a (Hi ha));cases hk;refine⟨rfl,w1,?_,H1,ev⟩;have hsz:y'.cells.size=ti.size:=by
  have:=hc.length;rw[← Am.1 hb,BI,← this];simp
 simp only[ACD,vE,GP,IS,storeVar,T.size,hsz,ne_eq,not_true_eq_false,if_false,hrun,vF]
theorem fC(H:ADX ty φ E h w){x:O}{x':BY}(hx:ADU φ (x e) x')(hr:Bf x F e h=.ok v h'):
  ADU φ v x'∧h'=h∧(x'≠.pointer none∧x'≠.nilIface∧x'≠.nilFunc∧∀ nm f c,x'≠.func (.method nm) f c):=by
 unfold Bf WN at hr;split at hr
 ·rename_i a ha
  cases hr;rw[ha]at hx;obtain⟨a',rfl,hra⟩:=hx.AEa;exact⟨.ptr hra,rfl,by simp⟩
 ·rename_i f a b ha
  cases hr;rw[ha]at hx;cases hx with|func fn h1 h2=>exact⟨.func _ h1 h2,rfl,by simp⟩
 ·rename_i a n c ha
  cases hr;rw[ha]at hx;refine⟨hx,rfl,?_⟩;cases hx<;>simp
 ·rename_i m ha
  cases hr;rw[ha]at hx;refine⟨hx,rfl,?_⟩;cases hx<;>simp
 ·rename_i t u ha
  rw[BC]at hr;cases hr;rw[ha]at hx;refine⟨hx,rfl,?_⟩;cases hx<;>simp
 ·cases hr
theorem Gb(H:ADX ty φ E h w){cs cs':List BY}{k:Nat→Hp→R}(hr:newRow h 0 cs k=.ok v h')(ADy:ADp φ cs cs')(t:vx):
  ∃ h1 ψ,k h.next h1=.ok v h'∧ψ h.next=some {blk:=w.heap.size,off:=0,sz:=cs.length,room:=cs.length,es:=1}∧
   ADX ty ψ E h1 {w with heap:=w.heap.push (.cells ⟨cs'⟩ t)}∧Evo φ h w ψ h1 {w with heap:=w.heap.push (.cells ⟨cs'⟩ t)}:=by
 have hlen:=ADy.length;obtain⟨h1,hk,H1,ev⟩:=Nn (cs':=⟨cs'⟩) (t:=t) (fr:=(0,0)) (w':={w with heap:=w.heap.push (.cells ⟨cs'⟩ t)})
  (p:={blk:=w.heap.size,off:=0,sz:=cs.length,room:=cs.length,es:=1}) H hr (by simp[hlen]) ⟨rfl,.inl ⟨rfl,rfl,rfl,.inl rfl⟩⟩ (by simp[hlen]) (.inl rfl)
  (fun j u hj=>by simpa using ADy.get j u hj) rfl rfl rfl rfl
 exact⟨h1,_,hk,Phi.AED _ _ _,H1,ev⟩
theorem O8{ψ:Phi}{n:Nat}{p:Pl}(hp:ψ n=some p)(ho:p.off=0):ADU ψ (.pointer (some ⟨n,0,none⟩)) (.pointer (some ⟨p.blk,0,none⟩)):=
 .ptr ⟨rfl,rfl,p,hp,rfl,by simp[ho]⟩
theorem eN(H:ADX ty φ E h w){x:O}{x':BY}{t:vx}(hx:ADU φ (x e) x')(hr:C7 x F e h=.ok v h'):BM ty φ E h w v h' ((Instr.box t x').run P w):=by
 unfold C7 at hr;rw[BC]at hr;obtain⟨hkn,hr⟩:=Bk hr;obtain⟨h1,ψ,hk,hp,H1,ev⟩:=Gb H hr (J0 hx hkn) t;cases hk;exact⟨_,_,ψ,rfl,O8 hp rfl,H1,ev⟩
theorem WP(H:ADX ty φ E h w){t:vx}{ti:TI}(T:ADt P t ti){c:VT}(hz:ti.zero.length=ti.size)(hc:Bx .mt 0 ti.zero=some c)(hr:Bv ti.size c F e h=.ok v h'):
  BM ty φ E h w v h' ((ACb t true (.tuple #[])).run P w):=by
 obtain⟨z,_,hzr,hzc,hzp⟩:=T.AEY hz;have hr':newRow h 0 ti.zero Ii=.ok v h':=by
  unfold newRow CE;rw[hc];simp only[AZ,BI,hz];exact hr
 obtain⟨h1,ψ,hk,hp,H1,ev⟩:=Gb H hr' (.plain hzp) t;cases hk;refine⟨_,_,ψ,?_,O8 hp rfl,H1,ev⟩;have e1:(⟨ti.zero⟩:Array BY)=z.cells:=by rw[← hzc]
 simp only[ACb,vE,hzr,IS,newVar,zo,run_newObj,vF,e1]
theorem RF(H:ADX ty φ E h w){a a':AAa}{n:Nat}(ha:AEn φ a a')(hr:Nx a n h=.ok v h'):h'=h∧ADU φ v (.pointer (some (a'.add n))):=by
 unfold Nx at hr;rw[AZ]at hr;cases hr;obtain⟨p,hp,rfl⟩:=ha.eq;rw[Addr.AET];refine⟨rfl,.ptr ⟨rfl,rfl,p,hp,rfl,?_⟩⟩;show p.off+a.off+n=p.off+(a.off+n);omega
theorem L2{fs:List (Nat×Nat×Nat)}{fields:Array Field}(hf:fields.toList.map (fun f=>(f.offset,P.cellsOf f.type,f.type))=fs){i o s t:Nat}(hi:nth fs i=some (o,s,t)):
  ∃ f,fields[i]? =some f∧f.offset=o∧P.cellsOf f.type=s∧f.type=t:=by
 rw[FP,← hf,wN]at hi;cases hg:fields.toList[i]? with
 |none=>rw[hg]at hi;cases hi
 |some f=>
  rw[hg]at hi;simp only[we,Option.some.injEq,Prod.mk.injEq]at hi;exact⟨f,by simpa using hg,hi.1,hi.2.1,hi.2.2⟩
theorem ND(H:ADX ty φ E h w){x:O}{x':BY}{t:vx}{ti:TI}(T:ADt P t ti){fs:List (Nat×Nat×Nat)}(hk:ti.k=.struct fs){i o s ft:Nat}(hi:nth fs i=some (o,s+1,ft))
  (hx:ADU φ (x e) x')(hr:AH o x F e h=.ok v h'):BM ty φ E h w v h' ((AAg t x' i).run P w):=by
 unfold AH at hr;cases ha:Dh (x e)with
 |no=>rw[ha]at hr;cases hr
 |ok a=>
  rw[ha]at hr;obtain⟨a',rfl,hra⟩:=Fh hx ha;obtain⟨rfl,hv⟩:=RF H hra hr;obtain⟨d,hd,hkd⟩:=T.desc;rw[hk]at hkd;cases hkd with
  |struct hf hin=>
   obtain⟨f,hf1,hf2,hf3,hf4⟩:=L2 hf hi;have hsome:(P.info? f.type).isSome=true:=by
    have:=List.all_eq_true.1 hin f (by simpa using Array.mem_of_getElem? hf1);exact this
   obtain⟨inf,AFZ⟩:=AAP.1 hsome;have key:(AAg t (.pointer (some a')) i).run P w=.ok (.pointer (some (a'.add o))) w:=by
    simp only[AAg,vE,hd,IS,hf1,GP,fieldPlace,run_sizeOf w AFZ,hf3,hf2,ABu,if_false,vF,Nat.add_eq_zero_iff,reduceCtorEq,and_false]
   rw[key];exact .same H hv
theorem UT(H:ADX ty φ E h w){n ADe:Nat}{a a':AAa}{ix:O}{ix':BY}(hi:ADU φ (ix e) ix')(ha:AEn φ a a')(hr:MI n ADe (.ok a) (Cz (ix e)) h=.ok v h'):
  ∃ k i,ix'=.int k (i:Nat)∧i<n∧h'=h∧ADU φ v (.pointer (some (a'.add (i*ADe)))):=by
 unfold MI at hr;cases h1:Cz (ix e)with
 |no=>rw[h1]at hr;cases hr
 |ok i=>
  rw[h1]at hr;simp only at hr;obtain⟨k,rfl⟩:=EC hi h1;cases hb:wF i n with
  |false=>rw[hb]at hr;cases hr
  |true=>
   rw[hb]at hr;simp only at hr;obtain⟨r1,r2⟩:=RF H ha hr;exact⟨k,i,rfl,A9.1 hb,r1,r2⟩
theorem S8(H:ADX ty φ E h w){x ix:O}{x' ix':BY}{t el:vx}{ti ei:TI}(T:ADt P t ti){n:Nat}(hk:ti.k=.arr n el)(TE:ADt P el ei)
  (hx:ADU φ (x e) x')(hi:ADU φ (ix e) ix')(hr:CS n ei.size x ix F e h=.ok v h'):BM ty φ E h w v h' ((yG t x' ix').run P w):=by
 unfold CS at hr;cases ha:Dh (x e)with
 |no=>
  rw[ha]at hr;unfold MI at hr;cases h1:Cz (ix e)with
  |no=>rw[h1]at hr;cases hr
  |ok i=>rw[h1]at hr;simp only at hr;cases hb:wF i n<;>rw[hb]at hr<;>cases hr
 |ok a=>
  rw[ha]at hr;obtain⟨a',rfl,hra⟩:=Fh hx ha;obtain⟨k,i,rfl,hlt,rfl,hv⟩:=UT H hi hra hr;obtain⟨d,hd,hkd⟩:=T.desc;rw[hk]at hkd;cases hkd;have key:(yG t (.pointer (some a')) (.int k (i:Nat))).run P w=.ok (.pointer (some (a'.add (i*ei.size)))) w:=by
   have h2:(0:Int)≤(i:Int)∧(i:Int)<(n:Int):=by omega
   simp only[yG,asIntOf,vE,vF,hd,IS,GP,h2,and_self,if_true,TE.size,wP,zL]
  rw[key];exact .same H hv
theorem KX{a a':AAa}{n c c':Nat}(hn:n≤c)(h:AFE φ a c a' c')(h0:0<n):AEn φ a a':=by
 obtain⟨s1,s2,p,hp,hb,h|h⟩:=h
 ·exact⟨s1,s2,p,hp,hb,h.2.1⟩
 ·omega
theorem ee(H:ADX ty φ E h w){x ix:O}{x' ix':BY}{t el:vx}{ti ei:TI}(T:ADt P t ti)(hk:ti.k=.slice el)(TE:ADt P el ei)
  (hx:ADU φ (x e) x')(hi:ADU φ (ix e) ix')(hr:CD ei.size x ix F e h=.ok v h'):BM ty φ E h w v h' ((yG t x' ix').run P w):=by
 unfold CD at hr;split at hr
 case h_2=>cases hr
 rename_i a n c hxe;rw[hxe]at hx;cases hx with
 |@slice _ a' _ _ c' hn hs=>
  obtain⟨d,hd,hkd⟩:=T.desc;rw[hk]at hkd;cases hkd;cases h1:Cz (ix e)with
  |no=>rw[h1]at hr;cases hr
  |ok i0=>
   have hpos:0<n:=by
    rw[h1]at hr;unfold MI at hr;simp only at hr;cases hb:wF i0 n with
    |false=>rw[hb]at hr;cases hr
    |true=>have:=A9.1 hb;omega
   obtain⟨k,i,rfl,hlt,rfl,hv⟩:=UT H hi (KX hn hs hpos) hr;have key:(yG t (.slice (some a') n c') (.int k (i:Nat))).run P w=.ok (.pointer (some (a'.add (i*ei.size)))) w:=by
    have h2:(0:Int)≤(i:Int)∧(i:Int)<(n:Int):=by omega
    simp only[yG,asIntOf,vE,vF,hd,IS,h2,and_self,if_true,TE.size,wP,zL]
   rw[key];exact .same H hv
theorem RA(H:ADX ty φ E h w){t:vx}{ti:TI}(T:ADt P t ti){l l':List BY}(hl:ADp φ l l'){off:Nat}(hr:Nu ti.k.agg ti.size l off h=.ok v h'):
  BM ty φ E h w v h' ((part t ⟨l'⟩ off).run P w):=by
 unfold Nu at hr;split at hr
 ·rename_i AFt
  rw[CQ,He,I6]at hr;cases hr;have key:(part t ⟨l'⟩ off).run P w=.ok (.agg ⟨(l'.drop off).take ti.size⟩) w:=by
   simp only[part,vE,T.agg,AFt,IS,if_true,T.size,vF]
   congr 2
   apply wO;simp[Array.toList_extract,ya]
  rw[key];exact .same H (.agg ((hl.drop off).take ti.size))
 ·rename_i AFt
  split at hr
  ·rename_i u hu
   rw[BC]at hr;cases hr;rw[FP]at hu;obtain⟨u',hu',hru⟩:=hl.get off _ hu;have key:(part t ⟨l'⟩ off).run P w=.ok u' w:=by
    have:(⟨l'⟩:Array BY)[off]? =some u':=by simpa using hu'
    simp only[part,vE,T.agg,AFt,IS,vo,if_false,this,vF]
   rw[key];exact .same H hru
  ·cases hr
theorem WX(H:ADX ty φ E h w){x:O}{x':BY}{t:vx}{ti fi:TI}(T:ADt P t ti){fs:List (Nat×Nat×Nat)}(hk:ti.k=.struct fs){i o s ft:Nat}(hi:nth fs i=some (o,s,ft))(TF:ADt P ft fi)
  (hx:ADU φ (x e) x')(hr:Mb fi.k.agg fi.size o x F e h=.ok v h'):BM ty φ E h w v h' ((ACa t x' i).run P w):=by
 unfold Mb at hr;split at hr
 case h_2=>cases hr
 rename_i cs hxe;rw[hxe]at hx;cases hx with
 |agg hl=>
  obtain⟨d,hd,hkd⟩:=T.desc;rw[hk]at hkd;cases hkd with
  |struct hf hin=>
   obtain⟨f,hf1,hf2,hf3,hf4⟩:=L2 hf hi;have:=RA (P:=P) H TF hl hr;simp only[ACa,vE,hd,IS,hf1,asAgg,vF,hf2,hf4];exact this
theorem mz(H:ADX ty φ E h w){x ix:O}{x' ix':BY}{t el:vx}{ti ei:TI}(T:ADt P t ti){n:Nat}(hk:ti.k=.arr n el)(TE:ADt P el ei)
  (hx:ADU φ (x e) x')(hi:ADU φ (ix e) ix')(hr:oAt ei.k.agg n ei.size x ix F e h=.ok v h'):BM ty φ E h w v h' ((zU t x' ix').run P w):=by
 unfold oAt atF at hr;split at hr
 case h_2=>cases hr
 rename_i i h1;obtain⟨hb,hr⟩:=Bk hr;obtain⟨k,rfl⟩:=EC hi h1;split at hr
 case h_2=>cases hr
 rename_i cs hxe;rw[hxe]at hx;cases hx with
 |agg hl=>
  obtain⟨d,hd,hkd⟩:=T.desc;rw[hk]at hkd;cases hkd;have:=RA (P:=P) H TE hl hr;have hlt:=A9.1 hb;have h2:(0:Int)≤(i:Int)∧(i:Int)<(n:Int):=by omega
  simp only[zU,asIntOf,vE,vF,hd,IS,h2,and_self,if_true,TE.size,wP,zL];exact this
theorem WS(H:ADX ty φ E h w){x ix:O}{x' ix':BY}{t:vx}{ti:TI}(T:ADt P t ti)(hk:ti.k=.string)
  (hx:ADU φ (x e) x')(hi:ADU φ (ix e) ix')(hr:Id x ix F e h=.ok v h'):BM ty φ E h w v h' ((zU t x' ix').run P w):=by
 unfold Id Jp at hr;split at hr
 case h_2=>cases hr
 rename_i i h1;obtain⟨k,rfl⟩:=EC hi h1;split at hr
 case h_2=>cases hr
 rename_i s hxe;rw[hxe]at hx;obtain rfl:=hx.ADr;split at hr
 case h_2=>cases hr
 rename_i b hb;obtain⟨rfl,rfl⟩:=Eb hr;obtain⟨d,hd,hkd⟩:=T.desc;rw[hk]at hkd;cases hkd;rw[FP]at hb;have AFa:s[i]? =some b:=by
  have h0:i<s.data.toList.length:=by
   rcases vd i s.data.toList.length with h|h
   ·exact h
   ·rw[wi h]at hb;cases hb
  have h1:i<s.size:=h0;rw[getElem?_pos s i h1];rw[No h0]at hb;rw[← Option.some.inj hb];rfl
 have key:(zU t (.string s) (.int k (i:Nat))).run P w=.ok (.int .u8 b.toNat) w:=by
  have h0:(0:Int)≤(i:Int):=by omega
  simp only[zU,asIntOf,vE,vF,hd,IS,h0,if_true,wP,AFa]
 rw[key];exact .same H (.int _ _)
theorem Qr(H:ADX ty φ E h w){x:O}{x':BY}{i:Nat}(hx:ADU φ (x e) x')(hr:Aj i x F e h=.ok v h'):BM ty φ E h w v h' ((zn x' i).run P w):=by
 unfold Aj at hr;split at hr
 case h_2=>cases hr
 rename_i vs hxe;rw[hxe]at hx;cases hx with
 |@tuple l l' hl=>
  split at hr
  case h_2=>cases hr
  rename_i u hu;rw[BC]at hr;cases hr;rw[FP]at hu;obtain⟨u',hu',hru⟩:=hl.get i _ hu;have:(⟨l'⟩:Array BY)[i]? =some u':=by simpa using hu'
  simp only[zn,this,vF];exact .same H hru
theorem _root_.Go.Proofs.YtedbmmfebjfibaaGreat.KOk.AEt{k:TK}{d:TypeDesc}(hkd:KOk P k d)(hk:k≠.iface)(ms:Array (String×vx)):d≠.interface ms:=by
 cases hkd with
 |other ho=>intro he;subst he;cases ho
 |iface ms'=>exact absurd rfl hk
 |_=>intro he;cases he
theorem WZ(H:ADX ty φ E h w){x:O}{x':BY}{t:vx}{ti:TI}(T:ADt P t ti)(hk:ti.k≠.iface)
  (hx:ADU φ (x e) x')(hr:Mc t x F e h=.ok v h'):BM ty φ E h w v h' ((zT t x').run P w):=by
 unfold Mc at hr;rw[BC]at hr;cases hr;obtain⟨d,hd,hkd⟩:=T.und;have key:(zT t x').run P w=.ok (.iface t x') w:=by
  simp only[zT,vE,run_underlying hd,IS];cases d<;>first|rfl|exact absurd rfl (hkd.AEt hk _)
 rw[key];exact .same H (.iface t hx)
theorem ef(H:ADX ty φ E h w){t:vx}(hr:We F e h=.ok v h'):BM ty φ E h w v h' ((Instr.makeMap t none).run P w):=by
 unfold We at hr;obtain⟨bl,hbl,hk⟩:=GH hr;cases hk
 let w':vt:={w with heap:=w.heap.push (.map #[] 0)}
 have hs:w'.heap.size=w.heap.size+1:=by simp[w']
 have hsame:∀ k,k<w.heap.size→w'.heap[k]? =w.heap[k]?:=fun k hk=>by
  show(w.heap.push _)[k]? =_;rw[Array.getElem?_push_lt hk,Array.getElem?_eq_getElem hk]
 refine⟨.map (some w.heap.size),w',φ.put h.next {blk:=w.heap.size,off:=0,sz:=0,room:=0,es:=1},rfl,.map (Phi.AED _ _ _),
  H.new hbl (by omega) (by show w.heap.size<_;omega) (fun j q e _=>by have:=(H.dom j q e).2;show _≠w.heap.size;omega) (fun k hk _=>hsame k hk) ?_,
  .made H hbl (IN _) (by omega) hsame rfl rfl rfl⟩
 have:w'.heap[w.heap.size]? =some (.map #[] 0):=by show(w.heap.push _)[w.heap.size]? =_;simp
 rw[this];exact .map .nil
end
end
noncomputable section
open Go
inductive AEz (φ:Phi)(e:Env):Option O→Option BY→Prop
 |none:AEz φ e none none
 |some {o:O} {x:BY} (h:ADU φ (o e) x):AEz φ e (some o) (some x)
section
variable {P:wK}{ty:TTy}{φ:Phi}{E:Nat→Prop}{h h':Hp}{w:vt}{F:ADS}{e:Env}{v:BY}
theorem GA{o:O}{x:BY}(hx:ADU φ (o e) x){d y:Nat}{k:Nat→R}(hr:Cd e (some o) d y k=.ok v h'):
  ∃ n,n≤y∧k n=.ok v h'∧∀ Y,n≤Y→∀ code w,(ABf x Y code).run P w=.ok n w:=by
 unfold Cd at hr;simp only at hr;split at hr
 case h_2=>cases hr
 rename_i n hn;obtain⟨hb,hr⟩:=Bk hr;obtain⟨k',rfl⟩:=EC hx hn;refine⟨n,Ab.1 hb,hr,fun Y hY code w=>?_⟩;have h2:(0:Int)≤(n:Int)∧(n:Int)≤(Y:Int):=by omega
 simp only[ABf,asIntOf,vE,vF,IS,h2,and_self,if_true,wP]
theorem SL(d y:Nat)(k:Nat→R):Cd e none d y k=k d:=rfl
theorem Hl{lo hi mx:Option O}{lo' hi' mx':Option BY}(hl:AEz φ e lo lo')(hh:AEz φ e hi hi')(hm:AEz φ e mx mx'){len cap cap':Nat}(hc:cap≤cap')(hlen:len≤cap)
  {k:Nat→Nat→Nat→R}(hr:DG e len cap lo hi mx k=.ok v h')(s:Bool):
  ∃ l b m,k l b m=.ok v h'∧l≤b∧b≤m∧m≤cap∧(mx.isSome=false→m=cap)∧∀ w,(xN s len cap' lo' hi' mx').run P w=.ok (l,b,if mx.isSome then m else cap') w:=by
 unfold DG at hr;cases hm with
 |none=>
  simp only at hr;cases hh with
  |none=>
   rw[SL]at hr;cases hl with
   |none=>exact⟨0,len,cap,hr,vi _,hlen,IN _,fun _=>rfl,fun w=>rfl⟩
   |some hl=>
    obtain⟨l,h1,hk,hs⟩:=GA (P:=P) hl hr;exact⟨l,len,cap,hk,h1,hlen,IN _,fun _=>rfl,fun w=>by
     simp only[xN,vE,vF,IS,hs len h1];rfl⟩
  |some hh=>
   obtain⟨b,h2,hr,hs2⟩:=GA (P:=P) hh hr;cases hl with
   |none=>exact⟨0,b,cap,hr,vi _,h2,IN _,fun _=>rfl,fun w=>by
     simp only[xN,vE,vF,IS,hs2 cap' (vw h2 hc)];rfl⟩
   |some hl=>
    obtain⟨l,h1,hk,hs⟩:=GA (P:=P) hl hr;exact⟨l,b,cap,hk,h1,h2,IN _,fun _=>rfl,fun w=>by
     simp only[xN,vE,vF,IS,hs2 cap' (vw h2 hc),hs b h1];rfl⟩
 |some hm=>
  simp only at hr;obtain⟨m,h3,hr,hs3⟩:=GA (P:=P) hm hr;cases hh with
  |none=>cases hr
  |some hh=>
   simp only at hr;obtain⟨b,h2,hr,hs2⟩:=GA (P:=P) hh hr;cases hl with
   |none=>exact⟨0,b,m,hr,vi _,h2,h3,fun h=>(by cases h),fun w=>by
     simp only[xN,vE,vF,IS,hs3 cap' (vw h3 hc),hs2 m h2];rfl⟩
   |some hl=>
    obtain⟨l,h1,hk,hs⟩:=GA (P:=P) hl hr;exact⟨l,b,m,hk,h1,h2,h3,fun h=>(by cases h),fun w=>by
     simp only[xN,vE,vF,IS,hs3 cap' (vw h3 hc),hs2 m h2,hs b h1];rfl⟩
theorem AFE.le{a a':AAa}{c c':Nat}(h:AFE φ a c a' c'):c≤c':=by
 obtain⟨_,_,p,_,_,h|h⟩:=h
 ·rcases h.2.2 with h|h
  ·exact zO h.symm
  ·exact h.2.1
 ·omega
theorem Im(a:Option AAa)(size l b m:Nat)(h:Hp):
  Bg a size l b m h=.ok (.slice (if m=l then a else a.map fun a=>if l*size=0 then a else⟨a.block,a.off+l*size,none⟩) (b - l) (m - l)) h:=by
 unfold Bg;rw[AZ,AZ];by_cases hml:m=l
 ·subst hml;rw[wz,if_pos rfl];rfl
 ·have hb:vO m l=false:=by
   cases hb:vO m l
   ·rfl
   ·exact absurd (Am.1 hb) hml
  rw[hb,if_neg hml];cases a with
  |none=>rfl
  |some a=>
   have e:vr l size=l*size:=rfl;rw[e];cases hm:l*size with
   |zero=>rw[we,if_pos rfl];rfl
   |succ q=>rw[we,if_neg (ABu q)];simp only[AZ];rfl
theorem cL{a a':AAa}{c c':Nat}(hs:AFE φ a c a' c'){size l b m:Nat}(hlb:l≤b)(hbm:b≤m)(hmc:m≤c){mx:Bool}(hm:mx=false→m=c)
  (hfit:mx=false→0<l→∀ p,φ a.block=some p→p.es=size∨(p.room=p.sz∧p.es=1)):
  ADU φ (.slice (if m=l then some a else(some a).map fun a=>if l*size=0 then a else⟨a.block,a.off+l*size,none⟩) (b - l) (m - l))
   (.slice (if(if mx then m else c')=l then some a' else(some a').map (·.add (l*size))) (b - l) ((if mx then m else c') - l)):=by
 obtain⟨s1,s2,p,hp,hb,hor⟩:=hs;obtain⟨ab,ao,asp⟩:=a;obtain⟨ab',ao',AHr⟩:=a';simp only at s1 s2 hp hb hor;subst s1;subst s2;subst hb;simp only[we,Addr.AET];have hle:m≤(if mx then m else c'):=by
  cases mx
  ·have:=hm rfl
   simp only[vo,if_false];rcases hor with h|h
   ·rcases h.2.2 with h|h<;>omega
   ·omega
  ·simp
 by_cases hml:m=l
 ·rw[if_pos hml]
  by_cases AGj:(if mx then m else c')=l
  ·rw[if_pos AGj]
   refine .slice (by omega) ⟨rfl,rfl,p,hp,rfl,.inr ⟨by omega,.inl (by omega)⟩⟩
  ·rw[if_neg AGj]
   cases mx with
   |true=>exact absurd hml AGj
   |false=>
    simp only[vo,if_false]at AGj hle ⊢;have AHs:=hm rfl;refine .slice (by omega) ⟨rfl,rfl,p,hp,rfl,.inr ⟨by omega,.inr ?_⟩⟩;simp only;rcases vy l with h0|h0
    ·subst h0
     simp only[yd,xM,ABv];rcases hor with h|h
     ·omega
     ·rcases h.2 with h|h
      ·omega
      ·exact h
    ·rcases hor with ⟨_,hoff,h|⟨h1,h2,h3⟩⟩|h
     ·omega
     ·rcases hfit rfl h0 p hp with he|⟨hr1,hr2⟩
      ·have hcl:c=l:=by omega
       have hmul:(c' - l)*p.es+l*p.es=c'*p.es:=by rw[← zy];congr 1;omega
       subst hcl;rw[← he];omega
      ·rw[hr2]at h1 h3;omega
     ·omega
 ·have hne:¬ ((if mx=true then m else c')=l):=by omega
  rw[if_neg hml,if_neg hne];have hpos:0<c:=by omega
  rcases hor with ⟨_,hoff,hcap⟩|h
  case inr=>omega
  have hA:∀ X:AAa,X=(if l*size=0 then(⟨ab,ao,none⟩:AAa)else⟨ab,ao+l*size,none⟩)→X=⟨ab,ao+l*size,none⟩:=by
   intro X hX;rw[hX];split
   ·rename_i h;rw[h];rfl
   ·rfl
  rw[hA _ rfl];refine .slice (by omega) ⟨rfl,rfl,p,hp,rfl,.inl ⟨by omega,by simp only;omega,?_⟩⟩;cases mx with
  |true=>exact .inl rfl
  |false=>
   simp only[vo,if_false];have AHs:=hm rfl;subst AHs;rcases hcap with h|⟨h1,h2,h3⟩
   ·exact .inl (by rw[h])
   ·rcases vy l with h0|h0
    ·subst h0;refine .inr ?_;simp only[yd,xM,ABv];exact⟨h1,h2,h3⟩
    ·rcases hfit rfl h0 p hp with he|⟨hr1,hr2⟩
     ·refine .inr ?_
      have e1:(m - l)*p.es+l*p.es=m*p.es:=by rw[← zy];congr 1;omega
      have e2:(c' - l)*p.es+l*p.es=c'*p.es:=by rw[← zy];congr 1;omega
      rw[← he];omega
     ·rw[hr2]at h1 h3;exact .inl (by omega)
theorem dL(H:ADX ty φ E h w){el:Nat}{ei:TI}(hty:ty.get el=some ei){a:AAa}(hf:En el (some a) h=true):∀ p,φ a.block=some p→p.es=ei.size∨(p.room=p.sz∧p.es=1):=by
 intro p hp;unfold En at hf;simp only at hf;split at hf
 ·rename_i c s en hrow
  have hk:=H.kind a.block p c s en hp (Cx hrow);rcases hk.2 with ⟨_,h1,h2,_⟩|⟨t,ti,h1,h2,h3⟩
  ·exact .inr ⟨h1,h2⟩
  ·subst h1
   have:t=el:=Am.1 hf;subst this;rw[hty]at h2;cases h2;exact .inl h3
 ·cases hf
theorem eW(H:ADX ty φ E h w){x:O}{x':BY}{t el:vx}{ti ei:TI}(T:ADt P t ti)(hk:ti.k=.slice el)(hty:ty.get el=some ei)(TE:ADt P el ei)
  {lo hi mx:Option O}{lo' hi' mx':Option BY}(hx:ADU φ (x e) x')(hl:AEz φ e lo lo')(hh:AEz φ e hi hi')(hm:AEz φ e mx mx')
  (hr:Dp el ei.size x lo hi mx F e h=.ok v h'):BM ty φ E h w v h' ((wl t x' lo' hi' mx').run P w):=by
 unfold Dp at hr;split at hr
 case h_2=>cases hr
 rename_i a n c hxe;rw[hxe]at hx;obtain⟨d,hd,hkd⟩:=T.desc;rw[hk]at hkd;cases hkd;cases hx with
 |AEF=>
  ·obtain⟨l,b,m,hk2,h1,h2,h3,h4,hs⟩:=Hl (P:=P) hl hh hm (IN 0) (IN 0) hr true
   have AE3:Bg none ei.size l b m h=.ok v h':=by
    unfold D7 at hk2;split at hk2
    ·exact hk2
    ·split at hk2
     ·exact hk2
     ·exact(Bk hk2).2
   rw[Im]at AE3;cases AE3;have key:(wl t (.slice none 0 0) lo' hi' mx').run P w=.ok (.slice none (b - l) (m - l)) w:=by
    have hmm:(if mx.isSome then m else 0)=m:=by
     split
     ·rfl
     ·rename_i hf;exact(h4 (by simpa using hf)).symm
    rw[hmm]at hs;simp only[wl,ABI,vE,hd,IS,hs,TE.size,vF,ABb,ite_self]
   rw[key];simp only[ABb,ite_self];have e1:m=0:=by omega
   have e2:b=0:=by omega
   have e3:l=0:=by omega
   subst e1;subst e2;subst e3;exact .same H .AEF
 |@slice a a' _ _ c' hn hsl=>
  obtain⟨l,b,m,hk2,h1,h2,h3,h4,hs⟩:=Hl (P:=P) hl hh hm hsl.le hn hr true;have AE3:Bg (some a) ei.size l b m h=.ok v h'∧(mx.isSome=false→0<l→∀ p,φ a.block=some p→p.es=ei.size∨(p.room=p.sz∧p.es=1)):=by
   unfold D7 at hk2;split at hk2
   ·rename_i hmx;exact⟨hk2,fun hf=>by rw[hmx]at hf;cases hf⟩
   ·split at hk2
    ·exact⟨hk2,fun _ h0=>absurd h0 (Nat.lt_irrefl 0)⟩
    ·obtain⟨hf,hk2⟩:=Bk hk2
     exact⟨hk2,fun _ _=>dL H hty hf⟩
  obtain⟨AE3,hfit⟩:=AE3;rw[Im]at AE3;cases AE3;have key:(wl t (.slice (some a') n c') lo' hi' mx').run P w=
    .ok (.slice (if(if mx.isSome then m else c')=l then some a' else(some a').map (·.add (l*ei.size))) (b - l) ((if mx.isSome then m else c') - l)) w:=by
   simp only[wl,ABI,vE,hd,IS,hs,TE.size,vF]
  rw[key];exact .same H (cL hsl h1 h2 h3 h4 hfit)
end
end
noncomputable section
open Go
theorem Fu{α:Type}(xs:List α):∀ n,(BO xs n).length=n*xs.length
 |0=>by simp[BO]
 |n+1=>by
  show(xs++BO xs n).length=_;rw[List.length_append,Fu xs n,zM,Nat.add_comm]
theorem RL{α:Type}(xs:List α):∀ n i,i<n*xs.length→(BO xs n)[i]? =xs[i % xs.length]?
 |0,i,h=>by simp at h
 |n+1,i,h=>by
  show(xs++BO xs n)[i]? =_;rcases vd i xs.length with hl|hl
  ·rw[vP hl,yi hl]
  ·have h2:i - xs.length<n*xs.length:=by rw[zM]at h;omega
   rw[ve hl,RL xs n _ h2,← Nat.mod_eq_sub_mod hl]
theorem Ha{φ:Phi}{l l':List BY}(h:ADp φ l l'):∀ n,ADp φ (BO l n) (BO l' n)
 |0=>.nil
 |n+1=>h.append (Ha h n)
theorem M6(z:Array BY)(n:Nat):((zV (n*z.size)).map (fun i=>z[i % z.size]!))=⟨BO z.toList n⟩:=by
 apply wO;apply List.ext_getElem?;intro i;simp only[Array.toList_map,wN,Array.toList_range];rcases vd i (n*z.size)with h|h
 ·have h1:i<n*z.toList.length:=by simpa using h
  rw[RL _ _ _ h1,List.getElem?_range h,we];have h2:0<z.size:=by
   rcases vy z.size with h0|h0
   ·rw[h0]at h;simp at h
   ·exact h0
  have h3:i % z.size<z.size:=Nat.mod_lt _ h2;simp[h3]
 ·rw[wi (by simpa using h),wi (by rw[Fu];simpa using h)];rfl
theorem Gq(z:Array BY)(n:Nat):Builtin.zeroCells z n=⟨BO z.toList n⟩:=M6 z n
theorem AD8(cs:List BY)(off:Nat)(vs:List BY):lay cs off vs=cs.take off++vs++cs.drop (off+vs.length):=by
 unfold lay;rw[He,I6,BI];rfl
theorem Ss{cs:List BY}{off:Nat}{vs:List BY}(h:off+vs.length≤cs.length):(lay cs off vs).length=cs.length:=by
 rw[AD8];simp;omega
theorem df{φ:Phi}{cs cs' vs vs':List BY}(h:ADp φ cs cs')(hv:ADp φ vs vs')(off:Nat):ADp φ (lay cs off vs) (lay cs' off vs'):=by
 rw[AD8,AD8,hv.length];exact((h.take off).append hv).append (h.drop _)
theorem NQ(off:Nat):∀ (vs:List BY) (j:Nat) (cs:Array BY),off+j+vs.length≤cs.size→
  ((vs.zipIdx j).foldl (fun cs (c,j)=>cs.setIfInBounds (off+j) c) cs).toList=lay cs.toList (off+j) vs
 |[],j,cs,h=>by rw[AD8];simp
 |v::vs,j,cs,h=>by
  simp only[vI]at h;rw[List.zipIdx_cons,List.foldl_cons];have:=NQ off vs (j+1) (cs.setIfInBounds (off+j) v) (by simp;omega);rw[this,AD8,AD8];have hlt:off+j<cs.toList.length:=by simp;omega
  rw[Array.toList_setIfInBounds,show off+(j+1)=off+j+1 by omega];rw[vI,List.take_set,List.drop_set_of_lt (by omega)];have e1:(cs.toList.take (off+j+1)).set (off+j) v=cs.toList.take (off+j)++[v]:=by
   rw[List.take_succ_eq_append_getElem hlt,List.set_append_right _ _ (by simp;omega)];have:(off+j - (cs.toList.take (off+j)).length)=0:=by simp;omega
   rw[this];rfl
  rw[e1,show off+j+1+vs.length=off+j+(vs.length+1)by omega];simp
section
variable {φ:Phi}{h':Hp}{e:Env}{v:BY}
inductive AFj (φ:Phi)(e:Env)(place:Nat→Option (Nat×Nat)):List (Nat×Nat×O)→List (Nat×BY)→Prop
 |nil:AFj φ e place [] []
 |cons {i off size:Nat} {o:O} {x:BY} {l:List (Nat×Nat×O)} {l':List (Nat×BY)} (hp:place i=some (off,size)) (hx:ADU φ (o e) x) (t:AFj φ e place l l'):
  AFj φ e place ((off,size,o)::l) ((i,x)::l')
theorem JA{place:Nat→Option (Nat×Nat)}{k:List BY→R}:∀ {ps:List (Nat×Nat×O)} {ps':List (Nat×BY)},AFj φ e place ps ps'→∀ {cs cs':List BY},ADp φ cs cs'→
  EK cs e k ps=.ok v h'→∃ r r',k r=.ok v h'∧ADp φ r r'∧r.length=cs.length∧AAY place ⟨cs'⟩ ps'=some ⟨r'⟩
 |_,_,.nil,cs,cs',hc,hr=>by
  unfold EK at hr;rw[CQ]at hr;exact⟨cs,cs',hr,hc,rfl,rfl⟩
 |_,_,.cons (off:=off) (size:=size) (o:=o) (x:=x) hp hx t,cs,cs',hc,hr=>by
  unfold EK at hr;rw[BC]at hr;obtain⟨hkn,hr⟩:=Bk hr;obtain⟨hb1,hr⟩:=Bk hr;obtain⟨hb2,hr⟩:=Bk hr;have hcl:=J0 hx hkn;have h1:=Am.1 hb1;have h2:=Ab.1 hb2;rw[BI]at h1 h2;have h3:=hcl.length;have h4:=hc.length;obtain⟨r,r',hk,hrr,hlen,hf⟩:=JA t (df hc hcl off) hr;have h2':off+size≤cs.length:=h2;have hsz:x.cells.size=size:=by rw[← h1,← h3];simp
  refine⟨r,r',hk,hrr,by rw[hlen,Ss (by omega)],?_⟩;rw[AAY,hp];simp only;rw[if_neg (by simp[hsz];omega)];have AG4:(x.cells.zipIdx.foldl (fun cs (c,j)=>cs.setIfInBounds (off+j) c) (⟨cs'⟩:Array BY))=⟨lay cs' off x.cells.toList⟩:=by
   apply wO;have:=NQ off x.cells.toList 0 ⟨cs'⟩ (by simp[hsz];omega);rw[← Array.foldl_toList,Array.toList_zipIdx];exact this
  rw[AG4];exact hf
end
end
noncomputable section
open Go
section
variable {P:wK}{ty:TTy}{φ:Phi}{E:Nat→Prop}{h h':Hp}{w:vt}{F:ADS}{e:Env}{v:BY}
theorem Sz(H:ADX ty φ E h w){t:vx}{ti:TI}(T:ADt P t ti){fs:List (Nat×Nat×Nat)}(hk:ti.k=.struct fs)(hz:ti.zero.length=ti.size)
  {ps:List (Nat×Nat×O)}{ps':Array (Nat×BY)}(hp:AFj φ e (Ml fs) ps ps'.toList)
  (hr:Bs ti.zero ps F e h=.ok v h'):BM ty φ E h w v h' ((yl t ps').run P w):=by
 unfold Bs at hr;obtain⟨z,_,hzr,hzc,hzp⟩:=T.AEY hz;obtain⟨r,r',hk2,hrr,hlen,hf⟩:=JA hp (.plain hzp) hr;cases hk2;obtain⟨d,hd,hkd⟩:=T.desc;rw[hk]at hkd;cases hkd with
 |@struct fs fields hfl hin=>
  have hmap:∀ w,(fields.mapM (fun f=>(do pure (f.offset,← sizeOf f.type):Sem (Nat×Nat)))).run P w=.ok (fields.map fun f=>(f.offset,P.cellsOf f.type)) w:=by
   intro w;rw[← Array.toArray_toList (xs:=fields),List.mapM_toArray,List.map_toArray];have:∀ l:List Field,l.all (fun f=>(P.info? f.type).isSome)=true→(l.mapM (fun f=>(do pure (f.offset,← sizeOf f.type):Sem (Nat×Nat)))).run P w=.ok (l.map fun f=>(f.offset,P.cellsOf f.type)) w:=by
    intro l
    induction l with
    |nil=>intro _;rfl
    |cons f l ih=>
     intro hall;simp only[List.all_cons,vT]at hall;obtain⟨inf,AFZ⟩:=AAP.1 hall.1;simp only[List.mapM_cons,vE,run_sizeOf w AFZ,IS,vF,ih hall.2,List.map_cons]
   simp only[Sem.run_map,this _ hin,IS]
  have AGK:Ml fs=fun i=>(fields.map fun f=>(f.offset,P.cellsOf f.type))[i]?:=by
   funext i
   unfold Ml;rw[FP,← hfl,wN,Array.getElem?_map,← Array.getElem?_toList];cases fields.toList[i]?<;>rfl
  rw[AGK]at hf;have hz':(⟨ti.zero⟩:Array BY)=z.cells:=by rw[← hzc]
  rw[hz']at hf;have key:(yl t ps').run P w=.ok (.agg ⟨r'⟩) w:=by
   simp only[yl,vE,hzr,IS,hd,hmap,hf,vF]
  rw[key];exact .same H (.agg hrr)
theorem Sy(H:ADX ty φ E h w){t el:vx}{ti ei:TI}(T:ADt P t ti){n:Nat}(hk:ti.k=.arr n el)(TE:ADt P el ei)(hz:ti.zero.length=ti.size)
  {ps:List (Nat×Nat×O)}{ps':Array (Nat×BY)}(hp:AFj φ e (fun i=>some (vr i ei.size,ei.size)) ps ps'.toList)
  (hr:Bs ti.zero ps F e h=.ok v h'):BM ty φ E h w v h' ((yl t ps').run P w):=by
 unfold Bs at hr;obtain⟨z,_,hzr,hzc,hzp⟩:=T.AEY hz;obtain⟨r,r',hk2,hrr,hlen,hf⟩:=JA hp (.plain hzp) hr;cases hk2;obtain⟨d,hd,hkd⟩:=T.desc;rw[hk]at hkd;cases hkd;have hz':(⟨ti.zero⟩:Array BY)=z.cells:=by rw[← hzc]
 rw[hz']at hf;have hf':AAY (fun i=>some (i*ei.size,ei.size)) z.cells ps'.toList=some ⟨r'⟩:=hf;have key:(yl t ps').run P w=.ok (.agg ⟨r'⟩) w:=by
  simp only[yl,vE,hzr,IS,hd,TE.size,hf',vF]
 rw[key];exact .same H (.agg hrr)
theorem U7{ψ:Phi}{n s l c:Nat}{p:Pl}(hp:ψ n=some p)(ho:p.off=0)(hl:l≤c)(hc:c=0∨0<c):ADU ψ (.slice (some ⟨n,0,none⟩) l c) (.slice (some ⟨p.blk,0,none⟩) l c):=by
 refine .slice hl ⟨rfl,rfl,p,hp,rfl,?_⟩;rcases hc with h|h
 ·exact .inr ⟨h,.inl h⟩
 ·exact .inl ⟨h,by simp[ho],.inl rfl⟩
theorem MZ(H:ADX ty φ E h w){t el:vx}{ti ei:TI}(T:ADt P t ti)(hk:ti.k=.slice el)(TE:ADt P el ei)(hz:ei.zero.length=ei.size)
  {len:Nat}(hlen:len*ei.size≤16777216){ps:List (Nat×Nat×O)}{ps':Array (Nat×BY)}(hp:AFj φ e (fun i=>some (vr i ei.size,ei.size)) ps ps'.toList)
  (hr:Ak len (BO ei.zero len) ps F e h=.ok v h'):BM ty φ E h w v h' ((yn t len ps').run P w):=by
 unfold Ak at hr;obtain⟨z,_,hzr,hzc,hzp⟩:=TE.AEY hz;obtain⟨r,r',hk2,hrr,hlr,hf⟩:=JA hp (Ha (.plain hzp) len) hr;obtain⟨h1,ψ,hk3,hps,H1,ev⟩:=Gb H hk2 hrr el;cases hk3;obtain⟨d,hd,hkd⟩:=T.desc;rw[hk]at hkd;cases hkd;have hzs:z.cells.size=ei.size:=by rw[← hz,← hzc];simp
 have hf':AAY (fun i=>some (i*ei.size,ei.size)) ⟨BO ei.zero len⟩ ps'.toList=some ⟨r'⟩:=hf;have AE0:(zV (len*ei.size)).map (fun i=>z.cells[i % z.cells.size]!)=⟨BO ei.zero len⟩:=by
  rw[← hzc,← hzs];exact M6 z.cells len
 have hng:¬ (len*ei.size > 2 ^ 24):=by omega
 have key:(yn t len ps').run P w=.ok (.slice (some ⟨w.heap.size,0,none⟩) len len) {w with heap:=w.heap.push (.cells ⟨r'⟩ el)}:=by
  by_cases h0:len*ei.size=0
  ·have:(zV (len*ei.size)).map (fun i=>(#[]:Array BY)[i % (#[]:Array BY).size]!)=⟨BO ei.zero len⟩:=by
    rw[← AE0,h0];simp
   simp only[yn,vE,hd,IS,TE.size,hng,h0,if_false,if_true,vF,Nat.not_lt_zero,gt_iff_lt];rw[h0]at this;simp only[this,hf',zo,vE,run_newObj,IS,vF]
  ·simp only[yn,vE,hd,IS,TE.size,hng,h0,if_false,hzr,vF,AE0,hf',zo,run_newObj]
 rw[key];exact⟨_,_,ψ,rfl,U7 (s:=0) hps rfl (IN _) (vy _),H1,ev⟩
theorem Hh{n:Nat}(h:n≤9223372036854775807):xH.wrap (n:Int)=n:=DA .i64 n h
theorem dw:most=1099511627776:=rfl
theorem Uk:JN=70368744177664:=rfl
theorem Hw{n:Nat}(h:n≤1099511627776):n≤JN:=vw h (by rw[Uk];omega)
theorem Um{c b:Nat}(h:vJ (vr (vD c) (vD b)) JN=true):c≤70368744177664∧(c+1)*(b+1)≤70368744177664:=by
 have h1:=Ab.1 h;rw[Uk]at h1;have h2:(c+1)*(b+1)≤70368744177664:=h1;refine⟨?_,h2⟩;have:c+1≤(c+1)*(b+1):=AAv _ (by omega);omega
theorem dy{c b:Nat}(h:vJ (vr (vD c) (vD b)) most=true):c≤1099511627776∧(c+1)*(b+1)≤1099511627776:=by
 have h1:=Ab.1 h;rw[dw]at h1;have h2:(c+1)*(b+1)≤1099511627776:=h1;refine⟨?_,h2⟩;have:c+1≤(c+1)*(b+1):=AAv _ (by omega);omega
theorem Za(H:ADX ty φ E h w){t el:vx}{ti ei:TI}(T:ADt P t ti)(hk:ti.k=.slice el)(TE:ADt P el ei)(hz:ei.zero.length=ei.size)
  {l c:O}{l' c':BY}(hl:ADU φ (l e) l')(hc:ADU φ (c e) c')(hr:GJ ei.bytes ei.zero l c F e h=.ok v h'):BM ty φ E h w v h' ((zB t l' c').run P w):=by
 unfold GJ Qf at hr;split at hr
 case h_2=>cases hr
 rename_i a h1;split at hr
 case h_2=>cases hr
 rename_i b h2;obtain⟨k1,rfl⟩:=EC hl h1;obtain⟨k2,rfl⟩:=EC hc h2;obtain⟨hb1,hr⟩:=Bk hr;obtain⟨hb2,hr⟩:=Bk hr;have hle:=Ab.1 hb1;obtain⟨hm1,hm2⟩:=dy hb2;obtain⟨z,_,hzr,hzc,hzp⟩:=TE.AEY hz;have hzs:z.cells.size=ei.size:=by rw[← hz,← hzc];simp
 have ADy:ADp φ (BO ei.zero b) (BO ei.zero b):=Ha (.plain hzp) b;obtain⟨h1',ψ,hk3,hps,H1,ev⟩:=Gb H hr ADy el;cases hk3;obtain⟨d,hd,hkd⟩:=T.desc;rw[hk]at hkd;cases hkd;obtain⟨inf,AFZ,hs,hbt,_⟩:=TE.info;have AE0:(zV (b*ei.size)).map (fun i=>z.cells[i % z.cells.size]!)=⟨BO ei.zero b⟩:=by
  rw[← hzc,← hzs];exact M6 z.cells b
 have w1:xH.wrap (a:Int)=a:=Hh (by omega);have w2:xH.wrap (b:Int)=b:=Hh (by omega);have hbytes:¬ ((ei.bytes:Int)*(b:Int) > 2 ^ 48):=by
  have:ei.bytes*b≤(b+1)*(ei.bytes+1):=by rw[Nat.mul_comm];exact Nat.mul_le_mul (by omega) (by omega)
  have h3:((ei.bytes*b:Nat):Int)≤1099511627776:=by omega
  rw[← Int.natCast_mul];omega
 have AGL:((decide ((b:Int)<0) || decide ((ei.bytes:Int)*(b:Int) > 2 ^ 48)) || decide ((a:Int)<0) || decide ((a:Int) > (b:Int)))=false:=by
  simp only[ABL,decide_eq_false_iff_not];refine⟨⟨⟨by omega,hbytes⟩,by omega⟩,by omega⟩
 have key:(zB t (.int k1 (a:Nat)) (.int k2 (b:Nat))).run P w=.ok (.slice (some ⟨w.heap.size,0,none⟩) a b) {w with heap:=w.heap.push (.cells ⟨BO ei.zero b⟩ el)}:=by
  by_cases h0:b*ei.size=0
  ·have e0:(zV (b*ei.size)).map (fun i=>(#[]:Array BY)[i % (#[]:Array BY).size]!)=⟨BO ei.zero b⟩:=by
    rw[← AE0,h0];simp
   rw[h0]at e0;simp only[zB,vE,hd,IS,asInt,asIntOf,vF,run_typeInfo _ AFZ,hbt,w1,w2,AGL,vo,if_false,run_askRoom,wP,TE.size,h0,if_true,e0,zo,run_newObj,zL]
  ·simp only[zB,vE,hd,IS,asInt,asIntOf,vF,run_typeInfo _ AFZ,hbt,w1,w2,AGL,vo,if_false,run_askRoom,wP,TE.size,h0,hzr,AE0,zo,run_newObj,zL]
 rw[key];exact⟨_,_,ψ,rfl,U7 (s:=0) hps rfl hle (vy _),H1,ev⟩
end
end
noncomputable section
open Go
section
variable {P:wK}{ty:TTy}{φ:Phi}{E:Nat→Prop}{h h':Hp}{w:vt}{F:ADS}{e:Env}{v:BY}
theorem S1(H:ADX ty φ E h w){x:O}{x':BY}{t el:vx}{ti ei:TI}(T:ADt P t ti){n:Nat}(hk:ti.k=.arr n el)(TE:ADt P el ei)
  {lo hi mx:Option O}{lo' hi' mx':Option BY}(hx:ADU φ (x e) x')(hl:AEz φ e lo lo')(hh:AEz φ e hi hi')(hm:AEz φ e mx mx')
  (hr:Ft n ei.size x lo hi mx F e h=.ok v h'):BM ty φ E h w v h' ((wl t x' lo' hi' mx').run P w):=by
 unfold Ft at hr;split at hr
 case h_2=>cases hr
 rename_i a ha;obtain⟨a',rfl,hra⟩:=Fh hx ha;obtain⟨d,hd,hkd⟩:=T.desc;rw[hk]at hkd;cases hkd;obtain⟨l,b,m,hk2,h1,h2,h3,h4,hs⟩:=Hl (P:=P) hl hh hm (IN n) (IN n) hr false;have hmm:(if mx.isSome then m else n)=m:=by
  split
  ·rfl
  ·rename_i hf;exact(h4 (by simpa using hf)).symm
 rw[hmm]at hs;rw[Im]at hk2;cases hk2;have key:(wl t (.pointer (some a')) lo' hi' mx').run P w=.ok (.slice (some (if m=l then a' else a'.add (l*ei.size))) (b - l) (m - l)) w:=by
  simp only[wl,vE,hd,IS,GP,hs,TE.size,vF]
 rw[key];refine .same H ?_;have s1:=hra.1;obtain⟨p,hp,rfl⟩:=hra.eq;obtain⟨ab,ao,asp⟩:=a;simp only at s1 hp;subst s1;simp only[Addr.AET,we];by_cases hml:m=l
 ·rw[if_pos hml,if_pos hml]
  exact .slice (by omega) ⟨rfl,rfl,p,hp,rfl,.inr ⟨by omega,.inl (by omega)⟩⟩
 ·rw[if_neg hml,if_neg hml]
  have hA:(if l*ei.size=0 then(⟨ab,ao,none⟩:AAa)else⟨ab,ao+l*ei.size,none⟩)=⟨ab,ao+l*ei.size,none⟩:=by
   split
   ·rename_i h;rw[h];rfl
   ·rfl
  rw[hA];exact .slice (by omega) ⟨rfl,rfl,p,hp,rfl,.inl ⟨by omega,by simp only;omega,.inl rfl⟩⟩
theorem S5(H:ADX ty φ E h w){x:O}{x':BY}{t:vx}{ti:TI}(T:ADt P t ti)(hk:ti.k=.string){lo hi:Option O}{lo' hi':Option BY}(hx:ADU φ (x e) x')
  (hl:AEz φ e lo lo')(hh:AEz φ e hi hi')(hr:H0 x lo hi F e h=.ok v h'):BM ty φ E h w v h' ((wl t x' lo' hi' none).run P w):=by
 unfold H0 at hr;split at hr
 case h_2=>cases hr
 rename_i s hxe;rw[hxe]at hx;obtain rfl:=hx.ADr;obtain⟨d,hd,hkd⟩:=T.desc;rw[hk]at hkd;cases hkd;obtain⟨l,b,m,hk2,h1,h2,h3,h4,hs⟩:=Hl (P:=P) hl hh .none (IN _) (IN _) hr false;cases hk2;have e1:A8 s.data.toList=s.size:=BI _;rw[e1]at hs h3;have key:(wl t (.string s) lo' hi' none).run P w=.ok (.string (s.extract l b)) w:=by
  simp only[wl,ABI,vE,hd,IS,Option.isSome_none,vo,if_false,vF,hs]
 rw[key,← HC (a:=s.extract l b) (l:=Kz (Nat.sub b l) (L1 l s.data.toList)) (by
  rw[He,I6];simp[ya])]
 exact .same H (.string _)
theorem Zh(H:ADX ty φ E h w){x:O}{x':BY}(hx:ADU φ (x e) x')(hr:Qx x F e h=.ok v h'):∃ s,x'=.string s∧BM ty φ E h w v h' (.ok x' w):=by
 unfold Qx at hr;split at hr
 case h_2=>cases hr
 rename_i s hxe;rw[hxe]at hx;cases hr;obtain rfl:=hx.ADr;exact⟨s,rfl,.same H hx⟩
theorem ZT(H:ADX ty φ E h w){fn:Fn}{f c:List O}{f' c':List BY}(hf:ADp φ (vals e f) f')(hc:ADp φ (vals e c) c')(hr:Eu fn f c F e h=.ok v h'):
  BM ty φ E h w v h' (.ok (.func fn ⟨f'⟩ ⟨c'⟩) w):=by
 unfold Eu at hr;rw[CQ,CQ]at hr;cases hr;exact .same H (.func fn hf hc)
theorem eJ(H:ADX ty φ E h w){x:O}{x':BY}{t el:vx}{ti:TI}(T:ADt P t ti){n:Nat}(hk:ti.k=.arr n el)(hn:0<n)(hx:ADU φ (x e) x')
  (hr:Qo n x F e h=.ok v h'):BM ty φ E h w v h' ((AAh t x').run P w):=by
 unfold Qo at hr;split at hr
 case h_2=>cases hr
 rename_i a l c hxe;rw[hxe]at hx;obtain⟨hb,hr⟩:=Bk hr;cases hr;have hb:=Ab.1 hb;obtain⟨d,hd,hkd⟩:=T.desc;rw[hk]at hkd;cases hkd;cases hx with
 |@slice _ a' _ _ c' hlc hs=>
  have key:(AAh t (.slice (some a') l c')).run P w=.ok (.pointer (some a')) w:=by
   simp only[AAh,vE,hd,IS,AAJ.2 hb,if_false,vF]
  rw[key];exact .same H (.ptr (KX hlc hs (by omega)))
theorem Nl(H:ADX ty φ E h w){lt:Bool}{x y:O}{x' y':BY}(hx:ADU φ (x e) x')(hy:ADU φ (y e) y')(hr:HS lt (x e) (y e) h=.ok v h'):
  ∃ k q m n,x'=.int k m∧y'=.int q n∧h'=h∧v=.int k (if(if lt then n<m else m<n)then n else m):=by
 unfold HS at hr;split at hr
 case h_2=>cases hr
 rename_i k m hxe;split at hr
 case h_2=>cases hr
 rename_i n hye;obtain⟨q,hq⟩:=UY hye;rw[hxe]at hx;rw[hq]at hy;refine⟨k,q,m,n,hx.ADz,hy.ADz,?_⟩;cases lt
 ·simp only[cond_false]at hr
  cases hb:iLt m n with
  |false=>
   rw[hb]at hr;cases hr;rw[Cs]at hb;have:=of_decide_eq_false hb;refine⟨rfl,?_⟩;simp[this]
  |true=>
   rw[hb]at hr;cases hr;rw[Cs]at hb;have:=of_decide_eq_true hb;refine⟨rfl,?_⟩;simp[this]
 ·simp only[cond_true]at hr
  cases hb:iLt n m with
  |false=>
   rw[hb]at hr;cases hr;rw[Cs]at hb;have:=of_decide_eq_false hb;refine⟨rfl,?_⟩;simp[this]
  |true=>
   rw[hb]at hr;cases hr;rw[Cs]at hb;have:=of_decide_eq_true hb;refine⟨rfl,?_⟩;simp[this]
theorem eu(H:ADX ty φ E h w){x y:O}{x' y':BY}{ats:Array vx}{t:vx}(hx:ADU φ (x e) x')(hy:ADU φ (y e) y')(hr:Wh x y F e h=.ok v h'):
  BM ty φ E h w v h' ((Builtin.min_ ats t #[x',y']).run P w):=by
 obtain⟨k,q,m,n,rfl,rfl,rfl,rfl⟩:=Nl H hx hy hr;exact .same H (.int _ _)
theorem eo(H:ADX ty φ E h w){x y:O}{x' y':BY}{ats:Array vx}{t:vx}(hx:ADU φ (x e) x')(hy:ADU φ (y e) y')(hr:TC x y F e h=.ok v h'):
  BM ty φ E h w v h' ((Builtin.max_ ats t #[x',y']).run P w):=by
 obtain⟨k,q,m,n,rfl,rfl,rfl,rfl⟩:=Nl H hx hy hr;exact .same H (.int _ _)
theorem Gu:∀ l:List UInt8,Ca l=l.map fun b=>.int .u8 (b.toNat:Int)
 |[]=>rfl
 |b::l=>by unfold Ca;rw[AZ,Gu l];rfl
theorem Kg(l:List UInt8):ADp φ (Ca l) (l.map fun b=>.int .u8 (b.toNat:Int)):=by
 rw[Gu]
 induction l with
 |nil=>exact .nil
 |cons b l ih=>exact .cons (.int _ _) ih
theorem Fy(H:ADX ty φ E h w){size n:Nat}{x x':BY}(hE:∀ a l c,x=.slice (some a) l c→¬ E a.block)(hx:ADU φ x x'){k:List BY→R}(hr:BH h size x n k=.ok v h')
  (hn:∀ m,lenV x=.ok m→n≤m):
  ∃ cs cs':List BY,k cs=.ok v h'∧ADp φ cs cs'∧(∀ w':vt,w'.heap=w.heap→(wH size n x').run P w'=.ok ⟨cs'⟩ w')∧(∀ a l c,x'=.slice (some a) l c→cs'.length=n*size)∧(∀ s,x'=.string s→cs'.length=n∧size=1)∧
   (∀ a l c,x=.slice (some a) l c→0<c→∃ p cs t fr,φ a.block=some p∧w.heap[p.blk]? =some (.cells cs t fr)∧∀ (j:Nat) (u:BY),cs'[j]? =some u→cs[p.off+a.off+j]? =some u):=by
 unfold BH at hr;split at hr
 ·cases hx
  exact⟨[],[],hr,.nil,(fun _ _=>rfl),(fun _ _ _ h=>by cases h),(fun _ h=>by cases h),(fun _ _ _ h=>by cases h)⟩
 ·rename_i a l c
  split at hr
  case h_2=>cases hr
  rename_i ct s en hrow;obtain⟨hb,hr⟩:=Bk hr;rw[Fo,vR]at hr;cases hx with
  |@slice _ a' _ _ c' hlc hs=>
   rcases vy c with h0|h0
   ·have hl0:l=0:=by omega
    have hn0:n=0:=by have:=hn l rfl;omega
    subst hn0;refine⟨_,[],hr,by simp[AEo];exact .nil,fun w' _=>?_,(fun _ _ _ h=>by simp),(fun _ h=>by cases h),(fun _ _ _ h hpos=>by cases h;omega)⟩;simp only[wH,yd];rfl
   ·obtain⟨s1,s2,p,hp,hbl,hor⟩:=hs
    have ha:AEn φ a a':=by
     rcases hor with h|h
     ·exact⟨s1,s2,p,hp,hbl,h.2.1⟩
     ·omega
    obtain⟨cs',hcs,hlen,hrun,hcell⟩:=Qe (P:=P) H ha (hE _ _ _ rfl) hrow (Ab.1 hb);exact⟨_,cs',hr,hcs,hrun,(fun _ _ _ _=>hlen),(fun _ h=>by cases h),(fun _ _ _ h _=>by cases h;exact hcell)⟩
 ·rename_i s
  obtain rfl:=hx.ADr;have hn':n≤s.data.toList.length:=by
   have:=hn (A8 s.data.toList) rfl
   rwa [BI]at this
  obtain⟨hone,hr⟩:=Bk hr;rw[He]at hr;refine⟨_,_,hr,Kg _,fun w' _=>?_,(fun _ _ _ h=>by cases h),(fun _ _=>⟨by simp only[List.length_map,List.length_take];omega,Am.1 hone⟩),(fun _ _ _ h=>by cases h)⟩;simp only[wH,vF]
  congr 1
  apply wO;simp[ya]
 ·rename_i c
  cases c with
  |none=>cases hr
  |some r=>
   cases hx;have hn0:n=0:=by have:=hn 0 rfl;omega
   subst hn0;exact⟨[],[],hr,.nil,(fun w' _=>by simp only[wH,yd];rfl),(fun _ _ _ h=>by simp),(fun _ h=>by cases h),(fun _ _ _ h=>by cases h)⟩
 ·cases hr
theorem QZ{x x':BY}(hx:ADU φ x x'){n:Nat}(h:lenV x=.ok n):(ABo x').run P w=.ok n w:=by
 unfold lenV at h;split at h
 ·cases h;cases hx<;>rfl
 ·cases h
  obtain rfl:=hx.ADr;simp only[ABo,vF,BI];rfl
 ·rename_i c
  cases c with
  |none=>cases h
  |some r=>
   cases h;cases hx;rfl
 ·cases h
theorem ZP(H:ADX ty φ E h w)(hE:∀ b,¬ E b){d x:O}{d' x':BY}{ats:Array vx}{dt t el:vx}(h0:ats[0]? =some dt){ti ei:TI}(T:ADt P dt ti)(hk:ti.k=.slice el)(TE:ADt P el ei)
  (hd:ADU φ (d e) d')(hx:ADU φ (x e) x')(hr:JR ei.size d x F e h=.ok v h'):BM ty φ E h w v h' ((yg ats t #[d',x']).run P w):=by
 unfold JR Pj at hr;split at hr
 case h_2=>cases hr
 rename_i base dl dc hde;rw[hde]at hd;split at hr
 case h_2=>cases hr
 rename_i xl hxl;rw[AZ,BJ]at hr;obtain⟨cs,cs',hr,hcs,AG5,hl1,hl2,_⟩:=Fy (P:=P) H (fun _ _ _ _=>hE _) hx hr (fun m hm=>by rw[hxl]at hm;cases hm;exact zW _ _);have hrun:=AG5 w rfl;obtain⟨dd,hdd,hkd⟩:=T.desc;rw[hk]at hkd;cases hkd;have hlen:=QZ (P:=P) (w:=w) hx hxl;split at hr
 ·cases hr
  cases hd;have key:(yg ats t #[.slice none 0 0,x']).run P w=.ok (goInt ((min xl 0:Nat):Int)) w:=by
   simp only[yg,h0,vE,hdd,IS,hlen,TE.size,vF,vb,vf,wE];have:Nat.min xl 0=min xl 0:=rfl;rw[this,hrun];rfl
  rw[key];exact .same H (.int _ _)
 ·rename_i a hr0
  cases hd with
  |@slice _ a' _ _ dc' hlc hs=>
   have AGM:∃ h1 w1,(.ok (.int .i64 (.ofNat (min xl dl))) h1:R)=.ok v h'∧(storeCells a' cs').run P w=.ok () w1∧ADX ty φ E h1 w1∧Evo φ h w φ h1 w1:=by
    rcases vy dc with h0|h0
    ·have hdl:dl=0:=by omega
     subst hdl;have AGD:cs'=[]:=by
      have hz:min xl 0=0:=Nat.min_zero _;rw[hz]at hrun hl1 hl2;cases x'<;>first|(simp only[wH]at hrun;cases hrun;done)|skip
      ·exact zE.1 (hl2 _ rfl).1
      ·rename_i sa sl AIe
       cases sa with
       |none=>simp only[wH,vF]at hrun;cases hrun;rfl
       |some sa=>exact zE.1 (by have:=hl1 sa sl AIe rfl;simpa using this)
     subst AGD;have:cs=[]:=by cases hcs;rfl
     subst this;unfold Ci at hr;split at hr
     case h_2=>cases hr
     rename_i ct s en hrow;obtain⟨_,hr⟩:=Bk hr;obtain⟨_,hr⟩:=Bk hr;simp only[Bx]at hr;obtain⟨bl,ADg,hbl,hk2⟩:=FD hr;obtain⟨_,_,p,hp,_,_⟩:=hs;have hold:=H.row a.block p hp (hE _);have AFO:=Cx hrow;rw[AFO]at hold;have AEE:Live h a.block:=by unfold Live;rw[AFO];intro hd;cases hd
     exact⟨_,w,hk2,rfl,H.put (hE _) ADg hp AEE hbl rfl (fun _ _=>rfl) hold,.put (H.AEX hp ADg) hp AEE hbl (by rw[Cx hrow];exact .inr ⟨rfl,rfl⟩) rfl (fun _ _=>rfl) rfl rfl rfl⟩
    ·obtain⟨s1,s2,p,hp,hbl,hor⟩:=hs
     have ha:AEn φ a a':=by
      rcases hor with h|h
      ·exact⟨s1,s2,p,hp,hbl,h.2.1⟩
      ·omega
     exact IB (P:=P) H hr ha hcs (hE _)
   obtain⟨h1,w1,hk2,AFH,H1,ev⟩:=AGM;cases hk2;have key:(yg ats t #[.slice (some a') dl dc',x']).run P w=.ok (goInt ((min xl dl:Nat):Int)) w1:=by
    simp only[yg,h0,vE,hdd,IS,hlen,TE.size,vF,vb,vf,wE];have:Nat.min xl dl=min xl dl:=rfl;rw[this,hrun];simp only[IS,AFH,vE,vF]
   rw[key];exact⟨_,_,φ,rfl,.int _ _,H1,ev⟩
end
end
noncomputable section
open Go
section
variable {P:wK}{ty:TTy}{φ:Phi}{E:Nat→Prop}{h h':Hp}{w:vt}{e:Env}{v:BY}
theorem ADX.of_heap(H:ADX ty φ E h w){w':vt}(hw:w'.heap=w.heap):ADX ty φ E h w' where
 dom:=by rw[hw];exact H.dom
 inj:=H.inj
 row:=by rw[hw];exact H.row
 fresh:=H.fresh
 kind:=H.kind
 inp:=H.inp
theorem Wy(H:ADX ty φ E h w)(hE:∀ b,¬ E b){a a':AAa}{c c' o:Nat}{vs vs':List BY}{k:Hp→R}(hs:AFE φ a c a' c')(h0:c=0→vs=[])
  (hr:Ci (Ey a o) vs h k=.ok v h')(hv:ADp φ vs vs'):
  ∃ h1 w1,k h1=.ok v h'∧(storeCells (a'.add o) vs').run P w=.ok () w1∧ADX ty φ E h1 w1∧Evo φ h w φ h1 w1:=by
 obtain⟨s1,s2,p,hp,hbl,hor⟩:=hs;have hblk:(Ey a o).block=a.block:=by unfold Ey;split<;>rfl
 rcases vy c with hc|hc
 ·have:=h0 hc
  subst this;have:vs'=[]:=by cases hv;rfl
  subst this;unfold Ci at hr;split at hr
  case h_2=>cases hr
  rename_i ct s en hrow;obtain⟨_,hr⟩:=Bk hr;obtain⟨_,hr⟩:=Bk hr;simp only[Bx]at hr;obtain⟨bl,ADg,AFd,hk2⟩:=FD hr;rw[hblk]at hrow AFd hk2 ADg;have hold:=H.row a.block p hp (hE _);have AFO:=Cx hrow;rw[AFO]at hold;have AEE:Live h a.block:=by unfold Live;rw[AFO];intro hd;cases hd
  exact⟨_,w,hk2,rfl,H.put (hE _) ADg hp AEE AFd rfl (fun _ _=>rfl) hold,.put (H.AEX hp ADg) hp AEE AFd (by rw[Cx hrow];exact .inr ⟨rfl,rfl⟩) rfl (fun _ _=>rfl) rfl rfl rfl⟩
 ·have hoff:a'.off=p.off+a.off:=by
   rcases hor with h|h
   ·exact h.2.1
   ·omega
  obtain⟨ab',ao',AHr⟩:=a';obtain⟨ab,ao,asp⟩:=a;simp only at s1 s2 hp hbl hoff;subst s1;subst s2;subst hbl;subst hoff;have AIf:Ey ⟨ab,ao,none⟩ o=⟨ab,ao+o,none⟩:=by
   unfold Ey;cases o<;>rfl
  rw[AIf]at hr;rw[Addr.AET];refine IB (P:=P) H hr ⟨rfl,rfl,p,hp,rfl,?_⟩ hv (hE _);show p.off+ao+o=p.off+(ao+o);omega
theorem NT(N:Nat):∀ (r c:Nat),c<N→yQ N r c≤N+(N+768)/4
 |0,c,h=>by unfold yQ;omega
 |r+1,c,h=>by
  unfold yQ;split
  ·omega
  ·rcases vd (c+(c+768)/4) N with h2|h2
   ·exact NT N r _ h2
   ·cases r with
    |zero=>unfold yQ;omega
    |succ r=>unfold yQ;rw[if_pos h2];omega
theorem eB{need cap:Nat}(h:cap<need):xz need cap≤2*need:=by
 unfold xz;split
 ·omega
 ·split
  ·omega
  ·have:=NT need 4 cap h
   omega
theorem ME(H:ADX ty φ E h w){en:Nat}{ei:TI}(hty:ty.get en=some ei){need c:Nat}(AGN:0<need)(hc:need≤c){cs cs' rest:List BY}(ADy:ADp φ cs cs')(hlen:cs.length=need*ei.size)
  (AE1:rest.length=(c - need)*ei.size){w':vt}(hw':w'.heap=w.heap.push (.cells ⟨cs'++rest⟩ en))(ht:w'.tape=w.tape)(ho:w'.os=w.os)(hout:w'.output=w.output)
  {t:VT}{n:Nat}(hT:∀ j,j<cs.length→t.get j=cs.getD j undef)(hN:n=cs.length)(hr:CE h (vD en) t n (Ed need need)=.ok v h'):∃ ψ,ADU ψ v (.slice (some ⟨w.heap.size,0,none⟩) need c)∧ADX ty ψ E h' w'∧Evo φ h w ψ h' w':=by
 have hl':=ADy.length;have hmul:(c - need)*ei.size+need*ei.size=c*ei.size:=by rw[← zy];congr 1;omega
 have hsz:(⟨cs'++rest⟩:Array BY).size=c*ei.size:=by simp[hl',AE1,hlen];omega
 obtain⟨h1,hk,H1,ev⟩:=MX (cs:=cs) (cs':=⟨cs'++rest⟩) (t:=en) (fr:=(0,0)) (w':=w')
  (p:={blk:=w.heap.size,off:=0,sz:=cs.length,room:=(⟨cs'++rest⟩:Array BY).size,es:=ei.size}) H hr hT hN rfl ⟨rfl,.inr ⟨en,ei,rfl,hty,rfl⟩⟩ (by simp[hl']) (.inl rfl)
  (fun j u hj=>by
   obtain⟨u',hu,hru⟩:=ADy.get j u hj;refine⟨u',?_,hru⟩;have hj':j<cs'.length:=by
    rcases vd j cs'.length with h|h
    ·exact h
    ·rw[wi h]at hu;cases hu
   simp only[vb];rw[vP hj'];exact hu) hw' ht ho hout
 cases hk;refine⟨_,.slice (IN _) ⟨rfl,rfl,_,Phi.AED _ _ _,rfl,.inl ⟨AGN,rfl,.inr ⟨?_,hc,?_⟩⟩⟩,H1,ev⟩
 ·simp only;omega
 ·simp only[hsz];omega
theorem Yl(H:ADX ty φ E h w)(hE:∀ b,¬ E b){en:Nat}{ei:TI}(hty:ty.get en=some ei)(hes:0<ei.size){base:Option AAa}{base':Option AAa}{sl sc sc' need:Nat}
  (hsl:ADU φ (.slice base sl sc) (.slice base' sl sc'))(AGN:sc<need){olds news AE5 news':List BY}(ho:ADp φ olds AE5)(hn:ADp φ news news')
  (hol:olds.length=sl*ei.size)(hnl:(olds++news).length=need*ei.size)(hone:∀ v∈news',v.oneCell'=true)
  (hcell:∀ a a',base=some a→base'=some a'→0<sc→∃ p cs t fr,φ a.block=some p∧w.heap[p.blk]? =some (.cells cs t fr)∧∀ j u,AE5[j]? =some u→cs[p.off+a.off+j]? =some u)
  {tr:VT}{n:Nat}(hT:∀ j,j<(olds++news).length→tr.get j=(olds++news).getD j undef)(hN:n=(olds++news).length)(hr:Ep ei.size en base sc need tr n h=.ok v h'):
  (∀ c rest,need≤c→rest.length=(c - need)*ei.size→∀ w':vt,sc'<need→w'.heap=w.heap.push (.cells ⟨(AE5++news')++rest⟩ en)→w'.tape=w.tape→w'.os=w.os→w'.output=w.output→
   ∃ ψ,ADU ψ v (.slice (some ⟨w.heap.size,0,none⟩) need c)∧ADX ty ψ E h' w'∧Evo φ h w ψ h' w')∧
  (∀ a',base'=some a'→need≤sc'→∃ w' ψ,(storeCells (a'.add (sl*ei.size)) news').run P w=.ok () w'∧ADU ψ v (.slice (some a') need sc')∧ADX ty ψ E h' w'∧Evo φ h w ψ h' w'):=by
 have ADy:=ho.append hn;have AFC:0<need:=by omega
 unfold Ep at hr;split at hr
 ·
  cases hsl;refine⟨fun c rest hc AE1 w' _ hw' ht hos hout=>ME H hty AFC hc ADy hnl AE1 hw' ht hos hout hT hN hr,fun a' ha=>by cases ha⟩
 ·rename_i _ a
  cases hsl with
  |@slice _ a' _ _ _ hlc hs=>
  split at hr
  case h_2=>cases hr
  rename_i ct s en0 hrow;obtain⟨s1,s2,p,hp,hbl,hor⟩:=hs;have AFu:=H.kind a.block p ct s en0 hp (Cx hrow);have AEE:Live h a.block:=by unfold Live;rw[Cx hrow];intro hd;cases hd
  have AGO:(p.room=p.sz∧p.es=1)→sc'=sc:=by
   rintro⟨q1,q2⟩;rcases hor with ⟨q3,q4,q5|⟨q5,q6,q7⟩⟩|⟨q3,q4|q4⟩
   ·exact q5
   ·rw[q2]at q5 q7;omega
   ·omega
   ·rw[q2]at q4;omega
  have real:sc'=sc→CE h (vD en) tr n (Ed need need)=.ok v h'→
    (∀ c rest,need≤c→rest.length=(c - need)*ei.size→∀ w':vt,sc'<need→w'.heap=w.heap.push (.cells ⟨(AE5++news')++rest⟩ en)→w'.tape=w.tape→w'.os=w.os→w'.output=w.output→
     ∃ ψ,ADU ψ v (.slice (some ⟨w.heap.size,0,none⟩) need c)∧ADX ty ψ E h' w'∧Evo φ h w ψ h' w')∧
    (∀ a'',some a'=some a''→need≤sc'→∃ w' ψ,(storeCells (a''.add (sl*ei.size)) news').run P w=.ok () w'∧ADU ψ v (.slice (some a'') need sc')∧ADX ty ψ E h' w'∧Evo φ h w ψ h' w'):=by
   intro hsc hr;exact⟨fun c rest hc AE1 w' _ hw' ht hos hout=>ME H hty AFC hc ADy hnl AE1 hw' ht hos hout hT hN hr,fun a'' _ h2=>by omega⟩
  split at hr
  ·refine real (AGO ?_) hr
   rcases AFu.2 with ⟨_,q1,q2,_⟩|⟨t,ti,q1,_⟩
   ·exact⟨q1,q2⟩
   ·cases q1
  ·rename_i e0
   obtain⟨hb,hr⟩:=Bk hr;have hen:e0=en:=Am.1 hb;subst hen;have AHt:p.es=ei.size:=by
    rcases AFu.2 with ⟨q0,_⟩|⟨t,ti,q1,q2,q3⟩
    ·cases q0
    ·have:t=e0:=by omega
     subst this;rw[hty]at q2;cases q2;exact q3
   split at hr
   ·obtain⟨bl,ADg,AES,hr⟩:=FD hr
    have Hk:=H.kill AES (lo:=B4 h.low a.block) (hi:=Co h.high a.block) (mk:=h.mark);refine⟨fun c rest hc AE1 w' _ hw' ht hos hout=>?_,fun a'' AIg hcap=>?_⟩
    ·obtain⟨ψ,hv,H2,ev⟩:=ME Hk hty AFC hc ADy hnl AE1 hw' ht hos hout hT hN hr
     refine⟨ψ,hv,H2,?_⟩;have evk:Evo φ h w φ {next:=h.next,low:=B4 h.low a.block,high:=Co h.high a.block,mark:=h.mark,bl:=bl} w:={
      le:=.refl _,new:=fun _ _ e=>.inl e,next:=IN _,size:=IN _,tape:=rfl,os:=rfl,output:=rfl,frame:=fun _ _ _=>rfl,
      back:=fun i q e hl _=>⟨i,q,e,fun hd=>hl (by show bl.get i=_;rw[BT.ADY AES];split<;>first|rfl|exact hd),rfl,rfl,.inl rfl⟩,
      kept:=fun i _ hi=>by
       show bl.get i=_;have hi:i<B4 h.low a.block∨Co h.high a.block<i:=hi;rw[BJ,Bw]at hi;rw[BT.ADY AES,if_neg (by omega)],
      low:=by show B4 _ _≤_;rw[BJ];exact zW _ _,
      high:=by show _≤Co _ _;rw[Bw];exact Nat.le_max_left _ _,
      shape:=fun i _=>by
       show ADn _ (bl.get i);rw[BT.ADY AES];split
       ·exact .inl rfl
       ·exact .refl _,
      only:=fun i _ h0=>by
       show bl.get i=_;rw[BT.ADY AES,if_neg (fun e=>by rw[e,hp]at h0;cases h0)],
      all:=fun _ h1 h2=>absurd h2 (AAJ.2 h1)}
     exact evk.trans ev
    ·cases AIg
     obtain⟨p0,cs,t,fr,hp0,hwc,R⟩:∃ p0 cs t fr,φ a.block=some p0∧w.heap[p0.blk]? =some (.cells cs t fr)∧AFF ty φ p0 ct s (e0+1) cs fr:=by
      obtain⟨cs,t,fr,q1,q2⟩:=H.rowAt hp (hE _) hrow;exact⟨p,cs,t,fr,hp,q1,q2⟩
     rw[hp]at hp0;cases hp0;obtain⟨ab',ao',AHr⟩:=a';simp only at s2 hbl hor;subst s2;subst hbl;have AG6:p.off≤ao'∧ao'+sc' * ei.size≤p.off+p.room∧(0<sc→ao'=p.off+a.off):=by
      have hz:p.sz≤p.room:=R.room;rw[AHt]at hor;rcases hor with ⟨q3,q4,q5|⟨q5,q6,q7⟩⟩|⟨q3,q4|⟨q4,q5⟩⟩
      ·omega
      ·exact⟨by omega,by omega,fun _=>q4⟩
      ·omega
      ·exact⟨by omega,by omega,fun h=>by omega⟩
     have AG3:=R.fits;have hmul:need*ei.size≤sc'*ei.size:=Nat.mul_le_mul_right _ hcap;have hlo:=ho.length;have hln:=hn.length;have AJ1:olds.length+news.length=need*ei.size:=by rw[← hnl];simp
     rw[Addr.AET];have hst:(storeCells ⟨p.blk,ao'+sl*ei.size,none⟩ news').run P w=.ok () (w.setCells p.blk (ao'+sl*ei.size) news'):=by
      refine run_storeCells_cells (P:=P) p.blk (ao'+sl*ei.size) news' 0 w (fun j hj=>?_) (fun j hj=>?_) hone
      ·rw[GU hwc];simp;omega
      ·exact NR hwc R.AHq (by omega)
     obtain⟨cs',e1,e2,e3,e4,e5,e6,e7,e8⟩:=F8 p.blk t fr news' (ao'+sl * ei.size) cs w hwc (by omega);unfold CE at hr;rw[AZ]at hr;obtain⟨bl2,AFd,hk2⟩:=GH hr;cases hk2
     let p':Pl:={blk:=p.blk,off:=ao',sz:=need*ei.size,room:=p.off+p.room - ao',es:=ei.size}
     have hB:AER ty (φ.put h.next p') p' (.cells tr n (e0+1)) ((w.setCells p.blk (ao'+sl*ei.size) news').heap[p'.blk]?):=by
      show AER ty (φ.put h.next p') p' _ ((w.setCells p.blk (ao'+sl*ei.size) news').heap[p.blk]?);rw[e1,hN,hnl];refine .cells {
       kind:=⟨rfl,.inr ⟨e0,ei,rfl,hty,rfl⟩⟩,room:=(by show need*ei.size≤p.off+p.room - ao';omega),fits:=(by show ao'+(p.off+p.room - ao')≤cs'.size;omega),
       loose:=.inl (by rw[e2];exact R.AHq),cell:=fun j hj=>?_}
      have hj2:j<(olds++news).length:=by omega
      rw[hT j hj2];show ∃ v,cs'[ao'+j]? =some v∧_;have hD:(olds++news).getD j undef=(olds++news)[j]:=by
       rw[List.getD_eq_getElem?_getD,No hj2];rfl
      rw[hD];obtain⟨u',hu,hru⟩:=ADy.get j _ (No hj2);refine⟨u',?_,hru.mono (Phi.AEq H.AEI)⟩;rw[e3];rcases vd j olds.length with hjo|hjo
      ·rw[if_neg (by omega)]
       rw[vP (by omega)]at hu;have AHu:0<sc:=by
        rcases vy sc with q|q
        ·have:sl=0:=by omega
         rw[this,yd]at hol;omega
        ·exact q
       obtain⟨p1,cs1,t1,fr1,hp1,hw1,hc1⟩:=hcell a _ rfl rfl AHu;rw[hp]at hp1;cases hp1;rw[hwc]at hw1;cases hw1;rw[AG6.2.2 AHu];exact hc1 j u' hu
      ·rw[if_pos (by omega)]
       rw[ve (by omega)]at hu;rw[← hu];congr 1;omega
     have AGP:∀ j q,φ j=some q→Live ({next:=h.next,low:=B4 h.low a.block,high:=Co h.high a.block,mark:=h.mark,bl:=bl}:Hp) j→q.blk≠p'.blk:=by
      intro j q hq hl hqb;have hl':bl.get j≠.dead:=hl;rw[BT.ADY AES]at hl';split at hl'
      ·exact hl' rfl
      ·rename_i hjb
       exact hjb (H.inj j a.block q p hq hp (hE _) (hE _) hl' AEE (.inr (H.AEX hp ADg)) hqb)
     have H2:=Hk.new (lo:=B4 h.low a.block) (hi:=Co h.high a.block) (mk:=h.mark) (w':=w.setCells p.blk (ao'+sl*ei.size) news') (p:=p') AFd (zO e4.symm) (by rw[e4];exact(H.dom _ _ hp).2) AGP (fun k _ hk=>e5 k hk) hB;refine⟨_,_,hst,?_,H2,Evo.grow H (H.AEX hp ADg) rfl hp AEE AES AFd rfl e4 e5 e6 e7 e8⟩;refine .slice (IN _) ⟨rfl,rfl,p',Phi.AED _ _ _,rfl,.inl ⟨AFC,rfl,.inr ⟨?_,hcap,?_⟩⟩⟩
     ·show 0+need*ei.size=need*ei.size;omega
     ·show 0+sc'*ei.size≤p.off+p.room - ao';omega
   ·rename_i hend
    refine real ?_ hr;rcases hor with ⟨q3,q4,q5|⟨q5,q6,q7⟩⟩|⟨q3,_⟩
    ·exact q5
    ·exfalso
     unfold Kf at hend;cases sc with
     |zero=>omega
     |succ n=>
      simp only at hend;have:vO (wg a.off (vr (n+1) ei.size)) s=true:=Am.2 (by rw[← AFu.1,← q5,AHt];rfl);rw[this]at hend;cases hend
    ·exfalso
     subst q3;cases hend
end
end
end Go.Proofs.YtedbmmfebjfibaaGreat

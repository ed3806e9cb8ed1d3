/-
  Part ZC of what Lawlt stands on: printed by program, names and spaces cut.
-/
import Derived.Test.YtbjadbhkogcfeaaGreatZB
import GoSem.Dispatch
import Derived.WideShapes
import Derived.Sort.Walk0
open Go renaming Value→IN,IntKind→yy,Operand→zM,World→zP,TypeId→zZ,Program→zp,newRow→AB3,Addr→ACS,BinOp→AEl
open Nat renaming le_refl→IT,succ→yg,ble→yl,beq→yu,lt_or_ge→zD,zero_le→zL,le_trans→zO,eq_zero_or_pos→za,mul→zi,blt→zm,add→AAB,add_zero→AAE,beq_refl→AAQ,zero_mul→AAw,succ_mul→ABX,mod_eq_of_lt→ABe,le_of_eq→AB0,add_mul→AB1,min_le_left→AB8,mul_le_mul_right→ACP,not_lt→ACk,mul_le_mul→AC4,le_mul_of_pos_right→ADJ,succ_ne_zero→AEJ,sub_zero→AEK
open List renaming length_append→No,getElem?_eq_getElem→sh,getD_eq_getElem?_getD→yf,length_cons→yh,append_nil→yw,getElem?_append_left→zF,getElem?_append_right→zI,getElem?_toArray→zN,getElem?_cons_zero→zW,getElem?_cons_succ→zk,getElem?_map→zy,getElem?_eq_none→AAS,length_eq_zero_iff→AAy
open Go.Result renaming andThen_ok→ye,ok→AE7
open Go.Sem renaming run_bind→ym,run_pure→yn,run_ite→ACD
open Bool renaming and_eq_true→yr,false_eq_true→zT,eq_iff_iff→AAd,rec→AA1,not_eq_true'→ABr,or_eq_false_iff→ADd
open Go.Builtin renaming firstCells→zf,nextslicecap→AAk,append_→AAu,growBy→ABO,copy_→ABb,zeroCells→ACF,lenOf→ACu
open Int renaming toNat_natCast→zt,ofNat_eq_natCast→AAW,rec→ABP,natCast_mul→AEZ
open Array renaming ext'→zz,range→AB7
open Option renaming map_some→AAG,isSome_iff_exists→ACp,map_none→ADw
open Go.IntKind renaming i64→AAh
open Go.Instr renaming sliceBounds→AAi,sliceAt→AAj,indexAt→ABD,loadAt→ABQ,build→ABh,buildSlice→ABj,makeSlice→ABt,makeInterface→AB6,extract→ACR,fill→AC0,fieldAt→AC8,arrayAt→AC9,index→ADa,sliceBound→AD4,storeAt→AEa,slice→AEx,alloc→AEy
open Std renaming lt_irrefl→ACL,lt_trichotomy→AD7,lt_trans→AE6
open UInt8 renaming lt_iff_toNat_lt→ADH,toNat_inj→AD6
open Go.Value renaming bool→AE1
open Go.Op renaming bytesLess→AFJ,intArith→AFW
open Go.ByteArray renaming toList_eq→AFg
set_option linter.unusedVariables false
set_option linter.unusedSimpArgs false
namespace Go.Proofs.YtbjadbhkogcfeaaGreat
noncomputable section
open Go
section
variable {P:zp}{ty:TTy}{φ:Phi}{E:Nat->Prop}{h h':Hp}{w:zP}{F:AFi}{e:Env}{v:IN}
theorem M5{b:Bool}(hr:okB b h=.ok v h'):v=.bool b/\h'=h:=by cases b<;>cases hr<;>exact⟨rfl,rfl⟩
theorem Er(k:yy)(n:Int)(h:Hp):okI k n h=.ok (.int k n) h:=by
 cases n with
 |ofNat m=>cases m<;>rfl
 |negSucc m=>show AF1 m (fun m=>R.ok (.int k (.negSucc m)) h)=_;rw[Ao]
theorem Fh{k:yy}{n:Int}(hr:okI k n h=.ok v h'):v=.int k n/\h'=h:=by
 rw[Er]at hr;cases hr;exact⟨rfl,rfl⟩
theorem rc(a b:Nat):iLt (.ofNat a) (.ofNat b)=zm a b:=rfl
theorem ra(a b:Nat):iLt (.ofNat a) (.negSucc b)=false:=rfl
theorem rZ(a b:Nat):iLt (.negSucc a) (.ofNat b)=true:=rfl
theorem rY(a b:Nat):iLt (.negSucc a) (.negSucc b)=zm b a:=rfl
theorem rX(a b:Nat):iEq (.ofNat a) (.ofNat b)=yu a b:=rfl
theorem rW(a b:Nat):iEq (.ofNat a) (.negSucc b)=false:=rfl
theorem rV(a b:Nat):iEq (.negSucc a) (.ofNat b)=false:=rfl
theorem rU(a b:Nat):iEq (.negSucc a) (.negSucc b)=yu a b:=rfl
theorem DF(a b:Int):iLt a b=decide (a<b):=by
 cases a<;>cases b<;>simp only[rc,ra,rZ,rY]
 ·rename_i a b
  rw[AAd,BQ,decide_eq_true_iff];exact Int.ofNat_lt.symm
 ·simp only[AAW];symm;rw[decide_eq_false_iff_not];omega
 ·simp only[AAW];symm;rw[decide_eq_true_iff];omega
 ·rename_i a b
  rw[AAd,BQ,decide_eq_true_iff];omega
theorem Dc(a b:Int):iEq a b=(a == b):=by
 cases a<;>cases b<;>simp only[rX,rW,rV,rU]
 ·rename_i a b
  rw[AAd,Ay,beq_iff_eq];simp only[AAW];omega
 ·simp only[AAW];symm;rw[beq_eq_false_iff_ne];omega
 ·simp only[AAW];symm;rw[beq_eq_false_iff_ne];omega
 ·rename_i a b
  rw[AAd,Ay,beq_iff_eq];omega
theorem dA(k:yy):((BH k:Nat):Int)<2 ^ k.bits/\(k.signed=true->((BH k:Nat):Int)<2 ^ (k.bits - 1)):=by
 cases k<;>decide
theorem Dp(k:yy)(m:Nat)(h:m<=BH k):k.wrap (m:Int)=m:=by
 have h1:=dA k;unfold IntKind.wrap;have e:((m:Int)) % (2 ^ k.bits:Int)=m:=Int.emod_eq_of_lt (by omega) (by omega);rw[e];simp only;rw[if_neg];intro hh;simp only[yr,decide_eq_true_eq]at hh;have:=h1.2 hh.1;omega
theorem DO(k:yy)(n:Int):Ei k n=k.wrap n:=by
 cases n with
 |ofNat m=>
  show AA1 (motive:=fun _=>Int) (k.wrap (.ofNat m)) (.ofNat m) (yl m (BH k))=_;cases hb:yl m (BH k)with
  |false=>rfl
  |true=>exact(Dp k m (Av.1 hb)).symm
 |negSucc m=>rfl
theorem Hx{a b:yy}(h:Fm a b=true):b=a:=by
 have:=Ay.1 h;cases a<;>cases b<;>first|rfl|(exact absurd this (by decide))
theorem F9{k:yy}{x:IN}{n:Int}(h:Cu k x=.ok n):x=.int k n:=by
 cases x<;>first|(cases h;done)|skip
 rename_i q m;have h:AA1 (motive:=fun _=>NI) .no (.ok m) (Fm k q)=.ok n:=h;cases hs:Fm k q with
 |false=>rw[hs]at h;cases h
 |true=>rw[hs]at h;cases h;rw[Hx hs]
theorem jF{k:yy}{x:IN}{n:Nat}(h:Gb k x=.ok n):x=.int k n:=by
 cases x<;>first|(cases h;done)|skip
 rename_i q m;have h:AA1 (motive:=fun _=>NN) .no (ABP (motive:=fun _=>NN) (fun m=>.ok m) (fun _=>.no) m) (Fm k q)=.ok n:=h;cases hs:Fm k q with
 |false=>rw[hs]at h;cases h
 |true=>
  rw[hs]at h;cases m with
  |ofNat m=>cases h;rw[Hx hs];rfl
  |negSucc m=>cases h
theorem VX{x:IN}{n:Int}(h:Xv x=.ok n):∃ k,x=.int k n:=by
 cases x<;>first|(cases h;done)|(cases h;exact⟨_,rfl⟩)
theorem jG{x:IN}{n:Nat}(h:De x=.ok n):∃ k,x=.int k n:=by
 cases x<;>first|(cases h;done)|skip
 rename_i q m;cases m with
 |ofNat m=>cases h;exact⟨_,rfl⟩
 |negSucc m=>cases h
theorem H3{x:IN}{a:ACS}(h:Dy x=.ok a):x=.pointer (some a):=by
 cases x<;>first|(cases h;done)|skip
 rename_i o;cases o with
 |none=>cases h
 |some a=>cases h;rfl
theorem AFm.AGM{k:yy}{n:Int}{x:IN}(h:AFm φ (.int k n) x):x=.int k n:=by cases h;rfl
theorem AFm.AGb{b:Bool}{x:IN}(h:AFm φ (.bool b) x):x=.bool b:=by cases h;rfl
theorem AFm.AGO{s:ByteArray}{x:IN}(h:AFm φ (.string s) x):x=.string s:=by cases h;rfl
theorem AFm.AGl{a:ACS}{x:IN}(h:AFm φ (.pointer (some a)) x):∃ a',x=.pointer (some a')/\AG0 φ a a':=by
 cases h with|ptr h=>exact⟨_,rfl,h⟩
def CF(op:AEl)(t:zZ)(X Y:zM)(a b:IN):Sem IN:=do eqGuard op t X Y a b;binOp op t a b
theorem FS(op:AEl)(t:zZ)(X Y:zM)(j k:yy)(m n:Int):(eqGuard op t X Y (.int j m) (.int k n)).run P w=.ok () w:=by cases op<;>rfl
theorem Xr(op:AEl)(t:zZ)(X Y:zM)(m n:ByteArray):(eqGuard op t X Y (.string m) (.string n)).run P w=.ok () w:=by cases op<;>rfl
theorem RE(H:AFp ty φ E h w){x:O}{x':IN}(hx:AFm φ (x e) x')(hr:AQ x F e h=.ok v h'):Bq ty φ E h w v h' (.ok x' w):=by
 unfold AQ at hr;rw[FA]at hr;cases hr;exact .same H hx
theorem bY(H:AFp ty φ E h w){c a b:O}{c' a' b':IN}(hc:AFm φ (c e) c')(ha:AFm φ (a e) a')(hb:AFm φ (b e) b')(hr:A5 c a b F e h=.ok v h'):
  Bq ty φ E h w v h' ((do pure (if <- asBool c' then a' else b'):Sem IN).run P w):=by
 unfold A5 at hr;cases hce:c e with
 |bool t=>
  rw[hce]at hr hc;obtain rfl:=hc.AGb;cases t with
  |false=>
   have hr:AGz (b e) h=.ok v h':=hr;rw[FA]at hr;cases hr;exact .same H hb
  |true=>
   have hr:AGz (a e) h=.ok v h':=hr;rw[FA]at hr;cases hr;exact .same H ha
 |_=>rw[hce]at hr;cases hr
theorem qS(H:AFp ty φ E h w){f:Int->Int->Bool}{k:yy}{x y:O}{x' y':IN}(hx:AFm φ (x e) x')(hy:AFm φ (y e) y')(hr:Ai f k x y F e h=.ok v h'):
  ∃ m n,x'=.int k m/\y'=.int k n/\v=.bool (f m n)/\h'=h:=by
 unfold Ai ff at hr;cases h1:Cu k (x e)with
 |no=>rw[h1]at hr;cases hr
 |ok m=>
  cases h2:Cu k (y e)with
  |no=>rw[h1,h2]at hr;cases hr
  |ok n=>
   rw[h1,h2]at hr;rw[F9 h1]at hx;rw[F9 h2]at hy;obtain⟨r1,r2⟩:=M5 hr;exact⟨m,n,hx.AGM,hy.AGM,r1,r2⟩
theorem IM(H:AFp ty φ E h w){f:Int->Int->Bool}{op:AEl}(hop:(f=iEq/\op=.eql)\/(f=iNe/\op=.neq)\/(f=iLt/\op=.lss)\/(f=iLe/\op=.leq)\/(f=iGt/\op=.gtr)\/(f=iGe/\op=.geq))
  {k:yy}{x y:O}{x' y':IN}{t:zZ}{X Y:zM}(hx:AFm φ (x e) x')(hy:AFm φ (y e) y')(hr:Ai f k x y F e h=.ok v h'):Bq ty φ E h w v h' ((CF op t X Y x' y').run P w):=by
 obtain⟨m,n,rfl,rfl,rfl,rfl⟩:=qS H hx hy hr;have key:(CF op t X Y (.int k m) (.int k n)).run P w=.ok (.bool (f m n)) w:=by
  unfold CF;rw[ym,FS,ye];rcases hop with ⟨rfl,rfl⟩|⟨rfl,rfl⟩|⟨rfl,rfl⟩|⟨rfl,rfl⟩|⟨rfl,rfl⟩|⟨rfl,rfl⟩<;>
   simp only[binOp,ne_eq,not_true_eq_false,if_false,Op.intCmp,yn,AE7.injEq,AE1.injEq,and_true,iNe,iLe,iGt,iGe,DF,Dc]
  ·rfl
  ·rw[AAd];simp only[decide_eq_true_iff,ABr,decide_eq_false_iff_not];omega
  ·rw[AAd];simp only[decide_eq_true_iff,ABr,decide_eq_false_iff_not];omega
 rw[key];exact .same H (.bool _)
theorem WQ{k:yy}{x y:O}{x' y':IN}(hx:AFm φ (x e) x')(hy:AFm φ (y e) y'){g:Int->Int->R}{r:R}
  (hr:NI.rec (motive:=fun _=>R) .no (fun a=>NI.rec (motive:=fun _=>R) .no (fun b=>g a b) (Cu k (y e))) (Cu k (x e))=r)(hne:r≠.no):
  ∃ m n,x'=.int k m/\y'=.int k n/\g m n=r:=by
 cases h1:Cu k (x e)with
 |no=>rw[h1]at hr;exact absurd hr.symm hne
 |ok m=>
  cases h2:Cu k (y e)with
  |no=>rw[h1,h2]at hr;exact absurd hr.symm hne
  |ok n=>
   rw[h1,h2]at hr;rw[F9 h1]at hx;rw[F9 h2]at hy;exact⟨m,n,hx.AGM,hy.AGM,hr⟩
theorem Vr(H:AFp ty φ E h w){f:Int->Int->Int}{op:AEl}(hop:(f=Int.sub/\op=.sub)\/(f=Int.mul/\op=.mul))
  {k:yy}{x y:O}{x' y':IN}{t:zZ}{X Y:zM}(hx:AFm φ (x e) x')(hy:AFm φ (y e) y')(hr:C3 f k x y F e h=.ok v h'):Bq ty φ E h w v h' ((CF op t X Y x' y').run P w):=by
 obtain⟨m,n,rfl,rfl,hg⟩:=WQ hx hy hr (by intro h;cases h);obtain⟨rfl,rfl⟩:=Fh hg;have key:(CF op t X Y (.int k m) (.int k n)).run P w=.ok (.int k (Ei k (f m n))) w:=by
  unfold CF;rw[ym,FS,ye,DO];rcases hop with ⟨rfl,rfl⟩|⟨rfl,rfl⟩<;>
   simp only[binOp,ne_eq,not_true_eq_false,if_false,AFW,yn]<;>rfl
 rw[key];exact .same H (.int _ _)
theorem AGk{k:yy}{a b:Int}(hr:ABP (motive:=fun _=>R) (fun x=>ABP (motive:=fun _=>R)
   (fun y=>AA1 (motive:=fun _=>R) (okI k (k.wrap (a+b)) h) (AF1 (AAB x y) fun n=>.ok (.int k (.ofNat n)) h) (yl (AAB x y) (BH k)))
   (fun _=>okI k (Ei k (a+b)) h) b)
   (fun _=>okI k (Ei k (a+b)) h) a=.ok v h'):v=.int k (k.wrap (a+b))/\h'=h:=by
 cases a with
 |negSucc a=>
  have:=Fh hr;rw[DO]at this;exact this
 |ofNat a=>
  cases b with
  |negSucc b=>have:=Fh hr;rw[DO]at this;exact this
  |ofNat b=>
   simp only at hr;cases hb:yl (AAB a b) (BH k)with
   |false=>rw[hb]at hr;exact Fh hr
   |true=>
    rw[hb]at hr;simp only[Ao]at hr;cases hr;refine⟨?_,rfl⟩;have:=Dp k (a+b) (Av.1 hb);simp only[AAW];rw[<- Int.natCast_add,this];rfl
theorem jL(H:AFp ty φ E h w){k:yy}{x y:O}{x' y':IN}{t:zZ}{X Y:zM}(hx:AFm φ (x e) x')(hy:AFm φ (y e) y')(hr:CJ k (BH k) x y F e h=.ok v h'):
  Bq ty φ E h w v h' ((CF .add t X Y x' y').run P w):=by
 obtain⟨m,n,rfl,rfl,hg⟩:=WQ hx hy hr (by intro h;cases h);obtain⟨rfl,rfl⟩:=AGk hg;have key:(CF .add t X Y (.int k m) (.int k n)).run P w=.ok (.int k (k.wrap (m+n))) w:=by
  unfold CF;rw[ym,FS,ye];simp only[binOp,ne_eq,not_true_eq_false,if_false,AFW,yn]
 rw[key];exact .same H (.int _ _)
theorem Qe{n:Int}(hb:iEq n 0=false):n≠0:=by
 rw[Dc]at hb;simpa using hb
theorem jX(H:AFp ty φ E h w){k:yy}{x y:O}{x' y':IN}{t:zZ}{X Y:zM}(hx:AFm φ (x e) x')(hy:AFm φ (y e) y')(hr:Lc k x y F e h=.ok v h'):
  Bq ty φ E h w v h' ((CF .quo t X Y x' y').run P w):=by
 unfold Lc Zz at hr;split at hr
 case h_2=>cases hr
 rename_i m h1;split at hr
 case h_2=>cases hr
 rename_i n h2;rw[F9 h1]at hx;rw[F9 h2]at hy;obtain rfl:=hx.AGM;obtain rfl:=hy.AGM;cases hb:iEq n 0 with
 |true=>rw[hb]at hr;cases hr
 |false=>
  rw[hb]at hr;obtain⟨rfl,rfl⟩:=Fh hr;have key:(CF .quo t X Y (.int k m) (.int k n)).run P w=.ok (.int k (Ei k (m.tdiv n))) w:=by
   unfold CF;rw[ym,FS,ye,DO];simp only[binOp,ne_eq,not_true_eq_false,if_false,Op.intDiv,Qe hb,yn]
  rw[key];exact .same H (.int _ _)
theorem jk(H:AFp ty φ E h w){k:yy}{x y:O}{x' y':IN}{t:zZ}{X Y:zM}(hx:AFm φ (x e) x')(hy:AFm φ (y e) y')(hr:Nd k x y F e h=.ok v h'):
  Bq ty φ E h w v h' ((CF .rem t X Y x' y').run P w):=by
 unfold Nd cQ at hr;split at hr
 case h_2=>cases hr
 rename_i m h1;split at hr
 case h_2=>cases hr
 rename_i n h2;rw[F9 h1]at hx;rw[F9 h2]at hy;obtain rfl:=hx.AGM;obtain rfl:=hy.AGM;cases hb:iEq n 0 with
 |true=>rw[hb]at hr;cases hr
 |false=>
  rw[hb]at hr;obtain⟨rfl,rfl⟩:=Fh hr;have key:(CF .rem t X Y (.int k m) (.int k n)).run P w=.ok (.int k (m.tmod n)) w:=by
   unfold CF;rw[ym,FS,ye];simp only[binOp,ne_eq,not_true_eq_false,if_false,Op.intDiv,Qe hb,yn]
  rw[key];exact .same H (.int _ _)
theorem ji(H:AFp ty φ E h w){x:O}{x':IN}(hx:AFm φ (x e) x')(hr:EZ x F e h=.ok v h'):Bq ty φ E h w v h' ((Op.unary .not x').run P w):=by
 unfold EZ at hr;split at hr
 ·rename_i b hb
  rw[hb]at hx;obtain rfl:=hx.AGb;obtain⟨rfl,rfl⟩:=M5 hr;exact .same H (.bool _)
 ·cases hr
theorem bK(H:AFp ty φ E h w){k:yy}{x:O}{x':IN}(hx:AFm φ (x e) x')(hr:C5 k x F e h=.ok v h'):
  ∃ q n,x'=.int q n/\Bq ty φ E h w v h' ((Conv.intToInt k n).run P w):=by
 unfold C5 at hr;split at hr
 ·rename_i n hn
  obtain⟨q,hq⟩:=VX hn;rw[hq]at hx;obtain rfl:=hx.AGM;obtain⟨rfl,rfl⟩:=Fh hr;rw[DO];exact⟨q,n,rfl,.same H (.int _ _)⟩
 ·cases hr
end
end
noncomputable section
open Go
section
variable {P:zp}{ty:TTy}{φ:Phi}{E:Nat->Prop}{h h':Hp}{w:zP}{F:AFi}{e:Env}{v:IN}
def J9:yy->Nat
 |.i8=>7|.i16=>15|.i32=>31|.i64=>63|.u8=>8|.u16=>16|.u32=>32|.u64=>64
theorem SO(k:yy):BH k+1=2 ^ J9 k:=by cases k<;>rfl
theorem Ts(k:yy):J9 k<=k.bits:=by cases k<;>decide
theorem OQ{k:yy}{a:Nat}(ha:a<=BH k):(BitVec.ofInt k.bits (a:Int)).toNat=a:=by
 have h1:=SO k;have h2:2 ^ J9 k<=2 ^ k.bits:=Nat.pow_le_pow_right (by omega) (Ts k);rw[BitVec.ofInt_natCast,BitVec.toNat_ofNat,ABe (by omega)]
theorem FB{x:O}{x':IN}(hx:AFm φ (x e) x'){n:Nat}(h:De (x e)=.ok n):∃ k,x'=.int k n:=by
 obtain⟨k,hk⟩:=jG h;rw[hk]at hx;exact⟨k,hx.AGM⟩
theorem Jl{k:yy}{x:O}{x':IN}(hx:AFm φ (x e) x'){n:Nat}(h:Gb k (x e)=.ok n):x'=.int k n:=by
 rw[jF h]at hx;exact hx.AGM
theorem PK(H:AFp ty φ E h w){f:Nat->Nat->Nat}{op:AEl}(hop:(f=Nat.land/\op=.and)\/(f=Nat.lor/\op=.or)\/(f=Nat.xor/\op=.xor))
  {k:yy}{x y:O}{x' y':IN}{t:zZ}{X Y:zM}(hx:AFm φ (x e) x')(hy:AFm φ (y e) y')(hr:K2 f k x y F e h=.ok v h'):Bq ty φ E h w v h' ((CF op t X Y x' y').run P w):=by
 unfold K2 ZD at hr;split at hr
 case h_2=>cases hr
 rename_i a h1;split at hr
 case h_2=>cases hr
 rename_i b h2;obtain⟨ha,hr⟩:=Bx hr;obtain⟨hb,hr⟩:=Bx hr;obtain rfl:=Jl hx h1;obtain rfl:=Jl hy h2;obtain⟨rfl,rfl⟩:=Fh hr;have ha:=Av.1 ha;have hb:=Av.1 hb;have ea:=OQ ha;have eb:=OQ hb;have ht:=SO k;have key:(CF op t X Y (.int k a) (.int k b)).run P w=.ok (.int k (.ofNat (f a b))) w:=by
  unfold CF;rw[ym,FS,ye];rcases hop with ⟨rfl,rfl⟩|⟨rfl,rfl⟩|⟨rfl,rfl⟩<;>
   simp only[binOp,ne_eq,not_true_eq_false,if_false,Op.intBits,yn,BitVec.toNat_and,BitVec.toNat_or,BitVec.toNat_xor,ea,eb]
  ·have:a &&& b<=BH k:=zO Nat.and_le_left ha
   rw[Dp k _ this];rfl
  ·have:a ||| b<2 ^ J9 k:=Nat.or_lt_two_pow (by omega) (by omega)
   rw[Dp k _ (by omega)];rfl
  ·have:a ^^^ b<2 ^ J9 k:=Nat.xor_lt_two_pow (by omega) (by omega)
   rw[Dp k _ (by omega)];rfl
 rw[key];exact .same H (.int _ _)
theorem Qc(op:AEl)(hop:op=.shl\/op=.shr)(t:zZ)(X Y:zM)(a b:IN):(eqGuard op t X Y a b).run P w=.ok () w:=by
 rcases hop with rfl|rfl<;>rfl
theorem jm(H:AFp ty φ E h w){k:yy}{x y:O}{x' y':IN}{t:zZ}{X Y:zM}(hx:AFm φ (x e) x')(hy:AFm φ (y e) y')(hr:Nf k x y F e h=.ok v h'):
  Bq ty φ E h w v h' ((CF .shl t X Y x' y').run P w):=by
 unfold Nf cY at hr;split at hr
 case h_2=>cases hr
 rename_i a h1;split at hr
 case h_2=>cases hr
 rename_i b h2;obtain rfl:=Jl hx h1;obtain⟨q,rfl⟩:=FB hy h2;obtain⟨rfl,rfl⟩:=Fh hr;have key:(CF .shl t X Y (.int k a) (.int q b)).run P w=.ok (.int k (k.wrap (.ofNat (a*2 ^ (min b k.bits))))) w:=by
  unfold CF;rw[ym,Qc _ (.inl rfl),ye];have:¬ ((b:Int)<0):=by omega
  simp only[binOp,Op.shift,this,if_false,yn,zt];simp
 rw[key,DO,BZ];exact .same H (.int _ _)
theorem jo(H:AFp ty φ E h w){k:yy}{x y:O}{x' y':IN}{t:zZ}{X Y:zM}(hx:AFm φ (x e) x')(hy:AFm φ (y e) y')(hr:Ld k x y F e h=.ok v h'):
  Bq ty φ E h w v h' ((CF .shr t X Y x' y').run P w):=by
 unfold Ld cZ at hr;split at hr
 case h_2=>cases hr
 rename_i a h1;split at hr
 case h_2=>cases hr
 rename_i b h2;obtain rfl:=Jl hx h1;obtain⟨q,rfl⟩:=FB hy h2;obtain⟨rfl,rfl⟩:=Fh hr;have key:(CF .shr t X Y (.int k a) (.int q b)).run P w=.ok (.int k (.ofNat (a/2 ^ (min b k.bits)))) w:=by
  unfold CF;rw[ym,Qc _ (.inr rfl),ye];have:¬ ((b:Int)<0):=by omega
  simp only[binOp,Op.shift,this,if_false,yn,zt]
  congr 2
  have e2:((2:Int) ^ min b k.bits)=((2 ^ min b k.bits:Nat):Int):=by simp
  rw[e2,Int.fdiv_eq_ediv_of_nonneg _ (Int.natCast_nonneg _)];rfl
 rw[key,BZ];exact .same H (.int _ _)
theorem ME:∀ x y:List UInt8,bEq x y=(x == y)
 |[],[]=>rfl
 |[],_::_=>rfl
 |_::_,[]=>rfl
 |a::x,b::y=>by
  have ih:=ME x y;unfold bEq;rw[ih,List.cons_beq_cons];cases hab:yu a.toNat b.toNat with
  |true=>
   have:a=b:=AD6.1 (Ay.1 hab);simp[this]
  |false=>
   have:a≠b:=fun h=>by rw[h]at hab;rw[AAQ]at hab;cases hab
   simp[this]
theorem Y9:∀ x y:List UInt8,bLt x y=AFJ x y
 |[],[]=>rfl
 |[],_::_=>rfl
 |_::_,[]=>rfl
 |a::x,b::y=>by
  have ih:=Y9 x y;unfold bLt AFJ;rw[ih];cases hlt:zm a.toNat b.toNat with
  |true=>
   have:a<b:=ADH.2 (BQ.1 hlt);simp[this]
  |false=>
   have:¬ a<b:=fun h=>by rw[BQ.2 (ADH.1 h)]at hlt;cases hlt
   cases hab:yu a.toNat b.toNat with
   |true=>
    have:a=b:=AD6.1 (Ay.1 hab);simp[this]
   |false=>
    have h2:a≠b:=fun h=>by rw[h]at hab;rw[AAQ]at hab;cases hab
    simp[this,h2]
theorem yR{f:List UInt8->List UInt8->Bool}{x y:O}{x' y':IN}(hx:AFm φ (x e) x')(hy:AFm φ (y e) y')(hr:Ju f x y F e h=.ok v h'):
  ∃ a b,x'=.string a/\y'=.string b/\v=.bool (f a.data.toList b.data.toList)/\h'=h:=by
 unfold Ju co at hr;split at hr
 case h_2=>cases hr
 rename_i a h1;split at hr
 case h_2=>cases hr
 rename_i b h2;rw[h1]at hx;rw[h2]at hy;obtain⟨r1,r2⟩:=M5 hr;exact⟨a,b,hx.AGO,hy.AGO,r1,r2⟩
theorem IP(H:AFp ty φ E h w){f:List UInt8->List UInt8->Bool}{op:AEl}
  (hop:(f=bEq/\op=.eql)\/(f=(fun a b=> !bEq a b)/\op=.neq)\/(f=bLt/\op=.lss)\/(f=(fun a b=>bLt b a)/\op=.gtr)\/(f=(fun a b=> !bLt b a)/\op=.leq)\/(f=(fun a b=> !bLt a b)/\op=.geq))
  {x y:O}{x' y':IN}{t:zZ}{X Y:zM}(hx:AFm φ (x e) x')(hy:AFm φ (y e) y')(hr:Ju f x y F e h=.ok v h'):Bq ty φ E h w v h' ((CF op t X Y x' y').run P w):=by
 obtain⟨a,b,rfl,rfl,rfl,rfl⟩:=yR hx hy hr;have key:(CF op t X Y (.string a) (.string b)).run P w=.ok (.bool (f a.data.toList b.data.toList)) w:=by
  unfold CF;rw[ym,Xr,ye];rcases hop with ⟨rfl,rfl⟩|⟨rfl,rfl⟩|⟨rfl,rfl⟩|⟨rfl,rfl⟩|⟨rfl,rfl⟩|⟨rfl,rfl⟩<;>
   simp only[binOp,Op.stringOp,yn,AE7.injEq,AE1.injEq,and_true,ME,Y9,AFg]
  all_goals
   rw[bytesLess_eq,bytesLess_eq,AAd];simp only[ABr,ADd,Bool.or_eq_true,decide_eq_true_iff,decide_eq_false_iff_not,beq_iff_eq,beq_eq_false_iff_ne]
  ·constructor
   ·rintro⟨h1,h2⟩
    rcases AD7 a.data.toList b.data.toList with h|h|h
    ·exact absurd h h1
    ·exact absurd h h2
    ·exact h
   ·intro h
    exact⟨fun h2=>absurd (AE6 h h2) (ACL),fun h2=>by rw[h2]at h;exact ACL h⟩
  ·constructor
   ·rintro (h1|h1) h
    ·exact ACL (AE6 h h1)
    ·rw[h1]at h;exact ACL h
   ·intro h1
    rcases AD7 a.data.toList b.data.toList with h|h|h
    ·exact .inl h
    ·exact .inr h
    ·exact absurd h h1
 rw[key];exact .same H (.bool _)
theorem MU{a:ByteArray}{l:List UInt8}(h:a.data.toList=l):a=⟨⟨l⟩⟩:=by
 cases a;rename_i d;cases d;simp at h;rw[h]
end
end
noncomputable section
open Go
section
variable {P:zp}{ty:TTy}{φ:Phi}{E:Nat->Prop}{h h':Hp}{w:zP}{F:AFi}{e:Env}{v:IN}
theorem Fz{x:O}{x':IN}(hx:AFm φ (x e) x'){a:ACS}(h:Dy (x e)=.ok a):∃ a',x'=.pointer (some a')/\AG0 φ a a':=by
 rw[H3 h]at hx;exact hx.AGl
theorem Gj(a:ACS):(Instr.sureAddr (.pointer (some a))).run P w=.ok a w:=rfl
theorem YM(H:AFp ty φ E h w){x:O}{x':IN}{t:zZ}{ti:TI}(T:AGD P t ti)(AJF:ti.k.agg=false)(hx:AFm φ (x e) x')
  (hE:∀ a,x e=.pointer (some a)->¬ E a.block)(hr:AO x F e h=.ok v h'):Bq ty φ E h w v h' ((ABQ t x').run P w):=by
 unfold AO at hr;cases ha:Dy (x e)with
 |no=>rw[ha]at hr;cases hr
 |ok a=>
  rw[ha]at hr;obtain⟨a',rfl,hra⟩:=Fz hx ha;obtain⟨rfl,v',hc,hv⟩:=Q0 H hr hra (hE a (H3 ha));have key:(ABQ t (.pointer (some a'))).run P w=.ok v' w:=by
   simp only[ABQ,ym,Gj,ye,loadVar,T.agg,AJF,run_load,hc,zT,if_false]
  rw[key];exact .same H hv
theorem Q1(H:AFp ty φ E h w){n:Nat}{a a':ACS}(hr:loadN n a h=.ok v h')(ha:AG0 φ a a')(hE:¬ E a.block):
  h'=h/\∃ l,AFm φ v (.agg ⟨l⟩)/\(loadCells a' n).run P w=.ok l.toArray w:=by
 unfold loadN at hr;split at hr
 case h_2=>cases hr
 rename_i c s en hrow;obtain⟨hb,hr⟩:=Bx hr;rw[F6,yw]at hr;cases hr;obtain⟨l,hl,_,hrun,_⟩:=Q2 H ha hE hrow (Av.1 hb);exact⟨rfl,l,.agg hl,hrun w rfl⟩
theorem YO(H:AFp ty φ E h w){x:O}{x':IN}{t:zZ}{ti:TI}(T:AGD P t ti)(AJF:ti.k.agg=true)(hx:AFm φ (x e) x')
  (hE:∀ a,x e=.pointer (some a)->¬ E a.block)(hr:BU ti.size x F e h=.ok v h'):Bq ty φ E h w v h' ((ABQ t x').run P w):=by
 unfold BU at hr;split at hr
 case h_2=>cases hr
 rename_i a ha;obtain⟨a',rfl,hra⟩:=Fz hx ha;obtain⟨rfl,l,hv,hrun⟩:=Q1 (P:=P) H hr hra (hE a (H3 ha));have key:(ABQ t (.pointer (some a'))).run P w=.ok (.agg l.toArray) w:=by
  simp only[ABQ,ym,Gj,ye,loadVar,T.agg,AJF,T.size,hrun,if_true,yn]
 rw[key];exact .same H hv
def Yz(ty:TTy)(φ:Phi)(E:Nat->Prop)(h:Hp)(w:zP)(v:IN)(h':Hp)(r:Result Unit):Prop:=
 v=AFl/\∃ w',r=.ok () w'/\AFp ty φ E h' w'/\Evo φ h w φ h' w'
theorem PZ{a:ACS}{u:IN}{k:Hp->R}(hr:C1 a (cellsOf u) h k=.ok v h'):known u=true:=by
 cases u<;>first|rfl|skip
 rename_i cc;cases cc with
 |some r=>rfl
 |none=>
 exfalso
 unfold C1 at hr;cases hrow:rowOf h a.block with
 |no=>rw[hrow]at hr;cases hr
 |ok c s e=>
  rw[hrow]at hr;simp only at hr;obtain⟨_,hr⟩:=Bx hr;have h1:=(Bx hr).1;cases h1
theorem YT(H:AFp ty φ E h w){x y:O}{x' y':IN}{t:zZ}{ti:TI}(T:AGD P t ti)(hx:AFm φ (x e) x')(hy:AFm φ (y e) y')
  (hE:∀ a,x e=.pointer (some a)->¬ E a.block)(hr:Ac ti.size x y F e h=.ok v h'):Yz ty φ E h w v h' ((AEa t x' y').run P w):=by
 unfold Ac at hr;split at hr
 case h_2=>cases hr
 rename_i a ha;obtain⟨a',rfl,hra⟩:=Fz hx ha;rw[BV]at hr;obtain⟨hb,hr⟩:=Bx hr;have hc:=Kb hy (PZ hr);obtain⟨h1,w1,hk,hrun,H1,ev⟩:=IW (P:=P) H hr hra hc (hE a (H3 ha));cases hk;refine⟨rfl,w1,?_,H1,ev⟩;have hsz:y'.cells.size=ti.size:=by
  have:=hc.length;rw[<- Ay.1 hb,Bi,<- this];simp
 simp only[AEa,ym,Gj,ye,storeVar,T.size,hsz,ne_eq,not_true_eq_false,if_false,hrun,yn]
theorem jg(H:AFp ty φ E h w){x:O}{x':IN}(hx:AFm φ (x e) x')(hr:Bg x F e h=.ok v h'):
  AFm φ v x'/\h'=h/\(x'≠.pointer none/\x'≠.nilIface/\x'≠.nilFunc/\∀ nm f c,x'≠.func (.method nm) f c):=by
 unfold Bg YB at hr;split at hr
 ·rename_i a ha
  cases hr;rw[ha]at hx;obtain⟨a',rfl,hra⟩:=hx.AGl;exact⟨.ptr hra,rfl,by simp⟩
 ·rename_i f a b ha
  cases hr;rw[ha]at hx;cases hx with|func fn h1 h2=>exact⟨.func _ h1 h2,rfl,by simp⟩
 ·rename_i a n c ha
  cases hr;rw[ha]at hx;refine⟨hx,rfl,?_⟩;cases hx<;>simp
 ·rename_i m ha
  cases hr;rw[ha]at hx;refine⟨hx,rfl,?_⟩;cases hx<;>simp
 ·rename_i t u ha
  rw[BV]at hr;cases hr;rw[ha]at hx;refine⟨hx,rfl,?_⟩;cases hx<;>simp
 ·cases hr
theorem Gu(H:AFp ty φ E h w){cs cs':List IN}{k:Nat->Hp->R}(hr:newRow h 0 cs k=.ok v h')(AGK:AF3 φ cs cs')(t:zZ):
  ∃ h1 ψ,k h.next h1=.ok v h'/\ψ h.next=some {blk:=w.heap.size,off:=0,sz:=cs.length,room:=cs.length,es:=1}/\
   AFp ty ψ E h1 {w with heap:=w.heap.push (.cells ⟨cs'⟩ t)}/\Evo φ h w ψ h1 {w with heap:=w.heap.push (.cells ⟨cs'⟩ t)}:=by
 have hlen:=AGK.length;obtain⟨h1,hk,H1,ev⟩:=OM (cs':=⟨cs'⟩) (t:=t) (fr:=(0,0)) (w':={w with heap:=w.heap.push (.cells ⟨cs'⟩ t)})
  (p:={blk:=w.heap.size,off:=0,sz:=cs.length,room:=cs.length,es:=1}) H hr (by simp[hlen]) ⟨rfl,.inl ⟨rfl,rfl,rfl,.inl rfl⟩⟩ (by simp[hlen]) (.inl rfl)
  (fun j u hj=>by simpa using AGK.get j u hj) rfl rfl rfl rfl
 exact⟨h1,_,hk,Phi.AGU _ _ _,H1,ev⟩
theorem PV{ψ:Phi}{n:Nat}{p:Pl}(hp:ψ n=some p)(ho:p.off=0):AFm ψ (.pointer (some ⟨n,0,none⟩)) (.pointer (some ⟨p.blk,0,none⟩)):=
 .ptr ⟨rfl,rfl,p,hp,rfl,by simp[ho]⟩
theorem jS(H:AFp ty φ E h w){x:O}{x':IN}{t:zZ}(hx:AFm φ (x e) x')(hr:Ce x F e h=.ok v h'):Bq ty φ E h w v h' ((Instr.box t x').run P w):=by
 unfold Ce at hr;rw[BV]at hr;obtain⟨hkn,hr⟩:=Bx hr;obtain⟨h1,ψ,hk,hp,H1,ev⟩:=Gu H hr (Kb hx hkn) t;cases hk;exact⟨_,_,ψ,rfl,PV hp rfl,H1,ev⟩
theorem YD(H:AFp ty φ E h w){t:zZ}{ti:TI}(T:AGD P t ti){c:VT}(hz:ti.zero.length=ti.size)(hc:Bt .mt 0 ti.zero=some c)(hr:Ba ti.size c F e h=.ok v h'):
  Bq ty φ E h w v h' ((AEy t true (.tuple #[])).run P w):=by
 obtain⟨z,_,hzr,hzc,hzp⟩:=T.AGq hz;have hr':newRow h 0 ti.zero JB=.ok v h':=by
  unfold newRow CW;rw[hc];simp only[Ao,Bi,hz];exact hr
 obtain⟨h1,ψ,hk,hp,H1,ev⟩:=Gu H hr' (.plain hzp) t;cases hk;refine⟨_,_,ψ,?_,PV hp rfl,H1,ev⟩;have e1:(⟨ti.zero⟩:Array IN)=z.cells:=by rw[<- hzc]
 simp only[AEy,ym,hzr,ye,newVar,AB3,run_newObj,yn,e1]
theorem RU(H:AFp ty φ E h w){a a':ACS}{n:Nat}(ha:AG0 φ a a')(hr:OT a n h=.ok v h'):h'=h/\AFm φ v (.pointer (some (a'.add n))):=by
 unfold OT at hr;rw[Ao]at hr;cases hr;obtain⟨p,hp,rfl⟩:=ha.eq;rw[Addr.AGk];refine⟨rfl,.ptr ⟨rfl,rfl,p,hp,rfl,?_⟩⟩;show p.off+a.off+n=p.off+(a.off+n);omega
theorem S2{fs:List (Nat×Nat×Nat)}{fields:Array Field}(hf:fields.toList.map (fun f=>(f.offset,P.cellsOf f.type,f.type))=fs){i o s t:Nat}(hi:nth fs i=some (o,s,t)):
  ∃ f,fields[i]? =some f/\f.offset=o/\P.cellsOf f.type=s/\f.type=t:=by
 rw[GO,<- hf,zy]at hi;cases hg:fields.toList[i]? with
 |none=>rw[hg]at hi;cases hi
 |some f=>
  rw[hg]at hi;simp only[AAG,Option.some.injEq,Prod.mk.injEq]at hi;exact⟨f,by simpa using hg,hi.1,hi.2.1,hi.2.2⟩
theorem Nc(H:AFp ty φ E h w){x:O}{x':IN}{t:zZ}{ti:TI}(T:AGD P t ti){fs:List (Nat×Nat×Nat)}(hk:ti.k=.struct fs){i o s ft:Nat}(hi:nth fs i=some (o,s+1,ft))
  (hx:AFm φ (x e) x')(hr:AE o x F e h=.ok v h'):Bq ty φ E h w v h' ((AC8 t x' i).run P w):=by
 unfold AE at hr;cases ha:Dy (x e)with
 |no=>rw[ha]at hr;cases hr
 |ok a=>
  rw[ha]at hr;obtain⟨a',rfl,hra⟩:=Fz hx ha;obtain⟨rfl,hv⟩:=RU H hra hr;obtain⟨d,hd,hkd⟩:=T.desc;rw[hk]at hkd;cases hkd with
  |struct hf hin=>
   obtain⟨f,hf1,hf2,hf3,hf4⟩:=S2 hf hi;have hsome:(P.info? f.type).isSome=true:=by
    have:=List.all_eq_true.1 hin f (by simpa using Array.mem_of_getElem? hf1);exact this
   obtain⟨inf,AHi⟩:=ACp.1 hsome;have key:(AC8 t (.pointer (some a')) i).run P w=.ok (.pointer (some (a'.add o))) w:=by
    simp only[AC8,ym,hd,ye,hf1,Gj,fieldPlace,run_sizeOf w AHi,hf3,hf2,AEJ,if_false,yn,Nat.add_eq_zero_iff,reduceCtorEq,and_false]
   rw[key];exact .same H hv
theorem VP(H:AFp ty φ E h w){n AFw:Nat}{a a':ACS}{ix:O}{ix':IN}(hi:AFm φ (ix e) ix')(ha:AG0 φ a a')(hr:Mh n AFw (.ok a) (De (ix e)) h=.ok v h'):
  ∃ k i,ix'=.int k (i:Nat)/\i<n/\h'=h/\AFm φ v (.pointer (some (a'.add (i*AFw)))):=by
 unfold Mh at hr;cases h1:De (ix e)with
 |no=>rw[h1]at hr;cases hr
 |ok i=>
  rw[h1]at hr;simp only at hr;obtain⟨k,rfl⟩:=FB hi h1;cases hb:zm i n with
  |false=>rw[hb]at hr;cases hr
  |true=>
   rw[hb]at hr;simp only at hr;obtain⟨r1,r2⟩:=RU H ha hr;exact⟨k,i,rfl,BQ.1 hb,r1,r2⟩
theorem TW(H:AFp ty φ E h w){x ix:O}{x' ix':IN}{t el:zZ}{ti ei:TI}(T:AGD P t ti){n:Nat}(hk:ti.k=.arr n el)(TE:AGD P el ei)
  (hx:AFm φ (x e) x')(hi:AFm φ (ix e) ix')(hr:Ci n ei.size x ix F e h=.ok v h'):Bq ty φ E h w v h' ((ABD t x' ix').run P w):=by
 unfold Ci at hr;cases ha:Dy (x e)with
 |no=>
  rw[ha]at hr;unfold Mh at hr;cases h1:De (ix e)with
  |no=>rw[h1]at hr;cases hr
  |ok i=>rw[h1]at hr;simp only at hr;cases hb:zm i n<;>rw[hb]at hr<;>cases hr
 |ok a=>
  rw[ha]at hr;obtain⟨a',rfl,hra⟩:=Fz hx ha;obtain⟨k,i,rfl,hlt,rfl,hv⟩:=VP H hi hra hr;obtain⟨d,hd,hkd⟩:=T.desc;rw[hk]at hkd;cases hkd;have key:(ABD t (.pointer (some a')) (.int k (i:Nat))).run P w=.ok (.pointer (some (a'.add (i*ei.size)))) w:=by
   have h2:(0:Int)<=(i:Int)/\(i:Int)<(n:Int):=by omega
   simp only[ABD,asIntOf,ym,yn,hd,ye,Gj,h2,and_self,if_true,TE.size,zt,ACD]
  rw[key];exact .same H hv
theorem LA{a a':ACS}{n c c':Nat}(hn:n<=c)(h:AHP φ a c a' c')(h0:0<n):AG0 φ a a':=by
 obtain⟨s1,s2,p,hp,hb,h|h⟩:=h
 ·exact⟨s1,s2,p,hp,hb,h.2.1⟩
 ·omega
theorem jZ(H:AFp ty φ E h w){x ix:O}{x' ix':IN}{t el:zZ}{ti ei:TI}(T:AGD P t ti)(hk:ti.k=.slice el)(TE:AGD P el ei)
  (hx:AFm φ (x e) x')(hi:AFm φ (ix e) ix')(hr:CG ei.size x ix F e h=.ok v h'):Bq ty φ E h w v h' ((ABD t x' ix').run P w):=by
 unfold CG at hr;split at hr
 case h_2=>cases hr
 rename_i a n c hxe;rw[hxe]at hx;cases hx with
 |@slice _ a' _ _ c' hn hs=>
  obtain⟨d,hd,hkd⟩:=T.desc;rw[hk]at hkd;cases hkd;cases h1:De (ix e)with
  |no=>rw[h1]at hr;cases hr
  |ok i0=>
   have hpos:0<n:=by
    rw[h1]at hr;unfold Mh at hr;simp only at hr;cases hb:zm i0 n with
    |false=>rw[hb]at hr;cases hr
    |true=>have:=BQ.1 hb;omega
   obtain⟨k,i,rfl,hlt,rfl,hv⟩:=VP H hi (LA hn hs hpos) hr;have key:(ABD t (.slice (some a') n c') (.int k (i:Nat))).run P w=.ok (.pointer (some (a'.add (i*ei.size)))) w:=by
    have h2:(0:Int)<=(i:Int)/\(i:Int)<(n:Int):=by omega
    simp only[ABD,asIntOf,ym,yn,hd,ye,h2,and_self,if_true,TE.size,zt,ACD]
   rw[key];exact .same H hv
theorem YF(H:AFp ty φ E h w){x ix:O}{x' ix':IN}{t:zZ}{ti:TI}(T:AGD P t ti)(hk:ti.k=.string)
  (hx:AFm φ (x e) x')(hi:AFm φ (ix e) ix')(hr:I8 x ix F e h=.ok v h'):Bq ty φ E h w v h' ((ADa t x' ix').run P w):=by
 unfold I8 KP at hr;split at hr
 case h_2=>cases hr
 rename_i i h1;obtain⟨k,rfl⟩:=FB hi h1;split at hr
 case h_2=>cases hr
 rename_i s hxe;rw[hxe]at hx;obtain rfl:=hx.AGO;split at hr
 case h_2=>cases hr
 rename_i b hb;obtain⟨rfl,rfl⟩:=Fh hr;obtain⟨d,hd,hkd⟩:=T.desc;rw[hk]at hkd;cases hkd;rw[GO]at hb;have AH5:s[i]? =some b:=by
  have h0:i<s.data.toList.length:=by
   rcases zD i s.data.toList.length with h|h
   ·exact h
   ·rw[AAS h]at hb;cases hb
  have h1:i<s.size:=h0;rw[getElem?_pos s i h1];rw[sh h0]at hb;rw[<- Option.some.inj hb];rfl
 have key:(ADa t (.string s) (.int k (i:Nat))).run P w=.ok (.int .u8 b.toNat) w:=by
  have h0:(0:Int)<=(i:Int):=by omega
  simp only[ADa,asIntOf,ym,yn,hd,ye,h0,if_true,zt,AH5]
 rw[key];exact .same H (.int _ _)
theorem RD(H:AFp ty φ E h w){x:O}{x':IN}{i:Nat}(hx:AFm φ (x e) x')(hr:AY i x F e h=.ok v h'):Bq ty φ E h w v h' ((ACR x' i).run P w):=by
 unfold AY at hr;split at hr
 case h_2=>cases hr
 rename_i vs hxe;rw[hxe]at hx;cases hx with
 |@tuple l l' hl=>
  split at hr
  case h_2=>cases hr
  rename_i u hu;rw[BV]at hr;cases hr;rw[GO]at hu;obtain⟨u',hu',hru⟩:=hl.get i _ hu;have:(⟨l'⟩:Array IN)[i]? =some u':=by simpa using hu'
  simp only[ACR,this,yn];exact .same H hru
theorem _root_.Go.Proofs.YtbjadbhkogcfeaaGreat.KOk.AH6{k:TK}{d:TypeDesc}(hkd:KOk P k d)(hk:k≠.iface)(ms:Array (String×zZ)):d≠.interface ms:=by
 cases hkd with
 |other ho=>intro he;subst he;cases ho
 |iface ms'=>exact absurd rfl hk
 |_=>intro he;cases he
theorem YK(H:AFp ty φ E h w){x:O}{x':IN}{t:zZ}{ti:TI}(T:AGD P t ti)(hk:ti.k≠.iface)
  (hx:AFm φ (x e) x')(hr:M0 t x F e h=.ok v h'):Bq ty φ E h w v h' ((AB6 t x').run P w):=by
 unfold M0 at hr;rw[BV]at hr;cases hr;obtain⟨d,hd,hkd⟩:=T.und;have key:(AB6 t x').run P w=.ok (.iface t x') w:=by
  simp only[AB6,ym,run_underlying hd,ye];cases d<;>first|rfl|exact absurd rfl (hkd.AH6 hk _)
 rw[key];exact .same H (.iface t hx)
theorem ja(H:AFp ty φ E h w){t:zZ}(hr:YP F e h=.ok v h'):Bq ty φ E h w v h' ((Instr.makeMap t none).run P w):=by
 unfold YP at hr;obtain⟨bl,hbl,hk⟩:=Gc hr;cases hk
 let w':zP:={w with heap:=w.heap.push (.map #[] 0)}
 have hs:w'.heap.size=w.heap.size+1:=by simp[w']
 have hsame:∀ k,k<w.heap.size->w'.heap[k]? =w.heap[k]?:=fun k hk=>by
  show(w.heap.push _)[k]? =_;rw[Array.getElem?_push_lt hk,Array.getElem?_eq_getElem hk]
 refine⟨.map (some w.heap.size),w',φ.put h.next {blk:=w.heap.size,off:=0,sz:=0,room:=0,es:=1},rfl,.map (Phi.AGU _ _ _),
  H.new hbl (by omega) (by show w.heap.size<_;omega) (fun j q e _=>by have:=(H.dom j q e).2;show _≠w.heap.size;omega) (fun k hk _=>hsame k hk) ?_,
  .made H hbl (IT _) (by omega) hsame rfl rfl rfl⟩
 have:w'.heap[w.heap.size]? =some (.map #[] 0):=by show(w.heap.push _)[w.heap.size]? =_;simp
 rw[this];exact .map .nil
end
end
noncomputable section
open Go
inductive AHH (φ:Phi)(e:Env):Option O->Option IN->Prop
 |none:AHH φ e none none
 |some {o:O} {x:IN} (h:AFm φ (o e) x):AHH φ e (some o) (some x)
section
variable {P:zp}{ty:TTy}{φ:Phi}{E:Nat->Prop}{h h':Hp}{w:zP}{F:AFi}{e:Env}{v:IN}
theorem GR{o:O}{x:IN}(hx:AFm φ (o e) x){d y:Nat}{k:Nat->R}(hr:Cv e (some o) d y k=.ok v h'):
  ∃ n,n<=y/\k n=.ok v h'/\∀ Y,n<=Y->∀ code w,(AD4 x Y code).run P w=.ok n w:=by
 unfold Cv at hr;simp only at hr;split at hr
 case h_2=>cases hr
 rename_i n hn;obtain⟨hb,hr⟩:=Bx hr;obtain⟨k',rfl⟩:=FB hx hn;refine⟨n,Av.1 hb,hr,fun Y hY code w=>?_⟩;have h2:(0:Int)<=(n:Int)/\(n:Int)<=(Y:Int):=by omega
 simp only[AD4,asIntOf,ym,yn,ye,h2,and_self,if_true,zt]
theorem Si(d y:Nat)(k:Nat->R):Cv e none d y k=k d:=rfl
theorem KU{lo hi mx:Option O}{lo' hi' mx':Option IN}(hl:AHH φ e lo lo')(hh:AHH φ e hi hi')(hm:AHH φ e mx mx'){len cap cap':Nat}(hc:cap<=cap')(hlen:len<=cap)
  {k:Nat->Nat->Nat->R}(hr:Dh e len cap lo hi mx k=.ok v h')(s:Bool):
  ∃ l b m,k l b m=.ok v h'/\l<=b/\b<=m/\m<=cap/\(mx.isSome=false->m=cap)/\∀ w,(AAi s len cap' lo' hi' mx').run P w=.ok (l,b,if mx.isSome then m else cap') w:=by
 unfold Dh at hr;cases hm with
 |none=>
  simp only at hr;cases hh with
  |none=>
   rw[Si]at hr;cases hl with
   |none=>exact⟨0,len,cap,hr,zL _,hlen,IT _,fun _=>rfl,fun w=>rfl⟩
   |some hl=>
    obtain⟨l,h1,hk,hs⟩:=GR (P:=P) hl hr;exact⟨l,len,cap,hk,h1,hlen,IT _,fun _=>rfl,fun w=>by
     simp only[AAi,ym,yn,ye,hs len h1];rfl⟩
  |some hh=>
   obtain⟨b,h2,hr,hs2⟩:=GR (P:=P) hh hr;cases hl with
   |none=>exact⟨0,b,cap,hr,zL _,h2,IT _,fun _=>rfl,fun w=>by
     simp only[AAi,ym,yn,ye,hs2 cap' (zO h2 hc)];rfl⟩
   |some hl=>
    obtain⟨l,h1,hk,hs⟩:=GR (P:=P) hl hr;exact⟨l,b,cap,hk,h1,h2,IT _,fun _=>rfl,fun w=>by
     simp only[AAi,ym,yn,ye,hs2 cap' (zO h2 hc),hs b h1];rfl⟩
 |some hm=>
  simp only at hr;obtain⟨m,h3,hr,hs3⟩:=GR (P:=P) hm hr;cases hh with
  |none=>cases hr
  |some hh=>
   simp only at hr;obtain⟨b,h2,hr,hs2⟩:=GR (P:=P) hh hr;cases hl with
   |none=>exact⟨0,b,m,hr,zL _,h2,h3,fun h=>(by cases h),fun w=>by
     simp only[AAi,ym,yn,ye,hs3 cap' (zO h3 hc),hs2 m h2];rfl⟩
   |some hl=>
    obtain⟨l,h1,hk,hs⟩:=GR (P:=P) hl hr;exact⟨l,b,m,hk,h1,h2,h3,fun h=>(by cases h),fun w=>by
     simp only[AAi,ym,yn,ye,hs3 cap' (zO h3 hc),hs2 m h2,hs b h1];rfl⟩
theorem AHP.le{a a':ACS}{c c':Nat}(h:AHP φ a c a' c'):c<=c':=by
 obtain⟨_,_,p,_,_,h|h⟩:=h
 ·rcases h.2.2 with h|h
  ·exact AB0 h.symm
  ·exact h.2.1
 ·omega
theorem JF(a:Option ACS)(size l b m:Nat)(h:Hp):
  Br a size l b m h=.ok (.slice (if m=l then a else a.map fun a=>if l*size=0 then a else⟨a.block,a.off+l*size,none⟩) (b - l) (m - l)) h:=by
 unfold Br;rw[Ao,Ao];by_cases hml:m=l
 ·subst hml;rw[AAQ,if_pos rfl];rfl
 ·have hb:yu m l=false:=by
   cases hb:yu m l
   ·rfl
   ·exact absurd (Ay.1 hb) hml
  rw[hb,if_neg hml];cases a with
  |none=>rfl
  |some a=>
   have e:zi l size=l*size:=rfl;rw[e];cases hm:l*size with
   |zero=>rw[AAG,if_pos rfl];rfl
   |succ q=>rw[AAG,if_neg (AEJ q)];simp only[Ao];rfl
theorem fy{a a':ACS}{c c':Nat}(hs:AHP φ a c a' c'){size l b m:Nat}(hlb:l<=b)(hbm:b<=m)(hmc:m<=c){mx:Bool}(hm:mx=false->m=c)
  (hfit:mx=false->0<l->∀ p,φ a.block=some p->p.es=size\/(p.room=p.sz/\p.es=1)):
  AFm φ (.slice (if m=l then some a else(some a).map fun a=>if l*size=0 then a else⟨a.block,a.off+l*size,none⟩) (b - l) (m - l))
   (.slice (if(if mx then m else c')=l then some a' else(some a').map (·.add (l*size))) (b - l) ((if mx then m else c') - l)):=by
 obtain⟨s1,s2,p,hp,hb,hor⟩:=hs;obtain⟨ab,ao,asp⟩:=a;obtain⟨ab',ao',AJ7⟩:=a';simp only at s1 s2 hp hb hor;subst s1;subst s2;subst hb;simp only[AAG,Addr.AGk];have hle:m<=(if mx then m else c'):=by
  cases mx
  ·have:=hm rfl
   simp only[zT,if_false];rcases hor with h|h
   ·rcases h.2.2 with h|h<;>omega
   ·omega
  ·simp
 by_cases hml:m=l
 ·rw[if_pos hml]
  by_cases AIv:(if mx then m else c')=l
  ·rw[if_pos AIv]
   refine .slice (by omega) ⟨rfl,rfl,p,hp,rfl,.inr ⟨by omega,.inl (by omega)⟩⟩
  ·rw[if_neg AIv]
   cases mx with
   |true=>exact absurd hml AIv
   |false=>
    simp only[zT,if_false]at AIv hle ⊢;have AJ8:=hm rfl;refine .slice (by omega) ⟨rfl,rfl,p,hp,rfl,.inr ⟨by omega,.inr ?_⟩⟩;simp only;rcases za l with h0|h0
    ·subst h0
     simp only[AAw,AAE,AEK];rcases hor with h|h
     ·omega
     ·rcases h.2 with h|h
      ·omega
      ·exact h
    ·rcases hor with ⟨_,hoff,h|⟨h1,h2,h3⟩⟩|h
     ·omega
     ·rcases hfit rfl h0 p hp with he|⟨hr1,hr2⟩
      ·have hcl:c=l:=by omega
       have hmul:(c' - l)*p.es+l*p.es=c'*p.es:=by rw[<- AB1];congr 1;omega
       subst hcl;rw[<- he];omega
      ·rw[hr2]at h1 h3;omega
     ·omega
 ·have hne:¬ ((if mx=true then m else c')=l):=by omega
  rw[if_neg hml,if_neg hne];have hpos:0<c:=by omega
  rcases hor with ⟨_,hoff,hcap⟩|h
  case inr=>omega
  have hA:∀ X:ACS,X=(if l*size=0 then(⟨ab,ao,none⟩:ACS)else⟨ab,ao+l*size,none⟩)->X=⟨ab,ao+l*size,none⟩:=by
   intro X hX;rw[hX];split
   ·rename_i h;rw[h];rfl
   ·rfl
  rw[hA _ rfl];refine .slice (by omega) ⟨rfl,rfl,p,hp,rfl,.inl ⟨by omega,by simp only;omega,?_⟩⟩;cases mx with
  |true=>exact .inl rfl
  |false=>
   simp only[zT,if_false];have AJ8:=hm rfl;subst AJ8;rcases hcap with h|⟨h1,h2,h3⟩
   ·exact .inl (by rw[h])
   ·rcases za l with h0|h0
    ·subst h0;refine .inr ?_;simp only[AAw,AAE,AEK];exact⟨h1,h2,h3⟩
    ·rcases hfit rfl h0 p hp with he|⟨hr1,hr2⟩
     ·refine .inr ?_
      have e1:(m - l)*p.es+l*p.es=m*p.es:=by rw[<- AB1];congr 1;omega
      have e2:(c' - l)*p.es+l*p.es=c'*p.es:=by rw[<- AB1];congr 1;omega
      rw[<- he];omega
     ·rw[hr2]at h1 h3;exact .inl (by omega)
theorem iO(H:AFp ty φ E h w){el:Nat}{ei:TI}(hty:ty.get el=some ei){a:ACS}(hf:E5 el (some a) h=true):∀ p,φ a.block=some p->p.es=ei.size\/(p.room=p.sz/\p.es=1):=by
 intro p hp;unfold E5 at hf;simp only at hf;split at hf
 ·rename_i c s en hrow
  have hk:=H.kind a.block p c s en hp (DM hrow);rcases hk.2 with ⟨_,h1,h2,_⟩|⟨t,ti,h1,h2,h3⟩
  ·exact .inr ⟨h1,h2⟩
  ·subst h1
   have:t=el:=Ay.1 hf;subst this;rw[hty]at h2;cases h2;exact .inl h3
 ·cases hf
theorem jV(H:AFp ty φ E h w){x:O}{x':IN}{t el:zZ}{ti ei:TI}(T:AGD P t ti)(hk:ti.k=.slice el)(hty:ty.get el=some ei)(TE:AGD P el ei)
  {lo hi mx:Option O}{lo' hi' mx':Option IN}(hx:AFm φ (x e) x')(hl:AHH φ e lo lo')(hh:AHH φ e hi hi')(hm:AHH φ e mx mx')
  (hr:EJ el ei.size x lo hi mx F e h=.ok v h'):Bq ty φ E h w v h' ((AAj t x' lo' hi' mx').run P w):=by
 unfold EJ at hr;split at hr
 case h_2=>cases hr
 rename_i a n c hxe;rw[hxe]at hx;obtain⟨d,hd,hkd⟩:=T.desc;rw[hk]at hkd;cases hkd;cases hx with
 |AGW=>
  ·obtain⟨l,b,m,hk2,h1,h2,h3,h4,hs⟩:=KU (P:=P) hl hh hm (IT 0) (IT 0) hr true
   have AHG:Br none ei.size l b m h=.ok v h':=by
    unfold ET at hk2;split at hk2
    ·exact hk2
    ·split at hk2
     ·exact hk2
     ·exact(Bx hk2).2
   rw[JF]at AHG;cases AHG;have key:(AAj t (.slice none 0 0) lo' hi' mx').run P w=.ok (.slice none (b - l) (m - l)) w:=by
    have hmm:(if mx.isSome then m else 0)=m:=by
     split
     ·rfl
     ·rename_i hf;exact(h4 (by simpa using hf)).symm
    rw[hmm]at hs;simp only[AAj,AEx,ym,hd,ye,hs,TE.size,yn,ADw,ite_self]
   rw[key];simp only[ADw,ite_self];have e1:m=0:=by omega
   have e2:b=0:=by omega
   have e3:l=0:=by omega
   subst e1;subst e2;subst e3;exact .same H .AGW
 |@slice a a' _ _ c' hn hsl=>
  obtain⟨l,b,m,hk2,h1,h2,h3,h4,hs⟩:=KU (P:=P) hl hh hm hsl.le hn hr true;have AHG:Br (some a) ei.size l b m h=.ok v h'/\(mx.isSome=false->0<l->∀ p,φ a.block=some p->p.es=ei.size\/(p.room=p.sz/\p.es=1)):=by
   unfold ET at hk2;split at hk2
   ·rename_i hmx;exact⟨hk2,fun hf=>by rw[hmx]at hf;cases hf⟩
   ·split at hk2
    ·exact⟨hk2,fun _ h0=>absurd h0 (Nat.lt_irrefl 0)⟩
    ·obtain⟨hf,hk2⟩:=Bx hk2
     exact⟨hk2,fun _ _=>iO H hty hf⟩
  obtain⟨AHG,hfit⟩:=AHG;rw[JF]at AHG;cases AHG;have key:(AAj t (.slice (some a') n c') lo' hi' mx').run P w=
    .ok (.slice (if(if mx.isSome then m else c')=l then some a' else(some a').map (·.add (l*ei.size))) (b - l) ((if mx.isSome then m else c') - l)) w:=by
   simp only[AAj,AEx,ym,hd,ye,hs,TE.size,yn]
  rw[key];exact .same H (fy hsl h1 h2 h3 h4 hfit)
end
end
noncomputable section
open Go
theorem GF{α:Type}(xs:List α):∀ n,(Bb xs n).length=n*xs.length
 |0=>by simp[Bb]
 |n+1=>by
  show(xs++Bb xs n).length=_;rw[No,GF xs n,ABX,Nat.add_comm]
theorem Rh{α:Type}(xs:List α):∀ n i,i<n*xs.length->(Bb xs n)[i]? =xs[i % xs.length]?
 |0,i,h=>by simp at h
 |n+1,i,h=>by
  show(xs++Bb xs n)[i]? =_;rcases zD i xs.length with hl|hl
  ·rw[zF hl,ABe hl]
  ·have h2:i - xs.length<n*xs.length:=by rw[ABX]at h;omega
   rw[zI hl,Rh xs n _ h2,<- Nat.mod_eq_sub_mod hl]
theorem Hw{φ:Phi}{l l':List IN}(h:AF3 φ l l'):∀ n,AF3 φ (Bb l n) (Bb l' n)
 |0=>.nil
 |n+1=>h.append (Hw h n)
theorem NW(z:Array IN)(n:Nat):((AB7 (n*z.size)).map (fun i=>z[i % z.size]!))=⟨Bb z.toList n⟩:=by
 apply zz;apply List.ext_getElem?;intro i;simp only[Array.toList_map,zy,Array.toList_range];rcases zD i (n*z.size)with h|h
 ·have h1:i<n*z.toList.length:=by simpa using h
  rw[Rh _ _ _ h1,List.getElem?_range h,AAG];have h2:0<z.size:=by
   rcases za z.size with h0|h0
   ·rw[h0]at h;simp at h
   ·exact h0
  have h3:i % z.size<z.size:=Nat.mod_lt _ h2;simp[h3]
 ·rw[AAS (by simpa using h),AAS (by rw[GF];simpa using h)];rfl
theorem HE(z:Array IN)(n:Nat):ACF z n=⟨Bb z.toList n⟩:=NW z n
theorem AGP(cs:List IN)(off:Nat)(vs:List IN):lay cs off vs=cs.take off++vs++cs.drop (off+vs.length):=by
 unfold lay;rw[NP,QH,Bi];rfl
theorem TL{cs:List IN}{off:Nat}{vs:List IN}(h:off+vs.length<=cs.length):(lay cs off vs).length=cs.length:=by
 rw[AGP];simp;omega
theorem iw{φ:Phi}{cs cs' vs vs':List IN}(h:AF3 φ cs cs')(hv:AF3 φ vs vs')(off:Nat):AF3 φ (lay cs off vs) (lay cs' off vs'):=by
 rw[AGP,AGP,hv.length];exact((h.take off).append hv).append (h.drop _)
theorem Nz(off:Nat):∀ (vs:List IN) (j:Nat) (cs:Array IN),off+j+vs.length<=cs.size->
  ((vs.zipIdx j).foldl (fun cs (c,j)=>cs.setIfInBounds (off+j) c) cs).toList=lay cs.toList (off+j) vs
 |[],j,cs,h=>by rw[AGP];simp
 |v::vs,j,cs,h=>by
  simp only[yh]at h;rw[List.zipIdx_cons,List.foldl_cons];have:=Nz off vs (j+1) (cs.setIfInBounds (off+j) v) (by simp;omega);rw[this,AGP,AGP];have hlt:off+j<cs.toList.length:=by simp;omega
  rw[Array.toList_setIfInBounds,show off+(j+1)=off+j+1 by omega];rw[yh,List.take_set,List.drop_set_of_lt (by omega)];have e1:(cs.toList.take (off+j+1)).set (off+j) v=cs.toList.take (off+j)++[v]:=by
   rw[List.take_succ_eq_append_getElem hlt,List.set_append_right _ _ (by simp;omega)];have:(off+j - (cs.toList.take (off+j)).length)=0:=by simp;omega
   rw[this];rfl
  rw[e1,show off+j+1+vs.length=off+j+(vs.length+1)by omega];simp
section
variable {φ:Phi}{h':Hp}{e:Env}{v:IN}
inductive AHv (φ:Phi)(e:Env)(place:Nat->Option (Nat×Nat)):List (Nat×Nat×O)->List (Nat×IN)->Prop
 |nil:AHv φ e place [] []
 |cons {i off size:Nat} {o:O} {x:IN} {l:List (Nat×Nat×O)} {l':List (Nat×IN)} (hp:place i=some (off,size)) (hx:AFm φ (o e) x) (t:AHv φ e place l l'):
  AHv φ e place ((off,size,o)::l) ((i,x)::l')
theorem JV{place:Nat->Option (Nat×Nat)}{k:List IN->R}:∀ {ps:List (Nat×Nat×O)} {ps':List (Nat×IN)},AHv φ e place ps ps'->∀ {cs cs':List IN},AF3 φ cs cs'->
  Ef cs e k ps=.ok v h'->∃ r r',k r=.ok v h'/\AF3 φ r r'/\r.length=cs.length/\AC0 place ⟨cs'⟩ ps'=some ⟨r'⟩
 |_,_,.nil,cs,cs',hc,hr=>by
  unfold Ef at hr;rw[C7]at hr;exact⟨cs,cs',hr,hc,rfl,rfl⟩
 |_,_,.cons (off:=off) (size:=size) (o:=o) (x:=x) hp hx t,cs,cs',hc,hr=>by
  unfold Ef at hr;rw[BV]at hr;obtain⟨hkn,hr⟩:=Bx hr;obtain⟨hb1,hr⟩:=Bx hr;obtain⟨hb2,hr⟩:=Bx hr;have hcl:=Kb hx hkn;have h1:=Ay.1 hb1;have h2:=Av.1 hb2;rw[Bi]at h1 h2;have h3:=hcl.length;have h4:=hc.length;obtain⟨r,r',hk,hrr,hlen,hf⟩:=JV t (iw hc hcl off) hr;have h2':off+size<=cs.length:=h2;have hsz:x.cells.size=size:=by rw[<- h1,<- h3];simp
  refine⟨r,r',hk,hrr,by rw[hlen,TL (by omega)],?_⟩;rw[AC0,hp];simp only;rw[if_neg (by simp[hsz];omega)];have AJG:(x.cells.zipIdx.foldl (fun cs (c,j)=>cs.setIfInBounds (off+j) c) (⟨cs'⟩:Array IN))=⟨lay cs' off x.cells.toList⟩:=by
   apply zz;have:=Nz off x.cells.toList 0 ⟨cs'⟩ (by simp[hsz];omega);rw[<- Array.foldl_toList,Array.toList_zipIdx];exact this
  rw[AJG];exact hf
end
end
noncomputable section
open Go
section
variable {P:zp}{ty:TTy}{φ:Phi}{E:Nat->Prop}{h h':Hp}{w:zP}{F:AFi}{e:Env}{v:IN}
theorem TQ(H:AFp ty φ E h w){t:zZ}{ti:TI}(T:AGD P t ti){fs:List (Nat×Nat×Nat)}(hk:ti.k=.struct fs)(hz:ti.zero.length=ti.size)
  {ps:List (Nat×Nat×O)}{ps':Array (Nat×IN)}(hp:AHv φ e (NA fs) ps ps'.toList)
  (hr:BK ti.zero ps F e h=.ok v h'):Bq ty φ E h w v h' ((ABh t ps').run P w):=by
 unfold BK at hr;obtain⟨z,_,hzr,hzc,hzp⟩:=T.AGq hz;obtain⟨r,r',hk2,hrr,hlen,hf⟩:=JV hp (.plain hzp) hr;cases hk2;obtain⟨d,hd,hkd⟩:=T.desc;rw[hk]at hkd;cases hkd with
 |@struct fs fields hfl hin=>
  have hmap:∀ w,(fields.mapM (fun f=>(do pure (f.offset,<- sizeOf f.type):Sem (Nat×Nat)))).run P w=.ok (fields.map fun f=>(f.offset,P.cellsOf f.type)) w:=by
   intro w;rw[<- Array.toArray_toList (xs:=fields),List.mapM_toArray,List.map_toArray];have:∀ l:List Field,l.all (fun f=>(P.info? f.type).isSome)=true->(l.mapM (fun f=>(do pure (f.offset,<- sizeOf f.type):Sem (Nat×Nat)))).run P w=.ok (l.map fun f=>(f.offset,P.cellsOf f.type)) w:=by
    intro l
    induction l with
    |nil=>intro _;rfl
    |cons f l ih=>
     intro hall;simp only[List.all_cons,yr]at hall;obtain⟨inf,AHi⟩:=ACp.1 hall.1;simp only[List.mapM_cons,ym,run_sizeOf w AHi,ye,yn,ih hall.2,List.map_cons]
   simp only[Sem.run_map,this _ hin,ye]
  have AIV:NA fs=fun i=>(fields.map fun f=>(f.offset,P.cellsOf f.type))[i]?:=by
   funext i
   unfold NA;rw[GO,<- hfl,zy,Array.getElem?_map,<- Array.getElem?_toList];cases fields.toList[i]?<;>rfl
  rw[AIV]at hf;have hz':(⟨ti.zero⟩:Array IN)=z.cells:=by rw[<- hzc]
  rw[hz']at hf;have key:(ABh t ps').run P w=.ok (.agg ⟨r'⟩) w:=by
   simp only[ABh,ym,hzr,ye,hd,hmap,hf,yn]
  rw[key];exact .same H (.agg hrr)
theorem TP(H:AFp ty φ E h w){t el:zZ}{ti ei:TI}(T:AGD P t ti){n:Nat}(hk:ti.k=.arr n el)(TE:AGD P el ei)(hz:ti.zero.length=ti.size)
  {ps:List (Nat×Nat×O)}{ps':Array (Nat×IN)}(hp:AHv φ e (fun i=>some (zi i ei.size,ei.size)) ps ps'.toList)
  (hr:BK ti.zero ps F e h=.ok v h'):Bq ty φ E h w v h' ((ABh t ps').run P w):=by
 unfold BK at hr;obtain⟨z,_,hzr,hzc,hzp⟩:=T.AGq hz;obtain⟨r,r',hk2,hrr,hlen,hf⟩:=JV hp (.plain hzp) hr;cases hk2;obtain⟨d,hd,hkd⟩:=T.desc;rw[hk]at hkd;cases hkd;have hz':(⟨ti.zero⟩:Array IN)=z.cells:=by rw[<- hzc]
 rw[hz']at hf;have hf':AC0 (fun i=>some (i*ei.size,ei.size)) z.cells ps'.toList=some ⟨r'⟩:=hf;have key:(ABh t ps').run P w=.ok (.agg ⟨r'⟩) w:=by
  simp only[ABh,ym,hzr,ye,hd,TE.size,hf',yn]
 rw[key];exact .same H (.agg hrr)
theorem WF{ψ:Phi}{n s l c:Nat}{p:Pl}(hp:ψ n=some p)(ho:p.off=0)(hl:l<=c)(hc:c=0\/0<c):AFm ψ (.slice (some ⟨n,0,none⟩) l c) (.slice (some ⟨p.blk,0,none⟩) l c):=by
 refine .slice hl ⟨rfl,rfl,p,hp,rfl,?_⟩;rcases hc with h|h
 ·exact .inr ⟨h,.inl h⟩
 ·exact .inl ⟨h,by simp[ho],.inl rfl⟩
theorem My(H:AFp ty φ E h w){t el:zZ}{ti ei:TI}(T:AGD P t ti)(hk:ti.k=.slice el)(TE:AGD P el ei)(hz:ei.zero.length=ei.size)
  {len:Nat}(hlen:len*ei.size<=16777216){ps:List (Nat×Nat×O)}{ps':Array (Nat×IN)}(hp:AHv φ e (fun i=>some (zi i ei.size,ei.size)) ps ps'.toList)
  (hr:As len (Bb ei.zero len) ps F e h=.ok v h'):Bq ty φ E h w v h' ((ABj t len ps').run P w):=by
 unfold As at hr;obtain⟨z,_,hzr,hzc,hzp⟩:=TE.AGq hz;obtain⟨r,r',hk2,hrr,hlr,hf⟩:=JV hp (Hw (.plain hzp) len) hr;obtain⟨h1,ψ,hk3,hps,H1,ev⟩:=Gu H hk2 hrr el;cases hk3;obtain⟨d,hd,hkd⟩:=T.desc;rw[hk]at hkd;cases hkd;have hzs:z.cells.size=ei.size:=by rw[<- hz,<- hzc];simp
 have hf':AC0 (fun i=>some (i*ei.size,ei.size)) ⟨Bb ei.zero len⟩ ps'.toList=some ⟨r'⟩:=hf;have AHC:(AB7 (len*ei.size)).map (fun i=>z.cells[i % z.cells.size]!)=⟨Bb ei.zero len⟩:=by
  rw[<- hzc,<- hzs];exact NW z.cells len
 have hng:¬ (len*ei.size > 2 ^ 24):=by omega
 have key:(ABj t len ps').run P w=.ok (.slice (some ⟨w.heap.size,0,none⟩) len len) {w with heap:=w.heap.push (.cells ⟨r'⟩ el)}:=by
  by_cases h0:len*ei.size=0
  ·have:(AB7 (len*ei.size)).map (fun i=>(#[]:Array IN)[i % (#[]:Array IN).size]!)=⟨Bb ei.zero len⟩:=by
    rw[<- AHC,h0];simp
   simp only[ABj,ym,hd,ye,TE.size,hng,h0,if_false,if_true,yn,Nat.not_lt_zero,gt_iff_lt];rw[h0]at this;simp only[this,hf',AB3,ym,run_newObj,ye,yn]
  ·simp only[ABj,ym,hd,ye,TE.size,hng,h0,if_false,hzr,yn,AHC,hf',AB3,run_newObj]
 rw[key];exact⟨_,_,ψ,rfl,WF (s:=0) hps rfl (IT _) (za _),H1,ev⟩
theorem H0{n:Nat}(h:n<=9223372036854775807):AAh.wrap (n:Int)=n:=Dp .i64 n h
theorem jC:most=1099511627776:=rfl
theorem Vo:Jk=70368744177664:=rfl
theorem IJ{n:Nat}(h:n<=1099511627776):n<=Jk:=zO h (by rw[Vo];omega)
theorem Vq{c b:Nat}(h:yl (zi (yg c) (yg b)) Jk=true):c<=70368744177664/\(c+1)*(b+1)<=70368744177664:=by
 have h1:=Av.1 h;rw[Vo]at h1;have h2:(c+1)*(b+1)<=70368744177664:=h1;refine⟨?_,h2⟩;have:c+1<=(c+1)*(b+1):=ADJ _ (by omega);omega
theorem jD{c b:Nat}(h:yl (zi (yg c) (yg b)) most=true):c<=1099511627776/\(c+1)*(b+1)<=1099511627776:=by
 have h1:=Av.1 h;rw[jC]at h1;have h2:(c+1)*(b+1)<=1099511627776:=h1;refine⟨?_,h2⟩;have:c+1<=(c+1)*(b+1):=ADJ _ (by omega);omega
theorem bV(H:AFp ty φ E h w){t el:zZ}{ti ei:TI}(T:AGD P t ti)(hk:ti.k=.slice el)(TE:AGD P el ei)(hz:ei.zero.length=ei.size)
  {l c:O}{l' c':IN}(hl:AFm φ (l e) l')(hc:AFm φ (c e) c')(hr:HM ei.bytes ei.zero l c F e h=.ok v h'):Bq ty φ E h w v h' ((ABt t l' c').run P w):=by
 unfold HM Q3 at hr;split at hr
 case h_2=>cases hr
 rename_i a h1;split at hr
 case h_2=>cases hr
 rename_i b h2;obtain⟨k1,rfl⟩:=FB hl h1;obtain⟨k2,rfl⟩:=FB hc h2;obtain⟨hb1,hr⟩:=Bx hr;obtain⟨hb2,hr⟩:=Bx hr;have hle:=Av.1 hb1;obtain⟨hm1,hm2⟩:=jD hb2;obtain⟨z,_,hzr,hzc,hzp⟩:=TE.AGq hz;have hzs:z.cells.size=ei.size:=by rw[<- hz,<- hzc];simp
 have AGK:AF3 φ (Bb ei.zero b) (Bb ei.zero b):=Hw (.plain hzp) b;obtain⟨h1',ψ,hk3,hps,H1,ev⟩:=Gu H hr AGK el;cases hk3;obtain⟨d,hd,hkd⟩:=T.desc;rw[hk]at hkd;cases hkd;obtain⟨inf,AHi,hs,hbt,_⟩:=TE.info;have AHC:(AB7 (b*ei.size)).map (fun i=>z.cells[i % z.cells.size]!)=⟨Bb ei.zero b⟩:=by
  rw[<- hzc,<- hzs];exact NW z.cells b
 have w1:AAh.wrap (a:Int)=a:=H0 (by omega);have w2:AAh.wrap (b:Int)=b:=H0 (by omega);have hbytes:¬ ((ei.bytes:Int)*(b:Int) > 2 ^ 48):=by
  have:ei.bytes*b<=(b+1)*(ei.bytes+1):=by rw[Nat.mul_comm];exact AC4 (by omega) (by omega)
  have h3:((ei.bytes*b:Nat):Int)<=1099511627776:=by omega
  rw[<- AEZ];omega
 have AIW:((decide ((b:Int)<0) || decide ((ei.bytes:Int)*(b:Int) > 2 ^ 48)) || decide ((a:Int)<0) || decide ((a:Int) > (b:Int)))=false:=by
  simp only[ADd,decide_eq_false_iff_not];refine⟨⟨⟨by omega,hbytes⟩,by omega⟩,by omega⟩
 have key:(ABt t (.int k1 (a:Nat)) (.int k2 (b:Nat))).run P w=.ok (.slice (some ⟨w.heap.size,0,none⟩) a b) {w with heap:=w.heap.push (.cells ⟨Bb ei.zero b⟩ el)}:=by
  by_cases h0:b*ei.size=0
  ·have e0:(AB7 (b*ei.size)).map (fun i=>(#[]:Array IN)[i % (#[]:Array IN).size]!)=⟨Bb ei.zero b⟩:=by
    rw[<- AHC,h0];simp
   rw[h0]at e0;simp only[ABt,ym,hd,ye,asInt,asIntOf,yn,run_typeInfo _ AHi,hbt,w1,w2,AIW,zT,if_false,run_askRoom,zt,TE.size,h0,if_true,e0,AB3,run_newObj,ACD]
  ·simp only[ABt,ym,hd,ye,asInt,asIntOf,yn,run_typeInfo _ AHi,hbt,w1,w2,AIW,zT,if_false,run_askRoom,zt,TE.size,h0,hzr,AHC,AB3,run_newObj,ACD]
 rw[key];exact⟨_,_,ψ,rfl,WF (s:=0) hps rfl hle (za _),H1,ev⟩
end
end
noncomputable section
open Go
section
variable {P:zp}{ty:TTy}{φ:Phi}{E:Nat->Prop}{h h':Hp}{w:zP}{F:AFi}{e:Env}{v:IN}
theorem TU(H:AFp ty φ E h w){x:O}{x':IN}{t el:zZ}{ti ei:TI}(T:AGD P t ti){n:Nat}(hk:ti.k=.arr n el)(TE:AGD P el ei)
  {lo hi mx:Option O}{lo' hi' mx':Option IN}(hx:AFm φ (x e) x')(hl:AHH φ e lo lo')(hh:AHH φ e hi hi')(hm:AHH φ e mx mx')
  (hr:GD n ei.size x lo hi mx F e h=.ok v h'):Bq ty φ E h w v h' ((AAj t x' lo' hi' mx').run P w):=by
 unfold GD at hr;split at hr
 case h_2=>cases hr
 rename_i a ha;obtain⟨a',rfl,hra⟩:=Fz hx ha;obtain⟨d,hd,hkd⟩:=T.desc;rw[hk]at hkd;cases hkd;obtain⟨l,b,m,hk2,h1,h2,h3,h4,hs⟩:=KU (P:=P) hl hh hm (IT n) (IT n) hr false;have hmm:(if mx.isSome then m else n)=m:=by
  split
  ·rfl
  ·rename_i hf;exact(h4 (by simpa using hf)).symm
 rw[hmm]at hs;rw[JF]at hk2;cases hk2;have key:(AAj t (.pointer (some a')) lo' hi' mx').run P w=.ok (.slice (some (if m=l then a' else a'.add (l*ei.size))) (b - l) (m - l)) w:=by
  simp only[AAj,ym,hd,ye,Gj,hs,TE.size,yn]
 rw[key];refine .same H ?_;have s1:=hra.1;obtain⟨p,hp,rfl⟩:=hra.eq;obtain⟨ab,ao,asp⟩:=a;simp only at s1 hp;subst s1;simp only[Addr.AGk,AAG];by_cases hml:m=l
 ·rw[if_pos hml,if_pos hml]
  exact .slice (by omega) ⟨rfl,rfl,p,hp,rfl,.inr ⟨by omega,.inl (by omega)⟩⟩
 ·rw[if_neg hml,if_neg hml]
  have hA:(if l*ei.size=0 then(⟨ab,ao,none⟩:ACS)else⟨ab,ao+l*ei.size,none⟩)=⟨ab,ao+l*ei.size,none⟩:=by
   split
   ·rename_i h;rw[h];rfl
   ·rfl
  rw[hA];exact .slice (by omega) ⟨rfl,rfl,p,hp,rfl,.inl ⟨by omega,by simp only;omega,.inl rfl⟩⟩
theorem bO(H:AFp ty φ E h w){fn:Fn}{f c:List O}{f' c':List IN}(hf:AF3 φ (vals e f) f')(hc:AF3 φ (vals e c) c')(hr:EX fn f c F e h=.ok v h'):
  Bq ty φ E h w v h' (.ok (.func fn ⟨f'⟩ ⟨c'⟩) w):=by
 unfold EX at hr;rw[C7,C7]at hr;cases hr;exact .same H (.func fn hf hc)
theorem jO(H:AFp ty φ E h w){x:O}{x':IN}{t el:zZ}{ti:TI}(T:AGD P t ti){n:Nat}(hk:ti.k=.arr n el)(hn:0<n)(hx:AFm φ (x e) x')
  (hr:RB n x F e h=.ok v h'):Bq ty φ E h w v h' ((AC9 t x').run P w):=by
 unfold RB at hr;split at hr
 case h_2=>cases hr
 rename_i a l c hxe;rw[hxe]at hx;obtain⟨hb,hr⟩:=Bx hr;cases hr;have hb:=Av.1 hb;obtain⟨d,hd,hkd⟩:=T.desc;rw[hk]at hkd;cases hkd;cases hx with
 |@slice _ a' _ _ c' hlc hs=>
  have key:(AC9 t (.slice (some a') l c')).run P w=.ok (.pointer (some a')) w:=by
   simp only[AC9,ym,hd,ye,ACk.2 hb,if_false,yn]
  rw[key];exact .same H (.ptr (LA hlc hs (by omega)))
theorem OK(H:AFp ty φ E h w){lt:Bool}{x y:O}{x' y':IN}(hx:AFm φ (x e) x')(hy:AFm φ (y e) y')(hr:Hq lt (x e) (y e) h=.ok v h'):
  ∃ k q m n,x'=.int k m/\y'=.int q n/\h'=h/\v=.int k (if(if lt then n<m else m<n)then n else m):=by
 unfold Hq at hr;split at hr
 case h_2=>cases hr
 rename_i k m hxe;split at hr
 case h_2=>cases hr
 rename_i n hye;obtain⟨q,hq⟩:=VX hye;rw[hxe]at hx;rw[hq]at hy;refine⟨k,q,m,n,hx.AGM,hy.AGM,?_⟩;cases lt
 ·simp only[cond_false]at hr
  cases hb:iLt m n with
  |false=>
   rw[hb]at hr;cases hr;rw[DF]at hb;have:=of_decide_eq_false hb;refine⟨rfl,?_⟩;simp[this]
  |true=>
   rw[hb]at hr;cases hr;rw[DF]at hb;have:=of_decide_eq_true hb;refine⟨rfl,?_⟩;simp[this]
 ·simp only[cond_true]at hr
  cases hb:iLt n m with
  |false=>
   rw[hb]at hr;cases hr;rw[DF]at hb;have:=of_decide_eq_false hb;refine⟨rfl,?_⟩;simp[this]
  |true=>
   rw[hb]at hr;cases hr;rw[DF]at hb;have:=of_decide_eq_true hb;refine⟨rfl,?_⟩;simp[this]
theorem je(H:AFp ty φ E h w){x y:O}{x' y':IN}{ats:Array zZ}{t:zZ}(hx:AFm φ (x e) x')(hy:AFm φ (y e) y')(hr:YR x y F e h=.ok v h'):
  Bq ty φ E h w v h' ((Builtin.min_ ats t #[x',y']).run P w):=by
 obtain⟨k,q,m,n,rfl,rfl,rfl,rfl⟩:=OK H hx hy hr;exact .same H (.int _ _)
theorem jc(H:AFp ty φ E h w){x y:O}{x' y':IN}{ats:Array zZ}{t:zZ}(hx:AFm φ (x e) x')(hy:AFm φ (y e) y')(hr:YQ x y F e h=.ok v h'):
  Bq ty φ E h w v h' ((Builtin.max_ ats t #[x',y']).run P w):=by
 obtain⟨k,q,m,n,rfl,rfl,rfl,rfl⟩:=OK H hx hy hr;exact .same H (.int _ _)
theorem HH:∀ l:List UInt8,Cq l=l.map fun b=>.int .u8 (b.toNat:Int)
 |[]=>rfl
 |b::l=>by unfold Cq;rw[Ao,HH l];rfl
theorem LH(l:List UInt8):AF3 φ (Cq l) (l.map fun b=>.int .u8 (b.toNat:Int)):=by
 rw[HH]
 induction l with
 |nil=>exact .nil
 |cons b l ih=>exact .cons (.int _ _) ih
theorem GH(H:AFp ty φ E h w){size n:Nat}{x x':IN}(hE:∀ a l c,x=.slice (some a) l c->¬ E a.block)(hx:AFm φ x x'){k:List IN->R}(hr:BP h size x n k=.ok v h')
  (hn:∀ m,lenV x=.ok m->n<=m):
  ∃ cs cs':List IN,k cs=.ok v h'/\AF3 φ cs cs'/\(∀ w':zP,w'.heap=w.heap->(zf size n x').run P w'=.ok ⟨cs'⟩ w')/\(∀ a l c,x'=.slice (some a) l c->cs'.length=n*size)/\(∀ s,x'=.string s->cs'.length=n/\size=1)/\
   (∀ a l c,x=.slice (some a) l c->0<c->∃ p cs t fr,φ a.block=some p/\w.heap[p.blk]? =some (.cells cs t fr)/\∀ (j:Nat) (u:IN),cs'[j]? =some u->cs[p.off+a.off+j]? =some u):=by
 unfold BP at hr;split at hr
 ·cases hx
  exact⟨[],[],hr,.nil,(fun _ _=>rfl),(fun _ _ _ h=>by cases h),(fun _ h=>by cases h),(fun _ _ _ h=>by cases h)⟩
 ·rename_i a l c
  split at hr
  case h_2=>cases hr
  rename_i ct s en hrow;obtain⟨hb,hr⟩:=Bx hr;rw[F6,yw]at hr;cases hx with
  |@slice _ a' _ _ c' hlc hs=>
   rcases za c with h0|h0
   ·have hl0:l=0:=by omega
    have hn0:n=0:=by have:=hn l rfl;omega
    subst hn0;refine⟨_,[],hr,by simp[AG1];exact .nil,fun w' _=>?_,(fun _ _ _ h=>by simp),(fun _ h=>by cases h),(fun _ _ _ h hpos=>by cases h;omega)⟩;simp only[zf,AAw];rfl
   ·obtain⟨s1,s2,p,hp,hbl,hor⟩:=hs
    have ha:AG0 φ a a':=by
     rcases hor with h|h
     ·exact⟨s1,s2,p,hp,hbl,h.2.1⟩
     ·omega
    obtain⟨cs',hcs,hlen,hrun,hcell⟩:=Q2 (P:=P) H ha (hE _ _ _ rfl) hrow (Av.1 hb);exact⟨_,cs',hr,hcs,hrun,(fun _ _ _ _=>hlen),(fun _ h=>by cases h),(fun _ _ _ h _=>by cases h;exact hcell)⟩
 ·rename_i s
  obtain rfl:=hx.AGO;have hn':n<=s.data.toList.length:=by
   have:=hn (BF s.data.toList) rfl
   rwa [Bi]at this
  obtain⟨hone,hr⟩:=Bx hr;rw[NP]at hr;refine⟨_,_,hr,LH _,fun w' _=>?_,(fun _ _ _ h=>by cases h),(fun _ _=>⟨by simp only[List.length_map,List.length_take];omega,Ay.1 hone⟩),(fun _ _ _ h=>by cases h)⟩;simp only[zf,yn]
  congr 1
  apply zz;simp[List.extract_eq_take_drop]
 ·rename_i c
  cases c with
  |none=>cases hr
  |some r=>
   cases hx;have hn0:n=0:=by have:=hn 0 rfl;omega
   subst hn0;exact⟨[],[],hr,.nil,(fun w' _=>by simp only[zf,AAw];rfl),(fun _ _ _ h=>by simp),(fun _ h=>by cases h),(fun _ _ _ h=>by cases h)⟩
 ·cases hr
theorem Qx{x x':IN}(hx:AFm φ x x'){n:Nat}(h:lenV x=.ok n):(ACu x').run P w=.ok n w:=by
 unfold lenV at h;split at h
 ·cases h;cases hx<;>rfl
 ·cases h
  obtain rfl:=hx.AGO;simp only[ACu,yn,Bi];rfl
 ·rename_i c
  cases c with
  |none=>cases h
  |some r=>
   cases h;cases hx;rfl
 ·cases h
theorem bL(H:AFp ty φ E h w)(hE:∀ b,¬ E b){d x:O}{d' x':IN}{ats:Array zZ}{dt t el:zZ}(h0:ats[0]? =some dt){ti ei:TI}(T:AGD P dt ti)(hk:ti.k=.slice el)(TE:AGD P el ei)
  (hd:AFm φ (d e) d')(hx:AFm φ (x e) x')(hr:Js ei.size d x F e h=.ok v h'):Bq ty φ E h w v h' ((ABb ats t #[d',x']).run P w):=by
 unfold Js QD at hr;split at hr
 case h_2=>cases hr
 rename_i base dl dc hde;rw[hde]at hd;split at hr
 case h_2=>cases hr
 rename_i xl hxl;rw[Ao,BZ]at hr;obtain⟨cs,cs',hr,hcs,AJH,hl1,hl2,_⟩:=GH (P:=P) H (fun _ _ _ _=>hE _) hx hr (fun m hm=>by rw[hxl]at hm;cases hm;exact AB8 _ _);have hrun:=AJH w rfl;obtain⟨dd,hdd,hkd⟩:=T.desc;rw[hk]at hkd;cases hkd;have hlen:=Qx (P:=P) (w:=w) hx hxl;split at hr
 ·cases hr
  cases hd;have key:(ABb ats t #[.slice none 0 0,x']).run P w=.ok (goInt ((min xl 0:Nat):Int)) w:=by
   simp only[ABb,h0,ym,hdd,ye,hlen,TE.size,yn,zN,zW,zk];have:Nat.min xl 0=min xl 0:=rfl;rw[this,hrun];rfl
  rw[key];exact .same H (.int _ _)
 ·rename_i a hr0
  cases hd with
  |@slice _ a' _ _ dc' hlc hs=>
   have AIX:∃ h1 w1,(.ok (.int .i64 (.ofNat (min xl dl))) h1:R)=.ok v h'/\(storeCells a' cs').run P w=.ok () w1/\AFp ty φ E h1 w1/\Evo φ h w φ h1 w1:=by
    rcases za dc with h0|h0
    ·have hdl:dl=0:=by omega
     subst hdl;have AIN:cs'=[]:=by
      have hz:min xl 0=0:=Nat.min_zero _;rw[hz]at hrun hl1 hl2;cases x'<;>first|(simp only[zf]at hrun;cases hrun;done)|skip
      ·exact AAy.1 (hl2 _ rfl).1
      ·rename_i sa sl AKr
       cases sa with
       |none=>simp only[zf,yn]at hrun;cases hrun;rfl
       |some sa=>exact AAy.1 (by have:=hl1 sa sl AKr rfl;simpa using this)
     subst AIN;have:cs=[]:=by cases hcs;rfl
     subst this;unfold C1 at hr;split at hr
     case h_2=>cases hr
     rename_i ct s en hrow;obtain⟨_,hr⟩:=Bx hr;obtain⟨_,hr⟩:=Bx hr;simp only[Bt]at hr;obtain⟨bl,AFs,hbl,hk2⟩:=FV hr;obtain⟨_,_,p,hp,_,_⟩:=hs;have hold:=H.row a.block p hp (hE _);have AHZ:=DM hrow;rw[AHZ]at hold;have AGV:Live h a.block:=by unfold Live;rw[AHZ];intro hd;cases hd
     exact⟨_,w,hk2,rfl,H.put (hE _) AFs hp AGV hbl rfl (fun _ _=>rfl) hold,.put (H.AGj hp AFs) hp AGV hbl (by rw[DM hrow];exact .inr ⟨rfl,rfl⟩) rfl (fun _ _=>rfl) rfl rfl rfl⟩
    ·obtain⟨s1,s2,p,hp,hbl,hor⟩:=hs
     have ha:AG0 φ a a':=by
      rcases hor with h|h
      ·exact⟨s1,s2,p,hp,hbl,h.2.1⟩
      ·omega
     exact IW (P:=P) H hr ha hcs (hE _)
   obtain⟨h1,w1,hk2,AH7,H1,ev⟩:=AIX;cases hk2;have key:(ABb ats t #[.slice (some a') dl dc',x']).run P w=.ok (goInt ((min xl dl:Nat):Int)) w1:=by
    simp only[ABb,h0,ym,hdd,ye,hlen,TE.size,yn,zN,zW,zk];have:Nat.min xl dl=min xl dl:=rfl;rw[this,hrun];simp only[ye,AH7,ym,yn]
   rw[key];exact⟨_,_,φ,rfl,.int _ _,H1,ev⟩
end
end
noncomputable section
open Go
section
variable {P:zp}{ty:TTy}{φ:Phi}{E:Nat->Prop}{h h':Hp}{w:zP}{e:Env}{v:IN}
theorem AFp.of_heap(H:AFp ty φ E h w){w':zP}(hw:w'.heap=w.heap):AFp ty φ E h w' where
 dom:=by rw[hw];exact H.dom
 inj:=H.inj
 row:=by rw[hw];exact H.row
 fresh:=H.fresh
 kind:=H.kind
 inp:=H.inp
theorem Yj(H:AFp ty φ E h w)(hE:∀ b,¬ E b){a a':ACS}{c c' o:Nat}{vs vs':List IN}{k:Hp->R}(hs:AHP φ a c a' c')(h0:c=0->vs=[])
  (hr:C1 (FH a o) vs h k=.ok v h')(hv:AF3 φ vs vs'):
  ∃ h1 w1,k h1=.ok v h'/\(storeCells (a'.add o) vs').run P w=.ok () w1/\AFp ty φ E h1 w1/\Evo φ h w φ h1 w1:=by
 obtain⟨s1,s2,p,hp,hbl,hor⟩:=hs;have hblk:(FH a o).block=a.block:=by unfold FH;split<;>rfl
 rcases za c with hc|hc
 ·have:=h0 hc
  subst this;have:vs'=[]:=by cases hv;rfl
  subst this;unfold C1 at hr;split at hr
  case h_2=>cases hr
  rename_i ct s en hrow;obtain⟨_,hr⟩:=Bx hr;obtain⟨_,hr⟩:=Bx hr;simp only[Bt]at hr;obtain⟨bl,AFs,AHo,hk2⟩:=FV hr;rw[hblk]at hrow AHo hk2 AFs;have hold:=H.row a.block p hp (hE _);have AHZ:=DM hrow;rw[AHZ]at hold;have AGV:Live h a.block:=by unfold Live;rw[AHZ];intro hd;cases hd
  exact⟨_,w,hk2,rfl,H.put (hE _) AFs hp AGV AHo rfl (fun _ _=>rfl) hold,.put (H.AGj hp AFs) hp AGV AHo (by rw[DM hrow];exact .inr ⟨rfl,rfl⟩) rfl (fun _ _=>rfl) rfl rfl rfl⟩
 ·have hoff:a'.off=p.off+a.off:=by
   rcases hor with h|h
   ·exact h.2.1
   ·omega
  obtain⟨ab',ao',AJ7⟩:=a';obtain⟨ab,ao,asp⟩:=a;simp only at s1 s2 hp hbl hoff;subst s1;subst s2;subst hbl;subst hoff;have AKs:FH ⟨ab,ao,none⟩ o=⟨ab,ao+o,none⟩:=by
   unfold FH;cases o<;>rfl
  rw[AKs]at hr;rw[Addr.AGk];refine IW (P:=P) H hr ⟨rfl,rfl,p,hp,rfl,?_⟩ hv (hE _);show p.off+ao+o=p.off+(ao+o);omega
theorem N2(N:Nat):∀ (r c:Nat),c<N->ABO N r c<=N+(N+768)/4
 |0,c,h=>by unfold ABO;omega
 |r+1,c,h=>by
  unfold ABO;split
  ·omega
  ·rcases zD (c+(c+768)/4) N with h2|h2
   ·exact N2 N r _ h2
   ·cases r with
    |zero=>unfold ABO;omega
    |succ r=>unfold ABO;rw[if_pos h2];omega
theorem jI{need cap:Nat}(h:cap<need):AAk need cap<=2*need:=by
 unfold AAk;split
 ·omega
 ·split
  ·omega
  ·have:=N2 need 4 cap h
   omega
theorem Mf(H:AFp ty φ E h w){en:Nat}{ei:TI}(hty:ty.get en=some ei){need c:Nat}(AIY:0<need)(hc:need<=c){cs cs' rest:List IN}(AGK:AF3 φ cs cs')(hlen:cs.length=need*ei.size)
  (AHD:rest.length=(c - need)*ei.size){w':zP}(hw':w'.heap=w.heap.push (.cells ⟨cs'++rest⟩ en))(ht:w'.tape=w.tape)(ho:w'.os=w.os)(hout:w'.output=w.output)
  {t:VT}{n:Nat}(hT:∀ j,j<cs.length->t.get j=cs.getD j undef)(hN:n=cs.length)(hr:CW h (yg en) t n (Fq need need)=.ok v h'):∃ ψ,AFm ψ v (.slice (some ⟨w.heap.size,0,none⟩) need c)/\AFp ty ψ E h' w'/\Evo φ h w ψ h' w':=by
 have hl':=AGK.length;have hmul:(c - need)*ei.size+need*ei.size=c*ei.size:=by rw[<- AB1];congr 1;omega
 have hsz:(⟨cs'++rest⟩:Array IN).size=c*ei.size:=by simp[hl',AHD,hlen];omega
 obtain⟨h1,hk,H1,ev⟩:=Mw (cs:=cs) (cs':=⟨cs'++rest⟩) (t:=en) (fr:=(0,0)) (w':=w')
  (p:={blk:=w.heap.size,off:=0,sz:=cs.length,room:=(⟨cs'++rest⟩:Array IN).size,es:=ei.size}) H hr hT hN rfl ⟨rfl,.inr ⟨en,ei,rfl,hty,rfl⟩⟩ (by simp[hl']) (.inl rfl)
  (fun j u hj=>by
   obtain⟨u',hu,hru⟩:=AGK.get j u hj;refine⟨u',?_,hru⟩;have hj':j<cs'.length:=by
    rcases zD j cs'.length with h|h
    ·exact h
    ·rw[AAS h]at hu;cases hu
   simp only[zN];rw[zF hj'];exact hu) hw' ht ho hout
 cases hk;refine⟨_,.slice (IT _) ⟨rfl,rfl,_,Phi.AGU _ _ _,rfl,.inl ⟨AIY,rfl,.inr ⟨?_,hc,?_⟩⟩⟩,H1,ev⟩
 ·simp only;omega
 ·simp only[hsz];omega
theorem aK(H:AFp ty φ E h w)(hE:∀ b,¬ E b){en:Nat}{ei:TI}(hty:ty.get en=some ei)(hes:0<ei.size){base:Option ACS}{base':Option ACS}{sl sc sc' need:Nat}
  (hsl:AFm φ (.slice base sl sc) (.slice base' sl sc'))(AIY:sc<need){olds news AHI news':List IN}(ho:AF3 φ olds AHI)(hn:AF3 φ news news')
  (hol:olds.length=sl*ei.size)(hnl:(olds++news).length=need*ei.size)(hone:∀ v∈news',v.oneCell'=true)
  (hcell:∀ a a',base=some a->base'=some a'->0<sc->∃ p cs t fr,φ a.block=some p/\w.heap[p.blk]? =some (.cells cs t fr)/\∀ j u,AHI[j]? =some u->cs[p.off+a.off+j]? =some u)
  {tr:VT}{n:Nat}(hT:∀ j,j<(olds++news).length->tr.get j=(olds++news).getD j undef)(hN:n=(olds++news).length)(hr:E7 ei.size en base sc need tr n h=.ok v h'):
  (∀ c rest,need<=c->rest.length=(c - need)*ei.size->∀ w':zP,sc'<need->w'.heap=w.heap.push (.cells ⟨(AHI++news')++rest⟩ en)->w'.tape=w.tape->w'.os=w.os->w'.output=w.output->
   ∃ ψ,AFm ψ v (.slice (some ⟨w.heap.size,0,none⟩) need c)/\AFp ty ψ E h' w'/\Evo φ h w ψ h' w')/\
  (∀ a',base'=some a'->need<=sc'->∃ w' ψ,(storeCells (a'.add (sl*ei.size)) news').run P w=.ok () w'/\AFm ψ v (.slice (some a') need sc')/\AFp ty ψ E h' w'/\Evo φ h w ψ h' w'):=by
 have AGK:=ho.append hn;have AHO:0<need:=by omega
 unfold E7 at hr;split at hr
 ·
  cases hsl;refine⟨fun c rest hc AHD w' _ hw' ht hos hout=>Mf H hty AHO hc AGK hnl AHD hw' ht hos hout hT hN hr,fun a' ha=>by cases ha⟩
 ·rename_i _ a
  cases hsl with
  |@slice _ a' _ _ _ hlc hs=>
  split at hr
  case h_2=>cases hr
  rename_i ct s en0 hrow;obtain⟨s1,s2,p,hp,hbl,hor⟩:=hs;have AH8:=H.kind a.block p ct s en0 hp (DM hrow);have AGV:Live h a.block:=by unfold Live;rw[DM hrow];intro hd;cases hd
  have AIZ:(p.room=p.sz/\p.es=1)->sc'=sc:=by
   rintro⟨q1,q2⟩;rcases hor with ⟨q3,q4,q5|⟨q5,q6,q7⟩⟩|⟨q3,q4|q4⟩
   ·exact q5
   ·rw[q2]at q5 q7;omega
   ·omega
   ·rw[q2]at q4;omega
  have real:sc'=sc->CW h (yg en) tr n (Fq need need)=.ok v h'->
    (∀ c rest,need<=c->rest.length=(c - need)*ei.size->∀ w':zP,sc'<need->w'.heap=w.heap.push (.cells ⟨(AHI++news')++rest⟩ en)->w'.tape=w.tape->w'.os=w.os->w'.output=w.output->
     ∃ ψ,AFm ψ v (.slice (some ⟨w.heap.size,0,none⟩) need c)/\AFp ty ψ E h' w'/\Evo φ h w ψ h' w')/\
    (∀ a'',some a'=some a''->need<=sc'->∃ w' ψ,(storeCells (a''.add (sl*ei.size)) news').run P w=.ok () w'/\AFm ψ v (.slice (some a'') need sc')/\AFp ty ψ E h' w'/\Evo φ h w ψ h' w'):=by
   intro hsc hr;exact⟨fun c rest hc AHD w' _ hw' ht hos hout=>Mf H hty AHO hc AGK hnl AHD hw' ht hos hout hT hN hr,fun a'' _ h2=>by omega⟩
  split at hr
  ·refine real (AIZ ?_) hr
   rcases AH8.2 with ⟨_,q1,q2,_⟩|⟨t,ti,q1,_⟩
   ·exact⟨q1,q2⟩
   ·cases q1
  ·rename_i e0
   obtain⟨hb,hr⟩:=Bx hr;have hen:e0=en:=Ay.1 hb;subst hen;have AJ9:p.es=ei.size:=by
    rcases AH8.2 with ⟨q0,_⟩|⟨t,ti,q1,q2,q3⟩
    ·cases q0
    ·have:t=e0:=by omega
     subst this;rw[hty]at q2;cases q2;exact q3
   split at hr
   ·obtain⟨bl,AFs,AGf,hr⟩:=FV hr
    have Hk:=H.kill AGf (lo:=B9 h.low a.block) (hi:=Cy h.high a.block) (mk:=h.mark);refine⟨fun c rest hc AHD w' _ hw' ht hos hout=>?_,fun a'' AKt hcap=>?_⟩
    ·obtain⟨ψ,hv,H2,ev⟩:=Mf Hk hty AHO hc AGK hnl AHD hw' ht hos hout hT hN hr
     refine⟨ψ,hv,H2,?_⟩;have evk:Evo φ h w φ {next:=h.next,low:=B9 h.low a.block,high:=Cy h.high a.block,mark:=h.mark,bl:=bl} w:={
      le:=.refl _,new:=fun _ _ e=>.inl e,next:=IT _,size:=IT _,tape:=rfl,os:=rfl,output:=rfl,frame:=fun _ _ _=>rfl,
      back:=fun i q e hl _=>⟨i,q,e,fun hd=>hl (by show bl.get i=_;rw[BT.AFo AGf];split<;>first|rfl|exact hd),rfl,rfl,.inl rfl⟩,
      kept:=fun i _ hi=>by
       show bl.get i=_;have hi:i<B9 h.low a.block\/Cy h.high a.block<i:=hi;rw[BZ,B7]at hi;rw[BT.AFo AGf,if_neg (by omega)],
      low:=by show B9 _ _<=_;rw[BZ];exact AB8 _ _,
      high:=by show _<=Cy _ _;rw[B7];exact Nat.le_max_left _ _,
      shape:=fun i _=>by
       show AF2 _ (bl.get i);rw[BT.AFo AGf];split
       ·exact .inl rfl
       ·exact .refl _,
      only:=fun i _ h0=>by
       show bl.get i=_;rw[BT.AFo AGf,if_neg (fun e=>by rw[e,hp]at h0;cases h0)],
      all:=fun _ h1 h2=>absurd h2 (ACk.2 h1)}
     exact evk.trans ev
    ·cases AKt
     obtain⟨p0,cs,t,fr,hp0,hwc,R⟩:∃ p0 cs t fr,φ a.block=some p0/\w.heap[p0.blk]? =some (.cells cs t fr)/\AHQ ty φ p0 ct s (e0+1) cs fr:=by
      obtain⟨cs,t,fr,q1,q2⟩:=H.rowAt hp (hE _) hrow;exact⟨p,cs,t,fr,hp,q1,q2⟩
     rw[hp]at hp0;cases hp0;obtain⟨ab',ao',AJ7⟩:=a';simp only at s2 hbl hor;subst s2;subst hbl;have AJI:p.off<=ao'/\ao'+sc' * ei.size<=p.off+p.room/\(0<sc->ao'=p.off+a.off):=by
      have hz:p.sz<=p.room:=R.room;rw[AJ9]at hor;rcases hor with ⟨q3,q4,q5|⟨q5,q6,q7⟩⟩|⟨q3,q4|⟨q4,q5⟩⟩
      ·omega
      ·exact⟨by omega,by omega,fun _=>q4⟩
      ·omega
      ·exact⟨by omega,by omega,fun h=>by omega⟩
     have AJE:=R.fits;have hmul:need*ei.size<=sc'*ei.size:=ACP _ hcap;have hlo:=ho.length;have hln:=hn.length;have AMB:olds.length+news.length=need*ei.size:=by rw[<- hnl];simp
     rw[Addr.AGk];have hst:(storeCells ⟨p.blk,ao'+sl*ei.size,none⟩ news').run P w=.ok () (w.setCells p.blk (ao'+sl*ei.size) news'):=by
      refine run_storeCells_cells (P:=P) p.blk (ao'+sl*ei.size) news' 0 w (fun j hj=>?_) (fun j hj=>?_) hone
      ·rw[H8 hwc];simp;omega
      ·exact N0 hwc R.AJ6 (by omega)
     obtain⟨cs',e1,e2,e3,e4,e5,e6,e7,e8⟩:=GP p.blk t fr news' (ao'+sl * ei.size) cs w hwc (by omega);unfold CW at hr;rw[Ao]at hr;obtain⟨bl2,AHo,hk2⟩:=Gc hr;cases hk2
     let p':Pl:={blk:=p.blk,off:=ao',sz:=need*ei.size,room:=p.off+p.room - ao',es:=ei.size}
     have hB:AGe ty (φ.put h.next p') p' (.cells tr n (e0+1)) ((w.setCells p.blk (ao'+sl*ei.size) news').heap[p'.blk]?):=by
      show AGe ty (φ.put h.next p') p' _ ((w.setCells p.blk (ao'+sl*ei.size) news').heap[p.blk]?);rw[e1,hN,hnl];refine .cells {
       kind:=⟨rfl,.inr ⟨e0,ei,rfl,hty,rfl⟩⟩,room:=(by show need*ei.size<=p.off+p.room - ao';omega),fits:=(by show ao'+(p.off+p.room - ao')<=cs'.size;omega),
       loose:=.inl (by rw[e2];exact R.AJ6),cell:=fun j hj=>?_}
      have hj2:j<(olds++news).length:=by omega
      rw[hT j hj2];show ∃ v,cs'[ao'+j]? =some v/\_;have hD:(olds++news).getD j undef=(olds++news)[j]:=by
       rw[yf,sh hj2];rfl
      rw[hD];obtain⟨u',hu,hru⟩:=AGK.get j _ (sh hj2);refine⟨u',?_,hru.mono (Phi.AG4 H.AGZ)⟩;rw[e3];rcases zD j olds.length with hjo|hjo
      ·rw[if_neg (by omega)]
       rw[zF (by omega)]at hu;have AKA:0<sc:=by
        rcases za sc with q|q
        ·have:sl=0:=by omega
         rw[this,AAw]at hol;omega
        ·exact q
       obtain⟨p1,cs1,t1,fr1,hp1,hw1,hc1⟩:=hcell a _ rfl rfl AKA;rw[hp]at hp1;cases hp1;rw[hwc]at hw1;cases hw1;rw[AJI.2.2 AKA];exact hc1 j u' hu
      ·rw[if_pos (by omega)]
       rw[zI (by omega)]at hu;rw[<- hu];congr 1;omega
     have AIa:∀ j q,φ j=some q->Live ({next:=h.next,low:=B9 h.low a.block,high:=Cy h.high a.block,mark:=h.mark,bl:=bl}:Hp) j->q.blk≠p'.blk:=by
      intro j q hq hl hqb;have hl':bl.get j≠.dead:=hl;rw[BT.AFo AGf]at hl';split at hl'
      ·exact hl' rfl
      ·rename_i hjb
       exact hjb (H.inj j a.block q p hq hp (hE _) (hE _) hl' AGV (.inr (H.AGj hp AFs)) hqb)
     have H2:=Hk.new (lo:=B9 h.low a.block) (hi:=Cy h.high a.block) (mk:=h.mark) (w':=w.setCells p.blk (ao'+sl*ei.size) news') (p:=p') AHo (AB0 e4.symm) (by rw[e4];exact(H.dom _ _ hp).2) AIa (fun k _ hk=>e5 k hk) hB;refine⟨_,_,hst,?_,H2,Evo.grow H (H.AGj hp AFs) rfl hp AGV AGf AHo rfl e4 e5 e6 e7 e8⟩;refine .slice (IT _) ⟨rfl,rfl,p',Phi.AGU _ _ _,rfl,.inl ⟨AHO,rfl,.inr ⟨?_,hcap,?_⟩⟩⟩
     ·show 0+need*ei.size=need*ei.size;omega
     ·show 0+sc'*ei.size<=p.off+p.room - ao';omega
   ·rename_i hend
    refine real ?_ hr;rcases hor with ⟨q3,q4,q5|⟨q5,q6,q7⟩⟩|⟨q3,_⟩
    ·exact q5
    ·exfalso
     unfold LG at hend;cases sc with
     |zero=>omega
     |succ n=>
      simp only at hend;have:yu (AAB a.off (zi (n+1) ei.size)) s=true:=Ay.2 (by rw[<- AH8.1,<- q5,AJ9];rfl);rw[this]at hend;cases hend
    ·exfalso
     subst q3;cases hend
end
end
noncomputable section
open Go
section
variable {P:zp}{ty:TTy}{φ:Phi}{E:Nat->Prop}{h h':Hp}{w:zP}{F:AFi}{e:Env}{v:IN}
theorem aJ{AFw en:Nat}{base:Option ACS}{sc need:Nat}{cs:List IN}(hr:Jd AFw en base sc need cs h=.ok v h'):
  ∃ (t:VT) (m:Nat),(∀ j,j<cs.length->t.get j=cs.getD j undef)/\m=cs.length/\E7 AFw en base sc need t m h=.ok v h':=by
 unfold Jd at hr;split at hr
 case h_2=>cases hr
 rename_i c AGJ;exact⟨c,_,JE AGJ,Bi _,hr⟩
open Classical in
theorem Qb{AFw en:Nat}{base:Option ACS}{sl sc need:Nat}{news:List IN}
  (hr:HL AFw en base sl sc need news h (BP h AFw (.slice base sl sc) sl fun olds=>Jd AFw en base sc need (olds++news) h)=.ok v h'):
  ∃ AMP:List IN->R,BP h AFw (.slice base sl sc) sl AMP=.ok v h'/\∀ olds,AMP olds=.ok v h'->∃ (t:VT) (m:Nat),(∀ j,j<(olds++news).length->t.get j=(olds++news).getD j undef)/\
   m=(olds++news).length/\E7 AFw en base sc need t m h=.ok v h':=by
 have AHm:BP h AFw (.slice base sl sc) sl (fun olds=>Jd AFw en base sc need (olds++news) h)=.ok v h'->
   ∃ AMP:List IN->R,BP h AFw (.slice base sl sc) sl AMP=.ok v h'/\∀ olds,AMP olds=.ok v h'->∃ (t:VT) (m:Nat),(∀ j,j<(olds++news).length->t.get j=(olds++news).getD j undef)/\
    m=(olds++news).length/\E7 AFw en base sc need t m h=.ok v h':=fun hr=>⟨_,hr,fun olds h=>aJ h⟩
 unfold HL at hr;split at hr
 ·exact AHm hr
 ·rename_i _ a
  split at hr
  ·rename_i hoff
   split at hr
   ·rename_i c sz ec hrow
    split at hr
    ·rename_i hb
     have hsz:sz=sl * AFw:=Ay.1 hb;split at hr
     case h_2=>cases hr
     rename_i t AGJ;refine⟨fun olds=>if olds=AG1 c 0 sz then E7 AFw en (some a) sc need t (AAB sz (BF news)) h else .no,?_,fun olds ho=>?_⟩
     ·unfold BP
      simp only[hrow,hoff];have hle:yl (AAB 0 (zi sl AFw)) sz=true:=Av.2 (by show 0+sl*AFw<=sz;omega);rw[hle,F6,yw];have:zi sl AFw=sz:=hsz.symm;rw[this];simp only[cond_true,if_true];exact hr
     ·by_cases he:olds=AG1 c 0 sz
      ·simp only[he,if_true]at ho
       subst he;refine⟨t,_,fun j hj=>?_,?_,ho⟩
       ·have hl:(AG1 c 0 sz).length=sz:=GG c 0 sz
        rw[G3 _ _ _ _ AGJ j,yf (l:=AG1 c 0 sz++news)];rw[No,hl]at hj;rcases zD j sz with hjs|hjs
        ·rw[if_neg (by omega),zF (by omega)]
         simp[AG1,hjs]
        ·rw[if_pos (by omega),zI (by omega),hl,<- yf]
       ·rw[No,GG,Bi];rfl
      ·simp only[he,if_false]at ho;cases ho
    ·exact AHm hr
   ·exact AHm hr
  ·exact AHm hr
def CY(elem:zZ)(size:Nat)(base:Option ACS)(s:IN)(sLen sCap n:Nat)(AHE:Bool)(x:IN)(AGR:Sem (Array IN)):Sem IN:=do
 let need:=sLen+n
 if need<=sCap then
  let new <- AGR
  if let some a:=base then storeCells (a.add (sLen*size)) new.toList
  pure (.slice base need sCap)
 else
  if(need:Int) > AAh.max/\(AHE\/(<- typeInfo elem).bytes=0)then runtimePanic (.error "growslice: len out of range")
  if AAk need sCap*(<- typeInfo elem).bytes > 2 ^ 48 then(if AHE then runtimePanic (.error "growslice: len out of range")else do
   if !(<- Builtin.mayShare size sLen n base x)then mark .noRoom
   unsupported (.resourceLimit "append: a slice or a string whose bytes no memory bears"))
  let AHa <- choose (.appendCap need sCap elem)
  askRoom (AHa*(<- typeInfo elem).bytes)
  let old <- zf size sLen s
  let new <- AGR
  let rest:=ACF (<- zeroValue elem).cells (AHa - need)
  pure (.slice (some (<- AB3 elem (old++new++rest))) need AHa)
theorem Ic(H:AFp ty φ E h w)(hE:∀ b,¬ E b){en:Nat}{ei:TI}(hty:ty.get en=some ei)(TE:AGD P en ei)(hes:0<ei.size)(hz:ei.zero.length=ei.size)
  {base base':Option ACS}{sl sc sc' n:Nat}(hs:AFm φ (.slice base sl sc) (.slice base' sl sc')){AHE:Bool}{x':IN}{AGR:Sem (Array IN)}{news news':List IN}
  (hn:AF3 φ news news')(hnl:news.length=n*ei.size)(AIw:∀ w':zP,w'.heap=w.heap->AGR.run P w'=.ok ⟨news'⟩ w')
  (hr:(∃ k,sl+n<=sc/\k=(match base with
    |none=>(.ok (.slice none (sl+n) sc) h:R)
    |some a=>C1 (FH a (sl*ei.size)) news h fun h=>.ok (.slice (some a) (sl+n) sc) h)/\k=.ok v h')\/
   (sc<sl+n/\yl (zi (yg (sl+n)) (yg ei.bytes)) Jk=true/\Bc news=true/\
    ∃ AMP:List IN->R,BP h ei.size (.slice base sl sc) sl AMP=.ok v h'/\∀ olds,AMP olds=.ok v h'->∃ (t:VT) (m:Nat),(∀ j,j<(olds++news).length->t.get j=(olds++news).getD j undef)/\
     m=(olds++news).length/\E7 ei.size en base sc (sl+n) t m h=.ok v h')):
  Bq ty φ E h w v h' ((CY en ei.size base' (.slice base' sl sc') sl sc' n AHE x' AGR).run P w):=by
 obtain⟨inf,AHi,hsz,hbt,_⟩:=TE.info;obtain⟨z,_,hzr,hzc,hzp⟩:=TE.AGq hz;have hzs:z.cells.size=ei.size:=by rw[<- hz,<- hzc];simp
 rcases hr with ⟨k,hle,rfl,hr⟩|⟨hlt,AJJ,hone,AMP,hr,hG⟩
 ·cases hs with
  |AGW=>
   cases hr;have:n=0:=by omega
   subst this;have key:(CY en ei.size none (.slice none 0 0) 0 0 0 AHE x' AGR).run P w=.ok (.slice none 0 0) w:=by
    simp only[CY,IT,if_true,ym,AIw w rfl,ye,yn]
   rw[key];exact .same H .AGW
  |@slice a a' _ _ _ hlc hs=>
   simp only at hr;have h0:sc=0->news=[]:=fun h0=>AAy.1 (by
    have:n=0:=by omega
    rw[hnl,this,AAw])
   obtain⟨h1,w1,hk,hrun,H1,ev⟩:=Yj (P:=P) H hE hs h0 hr hn;cases hk;have hcc:sl+n<=sc':=zO hle hs.le;have key:(CY en ei.size (some a') (.slice (some a') sl sc') sl sc' n AHE x' AGR).run P w=.ok (.slice (some a') (sl+n) sc') w1:=by
    simp only[CY,hcc,if_true,ym,AIw w rfl,ye,hrun,yn]
   rw[key];exact⟨_,_,φ,rfl,.slice hle hs,H1,ev⟩
 ·have hs0:=hs
  obtain⟨olds,AHI,hr,ho,hrun,hl1,hl2,hcell⟩:=GH (P:=P) H (fun _ _ _ _=>hE _) hs hr (fun m hm=>by cases hm;exact IT _);obtain⟨tr,tn,hT,hN,hr⟩:=hG olds hr;have AJK:=In hn hone;obtain⟨hm1,hm2⟩:=Vq AJJ;have hol:olds.length=sl*ei.size:=by
   rw[<- ho.length];cases base' with
   |none=>cases hs;have:=hrun w rfl;simp only[zf,yn]at this;cases this;simp
   |some a'=>exact hl1 a' sl sc' rfl
  have AKu:(olds++news).length=(sl+n)*ei.size:=by rw[No,hol,hnl,AB1]
  obtain⟨AKv,AJL⟩:=aK (P:=P) H hE hty hes hs hlt ho hn hol AKu AJK (fun a a' ha ha' hpos=>hcell a sl sc (by rw[ha]) hpos) hT hN hr;rcases zD sc' (sl+n)with hroom|hroom
  ·
   let q:Question:=.appendCap (sl+n) sc' en
   let c:Nat:=q.cut (w.tape w.drawn q)
   let w1:zP:={w with drawn:=w.drawn+1}
   have hc:sl+n<=c:=Nat.le_add_right _ _;have hrl:(Bb z.cells.toList (c - (sl+n))).length=(c - (sl+n))*ei.size:=by rw[GF];simp[hzs]
   obtain⟨ψ,hv,H2,ev⟩:=AKv c (Bb z.cells.toList (c - (sl+n))) hc hrl {w1 with heap:=w.heap.push (.cells ⟨(AHI++news')++Bb z.cells.toList (c - (sl+n))⟩ en)} hroom rfl rfl rfl rfl;have AHp:¬ ((sl+n:Nat):Int) > AAh.max:=by
    have:AAh.max=9223372036854775807:=by decide
    rw[this];omega
   have hnx:¬ (AAk (sl+n) sc'*ei.bytes > 2 ^ 48):=by
    have h1:=jI hroom;have h2:AAk (sl+n) sc'*ei.bytes<=(2*(sl+n))*ei.bytes:=ACP _ h1;have h3:(2*(sl+n))*ei.bytes<=(2*(sl+n+1))*(ei.bytes+1):=AC4 (by omega) (by omega);have h4:(2*(sl+n+1))*(ei.bytes+1)=2*((sl+n+1)*(ei.bytes+1)):=by rw[Nat.mul_assoc]
    omega
   have AKw:¬ (sl+n<=sc'):=by omega
   have key:(CY en ei.size base' (.slice base' sl sc') sl sc' n AHE x' AGR).run P w=.ok (.slice (some ⟨w.heap.size,0,none⟩) (sl+n) c)
     {w1 with heap:=w.heap.push (.cells ⟨(AHI++news')++Bb z.cells.toList (c - (sl+n))⟩ en)}:=by
    have ho1:=hrun w1 rfl;have hn1:=AIw w1 rfl;have AHJ:q.forced=false:=rfl;simp only[CY,AKw,if_false,ym,run_typeInfo _ AHi,ye,AHp,false_and,yn,hbt,hnx,ACD,run_choose,AHJ,zT,run_askRoom];show((zf ei.size sl (.slice base' sl sc')).run P w1).andThen _=_;rw[ho1];simp only[ye];show(AGR.run P w1).andThen _=_;rw[hn1];have AJM:∀ a b:List IN,(⟨a⟩:Array IN)++(⟨b⟩:Array IN)=⟨a++b⟩:=fun a b=>by apply zz;simp
    simp only[ye,hzr,HE,AB3,ym,run_newObj,yn,AJM];rfl
   rw[key];exact⟨_,_,ψ,rfl,hv,H2,ev⟩
  ·
   cases base' with
   |none=>cases hs;omega
   |some a'=>
    obtain⟨w',ψ,hst,hv,H2,ev⟩:=AJL a' rfl hroom;have key:(CY en ei.size (some a') (.slice (some a') sl sc') sl sc' n AHE x' AGR).run P w=.ok (.slice (some a') (sl+n) sc') w':=by
     simp only[CY,hroom,if_true,ym,AIw w rfl,ye,hst,yn]
    rw[key];exact⟨_,_,ψ,rfl,hv,H2,ev⟩
theorem KJ{ats:Array zZ}{dt st t el:zZ}(h0:ats[0]? =some dt)(h1:ats[1]? =some st){ti xi:TI}(T:AGD P dt ti)(hk:ti.k=.slice el)(TX:AGD P st xi)(hx:(∃ q,xi.k=.slice q)\/xi.k=.string){ei:TI}(TE:AGD P el ei){base:Option ACS}{sl sc n:Nat}{x:IN}
  (hn:(ACu x).run P w=.ok n w):
  (AAu ats t #[.slice base sl sc,x]).run P w=(CY el ei.size base (.slice base sl sc) sl sc n false x (zf ei.size n x)).run P w:=by
 obtain⟨d,hd,hkd⟩:=T.desc;rw[hk]at hkd;cases hkd;obtain⟨dx,hdx,hkx⟩:=TX.desc;rcases hx with ⟨q,hx⟩|hx<;>rw[hx]at hkx<;>cases hkx<;>
 ·unfold AAu CY
  simp only[ym,hd,ye,TE.size,yn,h0,h1,zN,zW,zk,hdx,zT,if_false,hn,Bool.not_false,if_true];rfl
theorem Mx(H:AFp ty φ E h w)(hE:∀ b,¬ E b){s x:O}{s' x':IN}{ats:Array zZ}{dt st t el:zZ}(h0:ats[0]? =some dt)(h1:ats[1]? =some st){ti xi ei:TI}(T:AGD P dt ti)(hk:ti.k=.slice el)(TX:AGD P st xi)(hxk:(∃ q,xi.k=.slice q)\/xi.k=.string)
  (hty:ty.get el=some ei)(TE:AGD P el ei)(hes:0<ei.size)(hz:ei.zero.length=ei.size)
  (hs:AFm φ (s e) s')(hx:AFm φ (x e) x')(hr:Bp ei.size ei.bytes el s x F e h=.ok v h'):Bq ty φ E h w v h' ((AAu ats t #[s',x']).run P w):=by
 unfold Bp Dr at hr;split at hr
 case h_2=>cases hr
 rename_i base sl sc hse;rw[hse]at hs;split at hr
 case h_2=>cases hr
 rename_i n hn;obtain⟨news,news',hr,hnr,hrun,hl1,hl2,_⟩:=GH (P:=P) H (fun _ _ _ _=>hE _) hx hr (fun m hm=>by rw[hn]at hm;cases hm;exact IT _);rw[Ao]at hr;have hlen:=Qx (P:=P) (w:=w) hx hn;have hb:∃ base' sc',s'=.slice base' sl sc':=by
  cases hs
  ·exact⟨_,_,rfl⟩
  ·exact⟨_,_,rfl⟩
 obtain⟨base',sc',rfl⟩:=hb;rw[KJ h0 h1 T hk TX hxk TE hlen];have hnl:news.length=n*ei.size:=by
  rw[<- hnr.length];cases x' with
  |string s=>obtain⟨q1,q2⟩:=hl2 s rfl;rw[q1,q2,Nat.mul_one]
  |slice a l c=>
   cases a with
   |some a=>exact hl1 a l c rfl
   |none=>
    have:=hrun w rfl;simp only[zf,yn]at this;cases this;have hn0:n=0:=by
     generalize x e=xv at hx hn;cases hx
     ·unfold lenV at hn;cases hn;rfl
     ·unfold lenV at hn;cases hn
    rw[hn0];simp
  |_=>have:=hrun w rfl;simp only[zf]at this;cases this
 refine Ic (P:=P) H hE hty TE hes hz hs hnr hnl hrun ?_;split at hr
 ·rename_i hb
  refine .inl ⟨_,Av.1 hb,rfl,?_⟩;exact hr
 ·rename_i hb
  obtain⟨hm,hr⟩:=Bx hr;obtain⟨hone,hr⟩:=Bx hr;refine .inr ⟨?_,hm,hone,Qb hr⟩;rcases zD sc (sl+n)with h|h
  ·exact h
  ·exact absurd (Av.2 (show AAB sl n<=sc from h)) (by rw[hb];simp)
theorem LZ{ats:Array zZ}{dt st t el:zZ}(h0:ats[0]? =some dt)(h1:ats[1]? =some st){ti xi:TI}(T:AGD P dt ti)(hk:ti.k=.slice el)(TX:AGD P st xi){q:yy}(hx:xi.k=.int q){ei:TI}(TE:AGD P el ei){base:Option ACS}{sl sc n:Nat}{q':yy}
  (hn1:n<=70368744177664)(hn2:n*ei.bytes<=70368744177664):
  (AAu ats t #[.slice base sl sc,.int q' (n:Nat)]).run P w=(CY el ei.size base (.slice base sl sc) sl sc n true (.int q' (n:Nat))
   (if n*ei.size=0 then pure #[]else do pure (ACF (<- zeroValue el).cells n))).run P w:=by
 obtain⟨d,hd,hkd⟩:=T.desc;rw[hk]at hkd;cases hkd;obtain⟨dx,hdx,hkx⟩:=TX.desc;rw[hx]at hkx;cases hkx;obtain⟨inf,AHi,hsz,hbt,_⟩:=TE.info;have w1:AAh.wrap (n:Int)=n:=H0 (by omega);have q0:¬ ((n:Int)<0):=by omega
 have q1:¬ ((n:Int)*(ei.bytes:Int) > 2 ^ 48):=by rw[<- AEZ];omega
 unfold AAu CY;simp only[ym,hd,ye,TE.size,yn,zN,zW,zk,h0,h1,hdx,if_true,asInt,asIntOf,w1,q0,if_false,run_typeInfo _ AHi,hbt,q1,zt,Bool.not_true,zT];rfl
theorem RA(H:AFp ty φ E h w)(hE:∀ b,¬ E b){s x:O}{s' x':IN}{ats:Array zZ}{dt st t el:zZ}(h0:ats[0]? =some dt)(h1:ats[1]? =some st){ti xi ei:TI}(T:AGD P dt ti)(hk:ti.k=.slice el)(TX:AGD P st xi){q:yy}(hxk:xi.k=.int q)
  (hty:ty.get el=some ei)(TE:AGD P el ei)(hes:0<ei.size)(hz:ei.zero.length=ei.size)
  (hs:AFm φ (s e) s')(hx:AFm φ (x e) x')(hr:Fe ei.size ei.bytes el ei.zero s x F e h=.ok v h'):Bq ty φ E h w v h' ((AAu ats t #[s',x']).run P w):=by
 unfold Fe H4 at hr;split at hr
 case h_2=>cases hr
 rename_i base sl sc hse;rw[hse]at hs;split at hr
 case h_2=>cases hr
 rename_i n hn;obtain⟨q',rfl⟩:=FB hx hn;rw[Ao]at hr;have hb:∃ base' sc',s'=.slice base' sl sc':=by
  cases hs
  ·exact⟨_,_,rfl⟩
  ·exact⟨_,_,rfl⟩
 obtain⟨base',sc',rfl⟩:=hb;obtain⟨hm,hr⟩:=Bx hr;obtain⟨hone,hr⟩:=Bx hr;obtain⟨hm1,hm2⟩:=Vq hm;have AMC:sl+n<=70368744177664:=hm1;have AMD:(sl+n+1)*(ei.bytes+1)<=70368744177664:=hm2;have hnb:n*ei.bytes<=(sl+n+1)*(ei.bytes+1):=AC4 (by omega) (by omega);rw[LZ h0 h1 T hk TX hxk TE (by omega) (by omega)];obtain⟨z,_,hzr,hzc,hzp⟩:=TE.AGq hz;have hzs:z.cells.size=ei.size:=by rw[<- hz,<- hzc];simp
 have AGK:AF3 φ (Bb ei.zero n) (Bb ei.zero n):=Hw (.plain hzp) n;have hnl:(Bb ei.zero n).length=n*ei.size:=by rw[GF,hz]
 have AJN:Bc (Bb ei.zero n)=true:=by
  have app:∀ a b:List IN,Bc a=true->Bc b=true->Bc (a++b)=true:=by
   intro a
   induction a with
   |nil=>intro b _ h;exact h
   |cons u a ih=>
    intro b h1 h2;unfold Bc at h1;cases hu:oneCell u with
    |false=>rw[hu]at h1;cases h1
    |true=>
     rw[hu]at h1;show(bif oneCell u then Bc (a++b)else false)=true;rw[hu];exact ih b h1 h2
  have:∀ n,Bc (Bb ei.zero n)=true:=by
   intro n
   induction n with
   |zero=>rfl
   |succ n ih=>exact app _ _ hone ih
  exact this n
 refine Ic (P:=P) H hE hty TE hes hz hs AGK hnl (fun w' _=>?_) ?_
 ·by_cases h0:n*ei.size=0
  ·rw[if_pos h0]
   have:Bb ei.zero n=[]:=AAy.1 (by rw[hnl,h0]);rw[this];rfl
  ·rw[if_neg h0]
   simp only[ym,hzr,ye,HE,hzc,yn]
 ·split at hr
  ·rename_i hb
   exact .inl ⟨_,Av.1 hb,rfl,hr⟩
  ·rename_i hb
   refine .inr ⟨?_,hm,AJN,Qb hr⟩;rcases zD sc (sl+n)with h|h
   ·exact h
   ·exact absurd (Av.2 (show AAB sl n<=sc from h)) (by rw[hb];simp)
end
end
end Go.Proofs.YtbjadbhkogcfeaaGreat

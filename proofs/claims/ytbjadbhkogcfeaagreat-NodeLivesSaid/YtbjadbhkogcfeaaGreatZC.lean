/-
  Part ZC of what Lawnl stands on: printed by program, names and spaces cut.
-/
import Derived.Test.YtbjadbhkogcfeaaGreatZB
import GoSem.Dispatch
import Derived.WideShapes
import Derived.Sort.Walk0
open Go renaming Value→IN,IntKind→xc,Operand→yF,World→yJ,TypeId→yL,Program→yg,newRow→ABU,Addr→ABy,BinOp→ADG
open Nat renaming le_refl→IT,succ→xM,ble→xU,beq→xW,lt_or_ge→xx,zero_le→yC,mul→yK,le_trans→yO,eq_zero_or_pos→yV,blt→ye,add_zero→yy,add→zA,beq_refl→zG,zero_mul→AAD,mod_eq_of_lt→AAU,succ_mul→AAd,le_of_eq→AA2,min_le_left→ABC,add_mul→ABY,not_lt→ABi,le_mul_of_pos_right→ACH,succ_ne_zero→AC9,sub_zero→ADg
open Go.Result renaming andThen_ok→If,ok→ADe
open List renaming getElem?_eq_getElem→xL,length_cons→xP,append_nil→xZ,getElem?_append_left→xa,getElem?_append_right→xn,getElem?_toArray→xu,getElem?_cons_zero→yA,getElem?_cons_succ→yW,getElem?_map→yk,getElem?_eq_none→zB,extract_eq_take_drop→AAc,length_eq_zero_iff→AAv
open Go.Sem renaming run_bind→xO,run_pure→xQ,run_ite→AA0
open Bool renaming and_eq_true→xk,false_eq_true→yG,eq_iff_iff→zH,rec→AAF,not_eq_true'→ABV,or_eq_false_iff→ACb
open Go.Builtin renaming firstCells→yY,nextslicecap→AAA,growBy→AAT,copy_→AAg,lenOf→AC6
open Int renaming toNat_natCast→yh,ofNat_eq_natCast→zN,rec→AAW
open Array renaming ext'→yj,range→ABB
open Option renaming map_some→yx,isSome_iff_exists→ABm,map_none→ACp
open Go.Instr renaming sliceAt→zE,sliceBounds→za,indexAt→AAJ,loadAt→AAX,build→AAk,buildSlice→AAm,makeSlice→AAu,makeInterface→AA8,index→AA9,extract→ABT,fill→ABx,fieldAt→AB4,arrayAt→AB5,slice→ACY,sliceBound→ACw,storeAt→ADM,field→ADX,alloc→ADY
open Go.IntKind renaming i64→zU,u8→ABq
open Std renaming lt_irrefl→ABP,lt_trichotomy→ACz,lt_trans→ADd
open UInt8 renaming lt_iff_toNat_lt→ACE,toNat_inj→ACx
open Go.Op renaming unary→ACN,bytesLess→ADq,stringOp→ADx,intArith→ADy,intBits→AD6
open BitVec renaming toNat_xor→ACo,ofInt→ADO
open Go.Value renaming bool→ADb
open Go.ByteArray renaming toList_eq→AD9
set_option linter.unusedVariables false
set_option linter.unusedSimpArgs false
namespace Go.Proofs.YtbjadbhkogcfeaaGreat
noncomputable section
open Go
section
variable {P:yg}{ty:TTy}{φ:Phi}{E:Nat->Prop}{h h':Hp}{w:yJ}{F:AEB}{e:Env}{v:IN}
theorem Iq{b:Bool}(hr:okB b h=.ok v h'):v=.bool b/\h'=h:=by cases b<;>cases hr<;>exact⟨rfl,rfl⟩
theorem Eq(k:xc)(n:Int)(h:Hp):okI k n h=.ok (.int k n) h:=by
 cases n with
 |ofNat m=>cases m<;>rfl
 |negSucc m=>show AEV m (fun m=>R.ok (.int k (.negSucc m)) h)=_;rw[Ao]
theorem Er{k:xc}{n:Int}(hr:okI k n h=.ok v h'):v=.int k n/\h'=h:=by
 rw[Eq]at hr;cases hr;exact⟨rfl,rfl⟩
theorem rA(a b:Nat):iLt (.ofNat a) (.ofNat b)=ye a b:=rfl
theorem qz(a b:Nat):iLt (.ofNat a) (.negSucc b)=false:=rfl
theorem qy(a b:Nat):iLt (.negSucc a) (.ofNat b)=true:=rfl
theorem qx(a b:Nat):iLt (.negSucc a) (.negSucc b)=ye b a:=rfl
theorem qv(a b:Nat):iEq (.ofNat a) (.ofNat b)=xW a b:=rfl
theorem qu(a b:Nat):iEq (.ofNat a) (.negSucc b)=false:=rfl
theorem qt(a b:Nat):iEq (.negSucc a) (.ofNat b)=false:=rfl
theorem qr(a b:Nat):iEq (.negSucc a) (.negSucc b)=xW a b:=rfl
theorem DB(a b:Int):iLt a b=decide (a<b):=by
 cases a<;>cases b<;>simp only[rA,qz,qy,qx]
 ·rename_i a b
  rw[zH,BW,decide_eq_true_iff];exact Int.ofNat_lt.symm
 ·simp only[zN];symm;rw[decide_eq_false_iff_not];omega
 ·simp only[zN];symm;rw[decide_eq_true_iff];omega
 ·rename_i a b
  rw[zH,BW,decide_eq_true_iff];omega
theorem DZ(a b:Int):iEq a b=(a == b):=by
 cases a<;>cases b<;>simp only[qv,qu,qt,qr]
 ·rename_i a b
  rw[zH,Ax,beq_iff_eq];simp only[zN];omega
 ·simp only[zN];symm;rw[beq_eq_false_iff_ne];omega
 ·simp only[zN];symm;rw[beq_eq_false_iff_ne];omega
 ·rename_i a b
  rw[zH,Ax,beq_iff_eq];omega
theorem cT(k:xc):((BG k:Nat):Int)<2 ^ k.bits/\(k.signed=true->((BG k:Nat):Int)<2 ^ (k.bits - 1)):=by
 cases k<;>decide
theorem DN(k:xc)(m:Nat)(h:m<=BG k):k.wrap (m:Int)=m:=by
 have h1:=cT k;unfold IntKind.wrap;have e:((m:Int)) % (2 ^ k.bits:Int)=m:=Int.emod_eq_of_lt (by omega) (by omega);rw[e];simp only;rw[if_neg];intro hh;simp only[xk,decide_eq_true_eq]at hh;have:=h1.2 hh.1;omega
theorem C9(k:xc)(n:Int):EX k n=k.wrap n:=by
 cases n with
 |ofNat m=>
  show AAF (motive:=fun _=>Int) (k.wrap (.ofNat m)) (.ofNat m) (xU m (BG k))=_;cases hb:xU m (BG k)with
  |false=>rfl
  |true=>exact(DN k m (Au.1 hb)).symm
 |negSucc m=>rfl
theorem Ho{a b:xc}(h:Fi a b=true):b=a:=by
 have:=Ax.1 h;cases a<;>cases b<;>first|rfl|(exact absurd this (by decide))
theorem FH{k:xc}{x:IN}{n:Int}(h:Cg k x=.ok n):x=.int k n:=by
 cases x<;>first|(cases h;done)|skip
 rename_i q m;have h:AAF (motive:=fun _=>NI) .no (.ok m) (Fi k q)=.ok n:=h;cases hs:Fi k q with
 |false=>rw[hs]at h;cases h
 |true=>rw[hs]at h;cases h;rw[Ho hs]
theorem iU{k:xc}{x:IN}{n:Nat}(h:Fq k x=.ok n):x=.int k n:=by
 cases x<;>first|(cases h;done)|skip
 rename_i q m;have h:AAF (motive:=fun _=>NN) .no (AAW (motive:=fun _=>NN) (fun m=>.ok m) (fun _=>.no) m) (Fi k q)=.ok n:=h;cases hs:Fi k q with
 |false=>rw[hs]at h;cases h
 |true=>
  rw[hs]at h;cases m with
  |ofNat m=>cases h;rw[Ho hs];rfl
  |negSucc m=>cases h
theorem VV{x:IN}{n:Int}(h:Xj x=.ok n):∃ k,x=.int k n:=by
 cases x<;>first|(cases h;done)|(cases h;exact⟨_,rfl⟩)
theorem iV{x:IN}{n:Nat}(h:DG x=.ok n):∃ k,x=.int k n:=by
 cases x<;>first|(cases h;done)|skip
 rename_i q m;cases m with
 |ofNat m=>cases h;exact⟨_,rfl⟩
 |negSucc m=>cases h
theorem Hu{x:IN}{a:ABy}(h:Ds x=.ok a):x=.pointer (some a):=by
 cases x<;>first|(cases h;done)|skip
 rename_i o;cases o with
 |none=>cases h
 |some a=>cases h;rfl
theorem AED.AEk{k:xc}{n:Int}{x:IN}(h:AED φ (.int k n) x):x=.int k n:=by cases h;rfl
theorem AED.AE4{b:Bool}{x:IN}(h:AED φ (.bool b) x):x=.bool b:=by cases h;rfl
theorem AED.AEa{s:ByteArray}{x:IN}(h:AED φ (.string s) x):x=.string s:=by cases h;rfl
theorem AED.AFG{a:ABy}{x:IN}(h:AED φ (.pointer (some a)) x):∃ a',x=.pointer (some a')/\AFT φ a a':=by
 cases h with|ptr h=>exact⟨_,rfl,h⟩
def Bu(op:ADG)(t:yL)(X Y:yF)(a b:IN):Sem IN:=do eqGuard op t X Y a b;binOp op t a b
theorem FQ(op:ADG)(t:yL)(X Y:yF)(j k:xc)(m n:Int):(eqGuard op t X Y (.int j m) (.int k n)).run P w=.ok () w:=by cases op<;>rfl
theorem Nu(op:ADG)(t:yL)(X Y:yF)(m n:ByteArray):(eqGuard op t X Y (.string m) (.string n)).run P w=.ok () w:=by cases op<;>rfl
theorem Q3(H:AEI ty φ E h w){x:O}{x':IN}(hx:AED φ (x e) x')(hr:AQ x F e h=.ok v h'):Bd ty φ E h w v h' (.ok x' w):=by
 unfold AQ at hr;rw[E6]at hr;cases hr;exact .same H hx
theorem ay(H:AEI ty φ E h w){c a b:O}{c' a' b':IN}(hc:AED φ (c e) c')(ha:AED φ (a e) a')(hb:AED φ (b e) b')(hr:A5 c a b F e h=.ok v h'):
  Bd ty φ E h w v h' ((do pure (if <- asBool c' then a' else b'):Sem IN).run P w):=by
 unfold A5 at hr;cases hce:c e with
 |bool t=>
  rw[hce]at hr hc;obtain rfl:=hc.AE4;cases t with
  |false=>
   have hr:AFS (b e) h=.ok v h':=hr;rw[E6]at hr;cases hr;exact .same H hb
  |true=>
   have hr:AFS (a e) h=.ok v h':=hr;rw[E6]at hr;cases hr;exact .same H ha
 |_=>rw[hce]at hr;cases hr
theorem pp(H:AEI ty φ E h w){f:Int->Int->Bool}{k:xc}{x y:O}{x' y':IN}(hx:AED φ (x e) x')(hy:AED φ (y e) y')(hr:Ah f k x y F e h=.ok v h'):
  ∃ m n,x'=.int k m/\y'=.int k n/\v=.bool (f m n)/\h'=h:=by
 unfold Ah fC at hr;cases h1:Cg k (x e)with
 |no=>rw[h1]at hr;cases hr
 |ok m=>
  cases h2:Cg k (y e)with
  |no=>rw[h1,h2]at hr;cases hr
  |ok n=>
   rw[h1,h2]at hr;rw[FH h1]at hx;rw[FH h2]at hy;obtain⟨r1,r2⟩:=Iq hr;exact⟨m,n,hx.AEk,hy.AEk,r1,r2⟩
theorem IC(H:AEI ty φ E h w){f:Int->Int->Bool}{op:ADG}(hop:(f=iEq/\op=.eql)\/(f=iNe/\op=.neq)\/(f=iLt/\op=.lss)\/(f=iLe/\op=.leq)\/(f=iGt/\op=.gtr)\/(f=iGe/\op=.geq))
  {k:xc}{x y:O}{x' y':IN}{t:yL}{X Y:yF}(hx:AED φ (x e) x')(hy:AED φ (y e) y')(hr:Ah f k x y F e h=.ok v h'):Bd ty φ E h w v h' ((Bu op t X Y x' y').run P w):=by
 obtain⟨m,n,rfl,rfl,rfl,rfl⟩:=pp H hx hy hr;have key:(Bu op t X Y (.int k m) (.int k n)).run P w=.ok (.bool (f m n)) w:=by
  unfold Bu;rw[xO,FQ,If];rcases hop with ⟨rfl,rfl⟩|⟨rfl,rfl⟩|⟨rfl,rfl⟩|⟨rfl,rfl⟩|⟨rfl,rfl⟩|⟨rfl,rfl⟩<;>
   simp only[binOp,ne_eq,not_true_eq_false,if_false,Op.intCmp,xQ,ADe.injEq,ADb.injEq,and_true,iNe,iLe,iGt,iGe,DB,DZ]
  ·rfl
  ·rw[zH];simp only[decide_eq_true_iff,ABV,decide_eq_false_iff_not];omega
  ·rw[zH];simp only[decide_eq_true_iff,ABV,decide_eq_false_iff_not];omega
 rw[key];exact .same H (.bool _)
theorem WL{k:xc}{x y:O}{x' y':IN}(hx:AED φ (x e) x')(hy:AED φ (y e) y'){g:Int->Int->R}{r:R}
  (hr:NI.rec (motive:=fun _=>R) .no (fun a=>NI.rec (motive:=fun _=>R) .no (fun b=>g a b) (Cg k (y e))) (Cg k (x e))=r)(hne:r≠.no):
  ∃ m n,x'=.int k m/\y'=.int k n/\g m n=r:=by
 cases h1:Cg k (x e)with
 |no=>rw[h1]at hr;exact absurd hr.symm hne
 |ok m=>
  cases h2:Cg k (y e)with
  |no=>rw[h1,h2]at hr;exact absurd hr.symm hne
  |ok n=>
   rw[h1,h2]at hr;rw[FH h1]at hx;rw[FH h2]at hy;exact⟨m,n,hx.AEk,hy.AEk,hr⟩
theorem Vn(H:AEI ty φ E h w){f:Int->Int->Int}{op:ADG}(hop:(f=Int.sub/\op=.sub)\/(f=Int.mul/\op=.mul))
  {k:xc}{x y:O}{x' y':IN}{t:yL}{X Y:yF}(hx:AED φ (x e) x')(hy:AED φ (y e) y')(hr:C1 f k x y F e h=.ok v h'):Bd ty φ E h w v h' ((Bu op t X Y x' y').run P w):=by
 obtain⟨m,n,rfl,rfl,hg⟩:=WL hx hy hr (by intro h;cases h);obtain⟨rfl,rfl⟩:=Er hg;have key:(Bu op t X Y (.int k m) (.int k n)).run P w=.ok (.int k (EX k (f m n))) w:=by
  unfold Bu;rw[xO,FQ,If,C9];rcases hop with ⟨rfl,rfl⟩|⟨rfl,rfl⟩<;>
   simp only[binOp,ne_eq,not_true_eq_false,if_false,ADy,xQ]<;>rfl
 rw[key];exact .same H (.int _ _)
theorem AFE{k:xc}{a b:Int}(hr:AAW (motive:=fun _=>R) (fun x=>AAW (motive:=fun _=>R)
   (fun y=>AAF (motive:=fun _=>R) (okI k (k.wrap (a+b)) h) (AEV (zA x y) fun n=>.ok (.int k (.ofNat n)) h) (xU (zA x y) (BG k)))
   (fun _=>okI k (EX k (a+b)) h) b)
   (fun _=>okI k (EX k (a+b)) h) a=.ok v h'):v=.int k (k.wrap (a+b))/\h'=h:=by
 cases a with
 |negSucc a=>
  have:=Er hr;rw[C9]at this;exact this
 |ofNat a=>
  cases b with
  |negSucc b=>have:=Er hr;rw[C9]at this;exact this
  |ofNat b=>
   simp only at hr;cases hb:xU (zA a b) (BG k)with
   |false=>rw[hb]at hr;exact Er hr
   |true=>
    rw[hb]at hr;simp only[Ao]at hr;cases hr;refine⟨?_,rfl⟩;have:=DN k (a+b) (Au.1 hb);simp only[zN];rw[<- Int.natCast_add,this];rfl
theorem ia(H:AEI ty φ E h w){k:xc}{x y:O}{x' y':IN}{t:yL}{X Y:yF}(hx:AED φ (x e) x')(hy:AED φ (y e) y')(hr:CI k (BG k) x y F e h=.ok v h'):
  Bd ty φ E h w v h' ((Bu .add t X Y x' y').run P w):=by
 obtain⟨m,n,rfl,rfl,hg⟩:=WL hx hy hr (by intro h;cases h);obtain⟨rfl,rfl⟩:=AFE hg;have key:(Bu .add t X Y (.int k m) (.int k n)).run P w=.ok (.int k (k.wrap (m+n))) w:=by
  unfold Bu;rw[xO,FQ,If];simp only[binOp,ne_eq,not_true_eq_false,if_false,ADy,xQ]
 rw[key];exact .same H (.int _ _)
theorem QU{n:Int}(hb:iEq n 0=false):n≠0:=by
 rw[DZ]at hb;simpa using hb
theorem i7(H:AEI ty φ E h w){k:xc}{x y:O}{x' y':IN}{t:yL}{X Y:yF}(hx:AED φ (x e) x')(hy:AED φ (y e) y')(hr:LL k x y F e h=.ok v h'):
  Bd ty φ E h w v h' ((Bu .quo t X Y x' y').run P w):=by
 unfold LL ZX at hr;split at hr
 case h_2=>cases hr
 rename_i m h1;split at hr
 case h_2=>cases hr
 rename_i n h2;rw[FH h1]at hx;rw[FH h2]at hy;obtain rfl:=hx.AEk;obtain rfl:=hy.AEk;cases hb:iEq n 0 with
 |true=>rw[hb]at hr;cases hr
 |false=>
  rw[hb]at hr;obtain⟨rfl,rfl⟩:=Er hr;have key:(Bu .quo t X Y (.int k m) (.int k n)).run P w=.ok (.int k (EX k (m.tdiv n))) w:=by
   unfold Bu;rw[xO,FQ,If,C9];simp only[binOp,ne_eq,not_true_eq_false,if_false,Op.intDiv,QU hb,xQ]
  rw[key];exact .same H (.int _ _)
theorem jN(H:AEI ty φ E h w){k:xc}{x y:O}{x' y':IN}{t:yL}{X Y:yF}(hx:AED φ (x e) x')(hy:AED φ (y e) y')(hr:PF k x y F e h=.ok v h'):
  Bd ty φ E h w v h' ((Bu .rem t X Y x' y').run P w):=by
 unfold PF bh at hr;split at hr
 case h_2=>cases hr
 rename_i m h1;split at hr
 case h_2=>cases hr
 rename_i n h2;rw[FH h1]at hx;rw[FH h2]at hy;obtain rfl:=hx.AEk;obtain rfl:=hy.AEk;cases hb:iEq n 0 with
 |true=>rw[hb]at hr;cases hr
 |false=>
  rw[hb]at hr;obtain⟨rfl,rfl⟩:=Er hr;have key:(Bu .rem t X Y (.int k m) (.int k n)).run P w=.ok (.int k (m.tmod n)) w:=by
   unfold Bu;rw[xO,FQ,If];simp only[binOp,ne_eq,not_true_eq_false,if_false,Op.intDiv,QU hb,xQ]
  rw[key];exact .same H (.int _ _)
theorem jL(H:AEI ty φ E h w){x:O}{x':IN}(hx:AED φ (x e) x')(hr:EI x F e h=.ok v h'):Bd ty φ E h w v h' ((ACN .not x').run P w):=by
 unfold EI at hr;split at hr
 ·rename_i b hb
  rw[hb]at hx;obtain rfl:=hx.AE4;obtain⟨rfl,rfl⟩:=Iq hr;exact .same H (.bool _)
 ·cases hr
theorem jH(H:AEI ty φ E h w){k:xc}{x:O}{x':IN}(hx:AED φ (x e) x')(hr:aq k x F e h=.ok v h'):Bd ty φ E h w v h' ((ACN .neg x').run P w):=by
 unfold aq at hr;split at hr
 ·rename_i n hn
  rw[FH hn]at hx;obtain rfl:=hx.AEk;obtain⟨rfl,rfl⟩:=Er hr;rw[C9];exact .same H (.int _ _)
 ·cases hr
theorem aU(H:AEI ty φ E h w){k:xc}{x:O}{x':IN}(hx:AED φ (x e) x')(hr:C6 k x F e h=.ok v h'):
  ∃ q n,x'=.int q n/\Bd ty φ E h w v h' ((Conv.intToInt k n).run P w):=by
 unfold C6 at hr;split at hr
 ·rename_i n hn
  obtain⟨q,hq⟩:=VV hn;rw[hq]at hx;obtain rfl:=hx.AEk;obtain⟨rfl,rfl⟩:=Er hr;rw[C9];exact⟨q,n,rfl,.same H (.int _ _)⟩
 ·cases hr
end
end
noncomputable section
open Go
section
variable {P:yg}{ty:TTy}{φ:Phi}{E:Nat->Prop}{h h':Hp}{w:yJ}{F:AEB}{e:Env}{v:IN}
def Jt:xc->Nat
 |.i8=>7|.i16=>15|.i32=>31|.i64=>63|.u8=>8|.u16=>16|.u32=>32|.u64=>64
theorem SD(k:xc):BG k+1=2 ^ Jt k:=by cases k<;>rfl
theorem Tm(k:xc):Jt k<=k.bits:=by cases k<;>decide
theorem Kf{k:xc}{a:Nat}(ha:a<=BG k):(ADO k.bits (a:Int)).toNat=a:=by
 have h1:=SD k;have h2:2 ^ Jt k<=2 ^ k.bits:=Nat.pow_le_pow_right (by omega) (Tm k);rw[BitVec.ofInt_natCast,BitVec.toNat_ofNat,AAU (by omega)]
theorem ES{x:O}{x':IN}(hx:AED φ (x e) x'){n:Nat}(h:DG (x e)=.ok n):∃ k,x'=.int k n:=by
 obtain⟨k,hk⟩:=iV h;rw[hk]at hx;exact⟨k,hx.AEk⟩
theorem Hg{k:xc}{x:O}{x':IN}(hx:AED φ (x e) x'){n:Nat}(h:Fq k (x e)=.ok n):x'=.int k n:=by
 rw[iU h]at hx;exact hx.AEk
theorem PB(H:AEI ty φ E h w){f:Nat->Nat->Nat}{op:ADG}(hop:(f=Nat.land/\op=.and)\/(f=Nat.lor/\op=.or)\/(f=Nat.xor/\op=.xor))
  {k:xc}{x y:O}{x' y':IN}{t:yL}{X Y:yF}(hx:AED φ (x e) x')(hy:AED φ (y e) y')(hr:Ka f k x y F e h=.ok v h'):Bd ty φ E h w v h' ((Bu op t X Y x' y').run P w):=by
 unfold Ka Yq at hr;split at hr
 case h_2=>cases hr
 rename_i a h1;split at hr
 case h_2=>cases hr
 rename_i b h2;obtain⟨ha,hr⟩:=Br hr;obtain⟨hb,hr⟩:=Br hr;obtain rfl:=Hg hx h1;obtain rfl:=Hg hy h2;obtain⟨rfl,rfl⟩:=Er hr;have ha:=Au.1 ha;have hb:=Au.1 hb;have ea:=Kf ha;have eb:=Kf hb;have ht:=SD k;have key:(Bu op t X Y (.int k a) (.int k b)).run P w=.ok (.int k (.ofNat (f a b))) w:=by
  unfold Bu;rw[xO,FQ,If];rcases hop with ⟨rfl,rfl⟩|⟨rfl,rfl⟩|⟨rfl,rfl⟩<;>
   simp only[binOp,ne_eq,not_true_eq_false,if_false,AD6,xQ,BitVec.toNat_and,BitVec.toNat_or,ACo,ea,eb]
  ·have:a &&& b<=BG k:=yO Nat.and_le_left ha
   rw[DN k _ this];rfl
  ·have:a ||| b<2 ^ Jt k:=Nat.or_lt_two_pow (by omega) (by omega)
   rw[DN k _ (by omega)];rfl
  ·have:a ^^^ b<2 ^ Jt k:=Nat.xor_lt_two_pow (by omega) (by omega)
   rw[DN k _ (by omega)];rfl
 rw[key];exact .same H (.int _ _)
theorem QS(op:ADG)(hop:op=.shl\/op=.shr)(t:yL)(X Y:yF)(a b:IN):(eqGuard op t X Y a b).run P w=.ok () w:=by
 rcases hop with rfl|rfl<;>rfl
theorem jP(H:AEI ty φ E h w){k:xc}{x y:O}{x' y':IN}{t:yL}{X Y:yF}(hx:AED φ (x e) x')(hy:AED φ (y e) y')(hr:NS k x y F e h=.ok v h'):
  Bd ty φ E h w v h' ((Bu .shl t X Y x' y').run P w):=by
 unfold NS bz at hr;split at hr
 case h_2=>cases hr
 rename_i a h1;split at hr
 case h_2=>cases hr
 rename_i b h2;obtain rfl:=Hg hx h1;obtain⟨q,rfl⟩:=ES hy h2;obtain⟨rfl,rfl⟩:=Er hr;have key:(Bu .shl t X Y (.int k a) (.int q b)).run P w=.ok (.int k (k.wrap (.ofNat (a*2 ^ (min b k.bits))))) w:=by
  unfold Bu;rw[xO,QS _ (.inl rfl),If];have:¬ ((b:Int)<0):=by omega
  simp only[binOp,Op.shift,this,if_false,xQ,yh];simp
 rw[key,C9,BV];exact .same H (.int _ _)
theorem jR(H:AEI ty φ E h w){k:xc}{x y:O}{x' y':IN}{t:yL}{X Y:yF}(hx:AED φ (x e) x')(hy:AED φ (y e) y')(hr:LM k x y F e h=.ok v h'):
  Bd ty φ E h w v h' ((Bu .shr t X Y x' y').run P w):=by
 unfold LM cA at hr;split at hr
 case h_2=>cases hr
 rename_i a h1;split at hr
 case h_2=>cases hr
 rename_i b h2;obtain rfl:=Hg hx h1;obtain⟨q,rfl⟩:=ES hy h2;obtain⟨rfl,rfl⟩:=Er hr;have key:(Bu .shr t X Y (.int k a) (.int q b)).run P w=.ok (.int k (.ofNat (a/2 ^ (min b k.bits)))) w:=by
  unfold Bu;rw[xO,QS _ (.inr rfl),If];have:¬ ((b:Int)<0):=by omega
  simp only[binOp,Op.shift,this,if_false,xQ,yh]
  congr 2
  have e2:((2:Int) ^ min b k.bits)=((2 ^ min b k.bits:Nat):Int):=by simp
  rw[e2,Int.fdiv_eq_ediv_of_nonneg _ (Int.natCast_nonneg _)];rfl
 rw[key,BV];exact .same H (.int _ _)
theorem Lt:∀ x y:List UInt8,bEq x y=(x == y)
 |[],[]=>rfl
 |[],_::_=>rfl
 |_::_,[]=>rfl
 |a::x,b::y=>by
  have ih:=Lt x y;unfold bEq;rw[ih,List.cons_beq_cons];cases hab:xW a.toNat b.toNat with
  |true=>
   have:a=b:=ACx.1 (Ax.1 hab);simp[this]
  |false=>
   have:a≠b:=fun h=>by rw[h]at hab;rw[zG]at hab;cases hab
   simp[this]
theorem Yn:∀ x y:List UInt8,bLt x y=ADq x y
 |[],[]=>rfl
 |[],_::_=>rfl
 |_::_,[]=>rfl
 |a::x,b::y=>by
  have ih:=Yn x y;unfold bLt ADq;rw[ih];cases hlt:ye a.toNat b.toNat with
  |true=>
   have:a<b:=ACE.2 (BW.1 hlt);simp[this]
  |false=>
   have:¬ a<b:=fun h=>by rw[BW.2 (ACE.1 h)]at hlt;cases hlt
   cases hab:xW a.toNat b.toNat with
   |true=>
    have:a=b:=ACx.1 (Ax.1 hab);simp[this]
   |false=>
    have h2:a≠b:=fun h=>by rw[h]at hab;rw[zG]at hab;cases hab
    simp[this,h2]
theorem wz{f:List UInt8->List UInt8->Bool}{x y:O}{x' y':IN}(hx:AED φ (x e) x')(hy:AED φ (y e) y')(hr:Jg f x y F e h=.ok v h'):
  ∃ a b,x'=.string a/\y'=.string b/\v=.bool (f a.data.toList b.data.toList)/\h'=h:=by
 unfold Jg cJ at hr;split at hr
 case h_2=>cases hr
 rename_i a h1;split at hr
 case h_2=>cases hr
 rename_i b h2;rw[h1]at hx;rw[h2]at hy;obtain⟨r1,r2⟩:=Iq hr;exact⟨a,b,hx.AEa,hy.AEa,r1,r2⟩
theorem IE(H:AEI ty φ E h w){f:List UInt8->List UInt8->Bool}{op:ADG}
  (hop:(f=bEq/\op=.eql)\/(f=(fun a b=> !bEq a b)/\op=.neq)\/(f=bLt/\op=.lss)\/(f=(fun a b=>bLt b a)/\op=.gtr)\/(f=(fun a b=> !bLt b a)/\op=.leq)\/(f=(fun a b=> !bLt a b)/\op=.geq))
  {x y:O}{x' y':IN}{t:yL}{X Y:yF}(hx:AED φ (x e) x')(hy:AED φ (y e) y')(hr:Jg f x y F e h=.ok v h'):Bd ty φ E h w v h' ((Bu op t X Y x' y').run P w):=by
 obtain⟨a,b,rfl,rfl,rfl,rfl⟩:=wz hx hy hr;have key:(Bu op t X Y (.string a) (.string b)).run P w=.ok (.bool (f a.data.toList b.data.toList)) w:=by
  unfold Bu;rw[xO,Nu,If];rcases hop with ⟨rfl,rfl⟩|⟨rfl,rfl⟩|⟨rfl,rfl⟩|⟨rfl,rfl⟩|⟨rfl,rfl⟩|⟨rfl,rfl⟩<;>
   simp only[binOp,ADx,xQ,ADe.injEq,ADb.injEq,and_true,Lt,Yn,AD9]
  all_goals
   rw[bytesLess_eq,bytesLess_eq,zH];simp only[ABV,ACb,Bool.or_eq_true,decide_eq_true_iff,decide_eq_false_iff_not,beq_iff_eq,beq_eq_false_iff_ne]
  ·constructor
   ·rintro⟨h1,h2⟩
    rcases ACz a.data.toList b.data.toList with h|h|h
    ·exact absurd h h1
    ·exact absurd h h2
    ·exact h
   ·intro h
    exact⟨fun h2=>absurd (ADd h h2) (ABP),fun h2=>by rw[h2]at h;exact ABP h⟩
  ·constructor
   ·rintro (h1|h1) h
    ·exact ABP (ADd h h1)
    ·rw[h1]at h;exact ABP h
   ·intro h1
    rcases ACz a.data.toList b.data.toList with h|h|h
    ·exact .inl h
    ·exact .inr h
    ·exact absurd h h1
 rw[key];exact .same H (.bool _)
theorem HM{a:ByteArray}{l:List UInt8}(h:a.data.toList=l):a=⟨⟨l⟩⟩:=by
 cases a;rename_i d;cases d;simp at h;rw[h]
theorem ip(H:AEI ty φ E h w){x y:O}{x' y':IN}{t:yL}{X Y:yF}(hx:AED φ (x e) x')(hy:AED φ (y e) y')(hr:im x y F e h=.ok v h'):
  Bd ty φ E h w v h' ((Bu .add t X Y x' y').run P w):=by
 unfold im e9 at hr;split at hr
 case h_2=>cases hr
 rename_i a h1;split at hr
 case h_2=>cases hr
 rename_i b h2;rw[h1]at hx;rw[h2]at hy;obtain rfl:=hx.AEa;obtain rfl:=hy.AEa;obtain⟨hb,hr⟩:=Br hr;cases hr;have hb:=Au.1 hb;rw[Bf,Bf]at hb;have key:(Bu .add t X Y (.string a) (.string b)).run P w=.ok (.string (a++b)) w:=by
  unfold Bu;rw[xO,Nu,If];have e1:a.size=a.data.toList.length:=rfl;have e2:b.size=b.data.toList.length:=rfl;have:¬ ((a.size+b.size:Nat):Int) > zU.max:=by
   rw[e1,e2];have h1:zU.max=9223372036854775807:=by decide
   have h2:most=1099511627776:=rfl;rw[h1];rw[h2]at hb;have h3:a.data.toList.length+b.data.toList.length<=1099511627776:=hb;omega
  simp only[binOp,ADx,this,if_false,xQ]
 rw[key,<- HM (a:=a++b) (l:=a.data.toList++b.data.toList) (by simp)];exact .same H (.string _)
theorem iu(H:AEI ty φ E h w){x:O}{x':IN}(hx:AED φ (x e) x')(hr:aW x F e h=.ok v h'):Bd ty φ E h w v h' ((ACN .xor x').run P w):=by
 unfold aW at hr;split at hr
 ·rename_i n hn
  obtain rfl:=Hg hx hn;obtain⟨hb,hr⟩:=Br hr;have hb:=Au.1 hb;obtain⟨rfl,rfl⟩:=Er hr;have key:(ACN .xor (.int .u8 n)).run P w=.ok (.int .u8 (.ofNat (255 - n))) w:=by
   simp only[ACN,AD6,xQ,ACo];have ea:=Kf (k:=.u8) hb;have e1:(ADO ABq.bits (if ABq.signed then -1 else ABq.max)).toNat=255:=by decide
   rw[e1,ea];have e2:255 ^^^ n=255 - n:=by
    have:∀ n:Fin 256,255 ^^^ n.val=255 - n.val:=by decide +kernel
    exact this ⟨n,by omega⟩
   rw[e2,DN .u8 (255 - n) (by show _<=255;omega)];rfl
  rw[key];exact .same H (.int _ _)
 ·cases hr
end
end
noncomputable section
open Go
section
variable {P:yg}{ty:TTy}{φ:Phi}{E:Nat->Prop}{h h':Hp}{w:yJ}{F:AEB}{e:Env}{v:IN}
theorem Ft{x:O}{x':IN}(hx:AED φ (x e) x'){a:ABy}(h:Ds (x e)=.ok a):∃ a',x'=.pointer (some a')/\AFT φ a a':=by
 rw[Hu h]at hx;exact hx.AFG
theorem Gc(a:ABy):(Instr.sureAddr (.pointer (some a))).run P w=.ok a w:=rfl
theorem X5(H:AEI ty φ E h w){x:O}{x':IN}{t:yL}{ti:TI}(T:AEd P t ti)(AGc:ti.k.agg=false)(hx:AED φ (x e) x')
  (hE:∀ a,x e=.pointer (some a)->¬ E a.block)(hr:AO x F e h=.ok v h'):Bd ty φ E h w v h' ((AAX t x').run P w):=by
 unfold AO at hr;cases ha:Ds (x e)with
 |no=>rw[ha]at hr;cases hr
 |ok a=>
  rw[ha]at hr;obtain⟨a',rfl,hra⟩:=Ft hx ha;obtain⟨rfl,v',hc,hv⟩:=Qn H hr hra (hE a (Hu ha));have key:(AAX t (.pointer (some a'))).run P w=.ok v' w:=by
   simp only[AAX,xO,Gc,If,loadVar,T.agg,AGc,run_load,hc,yG,if_false]
  rw[key];exact .same H hv
theorem Qo(H:AEI ty φ E h w){n:Nat}{a a':ABy}(hr:loadN n a h=.ok v h')(ha:AFT φ a a')(hE:¬ E a.block):
  h'=h/\∃ l,AED φ v (.agg ⟨l⟩)/\(loadCells a' n).run P w=.ok l.toArray w:=by
 unfold loadN at hr;split at hr
 case h_2=>cases hr
 rename_i c s en hrow;obtain⟨hb,hr⟩:=Br hr;rw[F2,xZ]at hr;cases hr;obtain⟨l,hl,_,hrun,_⟩:=Qp H ha hE hrow (Au.1 hb);exact⟨rfl,l,.agg hl,hrun w rfl⟩
theorem X7(H:AEI ty φ E h w){x:O}{x':IN}{t:yL}{ti:TI}(T:AEd P t ti)(AGc:ti.k.agg=true)(hx:AED φ (x e) x')
  (hE:∀ a,x e=.pointer (some a)->¬ E a.block)(hr:BM ti.size x F e h=.ok v h'):Bd ty φ E h w v h' ((AAX t x').run P w):=by
 unfold BM at hr;split at hr
 case h_2=>cases hr
 rename_i a ha;obtain⟨a',rfl,hra⟩:=Ft hx ha;obtain⟨rfl,l,hv,hrun⟩:=Qo (P:=P) H hr hra (hE a (Hu ha));have key:(AAX t (.pointer (some a'))).run P w=.ok (.agg l.toArray) w:=by
  simp only[AAX,xO,Gc,If,loadVar,T.agg,AGc,T.size,hrun,if_true,xQ]
 rw[key];exact .same H hv
def Yd(ty:TTy)(φ:Phi)(E:Nat->Prop)(h:Hp)(w:yJ)(v:IN)(h':Hp)(r:Result Unit):Prop:=
 v=AEE/\∃ w',r=.ok () w'/\AEI ty φ E h' w'/\Evo φ h w φ h' w'
theorem PT{a:ABy}{u:IN}{k:Hp->R}(hr:Cw a (cellsOf u) h k=.ok v h'):known u=true:=by
 cases u<;>first|rfl|skip
 rename_i cc;cases cc with
 |some r=>rfl
 |none=>
 exfalso
 unfold Cw at hr;cases hrow:rowOf h a.block with
 |no=>rw[hrow]at hr;cases hr
 |ok c s e=>
  rw[hrow]at hr;simp only at hr;obtain⟨_,hr⟩:=Br hr;have h1:=(Br hr).1;cases h1
theorem YB(H:AEI ty φ E h w){x y:O}{x' y':IN}{t:yL}{ti:TI}(T:AEd P t ti)(hx:AED φ (x e) x')(hy:AED φ (y e) y')
  (hE:∀ a,x e=.pointer (some a)->¬ E a.block)(hr:Ai ti.size x y F e h=.ok v h'):Yd ty φ E h w v h' ((ADM t x' y').run P w):=by
 unfold Ai at hr;split at hr
 case h_2=>cases hr
 rename_i a ha;obtain⟨a',rfl,hra⟩:=Ft hx ha;rw[BK]at hr;obtain⟨hb,hr⟩:=Br hr;have hc:=KE hy (PT hr);obtain⟨h1,w1,hk,hrun,H1,ev⟩:=II (P:=P) H hr hra hc (hE a (Hu ha));cases hk;refine⟨rfl,w1,?_,H1,ev⟩;have hsz:y'.cells.size=ti.size:=by
  have:=hc.length;rw[<- Ax.1 hb,Bf,<- this];simp
 simp only[ADM,xO,Gc,If,storeVar,T.size,hsz,ne_eq,not_true_eq_false,if_false,hrun,xQ]
theorem jJ(H:AEI ty φ E h w){x:O}{x':IN}(hx:AED φ (x e) x')(hr:Bi x F e h=.ok v h'):
  AED φ v x'/\h'=h/\(x'≠.pointer none/\x'≠.nilIface/\x'≠.nilFunc/\∀ nm f c,x'≠.func (.method nm) f c):=by
 unfold Bi Xr at hr;split at hr
 ·rename_i a ha
  cases hr;rw[ha]at hx;obtain⟨a',rfl,hra⟩:=hx.AFG;exact⟨.ptr hra,rfl,by simp⟩
 ·rename_i f a b ha
  cases hr;rw[ha]at hx;cases hx with|func fn h1 h2=>exact⟨.func _ h1 h2,rfl,by simp⟩
 ·rename_i a n c ha
  cases hr;rw[ha]at hx;refine⟨hx,rfl,?_⟩;cases hx<;>simp
 ·rename_i m ha
  cases hr;rw[ha]at hx;refine⟨hx,rfl,?_⟩;cases hx<;>simp
 ·rename_i t u ha
  rw[BK]at hr;cases hr;rw[ha]at hx;refine⟨hx,rfl,?_⟩;cases hx<;>simp
 ·cases hr
theorem Gm(H:AEI ty φ E h w){cs cs':List IN}{k:Nat->Hp->R}(hr:newRow h 0 cs k=.ok v h')(AEj:AEX φ cs cs')(t:yL):
  ∃ h1 ψ,k h.next h1=.ok v h'/\ψ h.next=some {blk:=w.heap.size,off:=0,sz:=cs.length,room:=cs.length,es:=1}/\
   AEI ty ψ E h1 {w with heap:=w.heap.push (.cells ⟨cs'⟩ t)}/\Evo φ h w ψ h1 {w with heap:=w.heap.push (.cells ⟨cs'⟩ t)}:=by
 have hlen:=AEj.length;obtain⟨h1,hk,H1,ev⟩:=N6 (cs':=⟨cs'⟩) (t:=t) (fr:=(0,0)) (w':={w with heap:=w.heap.push (.cells ⟨cs'⟩ t)})
  (p:={blk:=w.heap.size,off:=0,sz:=cs.length,room:=cs.length,es:=1}) H hr (by simp[hlen]) ⟨rfl,.inl ⟨rfl,rfl,rfl,.inl rfl⟩⟩ (by simp[hlen]) (.inl rfl)
  (fun j u hj=>by simpa using AEj.get j u hj) rfl rfl rfl rfl
 exact⟨h1,_,hk,Phi.AE0 _ _ _,H1,ev⟩
theorem PN{ψ:Phi}{n:Nat}{p:Pl}(hp:ψ n=some p)(ho:p.off=0):AED ψ (.pointer (some ⟨n,0,none⟩)) (.pointer (some ⟨p.blk,0,none⟩)):=
 .ptr ⟨rfl,rfl,p,hp,rfl,by simp[ho]⟩
theorem ik(H:AEI ty φ E h w){x:O}{x':IN}{t:yL}(hx:AED φ (x e) x')(hr:CZ x F e h=.ok v h'):Bd ty φ E h w v h' ((Instr.box t x').run P w):=by
 unfold CZ at hr;rw[BK]at hr;obtain⟨hkn,hr⟩:=Br hr;obtain⟨h1,ψ,hk,hp,H1,ev⟩:=Gm H hr (KE hx hkn) t;cases hk;exact⟨_,_,ψ,rfl,PN hp rfl,H1,ev⟩
theorem Xt(H:AEI ty φ E h w){t:yL}{ti:TI}(T:AEd P t ti){c:VT}(hz:ti.zero.length=ti.size)(hc:Bt .mt 0 ti.zero=some c)(hr:Bc ti.size c F e h=.ok v h'):
  Bd ty φ E h w v h' ((ADY t true (.tuple #[])).run P w):=by
 obtain⟨z,_,hzr,hzc,hzp⟩:=T.AFF hz;have hr':newRow h 0 ti.zero It=.ok v h':=by
  unfold newRow CX;rw[hc];simp only[Ao,Bf,hz];exact hr
 obtain⟨h1,ψ,hk,hp,H1,ev⟩:=Gm H hr' (.plain hzp) t;cases hk;refine⟨_,_,ψ,?_,PN hp rfl,H1,ev⟩;have e1:(⟨ti.zero⟩:Array IN)=z.cells:=by rw[<- hzc]
 simp only[ADY,xO,hzr,If,newVar,ABU,run_newObj,xQ,e1]
theorem RN(H:AEI ty φ E h w){a a':ABy}{n:Nat}(ha:AFT φ a a')(hr:OE a n h=.ok v h'):h'=h/\AED φ v (.pointer (some (a'.add n))):=by
 unfold OE at hr;rw[Ao]at hr;cases hr;obtain⟨p,hp,rfl⟩:=ha.eq;rw[Addr.AFE];refine⟨rfl,.ptr ⟨rfl,rfl,p,hp,rfl,?_⟩⟩;show p.off+a.off+n=p.off+(a.off+n);omega
theorem MI{fs:List (Nat×Nat×Nat)}{fields:Array Field}(hf:fields.toList.map (fun f=>(f.offset,P.cellsOf f.type,f.type))=fs){i o s t:Nat}(hi:nth fs i=some (o,s,t)):
  ∃ f,fields[i]? =some f/\f.offset=o/\P.cellsOf f.type=s/\f.type=t:=by
 rw[Fc,<- hf,yk]at hi;cases hg:fields.toList[i]? with
 |none=>rw[hg]at hi;cases hi
 |some f=>
  rw[hg]at hi;simp only[yx,Option.some.injEq,Prod.mk.injEq]at hi;exact⟨f,by simpa using hg,hi.1,hi.2.1,hi.2.2⟩
theorem NR(H:AEI ty φ E h w){x:O}{x':IN}{t:yL}{ti:TI}(T:AEd P t ti){fs:List (Nat×Nat×Nat)}(hk:ti.k=.struct fs){i o s ft:Nat}(hi:nth fs i=some (o,s+1,ft))
  (hx:AED φ (x e) x')(hr:AE o x F e h=.ok v h'):Bd ty φ E h w v h' ((AB4 t x' i).run P w):=by
 unfold AE at hr;cases ha:Ds (x e)with
 |no=>rw[ha]at hr;cases hr
 |ok a=>
  rw[ha]at hr;obtain⟨a',rfl,hra⟩:=Ft hx ha;obtain⟨rfl,hv⟩:=RN H hra hr;obtain⟨d,hd,hkd⟩:=T.desc;rw[hk]at hkd;cases hkd with
  |struct hf hin=>
   obtain⟨f,hf1,hf2,hf3,hf4⟩:=MI hf hi;have hsome:(P.info? f.type).isSome=true:=by
    have:=List.all_eq_true.1 hin f (by simpa using Array.mem_of_getElem? hf1);exact this
   obtain⟨inf,AGF⟩:=ABm.1 hsome;have key:(AB4 t (.pointer (some a')) i).run P w=.ok (.pointer (some (a'.add o))) w:=by
    simp only[AB4,xO,hd,If,hf1,Gc,fieldPlace,run_sizeOf w AGF,hf3,hf2,AC9,if_false,xQ,Nat.add_eq_zero_iff,reduceCtorEq,and_false]
   rw[key];exact .same H hv
theorem VN(H:AEI ty φ E h w){n AEO:Nat}{a a':ABy}{ix:O}{ix':IN}(hi:AED φ (ix e) ix')(ha:AFT φ a a')(hr:MT n AEO (.ok a) (DG (ix e)) h=.ok v h'):
  ∃ k i,ix'=.int k (i:Nat)/\i<n/\h'=h/\AED φ v (.pointer (some (a'.add (i*AEO)))):=by
 unfold MT at hr;cases h1:DG (ix e)with
 |no=>rw[h1]at hr;cases hr
 |ok i=>
  rw[h1]at hr;simp only at hr;obtain⟨k,rfl⟩:=ES hi h1;cases hb:ye i n with
  |false=>rw[hb]at hr;cases hr
  |true=>
   rw[hb]at hr;simp only at hr;obtain⟨r1,r2⟩:=RN H ha hr;exact⟨k,i,rfl,BW.1 hb,r1,r2⟩
theorem TW(H:AEI ty φ E h w){x ix:O}{x' ix':IN}{t el:yL}{ti ei:TI}(T:AEd P t ti){n:Nat}(hk:ti.k=.arr n el)(TE:AEd P el ei)
  (hx:AED φ (x e) x')(hi:AED φ (ix e) ix')(hr:Cd n ei.size x ix F e h=.ok v h'):Bd ty φ E h w v h' ((AAJ t x' ix').run P w):=by
 unfold Cd at hr;cases ha:Ds (x e)with
 |no=>
  rw[ha]at hr;unfold MT at hr;cases h1:DG (ix e)with
  |no=>rw[h1]at hr;cases hr
  |ok i=>rw[h1]at hr;simp only at hr;cases hb:ye i n<;>rw[hb]at hr<;>cases hr
 |ok a=>
  rw[ha]at hr;obtain⟨a',rfl,hra⟩:=Ft hx ha;obtain⟨k,i,rfl,hlt,rfl,hv⟩:=VN H hi hra hr;obtain⟨d,hd,hkd⟩:=T.desc;rw[hk]at hkd;cases hkd;have key:(AAJ t (.pointer (some a')) (.int k (i:Nat))).run P w=.ok (.pointer (some (a'.add (i*ei.size)))) w:=by
   have h2:(0:Int)<=(i:Int)/\(i:Int)<(n:Int):=by omega
   simp only[AAJ,asIntOf,xO,xQ,hd,If,Gc,h2,and_self,if_true,TE.size,yh,AA0]
  rw[key];exact .same H hv
theorem Kj{a a':ABy}{n c c':Nat}(hn:n<=c)(h:AFu φ a c a' c')(h0:0<n):AFT φ a a':=by
 obtain⟨s1,s2,p,hp,hb,h|h⟩:=h
 ·exact⟨s1,s2,p,hp,hb,h.2.1⟩
 ·omega
theorem jA(H:AEI ty φ E h w){x ix:O}{x' ix':IN}{t el:yL}{ti ei:TI}(T:AEd P t ti)(hk:ti.k=.slice el)(TE:AEd P el ei)
  (hx:AED φ (x e) x')(hi:AED φ (ix e) ix')(hr:CF ei.size x ix F e h=.ok v h'):Bd ty φ E h w v h' ((AAJ t x' ix').run P w):=by
 unfold CF at hr;split at hr
 case h_2=>cases hr
 rename_i a n c hxe;rw[hxe]at hx;cases hx with
 |@slice _ a' _ _ c' hn hs=>
  obtain⟨d,hd,hkd⟩:=T.desc;rw[hk]at hkd;cases hkd;cases h1:DG (ix e)with
  |no=>rw[h1]at hr;cases hr
  |ok i0=>
   have hpos:0<n:=by
    rw[h1]at hr;unfold MT at hr;simp only at hr;cases hb:ye i0 n with
    |false=>rw[hb]at hr;cases hr
    |true=>have:=BW.1 hb;omega
   obtain⟨k,i,rfl,hlt,rfl,hv⟩:=VN H hi (Kj hn hs hpos) hr;have key:(AAJ t (.slice (some a') n c') (.int k (i:Nat))).run P w=.ok (.pointer (some (a'.add (i*ei.size)))) w:=by
    have h2:(0:Int)<=(i:Int)/\(i:Int)<(n:Int):=by omega
    simp only[AAJ,asIntOf,xO,xQ,hd,If,h2,and_self,if_true,TE.size,yh,AA0]
   rw[key];exact .same H hv
theorem RJ(H:AEI ty φ E h w){t:yL}{ti:TI}(T:AEd P t ti){l l':List IN}(hl:AEX φ l l'){off:Nat}(hr:OD ti.k.agg ti.size l off h=.ok v h'):
  Bd ty φ E h w v h' ((part t ⟨l'⟩ off).run P w):=by
 unfold OD at hr;split at hr
 ·rename_i AGc
  rw[Cb,Hr,JH]at hr;cases hr;have key:(part t ⟨l'⟩ off).run P w=.ok (.agg ⟨(l'.drop off).take ti.size⟩) w:=by
   simp only[part,xO,T.agg,AGc,If,if_true,T.size,xQ]
   congr 2
   apply yj;simp[Array.toList_extract,AAc]
  rw[key];exact .same H (.agg ((hl.drop off).take ti.size))
 ·rename_i AGc
  split at hr
  ·rename_i u hu
   rw[BK]at hr;cases hr;rw[Fc]at hu;obtain⟨u',hu',hru⟩:=hl.get off _ hu;have key:(part t ⟨l'⟩ off).run P w=.ok u' w:=by
    have:(⟨l'⟩:Array IN)[off]? =some u':=by simpa using hu'
    simp only[part,xO,T.agg,AGc,If,yG,if_false,this,xQ]
   rw[key];exact .same H hru
  ·cases hr
theorem X0(H:AEI ty φ E h w){x:O}{x':IN}{t:yL}{ti fi:TI}(T:AEd P t ti){fs:List (Nat×Nat×Nat)}(hk:ti.k=.struct fs){i o s ft:Nat}(hi:nth fs i=some (o,s,ft))(TF:AEd P ft fi)
  (hx:AED φ (x e) x')(hr:Mp fi.k.agg fi.size o x F e h=.ok v h'):Bd ty φ E h w v h' ((ADX t x' i).run P w):=by
 unfold Mp at hr;split at hr
 case h_2=>cases hr
 rename_i cs hxe;rw[hxe]at hx;cases hx with
 |agg hl=>
  obtain⟨d,hd,hkd⟩:=T.desc;rw[hk]at hkd;cases hkd with
  |struct hf hin=>
   obtain⟨f,hf1,hf2,hf3,hf4⟩:=MI hf hi;have:=RJ (P:=P) H TF hl hr;simp only[ADX,xO,hd,If,hf1,asAgg,xQ,hf2,hf4];exact this
theorem rh(H:AEI ty φ E h w){x ix:O}{x' ix':IN}{t el:yL}{ti ei:TI}(T:AEd P t ti){n:Nat}(hk:ti.k=.arr n el)(TE:AEd P el ei)
  (hx:AED φ (x e) x')(hi:AED φ (ix e) ix')(hr:oAt ei.k.agg n ei.size x ix F e h=.ok v h'):Bd ty φ E h w v h' ((AA9 t x' ix').run P w):=by
 unfold oAt atF at hr;split at hr
 case h_2=>cases hr
 rename_i i h1;obtain⟨hb,hr⟩:=Br hr;obtain⟨k,rfl⟩:=ES hi h1;split at hr
 case h_2=>cases hr
 rename_i cs hxe;rw[hxe]at hx;cases hx with
 |agg hl=>
  obtain⟨d,hd,hkd⟩:=T.desc;rw[hk]at hkd;cases hkd;have:=RJ (P:=P) H TE hl hr;have hlt:=BW.1 hb;have h2:(0:Int)<=(i:Int)/\(i:Int)<(n:Int):=by omega
  simp only[AA9,asIntOf,xO,xQ,hd,If,h2,and_self,if_true,TE.size,yh,AA0];exact this
theorem Xv(H:AEI ty φ E h w){x ix:O}{x' ix':IN}{t:yL}{ti:TI}(T:AEd P t ti)(hk:ti.k=.string)
  (hx:AED φ (x e) x')(hi:AED φ (ix e) ix')(hr:Io x ix F e h=.ok v h'):Bd ty φ E h w v h' ((AA9 t x' ix').run P w):=by
 unfold Io J4 at hr;split at hr
 case h_2=>cases hr
 rename_i i h1;obtain⟨k,rfl⟩:=ES hi h1;split at hr
 case h_2=>cases hr
 rename_i s hxe;rw[hxe]at hx;obtain rfl:=hx.AEa;split at hr
 case h_2=>cases hr
 rename_i b hb;obtain⟨rfl,rfl⟩:=Er hr;obtain⟨d,hd,hkd⟩:=T.desc;rw[hk]at hkd;cases hkd;rw[Fc]at hb;have AGG:s[i]? =some b:=by
  have h0:i<s.data.toList.length:=by
   rcases xx i s.data.toList.length with h|h
   ·exact h
   ·rw[zB h]at hb;cases hb
  have h1:i<s.size:=h0;rw[getElem?_pos s i h1];rw[xL h0]at hb;rw[<- Option.some.inj hb];rfl
 have key:(AA9 t (.string s) (.int k (i:Nat))).run P w=.ok (.int .u8 b.toNat) w:=by
  have h0:(0:Int)<=(i:Int):=by omega
  simp only[AA9,asIntOf,xO,xQ,hd,If,h0,if_true,yh,AGG]
 rw[key];exact .same H (.int _ _)
theorem Q0(H:AEI ty φ E h w){x:O}{x':IN}{i:Nat}(hx:AED φ (x e) x')(hr:Aa i x F e h=.ok v h'):Bd ty φ E h w v h' ((ABT x' i).run P w):=by
 unfold Aa at hr;split at hr
 case h_2=>cases hr
 rename_i vs hxe;rw[hxe]at hx;cases hx with
 |@tuple l l' hl=>
  split at hr
  case h_2=>cases hr
  rename_i u hu;rw[BK]at hr;cases hr;rw[Fc]at hu;obtain⟨u',hu',hru⟩:=hl.get i _ hu;have:(⟨l'⟩:Array IN)[i]? =some u':=by simpa using hu'
  simp only[ABT,this,xQ];exact .same H hru
theorem _root_.Go.Proofs.YtbjadbhkogcfeaaGreat.KOk.AFb{k:TK}{d:TypeDesc}(hkd:KOk P k d)(hk:k≠.iface)(ms:Array (String×yL)):d≠.interface ms:=by
 cases hkd with
 |other ho=>intro he;subst he;cases ho
 |iface ms'=>exact absurd rfl hk
 |_=>intro he;cases he
theorem X3(H:AEI ty φ E h w){x:O}{x':IN}{t:yL}{ti:TI}(T:AEd P t ti)(hk:ti.k≠.iface)
  (hx:AED φ (x e) x')(hr:Mq t x F e h=.ok v h'):Bd ty φ E h w v h' ((AA8 t x').run P w):=by
 unfold Mq at hr;rw[BK]at hr;cases hr;obtain⟨d,hd,hkd⟩:=T.und;have key:(AA8 t x').run P w=.ok (.iface t x') w:=by
  simp only[AA8,xO,run_underlying hd,If];cases d<;>first|rfl|exact absurd rfl (hkd.AFb hk _)
 rw[key];exact .same H (.iface t hx)
theorem jB(H:AEI ty φ E h w){t:yL}(hr:X8 F e h=.ok v h'):Bd ty φ E h w v h' ((Instr.makeMap t none).run P w):=by
 unfold X8 at hr;obtain⟨bl,hbl,hk⟩:=IB hr;cases hk
 let w':yJ:={w with heap:=w.heap.push (.map #[] 0)}
 have hs:w'.heap.size=w.heap.size+1:=by simp[w']
 have hsame:∀ k,k<w.heap.size->w'.heap[k]? =w.heap[k]?:=fun k hk=>by
  show(w.heap.push _)[k]? =_;rw[Array.getElem?_push_lt hk,Array.getElem?_eq_getElem hk]
 refine⟨.map (some w.heap.size),w',φ.put h.next {blk:=w.heap.size,off:=0,sz:=0,room:=0,es:=1},rfl,.map (Phi.AE0 _ _ _),
  H.new hbl (by omega) (by show w.heap.size<_;omega) (fun j q e _=>by have:=(H.dom j q e).2;show _≠w.heap.size;omega) (fun k hk _=>hsame k hk) ?_,
  .made H hbl (IT _) (by omega) hsame rfl rfl rfl⟩
 have:w'.heap[w.heap.size]? =some (.map #[] 0):=by show(w.heap.push _)[w.heap.size]? =_;simp
 rw[this];exact .map .nil
end
end
noncomputable section
open Go
inductive AFg (φ:Phi)(e:Env):Option O->Option IN->Prop
 |none:AFg φ e none none
 |some {o:O} {x:IN} (h:AED φ (o e) x):AFg φ e (some o) (some x)
section
variable {P:yg}{ty:TTy}{φ:Phi}{E:Nat->Prop}{h h':Hp}{w:yJ}{F:AEB}{e:Env}{v:IN}
theorem GM{o:O}{x:IN}(hx:AED φ (o e) x){d y:Nat}{k:Nat->R}(hr:Ct e (some o) d y k=.ok v h'):
  ∃ n,n<=y/\k n=.ok v h'/\∀ Y,n<=Y->∀ code w,(ACw x Y code).run P w=.ok n w:=by
 unfold Ct at hr;simp only at hr;split at hr
 case h_2=>cases hr
 rename_i n hn;obtain⟨hb,hr⟩:=Br hr;obtain⟨k',rfl⟩:=ES hx hn;refine⟨n,Au.1 hb,hr,fun Y hY code w=>?_⟩;have h2:(0:Int)<=(n:Int)/\(n:Int)<=(Y:Int):=by omega
 simp only[ACw,asIntOf,xO,xQ,If,h2,and_self,if_true,yh]
theorem SZ(d y:Nat)(k:Nat->R):Ct e none d y k=k d:=rfl
theorem Hx{lo hi mx:Option O}{lo' hi' mx':Option IN}(hl:AFg φ e lo lo')(hh:AFg φ e hi hi')(hm:AFg φ e mx mx'){len cap cap':Nat}(hc:cap<=cap')(hlen:len<=cap)
  {k:Nat->Nat->Nat->R}(hr:DY e len cap lo hi mx k=.ok v h')(s:Bool):
  ∃ l b m,k l b m=.ok v h'/\l<=b/\b<=m/\m<=cap/\(mx.isSome=false->m=cap)/\∀ w,(za s len cap' lo' hi' mx').run P w=.ok (l,b,if mx.isSome then m else cap') w:=by
 unfold DY at hr;cases hm with
 |none=>
  simp only at hr;cases hh with
  |none=>
   rw[SZ]at hr;cases hl with
   |none=>exact⟨0,len,cap,hr,yC _,hlen,IT _,fun _=>rfl,fun w=>rfl⟩
   |some hl=>
    obtain⟨l,h1,hk,hs⟩:=GM (P:=P) hl hr;exact⟨l,len,cap,hk,h1,hlen,IT _,fun _=>rfl,fun w=>by
     simp only[za,xO,xQ,If,hs len h1];rfl⟩
  |some hh=>
   obtain⟨b,h2,hr,hs2⟩:=GM (P:=P) hh hr;cases hl with
   |none=>exact⟨0,b,cap,hr,yC _,h2,IT _,fun _=>rfl,fun w=>by
     simp only[za,xO,xQ,If,hs2 cap' (yO h2 hc)];rfl⟩
   |some hl=>
    obtain⟨l,h1,hk,hs⟩:=GM (P:=P) hl hr;exact⟨l,b,cap,hk,h1,h2,IT _,fun _=>rfl,fun w=>by
     simp only[za,xO,xQ,If,hs2 cap' (yO h2 hc),hs b h1];rfl⟩
 |some hm=>
  simp only at hr;obtain⟨m,h3,hr,hs3⟩:=GM (P:=P) hm hr;cases hh with
  |none=>cases hr
  |some hh=>
   simp only at hr;obtain⟨b,h2,hr,hs2⟩:=GM (P:=P) hh hr;cases hl with
   |none=>exact⟨0,b,m,hr,yC _,h2,h3,fun h=>(by cases h),fun w=>by
     simp only[za,xO,xQ,If,hs3 cap' (yO h3 hc),hs2 m h2];rfl⟩
   |some hl=>
    obtain⟨l,h1,hk,hs⟩:=GM (P:=P) hl hr;exact⟨l,b,m,hk,h1,h2,h3,fun h=>(by cases h),fun w=>by
     simp only[za,xO,xQ,If,hs3 cap' (yO h3 hc),hs2 m h2,hs b h1];rfl⟩
theorem AFu.le{a a':ABy}{c c':Nat}(h:AFu φ a c a' c'):c<=c':=by
 obtain⟨_,_,p,_,_,h|h⟩:=h
 ·rcases h.2.2 with h|h
  ·exact AA2 h.symm
  ·exact h.2.1
 ·omega
theorem Iw(a:Option ABy)(size l b m:Nat)(h:Hp):
  Bp a size l b m h=.ok (.slice (if m=l then a else a.map fun a=>if l*size=0 then a else⟨a.block,a.off+l*size,none⟩) (b - l) (m - l)) h:=by
 unfold Bp;rw[Ao,Ao];by_cases hml:m=l
 ·subst hml;rw[zG,if_pos rfl];rfl
 ·have hb:xW m l=false:=by
   cases hb:xW m l
   ·rfl
   ·exact absurd (Ax.1 hb) hml
  rw[hb,if_neg hml];cases a with
  |none=>rfl
  |some a=>
   have e:yK l size=l*size:=rfl;rw[e];cases hm:l*size with
   |zero=>rw[yx,if_pos rfl];rfl
   |succ q=>rw[yx,if_neg (AC9 q)];simp only[Ao];rfl
theorem fI{a a':ABy}{c c':Nat}(hs:AFu φ a c a' c'){size l b m:Nat}(hlb:l<=b)(hbm:b<=m)(hmc:m<=c){mx:Bool}(hm:mx=false->m=c)
  (hfit:mx=false->0<l->∀ p,φ a.block=some p->p.es=size\/(p.room=p.sz/\p.es=1)):
  AED φ (.slice (if m=l then some a else(some a).map fun a=>if l*size=0 then a else⟨a.block,a.off+l*size,none⟩) (b - l) (m - l))
   (.slice (if(if mx then m else c')=l then some a' else(some a').map (·.add (l*size))) (b - l) ((if mx then m else c') - l)):=by
 obtain⟨s1,s2,p,hp,hb,hor⟩:=hs;obtain⟨ab,ao,asp⟩:=a;obtain⟨ab',ao',AIb⟩:=a';simp only at s1 s2 hp hb hor;subst s1;subst s2;subst hb;simp only[yx,Addr.AFE];have hle:m<=(if mx then m else c'):=by
  cases mx
  ·have:=hm rfl
   simp only[yG,if_false];rcases hor with h|h
   ·rcases h.2.2 with h|h<;>omega
   ·omega
  ·simp
 by_cases hml:m=l
 ·rw[if_pos hml]
  by_cases AHT:(if mx then m else c')=l
  ·rw[if_pos AHT]
   refine .slice (by omega) ⟨rfl,rfl,p,hp,rfl,.inr ⟨by omega,.inl (by omega)⟩⟩
  ·rw[if_neg AHT]
   cases mx with
   |true=>exact absurd hml AHT
   |false=>
    simp only[yG,if_false]at AHT hle ⊢;have AIc:=hm rfl;refine .slice (by omega) ⟨rfl,rfl,p,hp,rfl,.inr ⟨by omega,.inr ?_⟩⟩;simp only;rcases yV l with h0|h0
    ·subst h0
     simp only[AAD,yy,ADg];rcases hor with h|h
     ·omega
     ·rcases h.2 with h|h
      ·omega
      ·exact h
    ·rcases hor with ⟨_,hoff,h|⟨h1,h2,h3⟩⟩|h
     ·omega
     ·rcases hfit rfl h0 p hp with he|⟨hr1,hr2⟩
      ·have hcl:c=l:=by omega
       have hmul:(c' - l)*p.es+l*p.es=c'*p.es:=by rw[<- ABY];congr 1;omega
       subst hcl;rw[<- he];omega
      ·rw[hr2]at h1 h3;omega
     ·omega
 ·have hne:¬ ((if mx=true then m else c')=l):=by omega
  rw[if_neg hml,if_neg hne];have hpos:0<c:=by omega
  rcases hor with ⟨_,hoff,hcap⟩|h
  case inr=>omega
  have hA:∀ X:ABy,X=(if l*size=0 then(⟨ab,ao,none⟩:ABy)else⟨ab,ao+l*size,none⟩)->X=⟨ab,ao+l*size,none⟩:=by
   intro X hX;rw[hX];split
   ·rename_i h;rw[h];rfl
   ·rfl
  rw[hA _ rfl];refine .slice (by omega) ⟨rfl,rfl,p,hp,rfl,.inl ⟨by omega,by simp only;omega,?_⟩⟩;cases mx with
  |true=>exact .inl rfl
  |false=>
   simp only[yG,if_false];have AIc:=hm rfl;subst AIc;rcases hcap with h|⟨h1,h2,h3⟩
   ·exact .inl (by rw[h])
   ·rcases yV l with h0|h0
    ·subst h0;refine .inr ?_;simp only[AAD,yy,ADg];exact⟨h1,h2,h3⟩
    ·rcases hfit rfl h0 p hp with he|⟨hr1,hr2⟩
     ·refine .inr ?_
      have e1:(m - l)*p.es+l*p.es=m*p.es:=by rw[<- ABY];congr 1;omega
      have e2:(c' - l)*p.es+l*p.es=c'*p.es:=by rw[<- ABY];congr 1;omega
      rw[<- he];omega
     ·rw[hr2]at h1 h3;exact .inl (by omega)
theorem gi(H:AEI ty φ E h w){el:Nat}{ei:TI}(hty:ty.get el=some ei){a:ABy}(hf:E0 el (some a) h=true):∀ p,φ a.block=some p->p.es=ei.size\/(p.room=p.sz/\p.es=1):=by
 intro p hp;unfold E0 at hf;simp only at hf;split at hf
 ·rename_i c s en hrow
  have hk:=H.kind a.block p c s en hp (DV hrow);rcases hk.2 with ⟨_,h1,h2,_⟩|⟨t,ti,h1,h2,h3⟩
  ·exact .inr ⟨h1,h2⟩
  ·subst h1
   have:t=el:=Ax.1 hf;subst this;rw[hty]at h2;cases h2;exact .inl h3
 ·cases hf
theorem iz(H:AEI ty φ E h w){x:O}{x':IN}{t el:yL}{ti ei:TI}(T:AEd P t ti)(hk:ti.k=.slice el)(hty:ty.get el=some ei)(TE:AEd P el ei)
  {lo hi mx:Option O}{lo' hi' mx':Option IN}(hx:AED φ (x e) x')(hl:AFg φ e lo lo')(hh:AFg φ e hi hi')(hm:AFg φ e mx mx')
  (hr:D9 el ei.size x lo hi mx F e h=.ok v h'):Bd ty φ E h w v h' ((zE t x' lo' hi' mx').run P w):=by
 unfold D9 at hr;split at hr
 case h_2=>cases hr
 rename_i a n c hxe;rw[hxe]at hx;obtain⟨d,hd,hkd⟩:=T.desc;rw[hk]at hkd;cases hkd;cases hx with
 |AE2=>
  ·obtain⟨l,b,m,hk2,h1,h2,h3,h4,hs⟩:=Hx (P:=P) hl hh hm (IT 0) (IT 0) hr true
   have AFm:Bp none ei.size l b m h=.ok v h':=by
    unfold EM at hk2;split at hk2
    ·exact hk2
    ·split at hk2
     ·exact hk2
     ·exact(Br hk2).2
   rw[Iw]at AFm;cases AFm;have key:(zE t (.slice none 0 0) lo' hi' mx').run P w=.ok (.slice none (b - l) (m - l)) w:=by
    have hmm:(if mx.isSome then m else 0)=m:=by
     split
     ·rfl
     ·rename_i hf;exact(h4 (by simpa using hf)).symm
    rw[hmm]at hs;simp only[zE,ACY,xO,hd,If,hs,TE.size,xQ,ACp,ite_self]
   rw[key];simp only[ACp,ite_self];have e1:m=0:=by omega
   have e2:b=0:=by omega
   have e3:l=0:=by omega
   subst e1;subst e2;subst e3;exact .same H .AE2
 |@slice a a' _ _ c' hn hsl=>
  obtain⟨l,b,m,hk2,h1,h2,h3,h4,hs⟩:=Hx (P:=P) hl hh hm hsl.le hn hr true;have AFm:Bp (some a) ei.size l b m h=.ok v h'/\(mx.isSome=false->0<l->∀ p,φ a.block=some p->p.es=ei.size\/(p.room=p.sz/\p.es=1)):=by
   unfold EM at hk2;split at hk2
   ·rename_i hmx;exact⟨hk2,fun hf=>by rw[hmx]at hf;cases hf⟩
   ·split at hk2
    ·exact⟨hk2,fun _ h0=>absurd h0 (Nat.lt_irrefl 0)⟩
    ·obtain⟨hf,hk2⟩:=Br hk2
     exact⟨hk2,fun _ _=>gi H hty hf⟩
  obtain⟨AFm,hfit⟩:=AFm;rw[Iw]at AFm;cases AFm;have key:(zE t (.slice (some a') n c') lo' hi' mx').run P w=
    .ok (.slice (if(if mx.isSome then m else c')=l then some a' else(some a').map (·.add (l*ei.size))) (b - l) ((if mx.isSome then m else c') - l)) w:=by
   simp only[zE,ACY,xO,hd,If,hs,TE.size,xQ]
  rw[key];exact .same H (fI hsl h1 h2 h3 h4 hfit)
end
end
noncomputable section
open Go
theorem GA{α:Type}(xs:List α):∀ n,(Ba xs n).length=n*xs.length
 |0=>by simp[Ba]
 |n+1=>by
  show(xs++Ba xs n).length=_;rw[List.length_append,GA xs n,AAd,Nat.add_comm]
theorem RT{α:Type}(xs:List α):∀ n i,i<n*xs.length->(Ba xs n)[i]? =xs[i % xs.length]?
 |0,i,h=>by simp at h
 |n+1,i,h=>by
  show(xs++Ba xs n)[i]? =_;rcases xx i xs.length with hl|hl
  ·rw[xa hl,AAU hl]
  ·have h2:i - xs.length<n*xs.length:=by rw[AAd]at h;omega
   rw[xn hl,RT xs n _ h2,<- Nat.mod_eq_sub_mod hl]
theorem Hn{φ:Phi}{l l':List IN}(h:AEX φ l l'):∀ n,AEX φ (Ba l n) (Ba l' n)
 |0=>.nil
 |n+1=>h.append (Hn h n)
theorem NK(z:Array IN)(n:Nat):((ABB (n*z.size)).map (fun i=>z[i % z.size]!))=⟨Ba z.toList n⟩:=by
 apply yj;apply List.ext_getElem?;intro i;simp only[Array.toList_map,yk,Array.toList_range];rcases xx i (n*z.size)with h|h
 ·have h1:i<n*z.toList.length:=by simpa using h
  rw[RT _ _ _ h1,List.getElem?_range h,yx];have h2:0<z.size:=by
   rcases yV z.size with h0|h0
   ·rw[h0]at h;simp at h
   ·exact h0
  have h3:i % z.size<z.size:=Nat.mod_lt _ h2;simp[h3]
 ·rw[zB (by simpa using h),zB (by rw[GA];simpa using h)];rfl
theorem G3(z:Array IN)(n:Nat):Builtin.zeroCells z n=⟨Ba z.toList n⟩:=NK z n
theorem AEt(cs:List IN)(off:Nat)(vs:List IN):lay cs off vs=cs.take off++vs++cs.drop (off+vs.length):=by
 unfold lay;rw[Hr,JH,Bf];rfl
theorem TA{cs:List IN}{off:Nat}{vs:List IN}(h:off+vs.length<=cs.length):(lay cs off vs).length=cs.length:=by
 rw[AEt];simp;omega
theorem iF{φ:Phi}{cs cs' vs vs':List IN}(h:AEX φ cs cs')(hv:AEX φ vs vs')(off:Nat):AEX φ (lay cs off vs) (lay cs' off vs'):=by
 rw[AEt,AEt,hv.length];exact((h.take off).append hv).append (h.drop _)
theorem Nk(off:Nat):∀ (vs:List IN) (j:Nat) (cs:Array IN),off+j+vs.length<=cs.size->
  ((vs.zipIdx j).foldl (fun cs (c,j)=>cs.setIfInBounds (off+j) c) cs).toList=lay cs.toList (off+j) vs
 |[],j,cs,h=>by rw[AEt];simp
 |v::vs,j,cs,h=>by
  simp only[xP]at h;rw[List.zipIdx_cons,List.foldl_cons];have:=Nk off vs (j+1) (cs.setIfInBounds (off+j) v) (by simp;omega);rw[this,AEt,AEt];have hlt:off+j<cs.toList.length:=by simp;omega
  rw[Array.toList_setIfInBounds,show off+(j+1)=off+j+1 by omega];rw[xP,List.take_set,List.drop_set_of_lt (by omega)];have e1:(cs.toList.take (off+j+1)).set (off+j) v=cs.toList.take (off+j)++[v]:=by
   rw[List.take_succ_eq_append_getElem hlt,List.set_append_right _ _ (by simp;omega)];have:(off+j - (cs.toList.take (off+j)).length)=0:=by simp;omega
   rw[this];rfl
  rw[e1,show off+j+1+vs.length=off+j+(vs.length+1)by omega];simp
section
variable {φ:Phi}{h':Hp}{e:Env}{v:IN}
inductive AGS (φ:Phi)(e:Env)(place:Nat->Option (Nat×Nat)):List (Nat×Nat×O)->List (Nat×IN)->Prop
 |nil:AGS φ e place [] []
 |cons {i off size:Nat} {o:O} {x:IN} {l:List (Nat×Nat×O)} {l':List (Nat×IN)} (hp:place i=some (off,size)) (hx:AED φ (o e) x) (t:AGS φ e place l l'):
  AGS φ e place ((off,size,o)::l) ((i,x)::l')
theorem JK{place:Nat->Option (Nat×Nat)}{k:List IN->R}:∀ {ps:List (Nat×Nat×O)} {ps':List (Nat×IN)},AGS φ e place ps ps'->∀ {cs cs':List IN},AEX φ cs cs'->
  EZ cs e k ps=.ok v h'->∃ r r',k r=.ok v h'/\AEX φ r r'/\r.length=cs.length/\ABx place ⟨cs'⟩ ps'=some ⟨r'⟩
 |_,_,.nil,cs,cs',hc,hr=>by
  unfold EZ at hr;rw[Cb]at hr;exact⟨cs,cs',hr,hc,rfl,rfl⟩
 |_,_,.cons (off:=off) (size:=size) (o:=o) (x:=x) hp hx t,cs,cs',hc,hr=>by
  unfold EZ at hr;rw[BK]at hr;obtain⟨hkn,hr⟩:=Br hr;obtain⟨hb1,hr⟩:=Br hr;obtain⟨hb2,hr⟩:=Br hr;have hcl:=KE hx hkn;have h1:=Ax.1 hb1;have h2:=Au.1 hb2;rw[Bf]at h1 h2;have h3:=hcl.length;have h4:=hc.length;obtain⟨r,r',hk,hrr,hlen,hf⟩:=JK t (iF hc hcl off) hr;have h2':off+size<=cs.length:=h2;have hsz:x.cells.size=size:=by rw[<- h1,<- h3];simp
  refine⟨r,r',hk,hrr,by rw[hlen,TA (by omega)],?_⟩;rw[ABx,hp];simp only;rw[if_neg (by simp[hsz];omega)];have AHm:(x.cells.zipIdx.foldl (fun cs (c,j)=>cs.setIfInBounds (off+j) c) (⟨cs'⟩:Array IN))=⟨lay cs' off x.cells.toList⟩:=by
   apply yj;have:=Nk off x.cells.toList 0 ⟨cs'⟩ (by simp[hsz];omega);rw[<- Array.foldl_toList,Array.toList_zipIdx];exact this
  rw[AHm];exact hf
end
end
noncomputable section
open Go
section
variable {P:yg}{ty:TTy}{φ:Phi}{E:Nat->Prop}{h h':Hp}{w:yJ}{F:AEB}{e:Env}{v:IN}
theorem TN(H:AEI ty φ E h w){t:yL}{ti:TI}(T:AEd P t ti){fs:List (Nat×Nat×Nat)}(hk:ti.k=.struct fs)(hz:ti.zero.length=ti.size)
  {ps:List (Nat×Nat×O)}{ps':Array (Nat×IN)}(hp:AGS φ e (Mx fs) ps ps'.toList)
  (hr:BU ti.zero ps F e h=.ok v h'):Bd ty φ E h w v h' ((AAk t ps').run P w):=by
 unfold BU at hr;obtain⟨z,_,hzr,hzc,hzp⟩:=T.AFF hz;obtain⟨r,r',hk2,hrr,hlen,hf⟩:=JK hp (.plain hzp) hr;cases hk2;obtain⟨d,hd,hkd⟩:=T.desc;rw[hk]at hkd;cases hkd with
 |@struct fs fields hfl hin=>
  have hmap:∀ w,(fields.mapM (fun f=>(do pure (f.offset,<- sizeOf f.type):Sem (Nat×Nat)))).run P w=.ok (fields.map fun f=>(f.offset,P.cellsOf f.type)) w:=by
   intro w;rw[<- Array.toArray_toList (xs:=fields),List.mapM_toArray,List.map_toArray];have:∀ l:List Field,l.all (fun f=>(P.info? f.type).isSome)=true->(l.mapM (fun f=>(do pure (f.offset,<- sizeOf f.type):Sem (Nat×Nat)))).run P w=.ok (l.map fun f=>(f.offset,P.cellsOf f.type)) w:=by
    intro l
    induction l with
    |nil=>intro _;rfl
    |cons f l ih=>
     intro hall;simp only[List.all_cons,xk]at hall;obtain⟨inf,AGF⟩:=ABm.1 hall.1;simp only[List.mapM_cons,xO,run_sizeOf w AGF,If,xQ,ih hall.2,List.map_cons]
   simp only[Sem.run_map,this _ hin,If]
  have AG4:Mx fs=fun i=>(fields.map fun f=>(f.offset,P.cellsOf f.type))[i]?:=by
   funext i
   unfold Mx;rw[Fc,<- hfl,yk,Array.getElem?_map,<- Array.getElem?_toList];cases fields.toList[i]?<;>rfl
  rw[AG4]at hf;have hz':(⟨ti.zero⟩:Array IN)=z.cells:=by rw[<- hzc]
  rw[hz']at hf;have key:(AAk t ps').run P w=.ok (.agg ⟨r'⟩) w:=by
   simp only[AAk,xO,hzr,If,hd,hmap,hf,xQ]
  rw[key];exact .same H (.agg hrr)
theorem TM(H:AEI ty φ E h w){t el:yL}{ti ei:TI}(T:AEd P t ti){n:Nat}(hk:ti.k=.arr n el)(TE:AEd P el ei)(hz:ti.zero.length=ti.size)
  {ps:List (Nat×Nat×O)}{ps':Array (Nat×IN)}(hp:AGS φ e (fun i=>some (yK i ei.size,ei.size)) ps ps'.toList)
  (hr:BU ti.zero ps F e h=.ok v h'):Bd ty φ E h w v h' ((AAk t ps').run P w):=by
 unfold BU at hr;obtain⟨z,_,hzr,hzc,hzp⟩:=T.AFF hz;obtain⟨r,r',hk2,hrr,hlen,hf⟩:=JK hp (.plain hzp) hr;cases hk2;obtain⟨d,hd,hkd⟩:=T.desc;rw[hk]at hkd;cases hkd;have hz':(⟨ti.zero⟩:Array IN)=z.cells:=by rw[<- hzc]
 rw[hz']at hf;have hf':ABx (fun i=>some (i*ei.size,ei.size)) z.cells ps'.toList=some ⟨r'⟩:=hf;have key:(AAk t ps').run P w=.ok (.agg ⟨r'⟩) w:=by
  simp only[AAk,xO,hzr,If,hd,TE.size,hf',xQ]
 rw[key];exact .same H (.agg hrr)
theorem WA{ψ:Phi}{n s l c:Nat}{p:Pl}(hp:ψ n=some p)(ho:p.off=0)(hl:l<=c)(hc:c=0\/0<c):AED ψ (.slice (some ⟨n,0,none⟩) l c) (.slice (some ⟨p.blk,0,none⟩) l c):=by
 refine .slice hl ⟨rfl,rfl,p,hp,rfl,?_⟩;rcases hc with h|h
 ·exact .inr ⟨h,.inl h⟩
 ·exact .inl ⟨h,by simp[ho],.inl rfl⟩
theorem Mn(H:AEI ty φ E h w){t el:yL}{ti ei:TI}(T:AEd P t ti)(hk:ti.k=.slice el)(TE:AEd P el ei)(hz:ei.zero.length=ei.size)
  {len:Nat}(hlen:len*ei.size<=16777216){ps:List (Nat×Nat×O)}{ps':Array (Nat×IN)}(hp:AGS φ e (fun i=>some (yK i ei.size,ei.size)) ps ps'.toList)
  (hr:As len (Ba ei.zero len) ps F e h=.ok v h'):Bd ty φ E h w v h' ((AAm t len ps').run P w):=by
 unfold As at hr;obtain⟨z,_,hzr,hzc,hzp⟩:=TE.AFF hz;obtain⟨r,r',hk2,hrr,hlr,hf⟩:=JK hp (Hn (.plain hzp) len) hr;obtain⟨h1,ψ,hk3,hps,H1,ev⟩:=Gm H hk2 hrr el;cases hk3;obtain⟨d,hd,hkd⟩:=T.desc;rw[hk]at hkd;cases hkd;have hzs:z.cells.size=ei.size:=by rw[<- hz,<- hzc];simp
 have hf':ABx (fun i=>some (i*ei.size,ei.size)) ⟨Ba ei.zero len⟩ ps'.toList=some ⟨r'⟩:=hf;have AFh:(ABB (len*ei.size)).map (fun i=>z.cells[i % z.cells.size]!)=⟨Ba ei.zero len⟩:=by
  rw[<- hzc,<- hzs];exact NK z.cells len
 have hng:¬ (len*ei.size > 2 ^ 24):=by omega
 have key:(AAm t len ps').run P w=.ok (.slice (some ⟨w.heap.size,0,none⟩) len len) {w with heap:=w.heap.push (.cells ⟨r'⟩ el)}:=by
  by_cases h0:len*ei.size=0
  ·have:(ABB (len*ei.size)).map (fun i=>(#[]:Array IN)[i % (#[]:Array IN).size]!)=⟨Ba ei.zero len⟩:=by
    rw[<- AFh,h0];simp
   simp only[AAm,xO,hd,If,TE.size,hng,h0,if_false,if_true,xQ,Nat.not_lt_zero,gt_iff_lt];rw[h0]at this;simp only[this,hf',ABU,xO,run_newObj,If,xQ]
  ·simp only[AAm,xO,hd,If,TE.size,hng,h0,if_false,hzr,xQ,AFh,hf',ABU,run_newObj]
 rw[key];exact⟨_,_,ψ,rfl,WA (s:=0) hps rfl (IT _) (yV _),H1,ev⟩
theorem Ht{n:Nat}(h:n<=9223372036854775807):zU.wrap (n:Int)=n:=DN .i64 n h
theorem iR:most=1099511627776:=rfl
theorem Vi:JX=70368744177664:=rfl
theorem H9{n:Nat}(h:n<=1099511627776):n<=JX:=yO h (by rw[Vi];omega)
theorem Vj{c b:Nat}(h:xU (yK (xM c) (xM b)) JX=true):c<=70368744177664/\(c+1)*(b+1)<=70368744177664:=by
 have h1:=Au.1 h;rw[Vi]at h1;have h2:(c+1)*(b+1)<=70368744177664:=h1;refine⟨?_,h2⟩;have:c+1<=(c+1)*(b+1):=ACH _ (by omega);omega
theorem iS{c b:Nat}(h:xU (yK (xM c) (xM b)) most=true):c<=1099511627776/\(c+1)*(b+1)<=1099511627776:=by
 have h1:=Au.1 h;rw[iR]at h1;have h2:(c+1)*(b+1)<=1099511627776:=h1;refine⟨?_,h2⟩;have:c+1<=(c+1)*(b+1):=ACH _ (by omega);omega
theorem an(H:AEI ty φ E h w){t el:yL}{ti ei:TI}(T:AEd P t ti)(hk:ti.k=.slice el)(TE:AEd P el ei)(hz:ei.zero.length=ei.size)
  {l c:O}{l' c':IN}(hl:AED φ (l e) l')(hc:AED φ (c e) c')(hr:HC ei.bytes ei.zero l c F e h=.ok v h'):Bd ty φ E h w v h' ((AAu t l' c').run P w):=by
 unfold HC Qq at hr;split at hr
 case h_2=>cases hr
 rename_i a h1;split at hr
 case h_2=>cases hr
 rename_i b h2;obtain⟨k1,rfl⟩:=ES hl h1;obtain⟨k2,rfl⟩:=ES hc h2;obtain⟨hb1,hr⟩:=Br hr;obtain⟨hb2,hr⟩:=Br hr;have hle:=Au.1 hb1;obtain⟨hm1,hm2⟩:=iS hb2;obtain⟨z,_,hzr,hzc,hzp⟩:=TE.AFF hz;have hzs:z.cells.size=ei.size:=by rw[<- hz,<- hzc];simp
 have AEj:AEX φ (Ba ei.zero b) (Ba ei.zero b):=Hn (.plain hzp) b;obtain⟨h1',ψ,hk3,hps,H1,ev⟩:=Gm H hr AEj el;cases hk3;obtain⟨d,hd,hkd⟩:=T.desc;rw[hk]at hkd;cases hkd;obtain⟨inf,AGF,hs,hbt,_⟩:=TE.info;have AFh:(ABB (b*ei.size)).map (fun i=>z.cells[i % z.cells.size]!)=⟨Ba ei.zero b⟩:=by
  rw[<- hzc,<- hzs];exact NK z.cells b
 have w1:zU.wrap (a:Int)=a:=Ht (by omega);have w2:zU.wrap (b:Int)=b:=Ht (by omega);have hbytes:¬ ((ei.bytes:Int)*(b:Int) > 2 ^ 48):=by
  have:ei.bytes*b<=(b+1)*(ei.bytes+1):=by rw[Nat.mul_comm];exact Nat.mul_le_mul (by omega) (by omega)
  have h3:((ei.bytes*b:Nat):Int)<=1099511627776:=by omega
  rw[<- Int.natCast_mul];omega
 have AG5:((decide ((b:Int)<0) || decide ((ei.bytes:Int)*(b:Int) > 2 ^ 48)) || decide ((a:Int)<0) || decide ((a:Int) > (b:Int)))=false:=by
  simp only[ACb,decide_eq_false_iff_not];refine⟨⟨⟨by omega,hbytes⟩,by omega⟩,by omega⟩
 have key:(AAu t (.int k1 (a:Nat)) (.int k2 (b:Nat))).run P w=.ok (.slice (some ⟨w.heap.size,0,none⟩) a b) {w with heap:=w.heap.push (.cells ⟨Ba ei.zero b⟩ el)}:=by
  by_cases h0:b*ei.size=0
  ·have e0:(ABB (b*ei.size)).map (fun i=>(#[]:Array IN)[i % (#[]:Array IN).size]!)=⟨Ba ei.zero b⟩:=by
    rw[<- AFh,h0];simp
   rw[h0]at e0;simp only[AAu,xO,hd,If,asInt,asIntOf,xQ,run_typeInfo _ AGF,hbt,w1,w2,AG5,yG,if_false,run_askRoom,yh,TE.size,h0,if_true,e0,ABU,run_newObj,AA0]
  ·simp only[AAu,xO,hd,If,asInt,asIntOf,xQ,run_typeInfo _ AGF,hbt,w1,w2,AG5,yG,if_false,run_askRoom,yh,TE.size,h0,hzr,AFh,ABU,run_newObj,AA0]
 rw[key];exact⟨_,_,ψ,rfl,WA (s:=0) hps rfl hle (yV _),H1,ev⟩
end
end
noncomputable section
open Go
section
variable {P:yg}{ty:TTy}{φ:Phi}{E:Nat->Prop}{h h':Hp}{w:yJ}{F:AEB}{e:Env}{v:IN}
theorem TQ(H:AEI ty φ E h w){x:O}{x':IN}{t el:yL}{ti ei:TI}(T:AEd P t ti){n:Nat}(hk:ti.k=.arr n el)(TE:AEd P el ei)
  {lo hi mx:Option O}{lo' hi' mx':Option IN}(hx:AED φ (x e) x')(hl:AFg φ e lo lo')(hh:AFg φ e hi hi')(hm:AFg φ e mx mx')
  (hr:F9 n ei.size x lo hi mx F e h=.ok v h'):Bd ty φ E h w v h' ((zE t x' lo' hi' mx').run P w):=by
 unfold F9 at hr;split at hr
 case h_2=>cases hr
 rename_i a ha;obtain⟨a',rfl,hra⟩:=Ft hx ha;obtain⟨d,hd,hkd⟩:=T.desc;rw[hk]at hkd;cases hkd;obtain⟨l,b,m,hk2,h1,h2,h3,h4,hs⟩:=Hx (P:=P) hl hh hm (IT n) (IT n) hr false;have hmm:(if mx.isSome then m else n)=m:=by
  split
  ·rfl
  ·rename_i hf;exact(h4 (by simpa using hf)).symm
 rw[hmm]at hs;rw[Iw]at hk2;cases hk2;have key:(zE t (.pointer (some a')) lo' hi' mx').run P w=.ok (.slice (some (if m=l then a' else a'.add (l*ei.size))) (b - l) (m - l)) w:=by
  simp only[zE,xO,hd,If,Gc,hs,TE.size,xQ]
 rw[key];refine .same H ?_;have s1:=hra.1;obtain⟨p,hp,rfl⟩:=hra.eq;obtain⟨ab,ao,asp⟩:=a;simp only at s1 hp;subst s1;simp only[Addr.AFE,yx];by_cases hml:m=l
 ·rw[if_pos hml,if_pos hml]
  exact .slice (by omega) ⟨rfl,rfl,p,hp,rfl,.inr ⟨by omega,.inl (by omega)⟩⟩
 ·rw[if_neg hml,if_neg hml]
  have hA:(if l*ei.size=0 then(⟨ab,ao,none⟩:ABy)else⟨ab,ao+l*ei.size,none⟩)=⟨ab,ao+l*ei.size,none⟩:=by
   split
   ·rename_i h;rw[h];rfl
   ·rfl
  rw[hA];exact .slice (by omega) ⟨rfl,rfl,p,hp,rfl,.inl ⟨by omega,by simp only;omega,.inl rfl⟩⟩
theorem TT(H:AEI ty φ E h w){x:O}{x':IN}{t:yL}{ti:TI}(T:AEd P t ti)(hk:ti.k=.string){lo hi:Option O}{lo' hi':Option IN}(hx:AED φ (x e) x')
  (hl:AFg φ e lo lo')(hh:AFg φ e hi hi')(hr:ID x lo hi F e h=.ok v h'):Bd ty φ E h w v h' ((zE t x' lo' hi' none).run P w):=by
 unfold ID at hr;split at hr
 case h_2=>cases hr
 rename_i s hxe;rw[hxe]at hx;obtain rfl:=hx.AEa;obtain⟨d,hd,hkd⟩:=T.desc;rw[hk]at hkd;cases hkd;obtain⟨l,b,m,hk2,h1,h2,h3,h4,hs⟩:=Hx (P:=P) hl hh .none (IT _) (IT _) hr false;cases hk2;have e1:BB s.data.toList=s.size:=Bf _;rw[e1]at hs h3;have key:(zE t (.string s) lo' hi' none).run P w=.ok (.string (s.extract l b)) w:=by
  simp only[zE,ACY,xO,hd,If,Option.isSome_none,yG,if_false,xQ,hs]
 rw[key,<- HM (a:=s.extract l b) (l:=LD (Nat.sub b l) (MG l s.data.toList)) (by
  rw[Hr,JH];simp[AAc])]
 exact .same H (.string _)
theorem bA(H:AEI ty φ E h w){x:O}{x':IN}(hx:AED φ (x e) x')(hr:Q6 x F e h=.ok v h'):∃ s,x'=.string s/\Bd ty φ E h w v h' (.ok x' w):=by
 unfold Q6 at hr;split at hr
 case h_2=>cases hr
 rename_i s hxe;rw[hxe]at hx;cases hr;obtain rfl:=hx.AEa;exact⟨s,rfl,.same H hx⟩
theorem aZ(H:AEI ty φ E h w){fn:Fn}{f c:List O}{f' c':List IN}(hf:AEX φ (vals e f) f')(hc:AEX φ (vals e c) c')(hr:Eb fn f c F e h=.ok v h'):
  Bd ty φ E h w v h' (.ok (.func fn ⟨f'⟩ ⟨c'⟩) w):=by
 unfold Eb at hr;rw[Cb,Cb]at hr;cases hr;exact .same H (.func fn hf hc)
theorem ie(H:AEI ty φ E h w){x:O}{x':IN}{t el:yL}{ti:TI}(T:AEd P t ti){n:Nat}(hk:ti.k=.arr n el)(hn:0<n)(hx:AED φ (x e) x')
  (hr:Qy n x F e h=.ok v h'):Bd ty φ E h w v h' ((AB5 t x').run P w):=by
 unfold Qy at hr;split at hr
 case h_2=>cases hr
 rename_i a l c hxe;rw[hxe]at hx;obtain⟨hb,hr⟩:=Br hr;cases hr;have hb:=Au.1 hb;obtain⟨d,hd,hkd⟩:=T.desc;rw[hk]at hkd;cases hkd;cases hx with
 |@slice _ a' _ _ c' hlc hs=>
  have key:(AB5 t (.slice (some a') l c')).run P w=.ok (.pointer (some a')) w:=by
   simp only[AB5,xO,hd,If,ABi.2 hb,if_false,xQ]
  rw[key];exact .same H (.ptr (Kj hlc hs (by omega)))
theorem N4(H:AEI ty φ E h w){lt:Bool}{x y:O}{x' y':IN}(hx:AED φ (x e) x')(hy:AED φ (y e) y')(hr:Hf lt (x e) (y e) h=.ok v h'):
  ∃ k q m n,x'=.int k m/\y'=.int q n/\h'=h/\v=.int k (if(if lt then n<m else m<n)then n else m):=by
 unfold Hf at hr;split at hr
 case h_2=>cases hr
 rename_i k m hxe;split at hr
 case h_2=>cases hr
 rename_i n hye;obtain⟨q,hq⟩:=VV hye;rw[hxe]at hx;rw[hq]at hy;refine⟨k,q,m,n,hx.AEk,hy.AEk,?_⟩;cases lt
 ·simp only[cond_false]at hr
  cases hb:iLt m n with
  |false=>
   rw[hb]at hr;cases hr;rw[DB]at hb;have:=of_decide_eq_false hb;refine⟨rfl,?_⟩;simp[this]
  |true=>
   rw[hb]at hr;cases hr;rw[DB]at hb;have:=of_decide_eq_true hb;refine⟨rfl,?_⟩;simp[this]
 ·simp only[cond_true]at hr
  cases hb:iLt n m with
  |false=>
   rw[hb]at hr;cases hr;rw[DB]at hb;have:=of_decide_eq_false hb;refine⟨rfl,?_⟩;simp[this]
  |true=>
   rw[hb]at hr;cases hr;rw[DB]at hb;have:=of_decide_eq_true hb;refine⟨rfl,?_⟩;simp[this]
theorem jF(H:AEI ty φ E h w){x y:O}{x' y':IN}{ats:Array yL}{t:yL}(hx:AED φ (x e) x')(hy:AED φ (y e) y')(hr:X9 x y F e h=.ok v h'):
  Bd ty φ E h w v h' ((Builtin.min_ ats t #[x',y']).run P w):=by
 obtain⟨k,q,m,n,rfl,rfl,rfl,rfl⟩:=N4 H hx hy hr;exact .same H (.int _ _)
theorem jD(H:AEI ty φ E h w){x y:O}{x' y':IN}{ats:Array yL}{t:yL}(hx:AED φ (x e) x')(hy:AED φ (y e) y')(hr:Q2 x y F e h=.ok v h'):
  Bd ty φ E h w v h' ((Builtin.max_ ats t #[x',y']).run P w):=by
 obtain⟨k,q,m,n,rfl,rfl,rfl,rfl⟩:=N4 H hx hy hr;exact .same H (.int _ _)
theorem G6:∀ l:List UInt8,Cm l=l.map fun b=>.int .u8 (b.toNat:Int)
 |[]=>rfl
 |b::l=>by unfold Cm;rw[Ao,G6 l];rfl
theorem Ku(l:List UInt8):AEX φ (Cm l) (l.map fun b=>.int .u8 (b.toNat:Int)):=by
 rw[G6]
 induction l with
 |nil=>exact .nil
 |cons b l ih=>exact .cons (.int _ _) ih
theorem GC(H:AEI ty φ E h w){size n:Nat}{x x':IN}(hE:∀ a l c,x=.slice (some a) l c->¬ E a.block)(hx:AED φ x x'){k:List IN->R}(hr:BO h size x n k=.ok v h')
  (hn:∀ m,lenV x=.ok m->n<=m):
  ∃ cs cs':List IN,k cs=.ok v h'/\AEX φ cs cs'/\(∀ w':yJ,w'.heap=w.heap->(yY size n x').run P w'=.ok ⟨cs'⟩ w')/\(∀ a l c,x'=.slice (some a) l c->cs'.length=n*size)/\(∀ s,x'=.string s->cs'.length=n/\size=1)/\
   (∀ a l c,x=.slice (some a) l c->0<c->∃ p cs t fr,φ a.block=some p/\w.heap[p.blk]? =some (.cells cs t fr)/\∀ (j:Nat) (u:IN),cs'[j]? =some u->cs[p.off+a.off+j]? =some u):=by
 unfold BO at hr;split at hr
 ·cases hx
  exact⟨[],[],hr,.nil,(fun _ _=>rfl),(fun _ _ _ h=>by cases h),(fun _ h=>by cases h),(fun _ _ _ h=>by cases h)⟩
 ·rename_i a l c
  split at hr
  case h_2=>cases hr
  rename_i ct s en hrow;obtain⟨hb,hr⟩:=Br hr;rw[F2,xZ]at hr;cases hx with
  |@slice _ a' _ _ c' hlc hs=>
   rcases yV c with h0|h0
   ·have hl0:l=0:=by omega
    have hn0:n=0:=by have:=hn l rfl;omega
    subst hn0;refine⟨_,[],hr,by simp[AFU];exact .nil,fun w' _=>?_,(fun _ _ _ h=>by simp),(fun _ h=>by cases h),(fun _ _ _ h hpos=>by cases h;omega)⟩;simp only[yY,AAD];rfl
   ·obtain⟨s1,s2,p,hp,hbl,hor⟩:=hs
    have ha:AFT φ a a':=by
     rcases hor with h|h
     ·exact⟨s1,s2,p,hp,hbl,h.2.1⟩
     ·omega
    obtain⟨cs',hcs,hlen,hrun,hcell⟩:=Qp (P:=P) H ha (hE _ _ _ rfl) hrow (Au.1 hb);exact⟨_,cs',hr,hcs,hrun,(fun _ _ _ _=>hlen),(fun _ h=>by cases h),(fun _ _ _ h _=>by cases h;exact hcell)⟩
 ·rename_i s
  obtain rfl:=hx.AEa;have hn':n<=s.data.toList.length:=by
   have:=hn (BB s.data.toList) rfl
   rwa [Bf]at this
  obtain⟨hone,hr⟩:=Br hr;rw[Hr]at hr;refine⟨_,_,hr,Ku _,fun w' _=>?_,(fun _ _ _ h=>by cases h),(fun _ _=>⟨by simp only[List.length_map,List.length_take];omega,Ax.1 hone⟩),(fun _ _ _ h=>by cases h)⟩;simp only[yY,xQ]
  congr 1
  apply yj;simp[AAc]
 ·rename_i c
  cases c with
  |none=>cases hr
  |some r=>
   cases hx;have hn0:n=0:=by have:=hn 0 rfl;omega
   subst hn0;exact⟨[],[],hr,.nil,(fun w' _=>by simp only[yY,AAD];rfl),(fun _ _ _ h=>by simp),(fun _ h=>by cases h),(fun _ _ _ h=>by cases h)⟩
 ·cases hr
theorem Qj{x x':IN}(hx:AED φ x x'){n:Nat}(h:lenV x=.ok n):(AC6 x').run P w=.ok n w:=by
 unfold lenV at h;split at h
 ·cases h;cases hx<;>rfl
 ·cases h
  obtain rfl:=hx.AEa;simp only[AC6,xQ,Bf];rfl
 ·rename_i c
  cases c with
  |none=>cases h
  |some r=>
   cases h;cases hx;rfl
 ·cases h
theorem aV(H:AEI ty φ E h w)(hE:∀ b,¬ E b){d x:O}{d' x':IN}{ats:Array yL}{dt t el:yL}(h0:ats[0]? =some dt){ti ei:TI}(T:AEd P dt ti)(hk:ti.k=.slice el)(TE:AEd P el ei)
  (hd:AED φ (d e) d')(hx:AED φ (x e) x')(hr:Jd ei.size d x F e h=.ok v h'):Bd ty φ E h w v h' ((AAg ats t #[d',x']).run P w):=by
 unfold Jd Pz at hr;split at hr
 case h_2=>cases hr
 rename_i base dl dc hde;rw[hde]at hd;split at hr
 case h_2=>cases hr
 rename_i xl hxl;rw[Ao,BV]at hr;obtain⟨cs,cs',hr,hcs,AHn,hl1,hl2,_⟩:=GC (P:=P) H (fun _ _ _ _=>hE _) hx hr (fun m hm=>by rw[hxl]at hm;cases hm;exact ABC _ _);have hrun:=AHn w rfl;obtain⟨dd,hdd,hkd⟩:=T.desc;rw[hk]at hkd;cases hkd;have hlen:=Qj (P:=P) (w:=w) hx hxl;split at hr
 ·cases hr
  cases hd;have key:(AAg ats t #[.slice none 0 0,x']).run P w=.ok (goInt ((min xl 0:Nat):Int)) w:=by
   simp only[AAg,h0,xO,hdd,If,hlen,TE.size,xQ,xu,yA,yW];have:Nat.min xl 0=min xl 0:=rfl;rw[this,hrun];rfl
  rw[key];exact .same H (.int _ _)
 ·rename_i a hr0
  cases hd with
  |@slice _ a' _ _ dc' hlc hs=>
   have AG6:∃ h1 w1,(.ok (.int .i64 (.ofNat (min xl dl))) h1:R)=.ok v h'/\(storeCells a' cs').run P w=.ok () w1/\AEI ty φ E h1 w1/\Evo φ h w φ h1 w1:=by
    rcases yV dc with h0|h0
    ·have hdl:dl=0:=by omega
     subst hdl;have AGw:cs'=[]:=by
      have hz:min xl 0=0:=Nat.min_zero _;rw[hz]at hrun hl1 hl2;cases x'<;>first|(simp only[yY]at hrun;cases hrun;done)|skip
      ·exact AAv.1 (hl2 _ rfl).1
      ·rename_i sa sl AJL
       cases sa with
       |none=>simp only[yY,xQ]at hrun;cases hrun;rfl
       |some sa=>exact AAv.1 (by have:=hl1 sa sl AJL rfl;simpa using this)
     subst AGw;have:cs=[]:=by cases hcs;rfl
     subst this;unfold Cw at hr;split at hr
     case h_2=>cases hr
     rename_i ct s en hrow;obtain⟨_,hr⟩:=Br hr;obtain⟨_,hr⟩:=Br hr;simp only[Bt]at hr;obtain⟨bl,AEM,hbl,hk2⟩:=FU hr;obtain⟨_,_,p,hp,_,_⟩:=hs;have hold:=H.row a.block p hp (hE _);have AF5:=DV hrow;rw[AF5]at hold;have AEx:Live h a.block:=by unfold Live;rw[AF5];intro hd;cases hd
     exact⟨_,w,hk2,rfl,H.put (hE _) AEM hp AEx hbl rfl (fun _ _=>rfl) hold,.put (H.AFD hp AEM) hp AEx hbl (by rw[DV hrow];exact .inr ⟨rfl,rfl⟩) rfl (fun _ _=>rfl) rfl rfl rfl⟩
    ·obtain⟨s1,s2,p,hp,hbl,hor⟩:=hs
     have ha:AFT φ a a':=by
      rcases hor with h|h
      ·exact⟨s1,s2,p,hp,hbl,h.2.1⟩
      ·omega
     exact II (P:=P) H hr ha hcs (hE _)
   obtain⟨h1,w1,hk2,AGd,H1,ev⟩:=AG6;cases hk2;have key:(AAg ats t #[.slice (some a') dl dc',x']).run P w=.ok (goInt ((min xl dl:Nat):Int)) w1:=by
    simp only[AAg,h0,xO,hdd,If,hlen,TE.size,xQ,xu,yA,yW];have:Nat.min xl dl=min xl dl:=rfl;rw[this,hrun];simp only[If,AGd,xO,xQ]
   rw[key];exact⟨_,_,φ,rfl,.int _ _,H1,ev⟩
end
end
noncomputable section
open Go
section
variable {P:yg}{ty:TTy}{φ:Phi}{E:Nat->Prop}{h h':Hp}{w:yJ}{e:Env}{v:IN}
theorem AEI.of_heap(H:AEI ty φ E h w){w':yJ}(hw:w'.heap=w.heap):AEI ty φ E h w' where
 dom:=by rw[hw];exact H.dom
 inj:=H.inj
 row:=by rw[hw];exact H.row
 fresh:=H.fresh
 kind:=H.kind
 inp:=H.inp
theorem YQ(H:AEI ty φ E h w)(hE:∀ b,¬ E b){a a':ABy}{c c' o:Nat}{vs vs':List IN}{k:Hp->R}(hs:AFu φ a c a' c')(h0:c=0->vs=[])
  (hr:Cw (FB a o) vs h k=.ok v h')(hv:AEX φ vs vs'):
  ∃ h1 w1,k h1=.ok v h'/\(storeCells (a'.add o) vs').run P w=.ok () w1/\AEI ty φ E h1 w1/\Evo φ h w φ h1 w1:=by
 obtain⟨s1,s2,p,hp,hbl,hor⟩:=hs;have AJM:(FB a o).block=a.block:=by unfold FB;split<;>rfl
 rcases yV c with hc|hc
 ·have:=h0 hc
  subst this;have:vs'=[]:=by cases hv;rfl
  subst this;unfold Cw at hr;split at hr
  case h_2=>cases hr
  rename_i ct s en hrow;obtain⟨_,hr⟩:=Br hr;obtain⟨_,hr⟩:=Br hr;simp only[Bt]at hr;obtain⟨bl,AEM,AGM,hk2⟩:=FU hr;rw[AJM]at hrow AGM hk2 AEM;have hold:=H.row a.block p hp (hE _);have AF5:=DV hrow;rw[AF5]at hold;have AEx:Live h a.block:=by unfold Live;rw[AF5];intro hd;cases hd
  exact⟨_,w,hk2,rfl,H.put (hE _) AEM hp AEx AGM rfl (fun _ _=>rfl) hold,.put (H.AFD hp AEM) hp AEx AGM (by rw[DV hrow];exact .inr ⟨rfl,rfl⟩) rfl (fun _ _=>rfl) rfl rfl rfl⟩
 ·have hoff:a'.off=p.off+a.off:=by
   rcases hor with h|h
   ·exact h.2.1
   ·omega
  obtain⟨ab',ao',AIb⟩:=a';obtain⟨ab,ao,asp⟩:=a;simp only at s1 s2 hp hbl hoff;subst s1;subst s2;subst hbl;subst hoff;have AJN:FB ⟨ab,ao,none⟩ o=⟨ab,ao+o,none⟩:=by
   unfold FB;cases o<;>rfl
  rw[AJN]at hr;rw[Addr.AFE];refine II (P:=P) H hr ⟨rfl,rfl,p,hp,rfl,?_⟩ hv (hE _);show p.off+ao+o=p.off+(ao+o);omega
theorem Nn(N:Nat):∀ (r c:Nat),c<N->AAT N r c<=N+(N+768)/4
 |0,c,h=>by unfold AAT;omega
 |r+1,c,h=>by
  unfold AAT;split
  ·omega
  ·rcases xx (c+(c+768)/4) N with h2|h2
   ·exact Nn N r _ h2
   ·cases r with
    |zero=>unfold AAT;omega
    |succ r=>unfold AAT;rw[if_pos h2];omega
theorem iX{need cap:Nat}(h:cap<need):AAA need cap<=2*need:=by
 unfold AAA;split
 ·omega
 ·split
  ·omega
  ·have:=Nn need 4 cap h
   omega
theorem MR(H:AEI ty φ E h w){en:Nat}{ei:TI}(hty:ty.get en=some ei){need c:Nat}(AG7:0<need)(hc:need<=c){cs cs' rest:List IN}(AEj:AEX φ cs cs')(hlen:cs.length=need*ei.size)
  (AFi:rest.length=(c - need)*ei.size){w':yJ}(hw':w'.heap=w.heap.push (.cells ⟨cs'++rest⟩ en))(ht:w'.tape=w.tape)(ho:w'.os=w.os)(hout:w'.output=w.output)
  {t:VT}{n:Nat}(hT:∀ j,j<cs.length->t.get j=cs.getD j undef)(hN:n=cs.length)(hr:CX h (xM en) t n (GK need need)=.ok v h'):∃ ψ,AED ψ v (.slice (some ⟨w.heap.size,0,none⟩) need c)/\AEI ty ψ E h' w'/\Evo φ h w ψ h' w':=by
 have hl':=AEj.length;have hmul:(c - need)*ei.size+need*ei.size=c*ei.size:=by rw[<- ABY];congr 1;omega
 have hsz:(⟨cs'++rest⟩:Array IN).size=c*ei.size:=by simp[hl',AFi,hlen];omega
 obtain⟨h1,hk,H1,ev⟩:=Mj (cs:=cs) (cs':=⟨cs'++rest⟩) (t:=en) (fr:=(0,0)) (w':=w')
  (p:={blk:=w.heap.size,off:=0,sz:=cs.length,room:=(⟨cs'++rest⟩:Array IN).size,es:=ei.size}) H hr hT hN rfl ⟨rfl,.inr ⟨en,ei,rfl,hty,rfl⟩⟩ (by simp[hl']) (.inl rfl)
  (fun j u hj=>by
   obtain⟨u',hu,hru⟩:=AEj.get j u hj;refine⟨u',?_,hru⟩;have hj':j<cs'.length:=by
    rcases xx j cs'.length with h|h
    ·exact h
    ·rw[zB h]at hu;cases hu
   simp only[xu];rw[xa hj'];exact hu) hw' ht ho hout
 cases hk;refine⟨_,.slice (IT _) ⟨rfl,rfl,_,Phi.AE0 _ _ _,rfl,.inl ⟨AG7,rfl,.inr ⟨?_,hc,?_⟩⟩⟩,H1,ev⟩
 ·simp only;omega
 ·simp only[hsz];omega
theorem Zt(H:AEI ty φ E h w)(hE:∀ b,¬ E b){en:Nat}{ei:TI}(hty:ty.get en=some ei)(hes:0<ei.size){base:Option ABy}{base':Option ABy}{sl sc sc' need:Nat}
  (hsl:AED φ (.slice base sl sc) (.slice base' sl sc'))(AG7:sc<need){olds news AFn news':List IN}(ho:AEX φ olds AFn)(hn:AEX φ news news')
  (hol:olds.length=sl*ei.size)(hnl:(olds++news).length=need*ei.size)(hone:∀ v∈news',v.oneCell'=true)
  (hcell:∀ a a',base=some a->base'=some a'->0<sc->∃ p cs t fr,φ a.block=some p/\w.heap[p.blk]? =some (.cells cs t fr)/\∀ j u,AFn[j]? =some u->cs[p.off+a.off+j]? =some u)
  {tr:VT}{n:Nat}(hT:∀ j,j<(olds++news).length->tr.get j=(olds++news).getD j undef)(hN:n=(olds++news).length)(hr:E4 ei.size en base sc need tr n h=.ok v h'):
  (∀ c rest,need<=c->rest.length=(c - need)*ei.size->∀ w':yJ,sc'<need->w'.heap=w.heap.push (.cells ⟨(AFn++news')++rest⟩ en)->w'.tape=w.tape->w'.os=w.os->w'.output=w.output->
   ∃ ψ,AED ψ v (.slice (some ⟨w.heap.size,0,none⟩) need c)/\AEI ty ψ E h' w'/\Evo φ h w ψ h' w')/\
  (∀ a',base'=some a'->need<=sc'->∃ w' ψ,(storeCells (a'.add (sl*ei.size)) news').run P w=.ok () w'/\AED ψ v (.slice (some a') need sc')/\AEI ty ψ E h' w'/\Evo φ h w ψ h' w'):=by
 have AEj:=ho.append hn;have AFt:0<need:=by omega
 unfold E4 at hr;split at hr
 ·
  cases hsl;refine⟨fun c rest hc AFi w' _ hw' ht hos hout=>MR H hty AFt hc AEj hnl AFi hw' ht hos hout hT hN hr,fun a' ha=>by cases ha⟩
 ·rename_i _ a
  cases hsl with
  |@slice _ a' _ _ _ hlc hs=>
  split at hr
  case h_2=>cases hr
  rename_i ct s en0 hrow;obtain⟨s1,s2,p,hp,hbl,hor⟩:=hs;have AGe:=H.kind a.block p ct s en0 hp (DV hrow);have AEx:Live h a.block:=by unfold Live;rw[DV hrow];intro hd;cases hd
  have AG8:(p.room=p.sz/\p.es=1)->sc'=sc:=by
   rintro⟨q1,q2⟩;rcases hor with ⟨q3,q4,q5|⟨q5,q6,q7⟩⟩|⟨q3,q4|q4⟩
   ·exact q5
   ·rw[q2]at q5 q7;omega
   ·omega
   ·rw[q2]at q4;omega
  have real:sc'=sc->CX h (xM en) tr n (GK need need)=.ok v h'->
    (∀ c rest,need<=c->rest.length=(c - need)*ei.size->∀ w':yJ,sc'<need->w'.heap=w.heap.push (.cells ⟨(AFn++news')++rest⟩ en)->w'.tape=w.tape->w'.os=w.os->w'.output=w.output->
     ∃ ψ,AED ψ v (.slice (some ⟨w.heap.size,0,none⟩) need c)/\AEI ty ψ E h' w'/\Evo φ h w ψ h' w')/\
    (∀ a'',some a'=some a''->need<=sc'->∃ w' ψ,(storeCells (a''.add (sl*ei.size)) news').run P w=.ok () w'/\AED ψ v (.slice (some a'') need sc')/\AEI ty ψ E h' w'/\Evo φ h w ψ h' w'):=by
   intro hsc hr;exact⟨fun c rest hc AFi w' _ hw' ht hos hout=>MR H hty AFt hc AEj hnl AFi hw' ht hos hout hT hN hr,fun a'' _ h2=>by omega⟩
  split at hr
  ·refine real (AG8 ?_) hr
   rcases AGe.2 with ⟨_,q1,q2,_⟩|⟨t,ti,q1,_⟩
   ·exact⟨q1,q2⟩
   ·cases q1
  ·rename_i e0
   obtain⟨hb,hr⟩:=Br hr;have hen:e0=en:=Ax.1 hb;subst hen;have AId:p.es=ei.size:=by
    rcases AGe.2 with ⟨q0,_⟩|⟨t,ti,q1,q2,q3⟩
    ·cases q0
    ·have:t=e0:=by omega
     subst this;rw[hty]at q2;cases q2;exact q3
   split at hr
   ·obtain⟨bl,AEM,AE9,hr⟩:=FU hr
    have Hk:=H.kill AE9 (lo:=B9 h.low a.block) (hi:=Cv h.high a.block) (mk:=h.mark);refine⟨fun c rest hc AFi w' _ hw' ht hos hout=>?_,fun a'' AJO hcap=>?_⟩
    ·obtain⟨ψ,hv,H2,ev⟩:=MR Hk hty AFt hc AEj hnl AFi hw' ht hos hout hT hN hr
     refine⟨ψ,hv,H2,?_⟩;have evk:Evo φ h w φ {next:=h.next,low:=B9 h.low a.block,high:=Cv h.high a.block,mark:=h.mark,bl:=bl} w:={
      le:=.refl _,new:=fun _ _ e=>.inl e,next:=IT _,size:=IT _,tape:=rfl,os:=rfl,output:=rfl,frame:=fun _ _ _=>rfl,
      back:=fun i q e hl _=>⟨i,q,e,fun hd=>hl (by show bl.get i=_;rw[BT.AEH AE9];split<;>first|rfl|exact hd),rfl,rfl,.inl rfl⟩,
      kept:=fun i _ hi=>by
       show bl.get i=_;have hi:i<B9 h.low a.block\/Cv h.high a.block<i:=hi;rw[BV,B4]at hi;rw[BT.AEH AE9,if_neg (by omega)],
      low:=by show B9 _ _<=_;rw[BV];exact ABC _ _,
      high:=by show _<=Cv _ _;rw[B4];exact Nat.le_max_left _ _,
      shape:=fun i _=>by
       show AEW _ (bl.get i);rw[BT.AEH AE9];split
       ·exact .inl rfl
       ·exact .refl _,
      only:=fun i _ h0=>by
       show bl.get i=_;rw[BT.AEH AE9,if_neg (fun e=>by rw[e,hp]at h0;cases h0)],
      all:=fun _ h1 h2=>absurd h2 (ABi.2 h1)}
     exact evk.trans ev
    ·cases AJO
     obtain⟨p0,cs,t,fr,hp0,hwc,R⟩:∃ p0 cs t fr,φ a.block=some p0/\w.heap[p0.blk]? =some (.cells cs t fr)/\AFv ty φ p0 ct s (e0+1) cs fr:=by
      obtain⟨cs,t,fr,q1,q2⟩:=H.rowAt hp (hE _) hrow;exact⟨p,cs,t,fr,hp,q1,q2⟩
     rw[hp]at hp0;cases hp0;obtain⟨ab',ao',AIb⟩:=a';simp only at s2 hbl hor;subst s2;subst hbl;have AHo:p.off<=ao'/\ao'+sc' * ei.size<=p.off+p.room/\(0<sc->ao'=p.off+a.off):=by
      have hz:p.sz<=p.room:=R.room;rw[AId]at hor;rcases hor with ⟨q3,q4,q5|⟨q5,q6,q7⟩⟩|⟨q3,q4|⟨q4,q5⟩⟩
      ·omega
      ·exact⟨by omega,by omega,fun _=>q4⟩
      ·omega
      ·exact⟨by omega,by omega,fun h=>by omega⟩
     have AHl:=R.fits;have hmul:need*ei.size<=sc'*ei.size:=Nat.mul_le_mul_right _ hcap;have hlo:=ho.length;have hln:=hn.length;have AKa:olds.length+news.length=need*ei.size:=by rw[<- hnl];simp
     rw[Addr.AFE];have hst:(storeCells ⟨p.blk,ao'+sl*ei.size,none⟩ news').run P w=.ok () (w.setCells p.blk (ao'+sl*ei.size) news'):=by
      refine run_storeCells_cells (P:=P) p.blk (ao'+sl*ei.size) news' 0 w (fun j hj=>?_) (fun j hj=>?_) hone
      ·rw[JB hwc];simp;omega
      ·exact Nl hwc R.AIa (by omega)
     obtain⟨cs',e1,e2,e3,e4,e5,e6,e7,e8⟩:=GJ p.blk t fr news' (ao'+sl * ei.size) cs w hwc (by omega);unfold CX at hr;rw[Ao]at hr;obtain⟨bl2,AGM,hk2⟩:=IB hr;cases hk2
     let p':Pl:={blk:=p.blk,off:=ao',sz:=need*ei.size,room:=p.off+p.room - ao',es:=ei.size}
     have hB:AFC ty (φ.put h.next p') p' (.cells tr n (e0+1)) ((w.setCells p.blk (ao'+sl*ei.size) news').heap[p'.blk]?):=by
      show AFC ty (φ.put h.next p') p' _ ((w.setCells p.blk (ao'+sl*ei.size) news').heap[p.blk]?);rw[e1,hN,hnl];refine .cells {
       kind:=⟨rfl,.inr ⟨e0,ei,rfl,hty,rfl⟩⟩,room:=(by show need*ei.size<=p.off+p.room - ao';omega),fits:=(by show ao'+(p.off+p.room - ao')<=cs'.size;omega),
       loose:=.inl (by rw[e2];exact R.AIa),cell:=fun j hj=>?_}
      have hj2:j<(olds++news).length:=by omega
      rw[hT j hj2];show ∃ v,cs'[ao'+j]? =some v/\_;have hD:(olds++news).getD j undef=(olds++news)[j]:=by
       rw[List.getD_eq_getElem?_getD,xL hj2];rfl
      rw[hD];obtain⟨u',hu,hru⟩:=AEj.get j _ (xL hj2);refine⟨u',?_,hru.mono (Phi.AFX H.AE3)⟩;rw[e3];rcases xx j olds.length with hjo|hjo
      ·rw[if_neg (by omega)]
       rw[xa (by omega)]at hu;have AIe:0<sc:=by
        rcases yV sc with q|q
        ·have:sl=0:=by omega
         rw[this,AAD]at hol;omega
        ·exact q
       obtain⟨p1,cs1,t1,fr1,hp1,hw1,hc1⟩:=hcell a _ rfl rfl AIe;rw[hp]at hp1;cases hp1;rw[hwc]at hw1;cases hw1;rw[AHo.2.2 AIe];exact hc1 j u' hu
      ·rw[if_pos (by omega)]
       rw[xn (by omega)]at hu;rw[<- hu];congr 1;omega
     have AG9:∀ j q,φ j=some q->Live ({next:=h.next,low:=B9 h.low a.block,high:=Cv h.high a.block,mark:=h.mark,bl:=bl}:Hp) j->q.blk≠p'.blk:=by
      intro j q hq hl hqb;have hl':bl.get j≠.dead:=hl;rw[BT.AEH AE9]at hl';split at hl'
      ·exact hl' rfl
      ·rename_i hjb
       exact hjb (H.inj j a.block q p hq hp (hE _) (hE _) hl' AEx (.inr (H.AFD hp AEM)) hqb)
     have H2:=Hk.new (lo:=B9 h.low a.block) (hi:=Cv h.high a.block) (mk:=h.mark) (w':=w.setCells p.blk (ao'+sl*ei.size) news') (p:=p') AGM (AA2 e4.symm) (by rw[e4];exact(H.dom _ _ hp).2) AG9 (fun k _ hk=>e5 k hk) hB;refine⟨_,_,hst,?_,H2,Evo.grow H (H.AFD hp AEM) rfl hp AEx AE9 AGM rfl e4 e5 e6 e7 e8⟩;refine .slice (IT _) ⟨rfl,rfl,p',Phi.AE0 _ _ _,rfl,.inl ⟨AFt,rfl,.inr ⟨?_,hcap,?_⟩⟩⟩
     ·show 0+need*ei.size=need*ei.size;omega
     ·show 0+sc'*ei.size<=p.off+p.room - ao';omega
   ·rename_i hend
    refine real ?_ hr;rcases hor with ⟨q3,q4,q5|⟨q5,q6,q7⟩⟩|⟨q3,_⟩
    ·exact q5
    ·exfalso
     unfold Ks at hend;cases sc with
     |zero=>omega
     |succ n=>
      simp only at hend;have:xW (zA a.off (yK (n+1) ei.size)) s=true:=Ax.2 (by rw[<- AGe.1,<- q5,AId];rfl);rw[this]at hend;cases hend
    ·exfalso
     subst q3;cases hend
end
end
end Go.Proofs.YtbjadbhkogcfeaaGreat

/-
  Part ZC of what Lawap stands on: printed by program, names and spaces cut.
-/
import Derived.Test.YtedbmmfebjfibaaGreatZB
import GoSem.Dispatch
import Derived.WideShapes
import Derived.Sort.Walk0
set_option linter.unusedVariables false
set_option linter.unusedSimpArgs false
namespace Go.Proofs.YtedbmmfebjfibaaGreat
noncomputable section
open Go
section
variable {P:Program}{ty:TTy}{φ:Phi}{E:Nat→Prop}{h h':Hp}{w:World}{F:CallF}{e:Env}{v:Value}
theorem IK{b:Bool}(hr:okB b h=.ok v h'):v=.bool b∧h'=h:=by cases b<;>cases hr<;>exact⟨rfl,rfl⟩
theorem EO(k:IntKind)(n:Int)(h:Hp):okI k n h=.ok (.int k n) h:=by
 cases n with
 |ofNat m=>cases m<;>rfl
 |negSucc m=>show forceN m (fun m=>R.ok (.int k (.negSucc m)) h)=_;rw[Aa]
theorem EP{k:IntKind}{n:Int}(hr:okI k n h=.ok v h'):v=.int k n∧h'=h:=by
 rw[EO]at hr;cases hr;exact⟨rfl,rfl⟩
theorem kF(a b:Nat):iLt (.ofNat a) (.ofNat b)=Nat.blt a b:=rfl
theorem kE(a b:Nat):iLt (.ofNat a) (.negSucc b)=false:=rfl
theorem kD(a b:Nat):iLt (.negSucc a) (.ofNat b)=true:=rfl
theorem kC(a b:Nat):iLt (.negSucc a) (.negSucc b)=Nat.blt b a:=rfl
theorem kB(a b:Nat):iEq (.ofNat a) (.ofNat b)=Nat.beq a b:=rfl
theorem kA(a b:Nat):iEq (.ofNat a) (.negSucc b)=false:=rfl
theorem j9(a b:Nat):iEq (.negSucc a) (.ofNat b)=false:=rfl
theorem j7(a b:Nat):iEq (.negSucc a) (.negSucc b)=Nat.beq a b:=rfl
theorem Cr(a b:Int):iLt a b=decide (a<b):=by
 cases a<;>cases b<;>simp only[kF,kE,kD,kC]
 ·rename_i a b
  rw[Bool.eq_iff_iff,BD,decide_eq_true_iff];exact Int.ofNat_lt.symm
 ·simp only[Int.ofNat_eq_natCast];symm;rw[decide_eq_false_iff_not];omega
 ·simp only[Int.ofNat_eq_natCast];symm;rw[decide_eq_true_iff];omega
 ·rename_i a b
  rw[Bool.eq_iff_iff,BD,decide_eq_true_iff];omega
theorem Dp(a b:Int):iEq a b=(a == b):=by
 cases a<;>cases b<;>simp only[kB,kA,j9,j7]
 ·rename_i a b
  rw[Bool.eq_iff_iff,Al,beq_iff_eq];simp only[Int.ofNat_eq_natCast];omega
 ·simp only[Int.ofNat_eq_natCast];symm;rw[beq_eq_false_iff_ne];omega
 ·simp only[Int.ofNat_eq_natCast];symm;rw[beq_eq_false_iff_ne];omega
 ·rename_i a b
  rw[Bool.eq_iff_iff,Al,beq_iff_eq];omega
theorem ZE(k:IntKind):((A7 k:Nat):Int)<2 ^ k.bits∧(k.signed=true→((A7 k:Nat):Int)<2 ^ (k.bits - 1)):=by
 cases k<;>decide
theorem C1(k:IntKind)(m:Nat)(h:m≤A7 k):k.wrap (m:Int)=m:=by
 have h1:=ZE k
 unfold IntKind.wrap
 have e:((m:Int)) % (2 ^ k.bits:Int)=m:=Int.emod_eq_of_lt (by omega) (by omega)
 rw[e]
 simp only
 rw[if_neg]
 intro hh
 simp only[Bool.and_eq_true,decide_eq_true_eq]at hh
 have:=h1.2 hh.1
 omega
theorem Cq(k:IntKind)(n:Int):D6 k n=k.wrap n:=by
 cases n with
 |ofNat m=>
  show Bool.rec (motive:=fun _=>Int) (k.wrap (.ofNat m)) (.ofNat m) (Nat.ble m (A7 k))=_
  cases hb:Nat.ble m (A7 k)with
  |false=>rfl
  |true=>exact(C1 k m (Af.1 hb)).symm
 |negSucc m=>rfl
theorem HI{a b:IntKind}(h:FE a b=true):b=a:=by
 have:=Al.1 h
 cases a<;>cases b<;>first|rfl|(exact absurd this (by decide))
theorem Eo{k:IntKind}{x:Value}{n:Int}(h:CR k x=.ok n):x=.int k n:=by
 cases x<;>first|(cases h;done)|skip
 rename_i q m
 have h:Bool.rec (motive:=fun _=>NI) .no (.ok m) (FE k q)=.ok n:=h
 cases hs:FE k q with
 |false=>rw[hs]at h;cases h
 |true=>rw[hs]at h;cases h;rw[HI hs]
theorem bg{k:IntKind}{x:Value}{n:Nat}(h:FN k x=.ok n):x=.int k n:=by
 cases x<;>first|(cases h;done)|skip
 rename_i q m
 have h:Bool.rec (motive:=fun _=>NN) .no (Int.rec (motive:=fun _=>NN) (fun m=>.ok m) (fun _=>.no) m) (FE k q)=.ok n:=h
 cases hs:FE k q with
 |false=>rw[hs]at h;cases h
 |true=>
  rw[hs]at h
  cases m with
  |ofNat m=>cases h;rw[HI hs];rfl
  |negSucc m=>cases h
theorem TW{x:Value}{n:Int}(h:U0 x=.ok n):∃ k,x=.int k n:=by
 cases x<;>first|(cases h;done)|(cases h;exact⟨_,rfl⟩)
theorem bh{x:Value}{n:Nat}(h:Cu x=.ok n):∃ k,x=.int k n:=by
 cases x<;>first|(cases h;done)|skip
 rename_i q m
 cases m with
 |ofNat m=>cases h;exact⟨_,rfl⟩
 |negSucc m=>cases h
theorem HO{x:Value}{a:Addr}(h:DT x=.ok a):x=.pointer (some a):=by
 cases x<;>first|(cases h;done)|skip
 rename_i o
 cases o with
 |none=>cases h
 |some a=>cases h;rfl
theorem RelV.int_inv{k:IntKind}{n:Int}{x:Value}(h:RelV φ (.int k n) x):x=.int k n:=by cases h;rfl
theorem RelV.bool_inv{b:Bool}{x:Value}(h:RelV φ (.bool b) x):x=.bool b:=by cases h;rfl
theorem RelV.string_inv{s:ByteArray}{x:Value}(h:RelV φ (.string s) x):x=.string s:=by cases h;rfl
theorem RelV.ptr_inv{a:Addr}{x:Value}(h:RelV φ (.pointer (some a)) x):∃ a',x=.pointer (some a')∧RelA φ a a':=by
 cases h with|ptr h=>exact⟨_,rfl,h⟩
def Bl(op:BinOp)(t:TypeId)(X Y:Operand)(a b:Value):Sem Value:=do eqGuard op t X Y a b;binOp op t a b
theorem Eu(op:BinOp)(t:TypeId)(X Y:Operand)(j k:IntKind)(m n:Int):(eqGuard op t X Y (.int j m) (.int k n)).run P w=.ok () w:=by cases op<;>rfl
theorem NH(op:BinOp)(t:TypeId)(X Y:Operand)(m n:ByteArray):(eqGuard op t X Y (.string m) (.string n)).run P w=.ok () w:=by cases op<;>rfl
theorem QK(H:RelW ty φ E h w){x:O}{x':Value}(hx:RelV φ (x e) x')(hr:AE x F e h=.ok v h'):BI ty φ E h w v h' (.ok x' w):=by
 unfold AE at hr;rw[Ef]at hr;cases hr;exact .same H hx
theorem YQ(H:RelW ty φ E h w){c a b:O}{c' a' b':Value}(hc:RelV φ (c e) c')(ha:RelV φ (a e) a')(hb:RelV φ (b e) b')(hr:Av c a b F e h=.ok v h'):
  BI ty φ E h w v h' ((do pure (if ← asBool c' then a' else b'):Sem Value).run P w):=by
 unfold Av at hr
 cases hce:c e with
 |bool t=>
  rw[hce]at hr hc
  obtain rfl:=hc.bool_inv
  cases t with
  |false=>
   have hr:moveR (b e) h=.ok v h':=hr
   rw[Ef]at hr;cases hr;exact .same H hb
  |true=>
   have hr:moveR (a e) h=.ok v h':=hr
   rw[Ef]at hr;cases hr;exact .same H ha
 |_=>rw[hce]at hr;cases hr
theorem jR(H:RelW ty φ E h w){f:Int→Int→Bool}{k:IntKind}{x y:O}{x' y':Value}(hx:RelV φ (x e) x')(hy:RelV φ (y e) y')(hr:Ad f k x y F e h=.ok v h'):
  ∃ m n,x'=.int k m∧y'=.int k n∧v=.bool (f m n)∧h'=h:=by
 unfold Ad Z6 at hr
 cases h1:CR k (x e)with
 |no=>rw[h1]at hr;cases hr
 |ok m=>
  cases h2:CR k (y e)with
  |no=>rw[h1,h2]at hr;cases hr
  |ok n=>
   rw[h1,h2]at hr
   rw[Eo h1]at hx;rw[Eo h2]at hy
   obtain⟨r1,r2⟩:=IK hr
   exact⟨m,n,hx.int_inv,hy.int_inv,r1,r2⟩
theorem He(H:RelW ty φ E h w){f:Int→Int→Bool}{op:BinOp}(hop:(f=iEq∧op=.eql)∨(f=iNe∧op=.neq)∨(f=iLt∧op=.lss)∨(f=iLe∧op=.leq)∨(f=iGt∧op=.gtr)∨(f=iGe∧op=.geq))
  {k:IntKind}{x y:O}{x' y':Value}{t:TypeId}{X Y:Operand}(hx:RelV φ (x e) x')(hy:RelV φ (y e) y')(hr:Ad f k x y F e h=.ok v h'):BI ty φ E h w v h' ((Bl op t X Y x' y').run P w):=by
 obtain⟨m,n,rfl,rfl,rfl,rfl⟩:=jR H hx hy hr
 have key:(Bl op t X Y (.int k m) (.int k n)).run P w=.ok (.bool (f m n)) w:=by
  unfold Bl
  rw[Sem.run_bind,Eu,Result.andThen_ok]
  rcases hop with ⟨rfl,rfl⟩|⟨rfl,rfl⟩|⟨rfl,rfl⟩|⟨rfl,rfl⟩|⟨rfl,rfl⟩|⟨rfl,rfl⟩<;>
   simp only[binOp,ne_eq,not_true_eq_false,if_false,Op.intCmp,Sem.run_pure,Result.ok.injEq,Value.bool.injEq,and_true,iNe,iLe,iGt,iGe,Cr,Dp]
  ·rfl
  ·rw[Bool.eq_iff_iff];simp only[decide_eq_true_iff,Bool.not_eq_true',decide_eq_false_iff_not];omega
  ·rw[Bool.eq_iff_iff];simp only[decide_eq_true_iff,Bool.not_eq_true',decide_eq_false_iff_not];omega
 rw[key];exact .same H (.bool _)
theorem UJ{k:IntKind}{x y:O}{x' y':Value}(hx:RelV φ (x e) x')(hy:RelV φ (y e) y'){g:Int→Int→R}{r:R}
  (hr:NI.rec (motive:=fun _=>R) .no (fun a=>NI.rec (motive:=fun _=>R) .no (fun b=>g a b) (CR k (y e))) (CR k (x e))=r)(hne:r≠.no):
  ∃ m n,x'=.int k m∧y'=.int k n∧g m n=r:=by
 cases h1:CR k (x e)with
 |no=>rw[h1]at hr;exact absurd hr.symm hne
 |ok m=>
  cases h2:CR k (y e)with
  |no=>rw[h1,h2]at hr;exact absurd hr.symm hne
  |ok n=>
   rw[h1,h2]at hr
   rw[Eo h1]at hx;rw[Eo h2]at hy
   exact⟨m,n,hx.int_inv,hy.int_inv,hr⟩
theorem Tj(H:RelW ty φ E h w){f:Int→Int→Int}{op:BinOp}(hop:(f=Int.sub∧op=.sub)∨(f=Int.mul∧op=.mul))
  {k:IntKind}{x y:O}{x' y':Value}{t:TypeId}{X Y:Operand}(hx:RelV φ (x e) x')(hy:RelV φ (y e) y')(hr:Cg f k x y F e h=.ok v h'):BI ty φ E h w v h' ((Bl op t X Y x' y').run P w):=by
 obtain⟨m,n,rfl,rfl,hg⟩:=UJ hx hy hr (by intro h;cases h)
 obtain⟨rfl,rfl⟩:=EP hg
 have key:(Bl op t X Y (.int k m) (.int k n)).run P w=.ok (.int k (D6 k (f m n))) w:=by
  unfold Bl
  rw[Sem.run_bind,Eu,Result.andThen_ok,Cq]
  rcases hop with ⟨rfl,rfl⟩|⟨rfl,rfl⟩<;>
   simp only[binOp,ne_eq,not_true_eq_false,if_false,Op.intArith,Sem.run_pure]<;>rfl
 rw[key];exact .same H (.int _ _)
theorem add_is{k:IntKind}{a b:Int}(hr:Int.rec (motive:=fun _=>R) (fun x=>Int.rec (motive:=fun _=>R)
   (fun y=>Bool.rec (motive:=fun _=>R) (okI k (k.wrap (a+b)) h) (forceN (Nat.add x y) fun n=>.ok (.int k (.ofNat n)) h) (Nat.ble (Nat.add x y) (A7 k)))
   (fun _=>okI k (D6 k (a+b)) h) b)
   (fun _=>okI k (D6 k (a+b)) h) a=.ok v h'):v=.int k (k.wrap (a+b))∧h'=h:=by
 cases a with
 |negSucc a=>
  have:=EP hr;rw[Cq]at this;exact this
 |ofNat a=>
  cases b with
  |negSucc b=>have:=EP hr;rw[Cq]at this;exact this
  |ofNat b=>
   simp only at hr
   cases hb:Nat.ble (Nat.add a b) (A7 k)with
   |false=>rw[hb]at hr;exact EP hr
   |true=>
    rw[hb]at hr
    simp only[Aa]at hr
    cases hr
    refine⟨?_,rfl⟩
    have:=C1 k (a+b) (Af.1 hb)
    simp only[Int.ofNat_eq_natCast]
    rw[← Int.natCast_add,this];rfl
theorem br(H:RelW ty φ E h w){k:IntKind}{x y:O}{x' y':Value}{t:TypeId}{X Y:Operand}(hx:RelV φ (x e) x')(hy:RelV φ (y e) y')(hr:CC k (A7 k) x y F e h=.ok v h'):
  BI ty φ E h w v h' ((Bl .add t X Y x' y').run P w):=by
 obtain⟨m,n,rfl,rfl,hg⟩:=UJ hx hy hr (by intro h;cases h)
 obtain⟨rfl,rfl⟩:=add_is hg
 have key:(Bl .add t X Y (.int k m) (.int k n)).run P w=.ok (.int k (k.wrap (m+n))) w:=by
  unfold Bl
  rw[Sem.run_bind,Eu,Result.andThen_ok]
  simp only[binOp,ne_eq,not_true_eq_false,if_false,Op.intArith,Sem.run_pure]
 rw[key];exact .same H (.int _ _)
theorem Pf{n:Int}(hb:iEq n 0=false):n≠0:=by
 rw[Dp]at hb;simpa using hb
theorem cQ(H:RelW ty φ E h w){k:IntKind}{x y:O}{x' y':Value}{t:TypeId}{X Y:Operand}(hx:RelV φ (x e) x')(hy:RelV φ (y e) y')(hr:Ka k x y F e h=.ok v h'):
  BI ty φ E h w v h' ((Bl .quo t X Y x' y').run P w):=by
 unfold Ka XN at hr
 split at hr
 case h_2=>cases hr
 rename_i m h1
 split at hr
 case h_2=>cases hr
 rename_i n h2
 rw[Eo h1]at hx;rw[Eo h2]at hy
 obtain rfl:=hx.int_inv;obtain rfl:=hy.int_inv
 cases hb:iEq n 0 with
 |true=>rw[hb]at hr;cases hr
 |false=>
  rw[hb]at hr
  obtain⟨rfl,rfl⟩:=EP hr
  have key:(Bl .quo t X Y (.int k m) (.int k n)).run P w=.ok (.int k (D6 k (m.tdiv n))) w:=by
   unfold Bl
   rw[Sem.run_bind,Eu,Result.andThen_ok,Cq]
   simp only[binOp,ne_eq,not_true_eq_false,if_false,Op.intDiv,Pf hb,Sem.run_pure]
  rw[key];exact .same H (.int _ _)
theorem ci(H:RelW ty φ E h w){k:IntKind}{x y:O}{x' y':Value}{t:TypeId}{X Y:Operand}(hx:RelV φ (x e) x')(hy:RelV φ (y e) y')(hr:QO k x y F e h=.ok v h'):
  BI ty φ E h w v h' ((Bl .rem t X Y x' y').run P w):=by
 unfold QO Ys at hr
 split at hr
 case h_2=>cases hr
 rename_i m h1
 split at hr
 case h_2=>cases hr
 rename_i n h2
 rw[Eo h1]at hx;rw[Eo h2]at hy
 obtain rfl:=hx.int_inv;obtain rfl:=hy.int_inv
 cases hb:iEq n 0 with
 |true=>rw[hb]at hr;cases hr
 |false=>
  rw[hb]at hr
  obtain⟨rfl,rfl⟩:=EP hr
  have key:(Bl .rem t X Y (.int k m) (.int k n)).run P w=.ok (.int k (m.tmod n)) w:=by
   unfold Bl
   rw[Sem.run_bind,Eu,Result.andThen_ok]
   simp only[binOp,ne_eq,not_true_eq_false,if_false,Op.intDiv,Pf hb,Sem.run_pure]
  rw[key];exact .same H (.int _ _)
theorem cg(H:RelW ty φ E h w){x:O}{x':Value}(hx:RelV φ (x e) x')(hr:DY x F e h=.ok v h'):BI ty φ E h w v h' ((Op.unary .not x').run P w):=by
 unfold DY at hr
 split at hr
 ·rename_i b hb
  rw[hb]at hx;obtain rfl:=hx.bool_inv
  obtain⟨rfl,rfl⟩:=IK hr
  exact .same H (.bool _)
 ·cases hr
theorem cZ(H:RelW ty φ E h w){k:IntKind}{x:O}{x':Value}(hx:RelV φ (x e) x')(hr:YM k x F e h=.ok v h'):BI ty φ E h w v h' ((Op.unary .neg x').run P w):=by
 unfold YM at hr
 split at hr
 ·rename_i n hn
  rw[Eo hn]at hx;obtain rfl:=hx.int_inv
  obtain⟨rfl,rfl⟩:=EP hr
  rw[Cq]
  exact .same H (.int _ _)
 ·cases hr
theorem X9(H:RelW ty φ E h w){k:IntKind}{x:O}{x':Value}(hx:RelV φ (x e) x')(hr:Cn k x F e h=.ok v h'):
  ∃ q n,x'=.int q n∧BI ty φ E h w v h' ((Conv.intToInt k n).run P w):=by
 unfold Cn at hr
 split at hr
 ·rename_i n hn
  obtain⟨q,hq⟩:=TW hn
  rw[hq]at hx;obtain rfl:=hx.int_inv
  obtain⟨rfl,rfl⟩:=EP hr
  rw[Cq]
  exact⟨q,n,rfl,.same H (.int _ _)⟩
 ·cases hr
end
end
noncomputable section
open Go
section
variable {P:Program}{ty:TTy}{φ:Phi}{E:Nat→Prop}{h h':Hp}{w:World}{F:CallF}{e:Env}{v:Value}
def JK:IntKind→Nat
 |.i8=>7|.i16=>15|.i32=>31|.i64=>63|.u8=>8|.u16=>16|.u32=>32|.u64=>64
theorem Q6(k:IntKind):A7 k+1=2 ^ JK k:=by cases k<;>rfl
theorem Sd(k:IntKind):JK k≤k.bits:=by cases k<;>decide
theorem J0{k:IntKind}{a:Nat}(ha:a≤A7 k):(BitVec.ofInt k.bits (a:Int)).toNat=a:=by
 have h1:=Q6 k
 have h2:2 ^ JK k≤2 ^ k.bits:=Nat.pow_le_pow_right (by omega) (Sd k)
 rw[BitVec.ofInt_natCast,BitVec.toNat_ofNat,Nat.mod_eq_of_lt (by omega)]
theorem Dv{x:O}{x':Value}(hx:RelV φ (x e) x'){n:Nat}(h:Cu (x e)=.ok n):∃ k,x'=.int k n:=by
 obtain⟨k,hk⟩:=bh h
 rw[hk]at hx;exact⟨k,hx.int_inv⟩
theorem G9{k:IntKind}{x:O}{x':Value}(hx:RelV φ (x e) x'){n:Nat}(h:FN k (x e)=.ok n):x'=.int k n:=by
 rw[bg h]at hx;exact hx.int_inv
theorem OT(H:RelW ty φ E h w){f:Nat→Nat→Nat}{op:BinOp}(hop:(f=Nat.land∧op=.and)∨(f=Nat.lor∧op=.or)∨(f=Nat.xor∧op=.xor))
  {k:IntKind}{x y:O}{x' y':Value}{t:TypeId}{X Y:Operand}(hx:RelV φ (x e) x')(hy:RelV φ (y e) y')(hr:Jw f k x y F e h=.ok v h'):BI ty φ E h w v h' ((Bl op t X Y x' y').run P w):=by
 unfold Jw WN at hr
 split at hr
 case h_2=>cases hr
 rename_i a h1
 split at hr
 case h_2=>cases hr
 rename_i b h2
 obtain⟨ha,hr⟩:=Bf hr
 obtain⟨hb,hr⟩:=Bf hr
 obtain rfl:=G9 hx h1;obtain rfl:=G9 hy h2
 obtain⟨rfl,rfl⟩:=EP hr
 have ha:=Af.1 ha;have hb:=Af.1 hb
 have ea:=J0 ha;have eb:=J0 hb
 have ht:=Q6 k
 have key:(Bl op t X Y (.int k a) (.int k b)).run P w=.ok (.int k (.ofNat (f a b))) w:=by
  unfold Bl
  rw[Sem.run_bind,Eu,Result.andThen_ok]
  rcases hop with ⟨rfl,rfl⟩|⟨rfl,rfl⟩|⟨rfl,rfl⟩<;>
   simp only[binOp,ne_eq,not_true_eq_false,if_false,Op.intBits,Sem.run_pure,BitVec.toNat_and,BitVec.toNat_or,BitVec.toNat_xor,ea,eb]
  ·have:a &&& b≤A7 k:=Nat.le_trans Nat.and_le_left ha
   rw[C1 k _ this];rfl
  ·have:a ||| b<2 ^ JK k:=Nat.or_lt_two_pow (by omega) (by omega)
   rw[C1 k _ (by omega)];rfl
  ·have:a ^^^ b<2 ^ JK k:=Nat.xor_lt_two_pow (by omega) (by omega)
   rw[C1 k _ (by omega)];rfl
 rw[key];exact .same H (.int _ _)
theorem Pd(op:BinOp)(hop:op=.shl∨op=.shr)(t:TypeId)(X Y:Operand)(a b:Value):(eqGuard op t X Y a b).run P w=.ok () w:=by
 rcases hop with rfl|rfl<;>rfl
theorem cn(H:RelW ty φ E h w){k:IntKind}{x y:O}{x' y':Value}{t:TypeId}{X Y:Operand}(hx:RelV φ (x e) x')(hy:RelV φ (y e) y')(hr:Mo k x y F e h=.ok v h'):
  BI ty φ E h w v h' ((Bl .shl t X Y x' y').run P w):=by
 unfold Mo Y0 at hr
 split at hr
 case h_2=>cases hr
 rename_i a h1
 split at hr
 case h_2=>cases hr
 rename_i b h2
 obtain rfl:=G9 hx h1;obtain⟨q,rfl⟩:=Dv hy h2
 obtain⟨rfl,rfl⟩:=EP hr
 have key:(Bl .shl t X Y (.int k a) (.int q b)).run P w=.ok (.int k (k.wrap (.ofNat (a * 2 ^ (min b k.bits))))) w:=by
  unfold Bl
  rw[Sem.run_bind,Pd _ (.inl rfl),Result.andThen_ok]
  have:¬ ((b:Int)<0):=by omega
  simp only[binOp,Op.shift,this,if_false,Sem.run_pure,Int.toNat_natCast]
  simp
 rw[key,Cq,BC];exact .same H (.int _ _)
theorem cq(H:RelW ty φ E h w){k:IntKind}{x y:O}{x' y':Value}{t:TypeId}{X Y:Operand}(hx:RelV φ (x e) x')(hy:RelV φ (y e) y')(hr:Kb k x y F e h=.ok v h'):
  BI ty φ E h w v h' ((Bl .shr t X Y x' y').run P w):=by
 unfold Kb Y1 at hr
 split at hr
 case h_2=>cases hr
 rename_i a h1
 split at hr
 case h_2=>cases hr
 rename_i b h2
 obtain rfl:=G9 hx h1;obtain⟨q,rfl⟩:=Dv hy h2
 obtain⟨rfl,rfl⟩:=EP hr
 have key:(Bl .shr t X Y (.int k a) (.int q b)).run P w=.ok (.int k (.ofNat (a / 2 ^ (min b k.bits)))) w:=by
  unfold Bl
  rw[Sem.run_bind,Pd _ (.inr rfl),Result.andThen_ok]
  have:¬ ((b:Int)<0):=by omega
  simp only[binOp,Op.shift,this,if_false,Sem.run_pure,Int.toNat_natCast]
  congr 2
  have e2:((2:Int) ^ min b k.bits)=((2 ^ min b k.bits:Nat):Int):=by simp
  rw[e2,Int.fdiv_eq_ediv_of_nonneg _ (Int.natCast_nonneg _)];rfl
 rw[key,BC];exact .same H (.int _ _)
theorem LG:∀ x y:List UInt8,bEq x y=(x == y)
 |[],[]=>rfl
 |[],_::_=>rfl
 |_::_,[]=>rfl
 |a::x,b::y=>by
  have ih:=LG x y
  unfold bEq
  rw[ih,List.cons_beq_cons]
  cases hab:Nat.beq a.toNat b.toNat with
  |true=>
   have:a=b:=UInt8.toNat_inj.1 (Al.1 hab)
   simp[this]
  |false=>
   have:a≠b:=fun h=>by rw[h]at hab;rw[Nat.beq_refl]at hab;cases hab
   simp[this]
theorem WJ:∀ x y:List UInt8,bLt x y=Op.bytesLess x y
 |[],[]=>rfl
 |[],_::_=>rfl
 |_::_,[]=>rfl
 |a::x,b::y=>by
  have ih:=WJ x y
  unfold bLt Op.bytesLess
  rw[ih]
  cases hlt:Nat.blt a.toNat b.toNat with
  |true=>
   have:a<b:=UInt8.lt_iff_toNat_lt.2 (BD.1 hlt)
   simp[this]
  |false=>
   have:¬ a<b:=fun h=>by rw[BD.2 (UInt8.lt_iff_toNat_lt.1 h)]at hlt;cases hlt
   cases hab:Nat.beq a.toNat b.toNat with
   |true=>
    have:a=b:=UInt8.toNat_inj.1 (Al.1 hab)
    simp[this]
   |false=>
    have h2:a≠b:=fun h=>by rw[h]at hab;rw[Nat.beq_refl]at hab;cases hab
    simp[this,h2]
theorem qy{f:List UInt8→List UInt8→Bool}{x y:O}{x' y':Value}(hx:RelV φ (x e) x')(hy:RelV φ (y e) y')(hr:I6 f x y F e h=.ok v h'):
  ∃ a b,x'=.string a∧y'=.string b∧v=.bool (f a.data.toList b.data.toList)∧h'=h:=by
 unfold I6 Y9 at hr
 split at hr
 case h_2=>cases hr
 rename_i a h1
 split at hr
 case h_2=>cases hr
 rename_i b h2
 rw[h1]at hx;rw[h2]at hy
 obtain⟨r1,r2⟩:=IK hr
 exact⟨a,b,hx.string_inv,hy.string_inv,r1,r2⟩
theorem Hg(H:RelW ty φ E h w){f:List UInt8→List UInt8→Bool}{op:BinOp}
  (hop:(f=bEq∧op=.eql)∨(f=(fun a b=> !bEq a b)∧op=.neq)∨(f=bLt∧op=.lss)∨(f=(fun a b=>bLt b a)∧op=.gtr)∨(f=(fun a b=> !bLt b a)∧op=.leq)∨(f=(fun a b=> !bLt a b)∧op=.geq))
  {x y:O}{x' y':Value}{t:TypeId}{X Y:Operand}(hx:RelV φ (x e) x')(hy:RelV φ (y e) y')(hr:I6 f x y F e h=.ok v h'):BI ty φ E h w v h' ((Bl op t X Y x' y').run P w):=by
 obtain⟨a,b,rfl,rfl,rfl,rfl⟩:=qy hx hy hr
 have key:(Bl op t X Y (.string a) (.string b)).run P w=.ok (.bool (f a.data.toList b.data.toList)) w:=by
  unfold Bl
  rw[Sem.run_bind,NH,Result.andThen_ok]
  rcases hop with ⟨rfl,rfl⟩|⟨rfl,rfl⟩|⟨rfl,rfl⟩|⟨rfl,rfl⟩|⟨rfl,rfl⟩|⟨rfl,rfl⟩<;>
   simp only[binOp,Op.stringOp,Sem.run_pure,Result.ok.injEq,Value.bool.injEq,and_true,LG,WJ,ByteArray.toList_eq]
  all_goals
   rw[bytesLess_eq,bytesLess_eq,Bool.eq_iff_iff]
   simp only[Bool.not_eq_true',Bool.or_eq_false_iff,Bool.or_eq_true,decide_eq_true_iff,decide_eq_false_iff_not,beq_iff_eq,beq_eq_false_iff_ne]
  ·constructor
   ·rintro⟨h1,h2⟩
    rcases Std.lt_trichotomy a.data.toList b.data.toList with h|h|h
    ·exact absurd h h1
    ·exact absurd h h2
    ·exact h
   ·intro h
    exact⟨fun h2=>absurd (Std.lt_trans h h2) (Std.lt_irrefl),fun h2=>by rw[h2]at h;exact Std.lt_irrefl h⟩
  ·constructor
   ·rintro (h1|h1) h
    ·exact Std.lt_irrefl (Std.lt_trans h h1)
    ·rw[h1]at h;exact Std.lt_irrefl h
   ·intro h1
    rcases Std.lt_trichotomy a.data.toList b.data.toList with h|h|h
    ·exact .inl h
    ·exact .inr h
    ·exact absurd h h1
 rw[key];exact .same H (.bool _)
theorem Gq{a:ByteArray}{l:List UInt8}(h:a.data.toList=l):a=⟨⟨l⟩⟩:=by
 cases a;rename_i d;cases d;simp at h;rw[h]
theorem cH(H:RelW ty φ E h w){x y:O}{x' y':Value}{t:TypeId}{X Y:Operand}(hx:RelV φ (x e) x')(hy:RelV φ (y e) y')(hr:cE x y F e h=.ok v h'):
  BI ty φ E h w v h' ((Bl .add t X Y x' y').run P w):=by
 unfold cE Z3 at hr
 split at hr
 case h_2=>cases hr
 rename_i a h1
 split at hr
 case h_2=>cases hr
 rename_i b h2
 rw[h1]at hx;rw[h2]at hy
 obtain rfl:=hx.string_inv;obtain rfl:=hy.string_inv
 obtain⟨hb,hr⟩:=Bf hr
 cases hr
 have hb:=Af.1 hb
 rw[BN,BN]at hb
 have key:(Bl .add t X Y (.string a) (.string b)).run P w=.ok (.string (a++b)) w:=by
  unfold Bl
  rw[Sem.run_bind,NH,Result.andThen_ok]
  have e1:a.size=a.data.toList.length:=rfl
  have e2:b.size=b.data.toList.length:=rfl
  have:¬ ((a.size+b.size:Nat):Int) > IntKind.i64.max:=by
   rw[e1,e2]
   have h1:IntKind.i64.max=9223372036854775807:=by decide
   have h2:most=1099511627776:=rfl
   rw[h1];rw[h2]at hb
   have h3:a.data.toList.length+b.data.toList.length≤1099511627776:=hb
   omega
  simp only[binOp,Op.stringOp,this,if_false,Sem.run_pure]
 rw[key,← Gq (a:=a++b) (l:=a.data.toList++b.data.toList) (by simp)]
 exact .same H (.string _)
theorem cK(H:RelW ty φ E h w){x:O}{x':Value}(hx:RelV φ (x e) x')(hr:YB x F e h=.ok v h'):BI ty φ E h w v h' ((Op.unary .xor x').run P w):=by
 unfold YB at hr
 split at hr
 ·rename_i n hn
  obtain rfl:=G9 hx hn
  obtain⟨hb,hr⟩:=Bf hr
  have hb:=Af.1 hb
  obtain⟨rfl,rfl⟩:=EP hr
  have key:(Op.unary .xor (.int .u8 n)).run P w=.ok (.int .u8 (.ofNat (255 - n))) w:=by
   simp only[Op.unary,Op.intBits,Sem.run_pure,BitVec.toNat_xor]
   have ea:=J0 (k:=.u8) hb
   have e1:(BitVec.ofInt IntKind.u8.bits (if IntKind.u8.signed then -1 else IntKind.u8.max)).toNat=255:=by decide
   rw[e1,ea]
   have e2:255 ^^^ n=255 - n:=by
    have:∀ n:Fin 256,255 ^^^ n.val=255 - n.val:=by decide +kernel
    exact this ⟨n,by omega⟩
   rw[e2,C1 .u8 (255 - n) (by show _≤255;omega)];rfl
  rw[key];exact .same H (.int _ _)
 ·cases hr
end
end
noncomputable section
open Go
section
variable {P:Program}{ty:TTy}{φ:Phi}{E:Nat→Prop}{h h':Hp}{w:World}{F:CallF}{e:Env}{v:Value}
theorem FQ{x:O}{x':Value}(hx:RelV φ (x e) x'){a:Addr}(h:DT (x e)=.ok a):∃ a',x'=.pointer (some a')∧RelA φ a a':=by
 rw[HO h]at hx;exact hx.ptr_inv
theorem GD(a:Addr):(Instr.sureAddr (.pointer (some a))).run P w=.ok a w:=rfl
theorem VO(H:RelW ty φ E h w){x:O}{x':Value}{t:TypeId}{ti:TI}(T:TyOk P t ti)(hagg:ti.k.agg=false)(hx:RelV φ (x e) x')
  (hE:∀ a,x e=.pointer (some a)→¬ E a.block)(hr:AO x F e h=.ok v h'):BI ty φ E h w v h' ((Instr.loadAt t x').run P w):=by
 unfold AO at hr
 cases ha:DT (x e)with
 |no=>rw[ha]at hr;cases hr
 |ok a=>
  rw[ha]at hr
  obtain⟨a',rfl,hra⟩:=FQ hx ha
  obtain⟨rfl,v',hc,hv⟩:=Py H hr hra (hE a (HO ha))
  have key:(Instr.loadAt t (.pointer (some a'))).run P w=.ok v' w:=by
   simp only[Instr.loadAt,Sem.run_bind,GD,Result.andThen_ok,loadVar,T.agg,hagg,run_load,hc,Bool.false_eq_true,if_false]
  rw[key];exact .same H hv
theorem Pz(H:RelW ty φ E h w){n:Nat}{a a':Addr}(hr:loadN n a h=.ok v h')(ha:RelA φ a a')(hE:¬ E a.block):
  h'=h∧∃ l,RelV φ v (.agg ⟨l⟩)∧(loadCells a' n).run P w=.ok l.toArray w:=by
 unfold loadN at hr
 split at hr
 case h_2=>cases hr
 rename_i c s en hrow
 obtain⟨hb,hr⟩:=Bf hr
 rw[FZ,List.append_nil]at hr
 cases hr
 obtain⟨l,hl,_,hrun,_⟩:=P3 H ha hE hrow (Af.1 hb)
 exact⟨rfl,l,.agg hl,hrun w rfl⟩
theorem VQ(H:RelW ty φ E h w){x:O}{x':Value}{t:TypeId}{ti:TI}(T:TyOk P t ti)(hagg:ti.k.agg=true)(hx:RelV φ (x e) x')
  (hE:∀ a,x e=.pointer (some a)→¬ E a.block)(hr:Bh ti.size x F e h=.ok v h'):BI ty φ E h w v h' ((Instr.loadAt t x').run P w):=by
 unfold Bh at hr
 split at hr
 case h_2=>cases hr
 rename_i a ha
 obtain⟨a',rfl,hra⟩:=FQ hx ha
 obtain⟨rfl,l,hv,hrun⟩:=Pz (P:=P) H hr hra (hE a (HO ha))
 have key:(Instr.loadAt t (.pointer (some a'))).run P w=.ok (.agg l.toArray) w:=by
  simp only[Instr.loadAt,Sem.run_bind,GD,Result.andThen_ok,loadVar,T.agg,hagg,T.size,hrun,if_true,Sem.run_pure]
 rw[key];exact .same H hv
def V7(ty:TTy)(φ:Phi)(E:Nat→Prop)(h:Hp)(w:World)(v:Value)(h':Hp)(r:Result Unit):Prop:=
 v=noRes∧∃ w',r=.ok () w'∧RelW ty φ E h' w'∧Evo φ h w φ h' w'
theorem Oi{a:Addr}{u:Value}{k:Hp→R}(hr:Cb a (cellsOf u) h k=.ok v h'):known u=true:=by
 cases u<;>first|rfl|skip
 rename_i cc
 cases cc with
 |some r=>rfl
 |none=>
 exfalso
 unfold Cb at hr
 cases hrow:rowOf h a.block with
 |no=>rw[hrow]at hr;cases hr
 |ok c s e=>
  rw[hrow]at hr
  simp only at hr
  obtain⟨_,hr⟩:=Bf hr
  have h1:=(Bf hr).1
  cases h1
theorem VX(H:RelW ty φ E h w){x y:O}{x' y':Value}{t:TypeId}{ti:TI}(T:TyOk P t ti)(hx:RelV φ (x e) x')(hy:RelV φ (y e) y')
  (hE:∀ a,x e=.pointer (some a)→¬ E a.block)(hr:As ti.size x y F e h=.ok v h'):V7 ty φ E h w v h' ((Instr.storeAt t x' y').run P w):=by
 unfold As at hr
 split at hr
 case h_2=>cases hr
 rename_i a ha
 obtain⟨a',rfl,hra⟩:=FQ hx ha
 rw[A8]at hr
 obtain⟨hb,hr⟩:=Bf hr
 have hc:=Jd hy (Oi hr)
 obtain⟨h1,w1,hk,hrun,H1,ev⟩:=Hl (P:=P) H hr hra hc (hE a (HO ha))
 cases hk
 refine⟨rfl,w1,?_,H1,ev⟩
 have hsz:y'.cells.size=ti.size:=by
  have:=hc.length
  rw[← Al.1 hb,BN,← this];simp
 simp only[Instr.storeAt,Sem.run_bind,GD,Result.andThen_ok,storeVar,T.size,hsz,ne_eq,not_true_eq_false,if_false,hrun,Sem.run_pure]
theorem ce(H:RelW ty φ E h w){x:O}{x':Value}(hx:RelV φ (x e) x')(hr:Bj x F e h=.ok v h'):
  RelV φ v x'∧h'=h∧(x'≠.pointer none∧x'≠.nilIface∧x'≠.nilFunc∧∀ nm f c,x'≠.func (.method nm) f c):=by
 unfold Bj VA at hr
 split at hr
 ·rename_i a ha
  cases hr;rw[ha]at hx
  obtain⟨a',rfl,hra⟩:=hx.ptr_inv
  exact⟨.ptr hra,rfl,by simp⟩
 ·rename_i f a b ha
  cases hr;rw[ha]at hx
  cases hx with|func fn h1 h2=>exact⟨.func _ h1 h2,rfl,by simp⟩
 ·rename_i a n c ha
  cases hr;rw[ha]at hx
  refine⟨hx,rfl,?_⟩
  cases hx<;>simp
 ·rename_i m ha
  cases hr;rw[ha]at hx
  refine⟨hx,rfl,?_⟩
  cases hx<;>simp
 ·rename_i t u ha
  rw[A8]at hr
  cases hr;rw[ha]at hx
  refine⟨hx,rfl,?_⟩
  cases hx<;>simp
 ·cases hr
theorem GO(H:RelW ty φ E h w){cs cs':List Value}{k:Nat→Hp→R}(hr:newRow h 0 cs k=.ok v h')(hrel:RelL φ cs cs')(t:TypeId):
  ∃ h1 ψ,k h.next h1=.ok v h'∧ψ h.next=some {blk:=w.heap.size,off:=0,sz:=cs.length,room:=cs.length,es:=1}∧
   RelW ty ψ E h1 {w with heap:=w.heap.push (.cells ⟨cs'⟩ t)}∧Evo φ h w ψ h1 {w with heap:=w.heap.push (.cells ⟨cs'⟩ t)}:=by
 have hlen:=hrel.length
 obtain⟨h1,hk,H1,ev⟩:=NX (cs':=⟨cs'⟩) (t:=t) (fr:=(0,0)) (w':={w with heap:=w.heap.push (.cells ⟨cs'⟩ t)})
  (p:={blk:=w.heap.size,off:=0,sz:=cs.length,room:=cs.length,es:=1}) H hr (by simp[hlen]) ⟨rfl,.inl ⟨rfl,rfl,rfl,.inl rfl⟩⟩ (by simp[hlen]) (.inl rfl)
  (fun j u hj=>by simpa using hrel.get j u hj) rfl rfl rfl rfl
 exact⟨h1,_,hk,Phi.put_self _ _ _,H1,ev⟩
theorem Od{ψ:Phi}{n:Nat}{p:Pl}(hp:ψ n=some p)(ho:p.off=0):RelV ψ (.pointer (some ⟨n,0,none⟩)) (.pointer (some ⟨p.blk,0,none⟩)):=
 .ptr ⟨rfl,rfl,p,hp,rfl,by simp[ho]⟩
theorem cD(H:RelW ty φ E h w){x:O}{x':Value}{t:TypeId}(hx:RelV φ (x e) x')(hr:DD x F e h=.ok v h'):BI ty φ E h w v h' ((Instr.box t x').run P w):=by
 unfold DD at hr;rw[A8]at hr
 obtain⟨hkn,hr⟩:=Bf hr
 obtain⟨h1,ψ,hk,hp,H1,ev⟩:=GO H hr (Jd hx hkn) t
 cases hk
 exact⟨_,_,ψ,rfl,Od hp rfl,H1,ev⟩
theorem VC(H:RelW ty φ E h w){t:TypeId}{ti:TI}(T:TyOk P t ti){c:VT}(hz:ti.zero.length=ti.size)(hc:Bv .mt 0 ti.zero=some c)(hr:Bo ti.size c F e h=.ok v h'):
  BI ty φ E h w v h' ((Instr.alloc t true (.tuple #[])).run P w):=by
 obtain⟨z,_,hzr,hzc,hzp⟩:=T.zeroOk hz
 have hr':newRow h 0 ti.zero IL=.ok v h':=by
  unfold newRow CG;rw[hc];simp only[Aa,BN,hz];exact hr
 obtain⟨h1,ψ,hk,hp,H1,ev⟩:=GO H hr' (.plain hzp) t
 cases hk
 refine⟨_,_,ψ,?_,Od hp rfl,H1,ev⟩
 have e1:(⟨ti.zero⟩:Array Value)=z.cells:=by rw[← hzc]
 simp only[Instr.alloc,Sem.run_bind,hzr,Result.andThen_ok,newVar,Go.newRow,run_newObj,Sem.run_pure,e1]
theorem Qg(H:RelW ty φ E h w){a a':Addr}{n:Nat}(ha:RelA φ a a')(hr:Nf a n h=.ok v h'):h'=h∧RelV φ v (.pointer (some (a'.add n))):=by
 unfold Nf at hr;rw[Aa]at hr;cases hr
 obtain⟨p,hp,rfl⟩:=ha.eq
 rw[Addr.add_is]
 refine⟨rfl,.ptr ⟨rfl,rfl,p,hp,rfl,?_⟩⟩
 show p.off+a.off+n=p.off+(a.off+n)
 omega
theorem Lf{fs:List (Nat×Nat×Nat)}{fields:Array Field}(hf:fields.toList.map (fun f=>(f.offset,P.cellsOf f.type,f.type))=fs){i o s t:Nat}(hi:nth fs i=some (o,s,t)):
  ∃ f,fields[i]? =some f∧f.offset=o∧P.cellsOf f.type=s∧f.type=t:=by
 rw[E9,← hf,List.getElem?_map]at hi
 cases hg:fields.toList[i]? with
 |none=>rw[hg]at hi;cases hi
 |some f=>
  rw[hg]at hi
  simp only[Option.map_some,Option.some.injEq,Prod.mk.injEq]at hi
  exact⟨f,by simpa using hg,hi.1,hi.2.1,hi.2.2⟩
theorem Mn(H:RelW ty φ E h w){x:O}{x':Value}{t:TypeId}{ti:TI}(T:TyOk P t ti){fs:List (Nat×Nat×Nat)}(hk:ti.k=.struct fs){i o s ft:Nat}(hi:nth fs i=some (o,s+1,ft))
  (hx:RelV φ (x e) x')(hr:AF o x F e h=.ok v h'):BI ty φ E h w v h' ((Instr.fieldAt t x' i).run P w):=by
 unfold AF at hr
 cases ha:DT (x e)with
 |no=>rw[ha]at hr;cases hr
 |ok a=>
  rw[ha]at hr
  obtain⟨a',rfl,hra⟩:=FQ hx ha
  obtain⟨rfl,hv⟩:=Qg H hra hr
  obtain⟨d,hd,hkd⟩:=T.desc
  rw[hk]at hkd
  cases hkd with
  |struct hf hin=>
   obtain⟨f,hf1,hf2,hf3,hf4⟩:=Lf hf hi
   have hsome:(P.info? f.type).isSome=true:=by
    have:=List.all_eq_true.1 hin f (by simpa using Array.mem_of_getElem? hf1)
    exact this
   obtain⟨inf,hinf⟩:=Option.isSome_iff_exists.1 hsome
   have key:(Instr.fieldAt t (.pointer (some a')) i).run P w=.ok (.pointer (some (a'.add o))) w:=by
    simp only[Instr.fieldAt,Sem.run_bind,hd,Result.andThen_ok,hf1,GD,fieldPlace,run_sizeOf w hinf,hf3,hf2,Nat.succ_ne_zero,if_false,Sem.run_pure,Nat.add_eq_zero_iff,reduceCtorEq,and_false]
   rw[key];exact .same H hv
theorem TQ(H:RelW ty φ E h w){n esize:Nat}{a a':Addr}{ix:O}{ix':Value}(hi:RelV φ (ix e) ix')(ha:RelA φ a a')(hr:Lp n esize (.ok a) (Cu (ix e)) h=.ok v h'):
  ∃ k i,ix'=.int k (i:Nat)∧i<n∧h'=h∧RelV φ v (.pointer (some (a'.add (i * esize)))):=by
 unfold Lp at hr
 cases h1:Cu (ix e)with
 |no=>rw[h1]at hr;cases hr
 |ok i=>
  rw[h1]at hr
  simp only at hr
  obtain⟨k,rfl⟩:=Dv hi h1
  cases hb:Nat.blt i n with
  |false=>rw[hb]at hr;cases hr
  |true=>
   rw[hb]at hr
   simp only at hr
   obtain⟨r1,r2⟩:=Qg H ha hr
   exact⟨k,i,rfl,BD.1 hb,r1,r2⟩
theorem SO(H:RelW ty φ E h w){x ix:O}{x' ix':Value}{t el:TypeId}{ti ei:TI}(T:TyOk P t ti){n:Nat}(hk:ti.k=.arr n el)(TE:TyOk P el ei)
  (hx:RelV φ (x e) x')(hi:RelV φ (ix e) ix')(hr:CO n ei.size x ix F e h=.ok v h'):BI ty φ E h w v h' ((Instr.indexAt t x' ix').run P w):=by
 unfold CO at hr
 cases ha:DT (x e)with
 |no=>
  rw[ha]at hr
  unfold Lp at hr
  cases h1:Cu (ix e)with
  |no=>rw[h1]at hr;cases hr
  |ok i=>rw[h1]at hr;simp only at hr;cases hb:Nat.blt i n<;>rw[hb]at hr<;>cases hr
 |ok a=>
  rw[ha]at hr
  obtain⟨a',rfl,hra⟩:=FQ hx ha
  obtain⟨k,i,rfl,hlt,rfl,hv⟩:=TQ H hi hra hr
  obtain⟨d,hd,hkd⟩:=T.desc
  rw[hk]at hkd
  cases hkd
  have key:(Instr.indexAt t (.pointer (some a')) (.int k (i:Nat))).run P w=.ok (.pointer (some (a'.add (i * ei.size)))) w:=by
   have h2:(0:Int)≤(i:Int)∧(i:Int)<(n:Int):=by omega
   simp only[Instr.indexAt,asIntOf,Sem.run_bind,Sem.run_pure,hd,Result.andThen_ok,GD,h2,and_self,if_true,TE.size,Int.toNat_natCast,Sem.run_ite]
  rw[key];exact .same H hv
theorem J4{a a':Addr}{n c c':Nat}(hn:n≤c)(h:RelS φ a c a' c')(h0:0<n):RelA φ a a':=by
 obtain⟨s1,s2,p,hp,hb,h|h⟩:=h
 ·exact⟨s1,s2,p,hp,hb,h.2.1⟩
 ·omega
theorem cS(H:RelW ty φ E h w){x ix:O}{x' ix':Value}{t el:TypeId}{ti ei:TI}(T:TyOk P t ti)(hk:ti.k=.slice el)(TE:TyOk P el ei)
  (hx:RelV φ (x e) x')(hi:RelV φ (ix e) ix')(hr:CA ei.size x ix F e h=.ok v h'):BI ty φ E h w v h' ((Instr.indexAt t x' ix').run P w):=by
 unfold CA at hr
 split at hr
 case h_2=>cases hr
 rename_i a n c hxe
 rw[hxe]at hx
 cases hx with
 |@slice _ a' _ _ c' hn hs=>
  obtain⟨d,hd,hkd⟩:=T.desc
  rw[hk]at hkd
  cases hkd
  cases h1:Cu (ix e)with
  |no=>rw[h1]at hr;cases hr
  |ok i0=>
   have hpos:0<n:=by
    rw[h1]at hr
    unfold Lp at hr
    simp only at hr
    cases hb:Nat.blt i0 n with
    |false=>rw[hb]at hr;cases hr
    |true=>have:=BD.1 hb;omega
   obtain⟨k,i,rfl,hlt,rfl,hv⟩:=TQ H hi (J4 hn hs hpos) hr
   have key:(Instr.indexAt t (.slice (some a') n c') (.int k (i:Nat))).run P w=.ok (.pointer (some (a'.add (i * ei.size)))) w:=by
    have h2:(0:Int)≤(i:Int)∧(i:Int)<(n:Int):=by omega
    simp only[Instr.indexAt,asIntOf,Sem.run_bind,Sem.run_pure,hd,Result.andThen_ok,h2,and_self,if_true,TE.size,Int.toNat_natCast,Sem.run_ite]
   rw[key];exact .same H hv
theorem Qc(H:RelW ty φ E h w){t:TypeId}{ti:TI}(T:TyOk P t ti){l l':List Value}(hl:RelL φ l l'){off:Nat}(hr:Nd ti.k.agg ti.size l off h=.ok v h'):
  BI ty φ E h w v h' ((part t ⟨l'⟩ off).run P w):=by
 unfold Nd at hr
 split at hr
 ·rename_i hagg
  rw[CM,HL,Ih]at hr
  cases hr
  have key:(part t ⟨l'⟩ off).run P w=.ok (.agg ⟨(l'.drop off).take ti.size⟩) w:=by
   simp only[part,Sem.run_bind,T.agg,hagg,Result.andThen_ok,if_true,T.size,Sem.run_pure]
   congr 2
   apply Array.ext'
   simp[Array.toList_extract,List.extract_eq_take_drop]
  rw[key];exact .same H (.agg ((hl.drop off).take ti.size))
 ·rename_i hagg
  split at hr
  ·rename_i u hu
   rw[A8]at hr
   cases hr
   rw[E9]at hu
   obtain⟨u',hu',hru⟩:=hl.get off _ hu
   have key:(part t ⟨l'⟩ off).run P w=.ok u' w:=by
    have:(⟨l'⟩:Array Value)[off]? =some u':=by simpa using hu'
    simp only[part,Sem.run_bind,T.agg,hagg,Result.andThen_ok,Bool.false_eq_true,if_false,this,Sem.run_pure]
   rw[key];exact .same H hru
  ·cases hr
theorem VK(H:RelW ty φ E h w){x:O}{x':Value}{t:TypeId}{ti fi:TI}(T:TyOk P t ti){fs:List (Nat×Nat×Nat)}(hk:ti.k=.struct fs){i o s ft:Nat}(hi:nth fs i=some (o,s,ft))(TF:TyOk P ft fi)
  (hx:RelV φ (x e) x')(hr:MC fi.k.agg fi.size o x F e h=.ok v h'):BI ty φ E h w v h' ((Instr.field t x' i).run P w):=by
 unfold MC at hr
 split at hr
 case h_2=>cases hr
 rename_i cs hxe
 rw[hxe]at hx
 cases hx with
 |agg hl=>
  obtain⟨d,hd,hkd⟩:=T.desc
  rw[hk]at hkd
  cases hkd with
  |struct hf hin=>
   obtain⟨f,hf1,hf2,hf3,hf4⟩:=Lf hf hi
   have:=Qc (P:=P) H TF hl hr
   simp only[Instr.field,Sem.run_bind,hd,Result.andThen_ok,hf1,asAgg,Sem.run_pure,hf2,hf4]
   exact this
theorem kZ(H:RelW ty φ E h w){x ix:O}{x' ix':Value}{t el:TypeId}{ti ei:TI}(T:TyOk P t ti){n:Nat}(hk:ti.k=.arr n el)(TE:TyOk P el ei)
  (hx:RelV φ (x e) x')(hi:RelV φ (ix e) ix')(hr:oAt ei.k.agg n ei.size x ix F e h=.ok v h'):BI ty φ E h w v h' ((Instr.index t x' ix').run P w):=by
 unfold oAt atF at hr
 split at hr
 case h_2=>cases hr
 rename_i i h1
 obtain⟨hb,hr⟩:=Bf hr
 obtain⟨k,rfl⟩:=Dv hi h1
 split at hr
 case h_2=>cases hr
 rename_i cs hxe
 rw[hxe]at hx
 cases hx with
 |agg hl=>
  obtain⟨d,hd,hkd⟩:=T.desc
  rw[hk]at hkd
  cases hkd
  have:=Qc (P:=P) H TE hl hr
  have hlt:=BD.1 hb
  have h2:(0:Int)≤(i:Int)∧(i:Int)<(n:Int):=by omega
  simp only[Instr.index,asIntOf,Sem.run_bind,Sem.run_pure,hd,Result.andThen_ok,h2,and_self,if_true,TE.size,Int.toNat_natCast,Sem.run_ite]
  exact this
theorem VF(H:RelW ty φ E h w){x ix:O}{x' ix':Value}{t:TypeId}{ti:TI}(T:TyOk P t ti)(hk:ti.k=.string)
  (hx:RelV φ (x e) x')(hi:RelV φ (ix e) ix')(hr:II x ix F e h=.ok v h'):BI ty φ E h w v h' ((Instr.index t x' ix').run P w):=by
 unfold II JT at hr
 split at hr
 case h_2=>cases hr
 rename_i i h1
 obtain⟨k,rfl⟩:=Dv hi h1
 split at hr
 case h_2=>cases hr
 rename_i s hxe
 rw[hxe]at hx
 obtain rfl:=hx.string_inv
 split at hr
 case h_2=>cases hr
 rename_i b hb
 obtain⟨rfl,rfl⟩:=EP hr
 obtain⟨d,hd,hkd⟩:=T.desc
 rw[hk]at hkd
 cases hkd
 rw[E9]at hb
 have hget:s[i]? =some b:=by
  have h0:i<s.data.toList.length:=by
   rcases Nat.lt_or_ge i s.data.toList.length with h|h
   ·exact h
   ·rw[List.getElem?_eq_none h]at hb;cases hb
  have h1:i<s.size:=h0
  rw[getElem?_pos s i h1]
  rw[List.getElem?_eq_getElem h0]at hb
  rw[← Option.some.inj hb];rfl
 have key:(Instr.index t (.string s) (.int k (i:Nat))).run P w=.ok (.int .u8 b.toNat) w:=by
  have h0:(0:Int)≤(i:Int):=by omega
  simp only[Instr.index,asIntOf,Sem.run_bind,Sem.run_pure,hd,Result.andThen_ok,h0,if_true,Int.toNat_natCast,hget]
 rw[key];exact .same H (.int _ _)
theorem QH(H:RelW ty φ E h w){x:O}{x':Value}{i:Nat}(hx:RelV φ (x e) x')(hr:AZ i x F e h=.ok v h'):BI ty φ E h w v h' ((Instr.extract x' i).run P w):=by
 unfold AZ at hr
 split at hr
 case h_2=>cases hr
 rename_i vs hxe
 rw[hxe]at hx
 cases hx with
 |@tuple l l' hl=>
  split at hr
  case h_2=>cases hr
  rename_i u hu
  rw[A8]at hr
  cases hr
  rw[E9]at hu
  obtain⟨u',hu',hru⟩:=hl.get i _ hu
  have:(⟨l'⟩:Array Value)[i]? =some u':=by simpa using hu'
  simp only[Instr.extract,this,Sem.run_pure]
  exact .same H hru
theorem _root_.Go.Proofs.YtedbmmfebjfibaaGreat.KOk.noIface{k:TK}{d:TypeDesc}(hkd:KOk P k d)(hk:k≠.iface)(ms:Array (String×TypeId)):d≠.interface ms:=by
 cases hkd with
 |other ho=>intro he;subst he;cases ho
 |iface ms'=>exact absurd rfl hk
 |_=>intro he;cases he
theorem VM(H:RelW ty φ E h w){x:O}{x':Value}{t:TypeId}{ti:TI}(T:TyOk P t ti)(hk:ti.k≠.iface)
  (hx:RelV φ (x e) x')(hr:MD t x F e h=.ok v h'):BI ty φ E h w v h' ((Instr.makeInterface t x').run P w):=by
 unfold MD at hr;rw[A8]at hr;cases hr
 obtain⟨d,hd,hkd⟩:=T.und
 have key:(Instr.makeInterface t x').run P w=.ok (.iface t x') w:=by
  simp only[Instr.makeInterface,Sem.run_bind,run_underlying hd,Result.andThen_ok]
  cases d<;>first|rfl|exact absurd rfl (hkd.noIface hk _)
 rw[key];exact .same H (.iface t hx)
theorem cT(H:RelW ty φ E h w){t:TypeId}(hr:VR F e h=.ok v h'):BI ty φ E h w v h' ((Instr.makeMap t none).run P w):=by
 unfold VR at hr
 obtain⟨bl,hbl,hk⟩:=Hd hr
 cases hk
 let w':World:={w with heap:=w.heap.push (.map #[] 0)}
 have hs:w'.heap.size=w.heap.size+1:=by simp[w']
 have hsame:∀ k,k<w.heap.size→w'.heap[k]? =w.heap[k]?:=fun k hk=>by
  show(w.heap.push _)[k]? =_
  rw[Array.getElem?_push_lt hk,Array.getElem?_eq_getElem hk]
 refine⟨.map (some w.heap.size),w',φ.put h.next {blk:=w.heap.size,off:=0,sz:=0,room:=0,es:=1},rfl,.map (Phi.put_self _ _ _),
  H.new hbl (by omega) (by show w.heap.size<_;omega) (fun j q e _=>by have:=(H.dom j q e).2;show _≠w.heap.size;omega) (fun k hk _=>hsame k hk) ?_,
  .made H hbl (Nat.le_refl _) (by omega) hsame rfl rfl rfl⟩
 have:w'.heap[w.heap.size]? =some (.map #[] 0):=by show(w.heap.push _)[w.heap.size]? =_;simp
 rw[this]
 exact .map .nil
end
end
noncomputable section
open Go
inductive RelO (φ:Phi)(e:Env):Option O→Option Value→Prop
 |none:RelO φ e none none
 |some {o:O} {x:Value} (h:RelV φ (o e) x):RelO φ e (some o) (some x)
section
variable {P:Program}{ty:TTy}{φ:Phi}{E:Nat→Prop}{h h':Hp}{w:World}{F:CallF}{e:Env}{v:Value}
theorem Fu{o:O}{x:Value}(hx:RelV φ (o e) x){d y:Nat}{k:Nat→R}(hr:CY e (some o) d y k=.ok v h'):
  ∃ n,n≤y∧k n=.ok v h'∧∀ Y,n≤Y→∀ code w,(Instr.sliceBound x Y code).run P w=.ok n w:=by
 unfold CY at hr
 simp only at hr
 split at hr
 case h_2=>cases hr
 rename_i n hn
 obtain⟨hb,hr⟩:=Bf hr
 obtain⟨k',rfl⟩:=Dv hx hn
 refine⟨n,Af.1 hb,hr,fun Y hY code w=>?_⟩
 have h2:(0:Int)≤(n:Int)∧(n:Int)≤(Y:Int):=by omega
 simp only[Instr.sliceBound,asIntOf,Sem.run_bind,Sem.run_pure,Result.andThen_ok,h2,and_self,if_true,Int.toNat_natCast]
theorem RO(d y:Nat)(k:Nat→R):CY e none d y k=k d:=rfl
theorem HQ{lo hi mx:Option O}{lo' hi' mx':Option Value}(hl:RelO φ e lo lo')(hh:RelO φ e hi hi')(hm:RelO φ e mx mx'){len cap cap':Nat}(hc:cap≤cap')(hlen:len≤cap)
  {k:Nat→Nat→Nat→R}(hr:DB e len cap lo hi mx k=.ok v h')(s:Bool):
  ∃ l b m,k l b m=.ok v h'∧l≤b∧b≤m∧m≤cap∧(mx.isSome=false→m=cap)∧∀ w,(Instr.sliceBounds s len cap' lo' hi' mx').run P w=.ok (l,b,if mx.isSome then m else cap') w:=by
 unfold DB at hr
 cases hm with
 |none=>
  simp only at hr
  cases hh with
  |none=>
   rw[RO]at hr
   cases hl with
   |none=>exact⟨0,len,cap,hr,Nat.zero_le _,hlen,Nat.le_refl _,fun _=>rfl,fun w=>rfl⟩
   |some hl=>
    obtain⟨l,h1,hk,hs⟩:=Fu (P:=P) hl hr
    exact⟨l,len,cap,hk,h1,hlen,Nat.le_refl _,fun _=>rfl,fun w=>by
     simp only[Instr.sliceBounds,Sem.run_bind,Sem.run_pure,Result.andThen_ok,hs len h1];rfl⟩
  |some hh=>
   obtain⟨b,h2,hr,hs2⟩:=Fu (P:=P) hh hr
   cases hl with
   |none=>exact⟨0,b,cap,hr,Nat.zero_le _,h2,Nat.le_refl _,fun _=>rfl,fun w=>by
     simp only[Instr.sliceBounds,Sem.run_bind,Sem.run_pure,Result.andThen_ok,hs2 cap' (Nat.le_trans h2 hc)];rfl⟩
   |some hl=>
    obtain⟨l,h1,hk,hs⟩:=Fu (P:=P) hl hr
    exact⟨l,b,cap,hk,h1,h2,Nat.le_refl _,fun _=>rfl,fun w=>by
     simp only[Instr.sliceBounds,Sem.run_bind,Sem.run_pure,Result.andThen_ok,hs2 cap' (Nat.le_trans h2 hc),hs b h1];rfl⟩
 |some hm=>
  simp only at hr
  obtain⟨m,h3,hr,hs3⟩:=Fu (P:=P) hm hr
  cases hh with
  |none=>cases hr
  |some hh=>
   simp only at hr
   obtain⟨b,h2,hr,hs2⟩:=Fu (P:=P) hh hr
   cases hl with
   |none=>exact⟨0,b,m,hr,Nat.zero_le _,h2,h3,fun h=>(by cases h),fun w=>by
     simp only[Instr.sliceBounds,Sem.run_bind,Sem.run_pure,Result.andThen_ok,hs3 cap' (Nat.le_trans h3 hc),hs2 m h2];rfl⟩
   |some hl=>
    obtain⟨l,h1,hk,hs⟩:=Fu (P:=P) hl hr
    exact⟨l,b,m,hk,h1,h2,h3,fun h=>(by cases h),fun w=>by
     simp only[Instr.sliceBounds,Sem.run_bind,Sem.run_pure,Result.andThen_ok,hs3 cap' (Nat.le_trans h3 hc),hs2 m h2,hs b h1];rfl⟩
theorem RelS.le{a a':Addr}{c c':Nat}(h:RelS φ a c a' c'):c≤c':=by
 obtain⟨_,_,p,_,_,h|h⟩:=h
 ·rcases h.2.2 with h|h
  ·exact Nat.le_of_eq h.symm
  ·exact h.2.1
 ·omega
theorem IQ(a:Option Addr)(size l b m:Nat)(h:Hp):
  Bc a size l b m h=.ok (.slice (if m=l then a else a.map fun a=>if l * size=0 then a else⟨a.block,a.off+l * size,none⟩) (b - l) (m - l)) h:=by
 unfold Bc
 rw[Aa,Aa]
 by_cases hml:m=l
 ·subst hml;rw[Nat.beq_refl,if_pos rfl];rfl
 ·have hb:Nat.beq m l=false:=by
   cases hb:Nat.beq m l
   ·rfl
   ·exact absurd (Al.1 hb) hml
  rw[hb,if_neg hml]
  cases a with
  |none=>rfl
  |some a=>
   have e:Nat.mul l size=l * size:=rfl
   rw[e]
   cases hm:l * size with
   |zero=>rw[Option.map_some,if_pos rfl];rfl
   |succ q=>rw[Option.map_some,if_neg (Nat.succ_ne_zero q)];simp only[Aa];rfl
theorem aB{a a':Addr}{c c':Nat}(hs:RelS φ a c a' c'){size l b m:Nat}(hlb:l≤b)(hbm:b≤m)(hmc:m≤c){mx:Bool}(hm:mx=false→m=c)
  (hfit:mx=false→0<l→∀ p,φ a.block=some p→p.es=size∨(p.room=p.sz∧p.es=1)):
  RelV φ (.slice (if m=l then some a else(some a).map fun a=>if l * size=0 then a else⟨a.block,a.off+l * size,none⟩) (b - l) (m - l))
   (.slice (if(if mx then m else c')=l then some a' else(some a').map (·.add (l * size))) (b - l) ((if mx then m else c') - l)):=by
 obtain⟨s1,s2,p,hp,hb,hor⟩:=hs
 obtain⟨ab,ao,asp⟩:=a
 obtain⟨ab',ao',asp'⟩:=a'
 simp only at s1 s2 hp hb hor
 subst s1;subst s2;subst hb
 simp only[Option.map_some,Addr.add_is]
 have hle:m≤(if mx then m else c'):=by
  cases mx
  ·have:=hm rfl
   simp only[Bool.false_eq_true,if_false]
   rcases hor with h|h
   ·rcases h.2.2 with h|h<;>omega
   ·omega
  ·simp
 by_cases hml:m=l
 ·rw[if_pos hml]
  by_cases hml':(if mx then m else c')=l
  ·rw[if_pos hml']
   refine .slice (by omega) ⟨rfl,rfl,p,hp,rfl,.inr ⟨by omega,.inl (by omega)⟩⟩
  ·rw[if_neg hml']
   cases mx with
   |true=>exact absurd hml hml'
   |false=>
    simp only[Bool.false_eq_true,if_false]at hml' hle ⊢
    have hmc':=hm rfl
    refine .slice (by omega) ⟨rfl,rfl,p,hp,rfl,.inr ⟨by omega,.inr ?_⟩⟩
    simp only
    rcases Nat.eq_zero_or_pos l with h0|h0
    ·subst h0
     simp only[Nat.zero_mul,Nat.add_zero,Nat.sub_zero]
     rcases hor with h|h
     ·omega
     ·rcases h.2 with h|h
      ·omega
      ·exact h
    ·rcases hor with ⟨_,hoff,h|⟨h1,h2,h3⟩⟩|h
     ·omega
     ·rcases hfit rfl h0 p hp with he|⟨hr1,hr2⟩
      ·have hcl:c=l:=by omega
       have hmul:(c' - l) * p.es+l * p.es=c' * p.es:=by rw[← Nat.add_mul];congr 1;omega
       subst hcl
       rw[← he]
       omega
      ·rw[hr2]at h1 h3;omega
     ·omega
 ·have hne:¬ ((if mx=true then m else c')=l):=by omega
  rw[if_neg hml,if_neg hne]
  have hpos:0<c:=by omega
  rcases hor with ⟨_,hoff,hcap⟩|h
  case inr=>omega
  have hA:∀ X:Addr,X=(if l * size=0 then(⟨ab,ao,none⟩:Addr)else⟨ab,ao+l * size,none⟩)→X=⟨ab,ao+l * size,none⟩:=by
   intro X hX;rw[hX];split
   ·rename_i h;rw[h];rfl
   ·rfl
  rw[hA _ rfl]
  refine .slice (by omega) ⟨rfl,rfl,p,hp,rfl,.inl ⟨by omega,by simp only;omega,?_⟩⟩
  cases mx with
  |true=>exact .inl rfl
  |false=>
   simp only[Bool.false_eq_true,if_false]
   have hmc':=hm rfl
   subst hmc'
   rcases hcap with h|⟨h1,h2,h3⟩
   ·exact .inl (by rw[h])
   ·rcases Nat.eq_zero_or_pos l with h0|h0
    ·subst h0;refine .inr ?_;simp only[Nat.zero_mul,Nat.add_zero,Nat.sub_zero];exact⟨h1,h2,h3⟩
    ·rcases hfit rfl h0 p hp with he|⟨hr1,hr2⟩
     ·refine .inr ?_
      have e1:(m - l) * p.es+l * p.es=m * p.es:=by rw[← Nat.add_mul];congr 1;omega
      have e2:(c' - l) * p.es+l * p.es=c' * p.es:=by rw[← Nat.add_mul];congr 1;omega
      rw[← he]
      omega
     ·rw[hr2]at h1 h3;exact .inl (by omega)
theorem ay(H:RelW ty φ E h w){el:Nat}{ei:TI}(hty:ty.get el=some ei){a:Addr}(hf:Eb el (some a) h=true):∀ p,φ a.block=some p→p.es=ei.size∨(p.room=p.sz∧p.es=1):=by
 intro p hp
 unfold Eb at hf
 simp only at hf
 split at hf
 ·rename_i c s en hrow
  have hk:=H.kind a.block p c s en hp (C6 hrow)
  rcases hk.2 with ⟨_,h1,h2,_⟩|⟨t,ti,h1,h2,h3⟩
  ·exact .inr ⟨h1,h2⟩
  ·subst h1
   have:t=el:=Al.1 hf
   subst this
   rw[hty]at h2;cases h2;exact .inl h3
 ·cases hf
theorem cM(H:RelW ty φ E h w){x:O}{x':Value}{t el:TypeId}{ti ei:TI}(T:TyOk P t ti)(hk:ti.k=.slice el)(hty:ty.get el=some ei)(TE:TyOk P el ei)
  {lo hi mx:Option O}{lo' hi' mx':Option Value}(hx:RelV φ (x e) x')(hl:RelO φ e lo lo')(hh:RelO φ e hi hi')(hm:RelO φ e mx mx')
  (hr:Db el ei.size x lo hi mx F e h=.ok v h'):BI ty φ E h w v h' ((Instr.sliceAt t x' lo' hi' mx').run P w):=by
 unfold Db at hr
 split at hr
 case h_2=>cases hr
 rename_i a n c hxe
 rw[hxe]at hx
 obtain⟨d,hd,hkd⟩:=T.desc
 rw[hk]at hkd
 cases hkd
 cases hx with
 |slice0=>
  ·obtain⟨l,b,m,hk2,h1,h2,h3,h4,hs⟩:=HQ (P:=P) hl hh hm (Nat.le_refl 0) (Nat.le_refl 0) hr true
   have hcut:Bc none ei.size l b m h=.ok v h':=by
    unfold Dn at hk2
    split at hk2
    ·exact hk2
    ·split at hk2
     ·exact hk2
     ·exact(Bf hk2).2
   rw[IQ]at hcut
   cases hcut
   have key:(Instr.sliceAt t (.slice none 0 0) lo' hi' mx').run P w=.ok (.slice none (b - l) (m - l)) w:=by
    have hmm:(if mx.isSome then m else 0)=m:=by
     split
     ·rfl
     ·rename_i hf;exact(h4 (by simpa using hf)).symm
    rw[hmm]at hs
    simp only[Instr.sliceAt,Instr.slice,Sem.run_bind,hd,Result.andThen_ok,hs,TE.size,Sem.run_pure,Option.map_none,ite_self]
   rw[key]
   simp only[Option.map_none,ite_self]
   have e1:m=0:=by omega
   have e2:b=0:=by omega
   have e3:l=0:=by omega
   subst e1;subst e2;subst e3
   exact .same H .slice0
 |@slice a a' _ _ c' hn hsl=>
  obtain⟨l,b,m,hk2,h1,h2,h3,h4,hs⟩:=HQ (P:=P) hl hh hm hsl.le hn hr true
  have hcut:Bc (some a) ei.size l b m h=.ok v h'∧(mx.isSome=false→0<l→∀ p,φ a.block=some p→p.es=ei.size∨(p.room=p.sz∧p.es=1)):=by
   unfold Dn at hk2
   split at hk2
   ·rename_i hmx;exact⟨hk2,fun hf=>by rw[hmx]at hf;cases hf⟩
   ·split at hk2
    ·exact⟨hk2,fun _ h0=>absurd h0 (Nat.lt_irrefl 0)⟩
    ·obtain⟨hf,hk2⟩:=Bf hk2
     exact⟨hk2,fun _ _=>ay H hty hf⟩
  obtain⟨hcut,hfit⟩:=hcut
  rw[IQ]at hcut
  cases hcut
  have key:(Instr.sliceAt t (.slice (some a') n c') lo' hi' mx').run P w=
    .ok (.slice (if(if mx.isSome then m else c')=l then some a' else(some a').map (·.add (l * ei.size))) (b - l) ((if mx.isSome then m else c') - l)) w:=by
   simp only[Instr.sliceAt,Instr.slice,Sem.run_bind,hd,Result.andThen_ok,hs,TE.size,Sem.run_pure]
  rw[key]
  exact .same H (aB hsl h1 h2 h3 h4 hfit)
end
end
noncomputable section
open Go
theorem Fg{α:Type}(xs:List α):∀ n,(BJ xs n).length=n * xs.length
 |0=>by simp[BJ]
 |n+1=>by
  show(xs++BJ xs n).length=_
  rw[List.length_append,Fg xs n,Nat.succ_mul,Nat.add_comm]
theorem Qn{α:Type}(xs:List α):∀ n i,i<n * xs.length→(BJ xs n)[i]? =xs[i % xs.length]?
 |0,i,h=>by simp at h
 |n+1,i,h=>by
  show(xs++BJ xs n)[i]? =_
  rcases Nat.lt_or_ge i xs.length with hl|hl
  ·rw[List.getElem?_append_left hl,Nat.mod_eq_of_lt hl]
  ·have h2:i - xs.length<n * xs.length:=by rw[Nat.succ_mul]at h;omega
   rw[List.getElem?_append_right hl,Qn xs n _ h2,← Nat.mod_eq_sub_mod hl]
theorem HH{φ:Phi}{l l':List Value}(h:RelL φ l l'):∀ n,RelL φ (BJ l n) (BJ l' n)
 |0=>.nil
 |n+1=>h.append (HH h n)
theorem Mf(z:Array Value)(n:Nat):((Array.range (n * z.size)).map (fun i=>z[i % z.size]!))=⟨BJ z.toList n⟩:=by
 apply Array.ext'
 apply List.ext_getElem?
 intro i
 simp only[Array.toList_map,List.getElem?_map,Array.toList_range]
 rcases Nat.lt_or_ge i (n * z.size)with h|h
 ·have h1:i<n * z.toList.length:=by simpa using h
  rw[Qn _ _ _ h1,List.getElem?_range h,Option.map_some]
  have h2:0<z.size:=by
   rcases Nat.eq_zero_or_pos z.size with h0|h0
   ·rw[h0]at h;simp at h
   ·exact h0
  have h3:i % z.size<z.size:=Nat.mod_lt _ h2
  simp[h3]
 ·rw[List.getElem?_eq_none (by simpa using h),List.getElem?_eq_none (by rw[Fg];simpa using h)];rfl
theorem Gb(z:Array Value)(n:Nat):Builtin.zeroCells z n=⟨BJ z.toList n⟩:=Mf z n
theorem lay_is(cs:List Value)(off:Nat)(vs:List Value):lay cs off vs=cs.take off++vs++cs.drop (off+vs.length):=by
 unfold lay;rw[HL,Ih,BN];rfl
theorem SB{cs:List Value}{off:Nat}{vs:List Value}(h:off+vs.length≤cs.length):(lay cs off vs).length=cs.length:=by
 rw[lay_is];simp;omega
theorem bU{φ:Phi}{cs cs' vs vs':List Value}(h:RelL φ cs cs')(hv:RelL φ vs vs')(off:Nat):RelL φ (lay cs off vs) (lay cs' off vs'):=by
 rw[lay_is,lay_is,hv.length]
 exact((h.take off).append hv).append (h.drop _)
theorem M9(off:Nat):∀ (vs:List Value) (j:Nat) (cs:Array Value),off+j+vs.length≤cs.size→
  ((vs.zipIdx j).foldl (fun cs (c,j)=>cs.setIfInBounds (off+j) c) cs).toList=lay cs.toList (off+j) vs
 |[],j,cs,h=>by rw[lay_is];simp
 |v::vs,j,cs,h=>by
  simp only[List.length_cons]at h
  rw[List.zipIdx_cons,List.foldl_cons]
  have:=M9 off vs (j+1) (cs.setIfInBounds (off+j) v) (by simp;omega)
  rw[this,lay_is,lay_is]
  have hlt:off+j<cs.toList.length:=by simp;omega
  rw[Array.toList_setIfInBounds,show off+(j+1)=off+j+1 by omega]
  rw[List.length_cons,List.take_set,List.drop_set_of_lt (by omega)]
  have e1:(cs.toList.take (off+j+1)).set (off+j) v=cs.toList.take (off+j)++[v]:=by
   rw[List.take_succ_eq_append_getElem hlt,List.set_append_right _ _ (by simp;omega)]
   have:(off+j - (cs.toList.take (off+j)).length)=0:=by simp;omega
   rw[this];rfl
  rw[e1,show off+j+1+vs.length=off+j+(vs.length+1)by omega]
  simp
section
variable {φ:Phi}{h':Hp}{e:Env}{v:Value}
inductive RelP (φ:Phi)(e:Env)(place:Nat→Option (Nat×Nat)):List (Nat×Nat×O)→List (Nat×Value)→Prop
 |nil:RelP φ e place [] []
 |cons {i off size:Nat} {o:O} {x:Value} {l:List (Nat×Nat×O)} {l':List (Nat×Value)} (hp:place i=some (off,size)) (hx:RelV φ (o e) x) (t:RelP φ e place l l'):
  RelP φ e place ((off,size,o)::l) ((i,x)::l')
theorem Ik{place:Nat→Option (Nat×Nat)}{k:List Value→R}:∀ {ps:List (Nat×Nat×O)} {ps':List (Nat×Value)},RelP φ e place ps ps'→∀ {cs cs':List Value},RelL φ cs cs'→
  D9 cs e k ps=.ok v h'→∃ r r',k r=.ok v h'∧RelL φ r r'∧r.length=cs.length∧Instr.fill place ⟨cs'⟩ ps'=some ⟨r'⟩
 |_,_,.nil,cs,cs',hc,hr=>by
  unfold D9 at hr
  rw[CM]at hr
  exact⟨cs,cs',hr,hc,rfl,rfl⟩
 |_,_,.cons (off:=off) (size:=size) (o:=o) (x:=x) hp hx t,cs,cs',hc,hr=>by
  unfold D9 at hr
  rw[A8]at hr
  obtain⟨hkn,hr⟩:=Bf hr
  obtain⟨hb1,hr⟩:=Bf hr
  obtain⟨hb2,hr⟩:=Bf hr
  have hcl:=Jd hx hkn
  have h1:=Al.1 hb1
  have h2:=Af.1 hb2
  rw[BN]at h1 h2
  have h3:=hcl.length
  have h4:=hc.length
  obtain⟨r,r',hk,hrr,hlen,hf⟩:=Ik t (bU hc hcl off) hr
  have h2':off+size≤cs.length:=h2
  have hsz:x.cells.size=size:=by rw[← h1,← h3];simp
  refine⟨r,r',hk,hrr,by rw[hlen,SB (by omega)],?_⟩
  rw[Instr.fill,hp]
  simp only
  rw[if_neg (by simp[hsz];omega)]
  have hfold:(x.cells.zipIdx.foldl (fun cs (c,j)=>cs.setIfInBounds (off+j) c) (⟨cs'⟩:Array Value))=⟨lay cs' off x.cells.toList⟩:=by
   apply Array.ext'
   have:=M9 off x.cells.toList 0 ⟨cs'⟩ (by simp[hsz];omega)
   rw[← Array.foldl_toList,Array.toList_zipIdx]
   exact this
  rw[hfold]
  exact hf
end
end
noncomputable section
open Go
section
variable {P:Program}{ty:TTy}{φ:Phi}{E:Nat→Prop}{h h':Hp}{w:World}{F:CallF}{e:Env}{v:Value}
theorem SH(H:RelW ty φ E h w){t:TypeId}{ti:TI}(T:TyOk P t ti){fs:List (Nat×Nat×Nat)}(hk:ti.k=.struct fs)(hz:ti.zero.length=ti.size)
  {ps:List (Nat×Nat×O)}{ps':Array (Nat×Value)}(hp:RelP φ e (MM fs) ps ps'.toList)
  (hr:Bp ti.zero ps F e h=.ok v h'):BI ty φ E h w v h' ((Instr.build t ps').run P w):=by
 unfold Bp at hr
 obtain⟨z,_,hzr,hzc,hzp⟩:=T.zeroOk hz
 obtain⟨r,r',hk2,hrr,hlen,hf⟩:=Ik hp (.plain hzp) hr
 cases hk2
 obtain⟨d,hd,hkd⟩:=T.desc
 rw[hk]at hkd
 cases hkd with
 |@struct fs fields hfl hin=>
  have hmap:∀ w,(fields.mapM (fun f=>(do pure (f.offset,← sizeOf f.type):Sem (Nat×Nat)))).run P w=.ok (fields.map fun f=>(f.offset,P.cellsOf f.type)) w:=by
   intro w
   rw[← Array.toArray_toList (xs:=fields),List.mapM_toArray,List.map_toArray]
   have:∀ l:List Field,l.all (fun f=>(P.info? f.type).isSome)=true→(l.mapM (fun f=>(do pure (f.offset,← sizeOf f.type):Sem (Nat×Nat)))).run P w=.ok (l.map fun f=>(f.offset,P.cellsOf f.type)) w:=by
    intro l
    induction l with
    |nil=>intro _;rfl
    |cons f l ih=>
     intro hall
     simp only[List.all_cons,Bool.and_eq_true]at hall
     obtain⟨inf,hinf⟩:=Option.isSome_iff_exists.1 hall.1
     simp only[List.mapM_cons,Sem.run_bind,run_sizeOf w hinf,Result.andThen_ok,Sem.run_pure,ih hall.2,List.map_cons]
   simp only[Sem.run_map,this _ hin,Result.andThen_ok]
  have hplace:MM fs=fun i=>(fields.map fun f=>(f.offset,P.cellsOf f.type))[i]?:=by
   funext i
   unfold MM
   rw[E9,← hfl,List.getElem?_map,Array.getElem?_map,← Array.getElem?_toList]
   cases fields.toList[i]?<;>rfl
  rw[hplace]at hf
  have hz':(⟨ti.zero⟩:Array Value)=z.cells:=by rw[← hzc]
  rw[hz']at hf
  have key:(Instr.build t ps').run P w=.ok (.agg ⟨r'⟩) w:=by
   simp only[Instr.build,Sem.run_bind,hzr,Result.andThen_ok,hd,hmap,hf,Sem.run_pure]
  rw[key];exact .same H (.agg hrr)
theorem SG(H:RelW ty φ E h w){t el:TypeId}{ti ei:TI}(T:TyOk P t ti){n:Nat}(hk:ti.k=.arr n el)(TE:TyOk P el ei)(hz:ti.zero.length=ti.size)
  {ps:List (Nat×Nat×O)}{ps':Array (Nat×Value)}(hp:RelP φ e (fun i=>some (Nat.mul i ei.size,ei.size)) ps ps'.toList)
  (hr:Bp ti.zero ps F e h=.ok v h'):BI ty φ E h w v h' ((Instr.build t ps').run P w):=by
 unfold Bp at hr
 obtain⟨z,_,hzr,hzc,hzp⟩:=T.zeroOk hz
 obtain⟨r,r',hk2,hrr,hlen,hf⟩:=Ik hp (.plain hzp) hr
 cases hk2
 obtain⟨d,hd,hkd⟩:=T.desc
 rw[hk]at hkd
 cases hkd
 have hz':(⟨ti.zero⟩:Array Value)=z.cells:=by rw[← hzc]
 rw[hz']at hf
 have hf':Instr.fill (fun i=>some (i * ei.size,ei.size)) z.cells ps'.toList=some ⟨r'⟩:=hf
 have key:(Instr.build t ps').run P w=.ok (.agg ⟨r'⟩) w:=by
  simp only[Instr.build,Sem.run_bind,hzr,Result.andThen_ok,hd,TE.size,hf',Sem.run_pure]
 rw[key];exact .same H (.agg hrr)
theorem UA{ψ:Phi}{n s l c:Nat}{p:Pl}(hp:ψ n=some p)(ho:p.off=0)(hl:l≤c)(hc:c=0∨0<c):RelV ψ (.slice (some ⟨n,0,none⟩) l c) (.slice (some ⟨p.blk,0,none⟩) l c):=by
 refine .slice hl ⟨rfl,rfl,p,hp,rfl,?_⟩
 rcases hc with h|h
 ·exact .inr ⟨h,.inl h⟩
 ·exact .inl ⟨h,by simp[ho],.inl rfl⟩
theorem MA(H:RelW ty φ E h w){t el:TypeId}{ti ei:TI}(T:TyOk P t ti)(hk:ti.k=.slice el)(TE:TyOk P el ei)(hz:ei.zero.length=ei.size)
  {len:Nat}(hlen:len * ei.size≤16777216){ps:List (Nat×Nat×O)}{ps':Array (Nat×Value)}(hp:RelP φ e (fun i=>some (Nat.mul i ei.size,ei.size)) ps ps'.toList)
  (hr:Ah len (BJ ei.zero len) ps F e h=.ok v h'):BI ty φ E h w v h' ((Instr.buildSlice t len ps').run P w):=by
 unfold Ah at hr
 obtain⟨z,_,hzr,hzc,hzp⟩:=TE.zeroOk hz
 obtain⟨r,r',hk2,hrr,hlr,hf⟩:=Ik hp (HH (.plain hzp) len) hr
 obtain⟨h1,ψ,hk3,hps,H1,ev⟩:=GO H hk2 hrr el
 cases hk3
 obtain⟨d,hd,hkd⟩:=T.desc
 rw[hk]at hkd
 cases hkd
 have hzs:z.cells.size=ei.size:=by rw[← hz,← hzc];simp
 have hf':Instr.fill (fun i=>some (i * ei.size,ei.size)) ⟨BJ ei.zero len⟩ ps'.toList=some ⟨r'⟩:=hf
 have hcells:(Array.range (len * ei.size)).map (fun i=>z.cells[i % z.cells.size]!)=⟨BJ ei.zero len⟩:=by
  rw[← hzc,← hzs];exact Mf z.cells len
 have hng:¬ (len * ei.size > 2 ^ 24):=by omega
 have key:(Instr.buildSlice t len ps').run P w=.ok (.slice (some ⟨w.heap.size,0,none⟩) len len) {w with heap:=w.heap.push (.cells ⟨r'⟩ el)}:=by
  by_cases h0:len * ei.size=0
  ·have:(Array.range (len * ei.size)).map (fun i=>(#[]:Array Value)[i % (#[]:Array Value).size]!)=⟨BJ ei.zero len⟩:=by
    rw[← hcells,h0];simp
   simp only[Instr.buildSlice,Sem.run_bind,hd,Result.andThen_ok,TE.size,hng,h0,if_false,if_true,Sem.run_pure,Nat.not_lt_zero,gt_iff_lt]
   rw[h0]at this
   simp only[this,hf',Go.newRow,Sem.run_bind,run_newObj,Result.andThen_ok,Sem.run_pure]
  ·simp only[Instr.buildSlice,Sem.run_bind,hd,Result.andThen_ok,TE.size,hng,h0,if_false,hzr,Sem.run_pure,hcells,hf',Go.newRow,run_newObj]
 rw[key]
 exact⟨_,_,ψ,rfl,UA (s:=0) hps rfl (Nat.le_refl _) (Nat.eq_zero_or_pos _),H1,ev⟩
theorem HN{n:Nat}(h:n≤9223372036854775807):IntKind.i64.wrap (n:Int)=n:=C1 .i64 n h
theorem ba:most=1099511627776:=rfl
theorem Tg:Ix=70368744177664:=rfl
theorem Hb{n:Nat}(h:n≤1099511627776):n≤Ix:=Nat.le_trans h (by rw[Tg];omega)
theorem Th{c b:Nat}(h:Nat.ble (Nat.mul (Nat.succ c) (Nat.succ b)) Ix=true):c≤70368744177664∧(c+1) * (b+1)≤70368744177664:=by
 have h1:=Af.1 h
 rw[Tg]at h1
 have h2:(c+1) * (b+1)≤70368744177664:=h1
 refine⟨?_,h2⟩
 have:c+1≤(c+1) * (b+1):=Nat.le_mul_of_pos_right _ (by omega)
 omega
theorem be{c b:Nat}(h:Nat.ble (Nat.mul (Nat.succ c) (Nat.succ b)) most=true):c≤1099511627776∧(c+1) * (b+1)≤1099511627776:=by
 have h1:=Af.1 h
 rw[ba]at h1
 have h2:(c+1) * (b+1)≤1099511627776:=h1
 refine⟨?_,h2⟩
 have:c+1≤(c+1) * (b+1):=Nat.le_mul_of_pos_right _ (by omega)
 omega
theorem YL(H:RelW ty φ E h w){t el:TypeId}{ti ei:TI}(T:TyOk P t ti)(hk:ti.k=.slice el)(TE:TyOk P el ei)(hz:ei.zero.length=ei.size)
  {l c:O}{l' c':Value}(hl:RelV φ (l e) l')(hc:RelV φ (c e) c')(hr:Gi ei.bytes ei.zero l c F e h=.ok v h'):BI ty φ E h w v h' ((Instr.makeSlice t l' c').run P w):=by
 unfold Gi P5 at hr
 split at hr
 case h_2=>cases hr
 rename_i a h1
 split at hr
 case h_2=>cases hr
 rename_i b h2
 obtain⟨k1,rfl⟩:=Dv hl h1
 obtain⟨k2,rfl⟩:=Dv hc h2
 obtain⟨hb1,hr⟩:=Bf hr
 obtain⟨hb2,hr⟩:=Bf hr
 have hle:=Af.1 hb1
 obtain⟨hm1,hm2⟩:=be hb2
 obtain⟨z,_,hzr,hzc,hzp⟩:=TE.zeroOk hz
 have hzs:z.cells.size=ei.size:=by rw[← hz,← hzc];simp
 have hrel:RelL φ (BJ ei.zero b) (BJ ei.zero b):=HH (.plain hzp) b
 obtain⟨h1',ψ,hk3,hps,H1,ev⟩:=GO H hr hrel el
 cases hk3
 obtain⟨d,hd,hkd⟩:=T.desc
 rw[hk]at hkd
 cases hkd
 obtain⟨inf,hinf,hs,hbt,_⟩:=TE.info
 have hcells:(Array.range (b * ei.size)).map (fun i=>z.cells[i % z.cells.size]!)=⟨BJ ei.zero b⟩:=by
  rw[← hzc,← hzs];exact Mf z.cells b
 have w1:IntKind.i64.wrap (a:Int)=a:=HN (by omega)
 have w2:IntKind.i64.wrap (b:Int)=b:=HN (by omega)
 have hbytes:¬ ((ei.bytes:Int) * (b:Int) > 2 ^ 48):=by
  have:ei.bytes * b≤(b+1) * (ei.bytes+1):=by rw[Nat.mul_comm];exact Nat.mul_le_mul (by omega) (by omega)
  have h3:((ei.bytes * b:Nat):Int)≤1099511627776:=by omega
  rw[← Int.natCast_mul]
  omega
 have hcond:((decide ((b:Int)<0) || decide ((ei.bytes:Int) * (b:Int) > 2 ^ 48)) || decide ((a:Int)<0) || decide ((a:Int) > (b:Int)))=false:=by
  simp only[Bool.or_eq_false_iff,decide_eq_false_iff_not]
  refine⟨⟨⟨by omega,hbytes⟩,by omega⟩,by omega⟩
 have key:(Instr.makeSlice t (.int k1 (a:Nat)) (.int k2 (b:Nat))).run P w=.ok (.slice (some ⟨w.heap.size,0,none⟩) a b) {w with heap:=w.heap.push (.cells ⟨BJ ei.zero b⟩ el)}:=by
  by_cases h0:b * ei.size=0
  ·have e0:(Array.range (b * ei.size)).map (fun i=>(#[]:Array Value)[i % (#[]:Array Value).size]!)=⟨BJ ei.zero b⟩:=by
    rw[← hcells,h0];simp
   rw[h0]at e0
   simp only[Instr.makeSlice,Sem.run_bind,hd,Result.andThen_ok,asInt,asIntOf,Sem.run_pure,run_typeInfo _ hinf,hbt,w1,w2,hcond,Bool.false_eq_true,if_false,run_askRoom,Int.toNat_natCast,TE.size,h0,if_true,e0,Go.newRow,run_newObj,Sem.run_ite]
  ·simp only[Instr.makeSlice,Sem.run_bind,hd,Result.andThen_ok,asInt,asIntOf,Sem.run_pure,run_typeInfo _ hinf,hbt,w1,w2,hcond,Bool.false_eq_true,if_false,run_askRoom,Int.toNat_natCast,TE.size,h0,hzr,hcells,Go.newRow,run_newObj,Sem.run_ite]
 rw[key]
 exact⟨_,_,ψ,rfl,UA (s:=0) hps rfl hle (Nat.eq_zero_or_pos _),H1,ev⟩
end
end
noncomputable section
open Go
section
variable {P:Program}{ty:TTy}{φ:Phi}{E:Nat→Prop}{h h':Hp}{w:World}{F:CallF}{e:Env}{v:Value}
theorem SJ(H:RelW ty φ E h w){x:O}{x':Value}{t el:TypeId}{ti ei:TI}(T:TyOk P t ti){n:Nat}(hk:ti.k=.arr n el)(TE:TyOk P el ei)
  {lo hi mx:Option O}{lo' hi' mx':Option Value}(hx:RelV φ (x e) x')(hl:RelO φ e lo lo')(hh:RelO φ e hi hi')(hm:RelO φ e mx mx')
  (hr:Ff n ei.size x lo hi mx F e h=.ok v h'):BI ty φ E h w v h' ((Instr.sliceAt t x' lo' hi' mx').run P w):=by
 unfold Ff at hr
 split at hr
 case h_2=>cases hr
 rename_i a ha
 obtain⟨a',rfl,hra⟩:=FQ hx ha
 obtain⟨d,hd,hkd⟩:=T.desc
 rw[hk]at hkd
 cases hkd
 obtain⟨l,b,m,hk2,h1,h2,h3,h4,hs⟩:=HQ (P:=P) hl hh hm (Nat.le_refl n) (Nat.le_refl n) hr false
 have hmm:(if mx.isSome then m else n)=m:=by
  split
  ·rfl
  ·rename_i hf;exact(h4 (by simpa using hf)).symm
 rw[hmm]at hs
 rw[IQ]at hk2
 cases hk2
 have key:(Instr.sliceAt t (.pointer (some a')) lo' hi' mx').run P w=.ok (.slice (some (if m=l then a' else a'.add (l * ei.size))) (b - l) (m - l)) w:=by
  simp only[Instr.sliceAt,Sem.run_bind,hd,Result.andThen_ok,GD,hs,TE.size,Sem.run_pure]
 rw[key]
 refine .same H ?_
 have s1:=hra.1
 obtain⟨p,hp,rfl⟩:=hra.eq
 obtain⟨ab,ao,asp⟩:=a
 simp only at s1 hp
 subst s1
 simp only[Addr.add_is,Option.map_some]
 by_cases hml:m=l
 ·rw[if_pos hml,if_pos hml]
  exact .slice (by omega) ⟨rfl,rfl,p,hp,rfl,.inr ⟨by omega,.inl (by omega)⟩⟩
 ·rw[if_neg hml,if_neg hml]
  have hA:(if l * ei.size=0 then(⟨ab,ao,none⟩:Addr)else⟨ab,ao+l * ei.size,none⟩)=⟨ab,ao+l * ei.size,none⟩:=by
   split
   ·rename_i h;rw[h];rfl
   ·rfl
  rw[hA]
  exact .slice (by omega) ⟨rfl,rfl,p,hp,rfl,.inl ⟨by omega,by simp only;omega,.inl rfl⟩⟩
theorem SL(H:RelW ty φ E h w){x:O}{x':Value}{t:TypeId}{ti:TI}(T:TyOk P t ti)(hk:ti.k=.string){lo hi:Option O}{lo' hi':Option Value}(hx:RelV φ (x e) x')
  (hl:RelO φ e lo lo')(hh:RelO φ e hi hi')(hr:Hf x lo hi F e h=.ok v h'):BI ty φ E h w v h' ((Instr.sliceAt t x' lo' hi' none).run P w):=by
 unfold Hf at hr
 split at hr
 case h_2=>cases hr
 rename_i s hxe
 rw[hxe]at hx
 obtain rfl:=hx.string_inv
 obtain⟨d,hd,hkd⟩:=T.desc
 rw[hk]at hkd
 cases hkd
 obtain⟨l,b,m,hk2,h1,h2,h3,h4,hs⟩:=HQ (P:=P) hl hh .none (Nat.le_refl _) (Nat.le_refl _) hr false
 cases hk2
 have e1:A9 s.data.toList=s.size:=BN _
 rw[e1]at hs h3
 have key:(Instr.sliceAt t (.string s) lo' hi' none).run P w=.ok (.string (s.extract l b)) w:=by
  simp only[Instr.sliceAt,Instr.slice,Sem.run_bind,hd,Result.andThen_ok,Option.isSome_none,Bool.false_eq_true,if_false,Sem.run_pure,hs]
 rw[key,← Gq (a:=s.extract l b) (l:=KR (Nat.sub b l) (Lc l s.data.toList)) (by
  rw[HL,Ih];simp[List.extract_eq_take_drop])]
 exact .same H (.string _)
theorem YS(H:RelW ty φ E h w){x:O}{x':Value}(hx:RelV φ (x e) x')(hr:QP x F e h=.ok v h'):∃ s,x'=.string s∧BI ty φ E h w v h' (.ok x' w):=by
 unfold QP at hr
 split at hr
 case h_2=>cases hr
 rename_i s hxe
 rw[hxe]at hx
 cases hr
 obtain rfl:=hx.string_inv
 exact⟨s,rfl,.same H hx⟩
theorem YE(H:RelW ty φ E h w){fn:Fn}{f c:List O}{f' c':List Value}(hf:RelL φ (vals e f) f')(hc:RelL φ (vals e c) c')(hr:Em fn f c F e h=.ok v h'):
  BI ty φ E h w v h' (.ok (.func fn ⟨f'⟩ ⟨c'⟩) w):=by
 unfold Em at hr;rw[CM,CM]at hr;cases hr;exact .same H (.func fn hf hc)
theorem bz(H:RelW ty φ E h w){x:O}{x':Value}{t el:TypeId}{ti:TI}(T:TyOk P t ti){n:Nat}(hk:ti.k=.arr n el)(hn:0<n)(hx:RelV φ (x e) x')
  (hr:QE n x F e h=.ok v h'):BI ty φ E h w v h' ((Instr.arrayAt t x').run P w):=by
 unfold QE at hr
 split at hr
 case h_2=>cases hr
 rename_i a l c hxe
 rw[hxe]at hx
 obtain⟨hb,hr⟩:=Bf hr
 cases hr
 have hb:=Af.1 hb
 obtain⟨d,hd,hkd⟩:=T.desc
 rw[hk]at hkd
 cases hkd
 cases hx with
 |@slice _ a' _ _ c' hlc hs=>
  have key:(Instr.arrayAt t (.slice (some a') l c')).run P w=.ok (.pointer (some a')) w:=by
   simp only[Instr.arrayAt,Sem.run_bind,hd,Result.andThen_ok,Nat.not_lt.2 hb,if_false,Sem.run_pure]
  rw[key];exact .same H (.ptr (J4 hlc hs (by omega)))
theorem NV(H:RelW ty φ E h w){lt:Bool}{x y:O}{x' y':Value}(hx:RelV φ (x e) x')(hy:RelV φ (y e) y')(hr:G8 lt (x e) (y e) h=.ok v h'):
  ∃ k q m n,x'=.int k m∧y'=.int q n∧h'=h∧v=.int k (if(if lt then n<m else m<n)then n else m):=by
 unfold G8 at hr
 split at hr
 case h_2=>cases hr
 rename_i k m hxe
 split at hr
 case h_2=>cases hr
 rename_i n hye
 obtain⟨q,hq⟩:=TW hye
 rw[hxe]at hx;rw[hq]at hy
 refine⟨k,q,m,n,hx.int_inv,hy.int_inv,?_⟩
 cases lt
 ·simp only[cond_false]at hr
  cases hb:iLt m n with
  |false=>
   rw[hb]at hr;cases hr
   rw[Cr]at hb
   have:=of_decide_eq_false hb
   refine⟨rfl,?_⟩
   simp[this]
  |true=>
   rw[hb]at hr;cases hr
   rw[Cr]at hb
   have:=of_decide_eq_true hb
   refine⟨rfl,?_⟩
   simp[this]
 ·simp only[cond_true]at hr
  cases hb:iLt n m with
  |false=>
   rw[hb]at hr;cases hr
   rw[Cr]at hb
   have:=of_decide_eq_false hb
   refine⟨rfl,?_⟩
   simp[this]
  |true=>
   rw[hb]at hr;cases hr
   rw[Cr]at hb
   have:=of_decide_eq_true hb
   refine⟨rfl,?_⟩
   simp[this]
theorem cX(H:RelW ty φ E h w){x y:O}{x' y':Value}{ats:Array TypeId}{t:TypeId}(hx:RelV φ (x e) x')(hy:RelV φ (y e) y')(hr:VV x y F e h=.ok v h'):
  BI ty φ E h w v h' ((Builtin.min_ ats t #[x',y']).run P w):=by
 obtain⟨k,q,m,n,rfl,rfl,rfl,rfl⟩:=NV H hx hy hr
 exact .same H (.int _ _)
theorem cV(H:RelW ty φ E h w){x y:O}{x' y':Value}{ats:Array TypeId}{t:TypeId}(hx:RelV φ (x e) x')(hy:RelV φ (y e) y')(hr:VU x y F e h=.ok v h'):
  BI ty φ E h w v h' ((Builtin.max_ ats t #[x',y']).run P w):=by
 obtain⟨k,q,m,n,rfl,rfl,rfl,rfl⟩:=NV H hx hy hr
 exact .same H (.int _ _)
theorem Gf:∀ l:List UInt8,CU l=l.map fun b=>.int .u8 (b.toNat:Int)
 |[]=>rfl
 |b::l=>by unfold CU;rw[Aa,Gf l];rfl
theorem KB(l:List UInt8):RelL φ (CU l) (l.map fun b=>.int .u8 (b.toNat:Int)):=by
 rw[Gf]
 induction l with
 |nil=>exact .nil
 |cons b l ih=>exact .cons (.int _ _) ih
theorem Fi(H:RelW ty φ E h w){size n:Nat}{x x':Value}(hE:∀ a l c,x=.slice (some a) l c→¬ E a.block)(hx:RelV φ x x'){k:List Value→R}(hr:BF h size x n k=.ok v h')
  (hn:∀ m,lenV x=.ok m→n≤m):
  ∃ cs cs':List Value,k cs=.ok v h'∧RelL φ cs cs'∧(∀ w':World,w'.heap=w.heap→(Builtin.firstCells size n x').run P w'=.ok ⟨cs'⟩ w')∧(∀ a l c,x'=.slice (some a) l c→cs'.length=n * size)∧(∀ s,x'=.string s→cs'.length=n∧size=1)∧
   (∀ a l c,x=.slice (some a) l c→0<c→∃ p cs t fr,φ a.block=some p∧w.heap[p.blk]? =some (.cells cs t fr)∧∀ (j:Nat) (u:Value),cs'[j]? =some u→cs[p.off+a.off+j]? =some u):=by
 unfold BF at hr
 split at hr
 ·cases hx
  exact⟨[],[],hr,.nil,(fun _ _=>rfl),(fun _ _ _ h=>by cases h),(fun _ h=>by cases h),(fun _ _ _ h=>by cases h)⟩
 ·rename_i a l c
  split at hr
  case h_2=>cases hr
  rename_i ct s en hrow
  obtain⟨hb,hr⟩:=Bf hr
  rw[FZ,List.append_nil]at hr
  cases hx with
  |@slice _ a' _ _ c' hlc hs=>
   rcases Nat.eq_zero_or_pos c with h0|h0
   ·have hl0:l=0:=by omega
    have hn0:n=0:=by have:=hn l rfl;omega
    subst hn0
    refine⟨_,[],hr,by simp[rowL];exact .nil,fun w' _=>?_,(fun _ _ _ h=>by simp),(fun _ h=>by cases h),(fun _ _ _ h hpos=>by cases h;omega)⟩
    simp only[Builtin.firstCells,Nat.zero_mul];rfl
   ·obtain⟨s1,s2,p,hp,hbl,hor⟩:=hs
    have ha:RelA φ a a':=by
     rcases hor with h|h
     ·exact⟨s1,s2,p,hp,hbl,h.2.1⟩
     ·omega
    obtain⟨cs',hcs,hlen,hrun,hcell⟩:=P3 (P:=P) H ha (hE _ _ _ rfl) hrow (Af.1 hb)
    exact⟨_,cs',hr,hcs,hrun,(fun _ _ _ _=>hlen),(fun _ h=>by cases h),(fun _ _ _ h _=>by cases h;exact hcell)⟩
 ·rename_i s
  obtain rfl:=hx.string_inv
  have hn':n≤s.data.toList.length:=by
   have:=hn (A9 s.data.toList) rfl
   rwa [BN]at this
  obtain⟨hone,hr⟩:=Bf hr
  rw[HL]at hr
  refine⟨_,_,hr,KB _,fun w' _=>?_,(fun _ _ _ h=>by cases h),(fun _ _=>⟨by simp only[List.length_map,List.length_take];omega,Al.1 hone⟩),(fun _ _ _ h=>by cases h)⟩
  simp only[Builtin.firstCells,Sem.run_pure]
  congr 1
  apply Array.ext'
  simp[List.extract_eq_take_drop]
 ·rename_i c
  cases c with
  |none=>cases hr
  |some r=>
   cases hx
   have hn0:n=0:=by have:=hn 0 rfl;omega
   subst hn0
   exact⟨[],[],hr,.nil,(fun w' _=>by simp only[Builtin.firstCells,Nat.zero_mul];rfl),(fun _ _ _ h=>by simp),(fun _ h=>by cases h),(fun _ _ _ h=>by cases h)⟩
 ·cases hr
theorem Pv{x x':Value}(hx:RelV φ x x'){n:Nat}(h:lenV x=.ok n):(Builtin.lenOf x').run P w=.ok n w:=by
 unfold lenV at h
 split at h
 ·cases h;cases hx<;>rfl
 ·cases h
  obtain rfl:=hx.string_inv
  simp only[Builtin.lenOf,Sem.run_pure,BN];rfl
 ·rename_i c
  cases c with
  |none=>cases h
  |some r=>
   cases h
   cases hx
   rfl
 ·cases h
theorem YA(H:RelW ty φ E h w)(hE:∀ b,¬ E b){d x:O}{d' x':Value}{ats:Array TypeId}{dt t el:TypeId}(h0:ats[0]? =some dt){ti ei:TI}(T:TyOk P dt ti)(hk:ti.k=.slice el)(TE:TyOk P el ei)
  (hd:RelV φ (d e) d')(hx:RelV φ (x e) x')(hr:I4 ei.size d x F e h=.ok v h'):BI ty φ E h w v h' ((Builtin.copy_ ats t #[d',x']).run P w):=by
 unfold I4 PD at hr
 split at hr
 case h_2=>cases hr
 rename_i base dl dc hde
 rw[hde]at hd
 split at hr
 case h_2=>cases hr
 rename_i xl hxl
 rw[Aa,BC]at hr
 obtain⟨cs,cs',hr,hcs,hrun0,hl1,hl2,_⟩:=Fi (P:=P) H (fun _ _ _ _=>hE _) hx hr (fun m hm=>by rw[hxl]at hm;cases hm;exact Nat.min_le_left _ _)
 have hrun:=hrun0 w rfl
 obtain⟨dd,hdd,hkd⟩:=T.desc
 rw[hk]at hkd
 cases hkd
 have hlen:=Pv (P:=P) (w:=w) hx hxl
 split at hr
 ·cases hr
  cases hd
  have key:(Builtin.copy_ ats t #[.slice none 0 0,x']).run P w=.ok (goInt ((min xl 0:Nat):Int)) w:=by
   simp only[Builtin.copy_,h0,Sem.run_bind,hdd,Result.andThen_ok,hlen,TE.size,Sem.run_pure,List.getElem?_toArray,List.getElem?_cons_zero,List.getElem?_cons_succ]
   have:Nat.min xl 0=min xl 0:=rfl
   rw[this,hrun];rfl
  rw[key];exact .same H (.int _ _)
 ·rename_i a hr0
  cases hd with
  |@slice _ a' _ _ dc' hlc hs=>
   have hstore:∃ h1 w1,(.ok (.int .i64 (.ofNat (min xl dl))) h1:R)=.ok v h'∧(storeCells a' cs').run P w=.ok () w1∧RelW ty φ E h1 w1∧Evo φ h w φ h1 w1:=by
    rcases Nat.eq_zero_or_pos dc with h0|h0
    ·have hdl:dl=0:=by omega
     subst hdl
     have hcs0:cs'=[]:=by
      have hz:min xl 0=0:=Nat.min_zero _
      rw[hz]at hrun hl1 hl2
      cases x'<;>first|(simp only[Builtin.firstCells]at hrun;cases hrun;done)|skip
      ·exact List.length_eq_zero_iff.1 (hl2 _ rfl).1
      ·rename_i sa sl scap
       cases sa with
       |none=>simp only[Builtin.firstCells,Sem.run_pure]at hrun;cases hrun;rfl
       |some sa=>exact List.length_eq_zero_iff.1 (by have:=hl1 sa sl scap rfl;simpa using this)
     subst hcs0
     have:cs=[]:=by cases hcs;rfl
     subst this
     unfold Cb at hr
     split at hr
     case h_2=>cases hr
     rename_i ct s en hrow
     obtain⟨_,hr⟩:=Bf hr
     obtain⟨_,hr⟩:=Bf hr
     simp only[Bv]at hr
     obtain⟨bl,h256,hbl,hk2⟩:=Ew hr
     obtain⟨_,_,p,hp,_,_⟩:=hs
     have hold:=H.row a.block p hp (hE _)
     have hrow':=C6 hrow
     rw[hrow']at hold
     have hlive:Live h a.block:=by unfold Live;rw[hrow'];intro hd;cases hd
     exact⟨_,w,hk2,rfl,H.put (hE _) h256 hp hlive hbl rfl (fun _ _=>rfl) hold,.put (H.notInp hp h256) hp hlive hbl (by rw[C6 hrow];exact .inr ⟨rfl,rfl⟩) rfl (fun _ _=>rfl) rfl rfl rfl⟩
    ·obtain⟨s1,s2,p,hp,hbl,hor⟩:=hs
     have ha:RelA φ a a':=by
      rcases hor with h|h
      ·exact⟨s1,s2,p,hp,hbl,h.2.1⟩
      ·omega
     exact Hl (P:=P) H hr ha hcs (hE _)
   obtain⟨h1,w1,hk2,hrun2,H1,ev⟩:=hstore
   cases hk2
   have key:(Builtin.copy_ ats t #[.slice (some a') dl dc',x']).run P w=.ok (goInt ((min xl dl:Nat):Int)) w1:=by
    simp only[Builtin.copy_,h0,Sem.run_bind,hdd,Result.andThen_ok,hlen,TE.size,Sem.run_pure,List.getElem?_toArray,List.getElem?_cons_zero,List.getElem?_cons_succ]
    have:Nat.min xl dl=min xl dl:=rfl
    rw[this,hrun]
    simp only[Result.andThen_ok,hrun2,Sem.run_bind,Sem.run_pure]
   rw[key]
   exact⟨_,_,φ,rfl,.int _ _,H1,ev⟩
end
end
noncomputable section
open Go
section
variable {P:Program}{ty:TTy}{φ:Phi}{E:Nat→Prop}{h h':Hp}{w:World}{e:Env}{v:Value}
theorem RelW.of_heap(H:RelW ty φ E h w){w':World}(hw:w'.heap=w.heap):RelW ty φ E h w' where
 dom:=by rw[hw];exact H.dom
 inj:=H.inj
 row:=by rw[hw];exact H.row
 fresh:=H.fresh
 kind:=H.kind
 inp:=H.inp
theorem Vm(H:RelW ty φ E h w)(hE:∀ b,¬ E b){a a':Addr}{c c' o:Nat}{vs vs':List Value}{k:Hp→R}(hs:RelS φ a c a' c')(h0:c=0→vs=[])
  (hr:Cb (Ej a o) vs h k=.ok v h')(hv:RelL φ vs vs'):
  ∃ h1 w1,k h1=.ok v h'∧(storeCells (a'.add o) vs').run P w=.ok () w1∧RelW ty φ E h1 w1∧Evo φ h w φ h1 w1:=by
 obtain⟨s1,s2,p,hp,hbl,hor⟩:=hs
 have hblk:(Ej a o).block=a.block:=by unfold Ej;split<;>rfl
 rcases Nat.eq_zero_or_pos c with hc|hc
 ·have:=h0 hc
  subst this
  have:vs'=[]:=by cases hv;rfl
  subst this
  unfold Cb at hr
  split at hr
  case h_2=>cases hr
  rename_i ct s en hrow
  obtain⟨_,hr⟩:=Bf hr
  obtain⟨_,hr⟩:=Bf hr
  simp only[Bv]at hr
  obtain⟨bl,h256,hbl2,hk2⟩:=Ew hr
  rw[hblk]at hrow hbl2 hk2 h256
  have hold:=H.row a.block p hp (hE _)
  have hrow':=C6 hrow
  rw[hrow']at hold
  have hlive:Live h a.block:=by unfold Live;rw[hrow'];intro hd;cases hd
  exact⟨_,w,hk2,rfl,H.put (hE _) h256 hp hlive hbl2 rfl (fun _ _=>rfl) hold,.put (H.notInp hp h256) hp hlive hbl2 (by rw[C6 hrow];exact .inr ⟨rfl,rfl⟩) rfl (fun _ _=>rfl) rfl rfl rfl⟩
 ·have hoff:a'.off=p.off+a.off:=by
   rcases hor with h|h
   ·exact h.2.1
   ·omega
  obtain⟨ab',ao',asp'⟩:=a'
  obtain⟨ab,ao,asp⟩:=a
  simp only at s1 s2 hp hbl hoff
  subst s1;subst s2;subst hbl;subst hoff
  have hadd:Ej ⟨ab,ao,none⟩ o=⟨ab,ao+o,none⟩:=by
   unfold Ej
   cases o<;>rfl
  rw[hadd]at hr
  rw[Addr.add_is]
  refine Hl (P:=P) H hr ⟨rfl,rfl,p,hp,rfl,?_⟩ hv (hE _)
  show p.off+ao+o=p.off+(ao+o)
  omega
theorem NC(N:Nat):∀ (r c:Nat),c<N→Builtin.growBy N r c≤N+(N+768) / 4
 |0,c,h=>by unfold Builtin.growBy;omega
 |r+1,c,h=>by
  unfold Builtin.growBy
  split
  ·omega
  ·rcases Nat.lt_or_ge (c+(c+768) / 4) N with h2|h2
   ·exact NC N r _ h2
   ·cases r with
    |zero=>unfold Builtin.growBy;omega
    |succ r=>unfold Builtin.growBy;rw[if_pos h2];omega
theorem bj{need cap:Nat}(h:cap<need):Builtin.nextslicecap need cap≤2 * need:=by
 unfold Builtin.nextslicecap
 split
 ·omega
 ·split
  ·omega
  ·have:=NC need 4 cap h
   omega
theorem Ln(H:RelW ty φ E h w){en:Nat}{ei:TI}(hty:ty.get en=some ei){need c:Nat}(hneed:0<need)(hc:need≤c){cs cs' rest:List Value}(hrel:RelL φ cs cs')(hlen:cs.length=need * ei.size)
  (hrest:rest.length=(c - need) * ei.size){w':World}(hw':w'.heap=w.heap.push (.cells ⟨cs'++rest⟩ en))(ht:w'.tape=w.tape)(ho:w'.os=w.os)(hout:w'.output=w.output)
  {t:VT}{n:Nat}(hT:∀ j,j<cs.length→t.get j=cs.getD j undef)(hN:n=cs.length)(hr:CG h (Nat.succ en) t n (Fs need need)=.ok v h'):∃ ψ,RelV ψ v (.slice (some ⟨w.heap.size,0,none⟩) need c)∧RelW ty ψ E h' w'∧Evo φ h w ψ h' w':=by
 have hl':=hrel.length
 have hmul:(c - need) * ei.size+need * ei.size=c * ei.size:=by rw[← Nat.add_mul];congr 1;omega
 have hsz:(⟨cs'++rest⟩:Array Value).size=c * ei.size:=by simp[hl',hrest,hlen];omega
 obtain⟨h1,hk,H1,ev⟩:=L8 (cs:=cs) (cs':=⟨cs'++rest⟩) (t:=en) (fr:=(0,0)) (w':=w')
  (p:={blk:=w.heap.size,off:=0,sz:=cs.length,room:=(⟨cs'++rest⟩:Array Value).size,es:=ei.size}) H hr hT hN rfl ⟨rfl,.inr ⟨en,ei,rfl,hty,rfl⟩⟩ (by simp[hl']) (.inl rfl)
  (fun j u hj=>by
   obtain⟨u',hu,hru⟩:=hrel.get j u hj
   refine⟨u',?_,hru⟩
   have hj':j<cs'.length:=by
    rcases Nat.lt_or_ge j cs'.length with h|h
    ·exact h
    ·rw[List.getElem?_eq_none h]at hu;cases hu
   simp only[List.getElem?_toArray]
   rw[List.getElem?_append_left hj'];exact hu) hw' ht ho hout
 cases hk
 refine⟨_,.slice (Nat.le_refl _) ⟨rfl,rfl,_,Phi.put_self _ _ _,rfl,.inl ⟨hneed,rfl,.inr ⟨?_,hc,?_⟩⟩⟩,H1,ev⟩
 ·simp only;omega
 ·simp only[hsz];omega
theorem Xd(H:RelW ty φ E h w)(hE:∀ b,¬ E b){en:Nat}{ei:TI}(hty:ty.get en=some ei)(hes:0<ei.size){base:Option Addr}{base':Option Addr}{sl sc sc' need:Nat}
  (hsl:RelV φ (.slice base sl sc) (.slice base' sl sc'))(hneed:sc<need){olds news olds' news':List Value}(ho:RelL φ olds olds')(hn:RelL φ news news')
  (hol:olds.length=sl * ei.size)(hnl:(olds++news).length=need * ei.size)(hone:∀ v∈news',v.oneCell'=true)
  (hcell:∀ a a',base=some a→base'=some a'→0<sc→∃ p cs t fr,φ a.block=some p∧w.heap[p.blk]? =some (.cells cs t fr)∧∀ j u,olds'[j]? =some u→cs[p.off+a.off+j]? =some u)
  {tr:VT}{n:Nat}(hT:∀ j,j<(olds++news).length→tr.get j=(olds++news).getD j undef)(hN:n=(olds++news).length)(hr:Ed ei.size en base sc need tr n h=.ok v h'):
  (∀ c rest,need≤c→rest.length=(c - need) * ei.size→∀ w':World,sc'<need→w'.heap=w.heap.push (.cells ⟨(olds'++news')++rest⟩ en)→w'.tape=w.tape→w'.os=w.os→w'.output=w.output→
   ∃ ψ,RelV ψ v (.slice (some ⟨w.heap.size,0,none⟩) need c)∧RelW ty ψ E h' w'∧Evo φ h w ψ h' w')∧
  (∀ a',base'=some a'→need≤sc'→∃ w' ψ,(storeCells (a'.add (sl * ei.size)) news').run P w=.ok () w'∧RelV ψ v (.slice (some a') need sc')∧RelW ty ψ E h' w'∧Evo φ h w ψ h' w'):=by
 have hrel:=ho.append hn
 have hneed0:0<need:=by omega
 unfold Ed at hr
 split at hr
 ·
  cases hsl
  refine⟨fun c rest hc hrest w' _ hw' ht hos hout=>Ln H hty hneed0 hc hrel hnl hrest hw' ht hos hout hT hN hr,fun a' ha=>by cases ha⟩
 ·rename_i _ a
  cases hsl with
  |@slice _ a' _ _ _ hlc hs=>
  split at hr
  case h_2=>cases hr
  rename_i ct s en0 hrow
  obtain⟨s1,s2,p,hp,hbl,hor⟩:=hs
  have hkind:=H.kind a.block p ct s en0 hp (C6 hrow)
  have hlive:Live h a.block:=by unfold Live;rw[C6 hrow];intro hd;cases hd
  have noroom:(p.room=p.sz∧p.es=1)→sc'=sc:=by
   rintro⟨q1,q2⟩
   rcases hor with ⟨q3,q4,q5|⟨q5,q6,q7⟩⟩|⟨q3,q4|q4⟩
   ·exact q5
   ·rw[q2]at q5 q7;omega
   ·omega
   ·rw[q2]at q4;omega
  have real:sc'=sc→CG h (Nat.succ en) tr n (Fs need need)=.ok v h'→
    (∀ c rest,need≤c→rest.length=(c - need) * ei.size→∀ w':World,sc'<need→w'.heap=w.heap.push (.cells ⟨(olds'++news')++rest⟩ en)→w'.tape=w.tape→w'.os=w.os→w'.output=w.output→
     ∃ ψ,RelV ψ v (.slice (some ⟨w.heap.size,0,none⟩) need c)∧RelW ty ψ E h' w'∧Evo φ h w ψ h' w')∧
    (∀ a'',some a'=some a''→need≤sc'→∃ w' ψ,(storeCells (a''.add (sl * ei.size)) news').run P w=.ok () w'∧RelV ψ v (.slice (some a'') need sc')∧RelW ty ψ E h' w'∧Evo φ h w ψ h' w'):=by
   intro hsc hr
   exact⟨fun c rest hc hrest w' _ hw' ht hos hout=>Ln H hty hneed0 hc hrel hnl hrest hw' ht hos hout hT hN hr,fun a'' _ h2=>by omega⟩
  split at hr
  ·refine real (noroom ?_) hr
   rcases hkind.2 with ⟨_,q1,q2,_⟩|⟨t,ti,q1,_⟩
   ·exact⟨q1,q2⟩
   ·cases q1
  ·rename_i e0
   obtain⟨hb,hr⟩:=Bf hr
   have hen:e0=en:=Al.1 hb
   subst hen
   have hpes:p.es=ei.size:=by
    rcases hkind.2 with ⟨q0,_⟩|⟨t,ti,q1,q2,q3⟩
    ·cases q0
    ·have:t=e0:=by omega
     subst this
     rw[hty]at q2;cases q2;exact q3
   split at hr
   ·obtain⟨bl,h256,hkill,hr⟩:=Ew hr
    have Hk:=H.kill hkill (lo:=B0 h.low a.block) (hi:=Cf h.high a.block) (mk:=h.mark)
    refine⟨fun c rest hc hrest w' _ hw' ht hos hout=>?_,fun a'' ha'' hcap=>?_⟩
    ·obtain⟨ψ,hv,H2,ev⟩:=Ln Hk hty hneed0 hc hrel hnl hrest hw' ht hos hout hT hN hr
     refine⟨ψ,hv,H2,?_⟩
     have evk:Evo φ h w φ {next:=h.next,low:=B0 h.low a.block,high:=Cf h.high a.block,mark:=h.mark,bl:=bl} w:={
      le:=.refl _,new:=fun _ _ e=>.inl e,next:=Nat.le_refl _,size:=Nat.le_refl _,tape:=rfl,os:=rfl,output:=rfl,frame:=fun _ _ _=>rfl,
      back:=fun i q e hl _=>⟨i,q,e,fun hd=>hl (by show bl.get i=_;rw[BT.live_set hkill];split<;>first|rfl|exact hd),rfl,rfl,.inl rfl⟩,
      kept:=fun i _ hi=>by
       show bl.get i=_
       have hi:i<B0 h.low a.block∨Cf h.high a.block<i:=hi
       rw[BC,Bw]at hi
       rw[BT.live_set hkill,if_neg (by omega)],
      low:=by show B0 _ _≤_;rw[BC];exact Nat.min_le_left _ _,
      high:=by show _≤Cf _ _;rw[Bw];exact Nat.le_max_left _ _,
      shape:=fun i _=>by
       show ShapeLe _ (bl.get i)
       rw[BT.live_set hkill]
       split
       ·exact .inl rfl
       ·exact .refl _,
      only:=fun i _ h0=>by
       show bl.get i=_
       rw[BT.live_set hkill,if_neg (fun e=>by rw[e,hp]at h0;cases h0)],
      all:=fun _ h1 h2=>absurd h2 (Nat.not_lt.2 h1)}
     exact evk.trans ev
    ·cases ha''
     obtain⟨p0,cs,t,fr,hp0,hwc,R⟩:∃ p0 cs t fr,φ a.block=some p0∧w.heap[p0.blk]? =some (.cells cs t fr)∧RelC ty φ p0 ct s (e0+1) cs fr:=by
      obtain⟨cs,t,fr,q1,q2⟩:=H.rowAt hp (hE _) hrow
      exact⟨p,cs,t,fr,hp,q1,q2⟩
     rw[hp]at hp0;cases hp0
     obtain⟨ab',ao',asp'⟩:=a'
     simp only at s2 hbl hor
     subst s2;subst hbl
     have hcap':p.off≤ao'∧ao'+sc' * ei.size≤p.off+p.room∧(0<sc→ao'=p.off+a.off):=by
      have hz:p.sz≤p.room:=R.room
      rw[hpes]at hor
      rcases hor with ⟨q3,q4,q5|⟨q5,q6,q7⟩⟩|⟨q3,q4|⟨q4,q5⟩⟩
      ·omega
      ·exact⟨by omega,by omega,fun _=>q4⟩
      ·omega
      ·exact⟨by omega,by omega,fun h=>by omega⟩
     have hfits:=R.fits
     have hmul:need * ei.size≤sc' * ei.size:=Nat.mul_le_mul_right _ hcap
     have hlo:=ho.length
     have hln:=hn.length
     have hnl':olds.length+news.length=need * ei.size:=by rw[← hnl];simp
     rw[Addr.add_is]
     have hst:(storeCells ⟨p.blk,ao'+sl * ei.size,none⟩ news').run P w=.ok () (w.setCells p.blk (ao'+sl * ei.size) news'):=by
      refine run_storeCells_cells (P:=P) p.blk (ao'+sl * ei.size) news' 0 w (fun j hj=>?_) (fun j hj=>?_) hone
      ·rw[HS hwc];simp;omega
      ·exact NA hwc R.hard (by omega)
     obtain⟨cs',e1,e2,e3,e4,e5,e6,e7,e8⟩:=Fq p.blk t fr news' (ao'+sl * ei.size) cs w hwc (by omega)
     unfold CG at hr
     rw[Aa]at hr
     obtain⟨bl2,hbl2,hk2⟩:=Hd hr
     cases hk2
     let p':Pl:={blk:=p.blk,off:=ao',sz:=need * ei.size,room:=p.off+p.room - ao',es:=ei.size}
     have hB:RelB ty (φ.put h.next p') p' (.cells tr n (e0+1)) ((w.setCells p.blk (ao'+sl * ei.size) news').heap[p'.blk]?):=by
      show RelB ty (φ.put h.next p') p' _ ((w.setCells p.blk (ao'+sl * ei.size) news').heap[p.blk]?)
      rw[e1,hN,hnl]
      refine .cells {
       kind:=⟨rfl,.inr ⟨e0,ei,rfl,hty,rfl⟩⟩,room:=(by show need * ei.size≤p.off+p.room - ao';omega),fits:=(by show ao'+(p.off+p.room - ao')≤cs'.size;omega),
       loose:=.inl (by rw[e2];exact R.hard),cell:=fun j hj=>?_}
      have hj2:j<(olds++news).length:=by omega
      rw[hT j hj2]
      show ∃ v,cs'[ao'+j]? =some v∧_
      have hD:(olds++news).getD j undef=(olds++news)[j]:=by
       rw[List.getD_eq_getElem?_getD,List.getElem?_eq_getElem hj2];rfl
      rw[hD]
      obtain⟨u',hu,hru⟩:=hrel.get j _ (List.getElem?_eq_getElem hj2)
      refine⟨u',?_,hru.mono (Phi.put_le H.none_next)⟩
      rw[e3]
      rcases Nat.lt_or_ge j olds.length with hjo|hjo
      ·rw[if_neg (by omega)]
       rw[List.getElem?_append_left (by omega)]at hu
       have hsc0:0<sc:=by
        rcases Nat.eq_zero_or_pos sc with q|q
        ·have:sl=0:=by omega
         rw[this,Nat.zero_mul]at hol;omega
        ·exact q
       obtain⟨p1,cs1,t1,fr1,hp1,hw1,hc1⟩:=hcell a _ rfl rfl hsc0
       rw[hp]at hp1;cases hp1
       rw[hwc]at hw1;cases hw1
       rw[hcap'.2.2 hsc0]
       exact hc1 j u' hu
      ·rw[if_pos (by omega)]
       rw[List.getElem?_append_right (by omega)]at hu
       rw[← hu];congr 1;omega
     have hnlive:∀ j q,φ j=some q→Live ({next:=h.next,low:=B0 h.low a.block,high:=Cf h.high a.block,mark:=h.mark,bl:=bl}:Hp) j→q.blk≠p'.blk:=by
      intro j q hq hl hqb
      have hl':bl.get j≠.dead:=hl
      rw[BT.live_set hkill]at hl'
      split at hl'
      ·exact hl' rfl
      ·rename_i hjb
       exact hjb (H.inj j a.block q p hq hp (hE _) (hE _) hl' hlive (.inr (H.notInp hp h256)) hqb)
     have H2:=Hk.new (lo:=B0 h.low a.block) (hi:=Cf h.high a.block) (mk:=h.mark) (w':=w.setCells p.blk (ao'+sl * ei.size) news') (p:=p') hbl2 (Nat.le_of_eq e4.symm) (by rw[e4];exact(H.dom _ _ hp).2) hnlive (fun k _ hk=>e5 k hk) hB
     refine⟨_,_,hst,?_,H2,Evo.grow H (H.notInp hp h256) rfl hp hlive hkill hbl2 rfl e4 e5 e6 e7 e8⟩
     refine .slice (Nat.le_refl _) ⟨rfl,rfl,p',Phi.put_self _ _ _,rfl,.inl ⟨hneed0,rfl,.inr ⟨?_,hcap,?_⟩⟩⟩
     ·show 0+need * ei.size=need * ei.size;omega
     ·show 0+sc' * ei.size≤p.off+p.room - ao';omega
   ·rename_i hend
    refine real ?_ hr
    rcases hor with ⟨q3,q4,q5|⟨q5,q6,q7⟩⟩|⟨q3,_⟩
    ·exact q5
    ·exfalso
     unfold KA at hend
     cases sc with
     |zero=>omega
     |succ n=>
      simp only at hend
      have:Nat.beq (Nat.add a.off (Nat.mul (n+1) ei.size)) s=true:=Al.2 (by rw[← hkind.1,← q5,hpes];rfl)
      rw[this]at hend;cases hend
    ·exfalso
     subst q3
     cases hend
end
end
end Go.Proofs.YtedbmmfebjfibaaGreat

/-
  Part ZB of what Lawgn stands on: printed by program, names and spaces cut.
-/
import Derived.Test.YtglkncnkbofgfaaGreatZA
import GoSem.Dispatch
import Derived.WideShapes
import Derived.Sort.Walk0
import Derived.Laws.BytesString
import Derived.DeepKeys3
set_option linter.unusedVariables false
set_option linter.unusedSimpArgs false
namespace Go.Proofs.YtglkncnkbofgfaaGreat
noncomputable section
open Go
section
variable {P:Program}{ty:TTy}{φ:Phi}{E:Nat→Prop}{h h':Hp}{w:World}{F:CallF}{e:Env}{v:Value}
theorem Ep{b:Bool}(hr:okB b h=.ok v h'):v=.bool b∧h'=h:=by cases b<;>cases hr<;>exact⟨rfl,rfl⟩
theorem Q1(k:IntKind)(n:Int)(h:Hp):okI k n h=.ok (.int k n) h:=by
 cases n with
 |ofNat m=>cases m<;>rfl
 |negSucc m=>show forceN m (fun m=>R.ok (.int k (.negSucc m)) h)=_;rw[As]
theorem CX{k:IntKind}{n:Int}(hr:okI k n h=.ok v h'):v=.int k n∧h'=h:=by
 rw[Q1]at hr;cases hr;exact⟨rfl,rfl⟩
theorem VK(a b:Nat):iLt (.ofNat a) (.ofNat b)=Nat.blt a b:=rfl
theorem VJ(a b:Nat):iLt (.ofNat a) (.negSucc b)=false:=rfl
theorem VI(a b:Nat):iLt (.negSucc a) (.ofNat b)=true:=rfl
theorem VH(a b:Nat):iLt (.negSucc a) (.negSucc b)=Nat.blt b a:=rfl
theorem VG(a b:Nat):iEq (.ofNat a) (.ofNat b)=Nat.beq a b:=rfl
theorem VF(a b:Nat):iEq (.ofNat a) (.negSucc b)=false:=rfl
theorem VE(a b:Nat):iEq (.negSucc a) (.ofNat b)=false:=rfl
theorem VD(a b:Nat):iEq (.negSucc a) (.negSucc b)=Nat.beq a b:=rfl
theorem IJ(a b:Int):iLt a b=decide (a<b):=by
 cases a<;>cases b<;>simp only[VK,VJ,VI,VH]
 ·rename_i a b
  rw[Bool.eq_iff_iff,Aq,decide_eq_true_iff];exact Int.ofNat_lt.symm
 ·simp only[Int.ofNat_eq_natCast];symm;rw[decide_eq_false_iff_not];omega
 ·simp only[Int.ofNat_eq_natCast];symm;rw[decide_eq_true_iff];omega
 ·rename_i a b
  rw[Bool.eq_iff_iff,Aq,decide_eq_true_iff];omega
theorem Ef(a b:Int):iEq a b=(a == b):=by
 cases a<;>cases b<;>simp only[VG,VF,VE,VD]
 ·rename_i a b
  rw[Bool.eq_iff_iff,Ae,beq_iff_eq];simp only[Int.ofNat_eq_natCast];omega
 ·simp only[Int.ofNat_eq_natCast];symm;rw[beq_eq_false_iff_ne];omega
 ·simp only[Int.ofNat_eq_natCast];symm;rw[beq_eq_false_iff_ne];omega
 ·rename_i a b
  rw[Bool.eq_iff_iff,Ae,beq_iff_eq];omega
theorem RI(k:IntKind):((AW k:Nat):Int)<2 ^ k.bits∧(k.signed=true→((AW k:Nat):Int)<2 ^ (k.bits - 1)):=by
 cases k<;>decide
theorem B6(k:IntKind)(m:Nat)(h:m≤AW k):k.wrap (m:Int)=m:=by
 have h1:=RI k
 unfold IntKind.wrap
 have e:((m:Int)) % (2 ^ k.bits:Int)=m:=Int.emod_eq_of_lt (by omega) (by omega)
 rw[e]
 simp only
 rw[if_neg]
 intro hh
 simp only[Bool.and_eq_true,decide_eq_true_eq]at hh
 have:=h1.2 hh.1
 omega
theorem DD(k:IntKind)(n:Int):EO k n=k.wrap n:=by
 cases n with
 |ofNat m=>
  show Bool.rec (motive:=fun _=>Int) (k.wrap (.ofNat m)) (.ofNat m) (Nat.ble m (AW k))=_
  cases hb:Nat.ble m (AW k)with
  |false=>rfl
  |true=>exact(B6 k m (Ar.1 hb)).symm
 |negSucc m=>rfl
theorem CM{a b:IntKind}(h:C5 a b=true):b=a:=by
 have:=Ae.1 h
 cases a<;>cases b<;>first|rfl|(exact absurd this (by decide))
theorem Cq{k:IntKind}{x:Value}{n:Int}(h:Bg k x=.ok n):x=.int k n:=by
 cases x<;>first|(cases h;done)|skip
 rename_i q m
 have h:Bool.rec (motive:=fun _=>NI) .no (.ok m) (C5 k q)=.ok n:=h
 cases hs:C5 k q with
 |false=>rw[hs]at h;cases h
 |true=>rw[hs]at h;cases h;rw[CM hs]
theorem SP{k:IntKind}{x:Value}{n:Nat}(h:FI k x=.ok n):x=.int k n:=by
 cases x<;>first|(cases h;done)|skip
 rename_i q m
 have h:Bool.rec (motive:=fun _=>NN) .no (Int.rec (motive:=fun _=>NN) (fun m=>.ok m) (fun _=>.no) m) (C5 k q)=.ok n:=h
 cases hs:C5 k q with
 |false=>rw[hs]at h;cases h
 |true=>
  rw[hs]at h
  cases m with
  |ofNat m=>cases h;rw[CM hs];rfl
  |negSucc m=>cases h
theorem KD{x:Value}{n:Int}(h:Mo x=.ok n):∃ k,x=.int k n:=by
 cases x<;>first|(cases h;done)|(cases h;exact⟨_,rfl⟩)
theorem SQ{x:Value}{n:Nat}(h:Ch x=.ok n):∃ k,x=.int k n:=by
 cases x<;>first|(cases h;done)|skip
 rename_i q m
 cases m with
 |ofNat m=>cases h;exact⟨_,rfl⟩
 |negSucc m=>cases h
theorem Dt{x:Value}{a:Addr}(h:Cn x=.ok a):x=.pointer (some a):=by
 cases x<;>first|(cases h;done)|skip
 rename_i o
 cases o with
 |none=>cases h
 |some a=>cases h;rfl
theorem RelV.int_inv{k:IntKind}{n:Int}{x:Value}(h:RelV φ (.int k n) x):x=.int k n:=by cases h;rfl
theorem RelV.bool_inv{b:Bool}{x:Value}(h:RelV φ (.bool b) x):x=.bool b:=by cases h;rfl
theorem RelV.string_inv{s:ByteArray}{x:Value}(h:RelV φ (.string s) x):x=.string s:=by cases h;rfl
theorem RelV.ptr_inv{a:Addr}{x:Value}(h:RelV φ (.pointer (some a)) x):∃ a',x=.pointer (some a')∧RelA φ a a':=by
 cases h with|ptr h=>exact⟨_,rfl,h⟩
def A4(op:BinOp)(t:TypeId)(X Y:Operand)(a b:Value):Sem Value:=do eqGuard op t X Y a b;binOp op t a b
theorem Cv(op:BinOp)(t:TypeId)(X Y:Operand)(j k:IntKind)(m n:Int):(eqGuard op t X Y (.int j m) (.int k n)).run P w=.ok () w:=by cases op<;>rfl
theorem JZ(op:BinOp)(t:TypeId)(X Y:Operand)(m n:ByteArray):(eqGuard op t X Y (.string m) (.string n)).run P w=.ok () w:=by cases op<;>rfl
theorem Lc(H:RelW ty φ E h w){x:O}{x':Value}(hx:RelV φ (x e) x')(hr:oMove x F e h=.ok v h'):Av ty φ E h w v h' (.ok x' w):=by
 unfold oMove at hr;rw[C1]at hr;cases hr;exact .same H hx
theorem Qv(H:RelW ty φ E h w){c a b:O}{c' a' b':Value}(hc:RelV φ (c e) c')(ha:RelV φ (a e) a')(hb:RelV φ (b e) b')(hr:AK c a b F e h=.ok v h'):
  Av ty φ E h w v h' ((do pure (if ← asBool c' then a' else b'):Sem Value).run P w):=by
 unfold AK at hr
 cases hce:c e with
 |bool t=>
  rw[hce]at hr hc
  obtain rfl:=hc.bool_inv
  cases t with
  |false=>
   have hr:moveR (b e) h=.ok v h':=hr
   rw[C1]at hr;cases hr;exact .same H hb
  |true=>
   have hr:moveR (a e) h=.ok v h':=hr
   rw[C1]at hr;cases hr;exact .same H ha
 |_=>rw[hce]at hr;cases hr
theorem Un(H:RelW ty φ E h w){f:Int→Int→Bool}{k:IntKind}{x y:O}{x' y':Value}(hx:RelV φ (x e) x')(hy:RelV φ (y e) y')(hr:AH f k x y F e h=.ok v h'):
  ∃ m n,x'=.int k m∧y'=.int k n∧v=.bool (f m n)∧h'=h:=by
 unfold AH Um at hr
 cases h1:Bg k (x e)with
 |no=>rw[h1]at hr;cases hr
 |ok m=>
  cases h2:Bg k (y e)with
  |no=>rw[h1,h2]at hr;cases hr
  |ok n=>
   rw[h1,h2]at hr
   rw[Cq h1]at hx;rw[Cq h2]at hy
   obtain⟨r1,r2⟩:=Ep hr
   exact⟨m,n,hx.int_inv,hy.int_inv,r1,r2⟩
theorem FC(H:RelW ty φ E h w){f:Int→Int→Bool}{op:BinOp}(hop:(f=iEq∧op=.eql)∨(f=iNe∧op=.neq)∨(f=iLt∧op=.lss)∨(f=iLe∧op=.leq)∨(f=iGt∧op=.gtr)∨(f=iGe∧op=.geq))
  {k:IntKind}{x y:O}{x' y':Value}{t:TypeId}{X Y:Operand}(hx:RelV φ (x e) x')(hy:RelV φ (y e) y')(hr:AH f k x y F e h=.ok v h'):Av ty φ E h w v h' ((A4 op t X Y x' y').run P w):=by
 obtain⟨m,n,rfl,rfl,rfl,rfl⟩:=Un H hx hy hr
 have key:(A4 op t X Y (.int k m) (.int k n)).run P w=.ok (.bool (f m n)) w:=by
  unfold A4
  rw[Sem.run_bind,Cv,Result.andThen_ok]
  rcases hop with ⟨rfl,rfl⟩|⟨rfl,rfl⟩|⟨rfl,rfl⟩|⟨rfl,rfl⟩|⟨rfl,rfl⟩|⟨rfl,rfl⟩<;>
   simp only[binOp,ne_eq,not_true_eq_false,if_false,Op.intCmp,Sem.run_pure,Result.ok.injEq,Value.bool.injEq,and_true,iNe,iLe,iGt,iGe,IJ,Ef]
  ·rfl
  ·rw[Bool.eq_iff_iff];simp only[decide_eq_true_iff,Bool.not_eq_true',decide_eq_false_iff_not];omega
  ·rw[Bool.eq_iff_iff];simp only[decide_eq_true_iff,Bool.not_eq_true',decide_eq_false_iff_not];omega
 rw[key];exact .same H (.bool _)
theorem OP{k:IntKind}{x y:O}{x' y':Value}(hx:RelV φ (x e) x')(hy:RelV φ (y e) y'){g:Int→Int→R}{r:R}
  (hr:NI.rec (motive:=fun _=>R) .no (fun a=>NI.rec (motive:=fun _=>R) .no (fun b=>g a b) (Bg k (y e))) (Bg k (x e))=r)(hne:r≠.no):
  ∃ m n,x'=.int k m∧y'=.int k n∧g m n=r:=by
 cases h1:Bg k (x e)with
 |no=>rw[h1]at hr;exact absurd hr.symm hne
 |ok m=>
  cases h2:Bg k (y e)with
  |no=>rw[h1,h2]at hr;exact absurd hr.symm hne
  |ok n=>
   rw[h1,h2]at hr
   rw[Cq h1]at hx;rw[Cq h2]at hy
   exact⟨m,n,hx.int_inv,hy.int_inv,hr⟩
theorem OH(H:RelW ty φ E h w){f:Int→Int→Int}{op:BinOp}(hop:(f=Int.sub∧op=.sub)∨(f=Int.mul∧op=.mul))
  {k:IntKind}{x y:O}{x' y':Value}{t:TypeId}{X Y:Operand}(hx:RelV φ (x e) x')(hy:RelV φ (y e) y')(hr:At f k x y F e h=.ok v h'):Av ty φ E h w v h' ((A4 op t X Y x' y').run P w):=by
 obtain⟨m,n,rfl,rfl,hg⟩:=OP hx hy hr (by intro h;cases h)
 obtain⟨rfl,rfl⟩:=CX hg
 have key:(A4 op t X Y (.int k m) (.int k n)).run P w=.ok (.int k (EO k (f m n))) w:=by
  unfold A4
  rw[Sem.run_bind,Cv,Result.andThen_ok,DD]
  rcases hop with ⟨rfl,rfl⟩|⟨rfl,rfl⟩<;>
   simp only[binOp,ne_eq,not_true_eq_false,if_false,Op.intArith,Sem.run_pure]<;>rfl
 rw[key];exact .same H (.int _ _)
theorem add_is{k:IntKind}{a b:Int}(hr:Int.rec (motive:=fun _=>R) (fun x=>Int.rec (motive:=fun _=>R)
   (fun y=>Bool.rec (motive:=fun _=>R) (okI k (k.wrap (a+b)) h) (forceN (Nat.add x y) fun n=>.ok (.int k (.ofNat n)) h) (Nat.ble (Nat.add x y) (AW k)))
   (fun _=>okI k (EO k (a+b)) h) b)
   (fun _=>okI k (EO k (a+b)) h) a=.ok v h'):v=.int k (k.wrap (a+b))∧h'=h:=by
 cases a with
 |negSucc a=>
  have:=CX hr;rw[DD]at this;exact this
 |ofNat a=>
  cases b with
  |negSucc b=>have:=CX hr;rw[DD]at this;exact this
  |ofNat b=>
   simp only at hr
   cases hb:Nat.ble (Nat.add a b) (AW k)with
   |false=>rw[hb]at hr;exact CX hr
   |true=>
    rw[hb]at hr
    simp only[As]at hr
    cases hr
    refine⟨?_,rfl⟩
    have:=B6 k (a+b) (Ar.1 hb)
    simp only[Int.ofNat_eq_natCast]
    rw[← Int.natCast_add,this];rfl
theorem SW(H:RelW ty φ E h w){k:IntKind}{x y:O}{x' y':Value}{t:TypeId}{X Y:Operand}(hx:RelV φ (x e) x')(hy:RelV φ (y e) y')(hr:Ad k (AW k) x y F e h=.ok v h'):
  Av ty φ E h w v h' ((A4 .add t X Y x' y').run P w):=by
 obtain⟨m,n,rfl,rfl,hg⟩:=OP hx hy hr (by intro h;cases h)
 obtain⟨rfl,rfl⟩:=add_is hg
 have key:(A4 .add t X Y (.int k m) (.int k n)).run P w=.ok (.int k (k.wrap (m+n))) w:=by
  unfold A4
  rw[Sem.run_bind,Cv,Result.andThen_ok]
  simp only[binOp,ne_eq,not_true_eq_false,if_false,Op.intArith,Sem.run_pure]
 rw[key];exact .same H (.int _ _)
theorem LB{n:Int}(hb:iEq n 0=false):n≠0:=by
 rw[Ef]at hb;simpa using hb
theorem Sm(H:RelW ty φ E h w){k:IntKind}{x y:O}{x' y':Value}{t:TypeId}{X Y:Operand}(hx:RelV φ (x e) x')(hy:RelV φ (y e) y')(hr:D6 k x y F e h=.ok v h'):
  Av ty φ E h w v h' ((A4 .quo t X Y x' y').run P w):=by
 unfold D6 Ru at hr
 split at hr
 case h_2=>cases hr
 rename_i m h1
 split at hr
 case h_2=>cases hr
 rename_i n h2
 rw[Cq h1]at hx;rw[Cq h2]at hy
 obtain rfl:=hx.int_inv;obtain rfl:=hy.int_inv
 cases hb:iEq n 0 with
 |true=>rw[hb]at hr;cases hr
 |false=>
  rw[hb]at hr
  obtain⟨rfl,rfl⟩:=CX hr
  have key:(A4 .quo t X Y (.int k m) (.int k n)).run P w=.ok (.int k (EO k (m.tdiv n))) w:=by
   unfold A4
   rw[Sem.run_bind,Cv,Result.andThen_ok,DD]
   simp only[binOp,ne_eq,not_true_eq_false,if_false,Op.intDiv,LB hb,Sem.run_pure]
  rw[key];exact .same H (.int _ _)
theorem S4(H:RelW ty φ E h w){k:IntKind}{x y:O}{x' y':Value}{t:TypeId}{X Y:Operand}(hx:RelV φ (x e) x')(hy:RelV φ (y e) y')(hr:HM k x y F e h=.ok v h'):
  Av ty φ E h w v h' ((A4 .rem t X Y x' y').run P w):=by
 unfold HM TJ at hr
 split at hr
 case h_2=>cases hr
 rename_i m h1
 split at hr
 case h_2=>cases hr
 rename_i n h2
 rw[Cq h1]at hx;rw[Cq h2]at hy
 obtain rfl:=hx.int_inv;obtain rfl:=hy.int_inv
 cases hb:iEq n 0 with
 |true=>rw[hb]at hr;cases hr
 |false=>
  rw[hb]at hr
  obtain⟨rfl,rfl⟩:=CX hr
  have key:(A4 .rem t X Y (.int k m) (.int k n)).run P w=.ok (.int k (m.tmod n)) w:=by
   unfold A4
   rw[Sem.run_bind,Cv,Result.andThen_ok]
   simp only[binOp,ne_eq,not_true_eq_false,if_false,Op.intDiv,LB hb,Sem.run_pure]
  rw[key];exact .same H (.int _ _)
theorem Sz(H:RelW ty φ E h w){x:O}{x':Value}(hx:RelV φ (x e) x')(hr:Ak x F e h=.ok v h'):Av ty φ E h w v h' ((Op.unary .not x').run P w):=by
 unfold Ak at hr
 split at hr
 ·rename_i b hb
  rw[hb]at hx;obtain rfl:=hx.bool_inv
  obtain⟨rfl,rfl⟩:=Ep hr
  exact .same H (.bool _)
 ·cases hr
theorem Sv(H:RelW ty φ E h w){k:IntKind}{x:O}{x':Value}(hx:RelV φ (x e) x')(hr:Qp k x F e h=.ok v h'):Av ty φ E h w v h' ((Op.unary .neg x').run P w):=by
 unfold Qp at hr
 split at hr
 ·rename_i n hn
  rw[Cq hn]at hx;obtain rfl:=hx.int_inv
  obtain⟨rfl,rfl⟩:=CX hr
  rw[DD]
  exact .same H (.int _ _)
 ·cases hr
theorem RelV.float_inv{k:FloatKind}{n:Nat}{x:Value}(h:RelV φ (.float k n) x):x=.float k n:=by cases h;rfl
theorem Qr(H:RelW ty φ E h w){x:O}{x':Value}(hx:RelV φ (x e) x')(hr:Ld x F e h=.ok v h'):Av ty φ E h w v h' ((Op.unary .neg x').run P w):=by
 unfold Ld at hr
 split at hr
 ·rename_i b hb
  rw[hb]at hx;obtain rfl:=hx.float_inv
  rw[As]at hr
  cases hr
  exact .same H (.float _ _)
 ·cases hr
theorem TB(H:RelW ty φ E h w){x:O}{x':Value}(hx:RelV φ (x e) x')(hr:Qy x F e h=.ok v h'):
  ∃ q n,x'=.int q n∧Av ty φ E h w v h' ((Conv.intToFloat .f64 n).run P w):=by
 unfold Qy at hr
 split at hr
 ·rename_i n hn
  obtain⟨q,hq⟩:=KD hn
  rw[hq]at hx;obtain rfl:=hx.int_inv
  rw[As]at hr
  cases hr
  exact⟨q,n,rfl,.same H (.float _ _)⟩
 ·cases hr
theorem Qb(H:RelW ty φ E h w){k:IntKind}{x:O}{x':Value}(hx:RelV φ (x e) x')(hr:Az k x F e h=.ok v h'):
  ∃ q n,x'=.int q n∧Av ty φ E h w v h' ((Conv.intToInt k n).run P w):=by
 unfold Az at hr
 split at hr
 ·rename_i n hn
  obtain⟨q,hq⟩:=KD hn
  rw[hq]at hx;obtain rfl:=hx.int_inv
  obtain⟨rfl,rfl⟩:=CX hr
  rw[DD]
  exact⟨q,n,rfl,.same H (.int _ _)⟩
 ·cases hr
end
end
noncomputable section
open Go
section
variable {P:Program}{ty:TTy}{φ:Phi}{E:Nat→Prop}{h h':Hp}{w:World}{F:CallF}{e:Env}{v:Value}
def GM:IntKind→Nat
 |.i8=>7|.i16=>15|.i32=>31|.i64=>63|.u8=>8|.u16=>16|.u32=>32|.u64=>64
theorem L9(k:IntKind):AW k+1=2 ^ GM k:=by cases k<;>rfl
theorem NT(k:IntKind):GM k≤k.bits:=by cases k<;>decide
theorem Gp{k:IntKind}{a:Nat}(ha:a≤AW k):(BitVec.ofInt k.bits (a:Int)).toNat=a:=by
 have h1:=L9 k
 have h2:2 ^ GM k≤2 ^ k.bits:=Nat.pow_le_pow_right (by omega) (NT k)
 rw[BitVec.ofInt_natCast,BitVec.toNat_ofNat,Nat.mod_eq_of_lt (by omega)]
theorem CG{x:O}{x':Value}(hx:RelV φ (x e) x'){n:Nat}(h:Ch (x e)=.ok n):∃ k,x'=.int k n:=by
 obtain⟨k,hk⟩:=SQ h
 rw[hk]at hx;exact⟨k,hx.int_inv⟩
theorem Ej{k:IntKind}{x:O}{x':Value}(hx:RelV φ (x e) x'){n:Nat}(h:FI k (x e)=.ok n):x'=.int k n:=by
 rw[SP h]at hx;exact hx.int_inv
theorem KN(H:RelW ty φ E h w){f:Nat→Nat→Nat}{op:BinOp}(hop:(f=Nat.land∧op=.and)∨(f=Nat.lor∧op=.or)∨(f=Nat.xor∧op=.xor))
  {k:IntKind}{x y:O}{x' y':Value}{t:TypeId}{X Y:Operand}(hx:RelV φ (x e) x')(hy:RelV φ (y e) y')(hr:FJ f k x y F e h=.ok v h'):Av ty φ E h w v h' ((A4 op t X Y x' y').run P w):=by
 unfold FJ Ro at hr
 split at hr
 case h_2=>cases hr
 rename_i a h1
 split at hr
 case h_2=>cases hr
 rename_i b h2
 obtain⟨ha,hr⟩:=Aw hr
 obtain⟨hb,hr⟩:=Aw hr
 obtain rfl:=Ej hx h1;obtain rfl:=Ej hy h2
 obtain⟨rfl,rfl⟩:=CX hr
 have ha:=Ar.1 ha;have hb:=Ar.1 hb
 have ea:=Gp ha;have eb:=Gp hb
 have ht:=L9 k
 have key:(A4 op t X Y (.int k a) (.int k b)).run P w=.ok (.int k (.ofNat (f a b))) w:=by
  unfold A4
  rw[Sem.run_bind,Cv,Result.andThen_ok]
  rcases hop with ⟨rfl,rfl⟩|⟨rfl,rfl⟩|⟨rfl,rfl⟩<;>
   simp only[binOp,ne_eq,not_true_eq_false,if_false,Op.intBits,Sem.run_pure,BitVec.toNat_and,BitVec.toNat_or,BitVec.toNat_xor,ea,eb]
  ·have:a &&& b≤AW k:=Nat.le_trans Nat.and_le_left ha
   rw[B6 k _ this];rfl
  ·have:a ||| b<2 ^ GM k:=Nat.or_lt_two_pow (by omega) (by omega)
   rw[B6 k _ (by omega)];rfl
  ·have:a ^^^ b<2 ^ GM k:=Nat.xor_lt_two_pow (by omega) (by omega)
   rw[B6 k _ (by omega)];rfl
 rw[key];exact .same H (.int _ _)
theorem K8(op:BinOp)(hop:op=.shl∨op=.shr)(t:TypeId)(X Y:Operand)(a b:Value):(eqGuard op t X Y a b).run P w=.ok () w:=by
 rcases hop with rfl|rfl<;>rfl
theorem S6(H:RelW ty φ E h w){k:IntKind}{x y:O}{x' y':Value}{t:TypeId}{X Y:Operand}(hx:RelV φ (x e) x')(hy:RelV φ (y e) y')(hr:JB k x y F e h=.ok v h'):
  Av ty φ E h w v h' ((A4 .shl t X Y x' y').run P w):=by
 unfold JB TO at hr
 split at hr
 case h_2=>cases hr
 rename_i a h1
 split at hr
 case h_2=>cases hr
 rename_i b h2
 obtain rfl:=Ej hx h1;obtain⟨q,rfl⟩:=CG hy h2
 obtain⟨rfl,rfl⟩:=CX hr
 have key:(A4 .shl t X Y (.int k a) (.int q b)).run P w=.ok (.int k (k.wrap (.ofNat (a * 2 ^ (min b k.bits))))) w:=by
  unfold A4
  rw[Sem.run_bind,K8 _ (.inl rfl),Result.andThen_ok]
  have:¬ ((b:Int)<0):=by omega
  simp only[binOp,Op.shift,this,if_false,Sem.run_pure,Int.toNat_natCast]
  simp
 rw[key,DD,A0];exact .same H (.int _ _)
theorem S8(H:RelW ty φ E h w){k:IntKind}{x y:O}{x' y':Value}{t:TypeId}{X Y:Operand}(hx:RelV φ (x e) x')(hy:RelV φ (y e) y')(hr:Fd k x y F e h=.ok v h'):
  Av ty φ E h w v h' ((A4 .shr t X Y x' y').run P w):=by
 unfold Fd TP at hr
 split at hr
 case h_2=>cases hr
 rename_i a h1
 split at hr
 case h_2=>cases hr
 rename_i b h2
 obtain rfl:=Ej hx h1;obtain⟨q,rfl⟩:=CG hy h2
 obtain⟨rfl,rfl⟩:=CX hr
 have key:(A4 .shr t X Y (.int k a) (.int q b)).run P w=.ok (.int k (.ofNat (a / 2 ^ (min b k.bits)))) w:=by
  unfold A4
  rw[Sem.run_bind,K8 _ (.inr rfl),Result.andThen_ok]
  have:¬ ((b:Int)<0):=by omega
  simp only[binOp,Op.shift,this,if_false,Sem.run_pure,Int.toNat_natCast]
  congr 2
  have e2:((2:Int) ^ min b k.bits)=((2 ^ min b k.bits:Nat):Int):=by simp
  rw[e2,Int.fdiv_eq_ediv_of_nonneg _ (Int.natCast_nonneg _)];rfl
 rw[key,A0];exact .same H (.int _ _)
theorem GU:∀ x y:List UInt8,bEq x y=(x == y)
 |[],[]=>rfl
 |[],_::_=>rfl
 |_::_,[]=>rfl
 |a::x,b::y=>by
  have ih:=GU x y
  unfold bEq
  rw[ih,List.cons_beq_cons]
  cases hab:Nat.beq a.toNat b.toNat with
  |true=>
   have:a=b:=UInt8.toNat_inj.1 (Ae.1 hab)
   simp[this]
  |false=>
   have:a≠b:=fun h=>by rw[h]at hab;rw[Nat.beq_refl]at hab;cases hab
   simp[this]
theorem Pi:∀ x y:List UInt8,bLt x y=Op.bytesLess x y
 |[],[]=>rfl
 |[],_::_=>rfl
 |_::_,[]=>rfl
 |a::x,b::y=>by
  have ih:=Pi x y
  unfold bLt Op.bytesLess
  rw[ih]
  cases hlt:Nat.blt a.toNat b.toNat with
  |true=>
   have:a<b:=UInt8.lt_iff_toNat_lt.2 (Aq.1 hlt)
   simp[this]
  |false=>
   have:¬ a<b:=fun h=>by rw[Aq.2 (UInt8.lt_iff_toNat_lt.1 h)]at hlt;cases hlt
   cases hab:Nat.beq a.toNat b.toNat with
   |true=>
    have:a=b:=UInt8.toNat_inj.1 (Ae.1 hab)
    simp[this]
   |false=>
    have h2:a≠b:=fun h=>by rw[h]at hab;rw[Nat.beq_refl]at hab;cases hab
    simp[this,h2]
theorem AIa{f:List UInt8→List UInt8→Bool}{x y:O}{x' y':Value}(hx:RelV φ (x e) x')(hy:RelV φ (y e) y')(hr:EQ f x y F e h=.ok v h'):
  ∃ a b,x'=.string a∧y'=.string b∧v=.bool (f a.data.toList b.data.toList)∧h'=h:=by
 unfold EQ TQ at hr
 split at hr
 case h_2=>cases hr
 rename_i a h1
 split at hr
 case h_2=>cases hr
 rename_i b h2
 rw[h1]at hx;rw[h2]at hy
 obtain⟨r1,r2⟩:=Ep hr
 exact⟨a,b,hx.string_inv,hy.string_inv,r1,r2⟩
theorem FE(H:RelW ty φ E h w){f:List UInt8→List UInt8→Bool}{op:BinOp}
  (hop:(f=bEq∧op=.eql)∨(f=(fun a b=> !bEq a b)∧op=.neq)∨(f=bLt∧op=.lss)∨(f=(fun a b=>bLt b a)∧op=.gtr)∨(f=(fun a b=> !bLt b a)∧op=.leq)∨(f=(fun a b=> !bLt a b)∧op=.geq))
  {x y:O}{x' y':Value}{t:TypeId}{X Y:Operand}(hx:RelV φ (x e) x')(hy:RelV φ (y e) y')(hr:EQ f x y F e h=.ok v h'):Av ty φ E h w v h' ((A4 op t X Y x' y').run P w):=by
 obtain⟨a,b,rfl,rfl,rfl,rfl⟩:=AIa hx hy hr
 have key:(A4 op t X Y (.string a) (.string b)).run P w=.ok (.bool (f a.data.toList b.data.toList)) w:=by
  unfold A4
  rw[Sem.run_bind,JZ,Result.andThen_ok]
  rcases hop with ⟨rfl,rfl⟩|⟨rfl,rfl⟩|⟨rfl,rfl⟩|⟨rfl,rfl⟩|⟨rfl,rfl⟩|⟨rfl,rfl⟩<;>
   simp only[binOp,Op.stringOp,Sem.run_pure,Result.ok.injEq,Value.bool.injEq,and_true,GU,Pi,ByteArray.toList_eq]
  all_goals
   rw[bytesLess_eq,bytesLess_eq,Bool.eq_iff_iff]
   simp only[Bool.not_eq_true',Bool.or_eq_false_iff,Bool.or_eq_true,decide_eq_true_iff,decide_eq_false_iff_not,beq_iff_eq,beq_eq_false_iff_ne]
  ·constructor
   ·rintro⟨h1,h2⟩
    rcases Std.lt_trichotomy a.data.toList b.data.toList with h|h|h
    ·exact absurd h h1
    ·exact absurd h h2
    ·exact h
   ·intro h
    exact⟨fun h2=>absurd (Std.lt_trans h h2) (Std.lt_irrefl),fun h2=>by rw[h2]at h;exact Std.lt_irrefl h⟩
  ·constructor
   ·rintro (h1|h1) h
    ·exact Std.lt_irrefl (Std.lt_trans h h1)
    ·rw[h1]at h;exact Std.lt_irrefl h
   ·intro h1
    rcases Std.lt_trichotomy a.data.toList b.data.toList with h|h|h
    ·exact .inl h
    ·exact .inr h
    ·exact absurd h h1
 rw[key];exact .same H (.bool _)
theorem EX{a:ByteArray}{l:List UInt8}(h:a.data.toList=l):a=⟨⟨l⟩⟩:=by
 cases a;rename_i d;cases d;simp at h;rw[h]
theorem Se(H:RelW ty φ E h w){x y:O}{x' y':Value}{t:TypeId}{X Y:Operand}(hx:RelV φ (x e) x')(hy:RelV φ (y e) y')(hr:Sc x y F e h=.ok v h'):
  Av ty φ E h w v h' ((A4 .add t X Y x' y').run P w):=by
 unfold Sc Rr at hr
 split at hr
 case h_2=>cases hr
 rename_i a h1
 split at hr
 case h_2=>cases hr
 rename_i b h2
 rw[h1]at hx;rw[h2]at hy
 obtain rfl:=hx.string_inv;obtain rfl:=hy.string_inv
 obtain⟨hb,hr⟩:=Aw hr
 cases hr
 have hb:=Ar.1 hb
 rw[A9,A9]at hb
 have key:(A4 .add t X Y (.string a) (.string b)).run P w=.ok (.string (a++b)) w:=by
  unfold A4
  rw[Sem.run_bind,JZ,Result.andThen_ok]
  have e1:a.size=a.data.toList.length:=rfl
  have e2:b.size=b.data.toList.length:=rfl
  have:¬ ((a.size+b.size:Nat):Int) > IntKind.i64.max:=by
   rw[e1,e2]
   have h1:IntKind.i64.max=9223372036854775807:=by decide
   have h2:most=1099511627776:=rfl
   rw[h1];rw[h2]at hb
   have h3:a.data.toList.length+b.data.toList.length≤1099511627776:=hb
   omega
  simp only[binOp,Op.stringOp,this,if_false,Sem.run_pure]
 rw[key,← EX (a:=a++b) (l:=a.data.toList++b.data.toList) (by simp)]
 exact .same H (.string _)
theorem Si(H:RelW ty φ E h w){x:O}{x':Value}(hx:RelV φ (x e) x')(hr:Qd x F e h=.ok v h'):Av ty φ E h w v h' ((Op.unary .xor x').run P w):=by
 unfold Qd at hr
 split at hr
 ·rename_i n hn
  obtain rfl:=Ej hx hn
  obtain⟨hb,hr⟩:=Aw hr
  have hb:=Ar.1 hb
  obtain⟨rfl,rfl⟩:=CX hr
  have key:(Op.unary .xor (.int .u8 n)).run P w=.ok (.int .u8 (.ofNat (255 - n))) w:=by
   simp only[Op.unary,Op.intBits,Sem.run_pure,BitVec.toNat_xor]
   have ea:=Gp (k:=.u8) hb
   have e1:(BitVec.ofInt IntKind.u8.bits (if IntKind.u8.signed then -1 else IntKind.u8.max)).toNat=255:=by decide
   rw[e1,ea]
   have e2:255 ^^^ n=255 - n:=by
    have:∀ n:Fin 256,255 ^^^ n.val=255 - n.val:=by decide +kernel
    exact this ⟨n,by omega⟩
   rw[e2,B6 .u8 (255 - n) (by show _≤255;omega)];rfl
  rw[key];exact .same H (.int _ _)
 ·cases hr
end
end
noncomputable section
open Go
section
variable {P:Program}{ty:TTy}{φ:Phi}{E:Nat→Prop}{h h':Hp}{w:World}{F:CallF}{e:Env}{v:Value}
theorem DI{x:O}{x':Value}(hx:RelV φ (x e) x'){a:Addr}(h:Cn (x e)=.ok a):∃ a',x'=.pointer (some a')∧RelA φ a a':=by
 rw[Dt h]at hx;exact hx.ptr_inv
theorem Dp(a:Addr):(Instr.sureAddr (.pointer (some a))).run P w=.ok a w:=rfl
theorem PC(H:RelW ty φ E h w){x:O}{x':Value}{t:TypeId}{ti:TI}(T:TyOk P t ti)(hagg:ti.k.agg=false)(hx:RelV φ (x e) x')
  (hE:∀ a,x e=.pointer (some a)→¬ E a.block)(hr:AC x F e h=.ok v h'):Av ty φ E h w v h' ((Instr.loadAt t x').run P w):=by
 unfold AC at hr
 cases ha:Cn (x e)with
 |no=>rw[ha]at hr;cases hr
 |ok a=>
  rw[ha]at hr
  obtain⟨a',rfl,hra⟩:=DI hx ha
  obtain⟨rfl,v',hc,hv⟩:=LO H hr hra (hE a (Dt ha))
  have key:(Instr.loadAt t (.pointer (some a'))).run P w=.ok v' w:=by
   simp only[Instr.loadAt,Sem.run_bind,Dp,Result.andThen_ok,loadVar,T.agg,hagg,run_load,hc,Bool.false_eq_true,if_false]
  rw[key];exact .same H hv
theorem LP(H:RelW ty φ E h w){n:Nat}{a a':Addr}(hr:loadN n a h=.ok v h')(ha:RelA φ a a')(hE:¬ E a.block):
  h'=h∧∃ l,RelV φ v (.agg ⟨l⟩)∧(loadCells a' n).run P w=.ok l.toArray w:=by
 unfold loadN at hr
 split at hr
 case h_2=>cases hr
 rename_i c s en hrow
 obtain⟨hb,hr⟩:=Aw hr
 rw[D1,List.append_nil]at hr
 cases hr
 obtain⟨l,hl,_,hrun,_⟩:=LR H ha hE hrow (Ar.1 hb)
 exact⟨rfl,l,.agg hl,hrun w rfl⟩
theorem PE(H:RelW ty φ E h w){x:O}{x':Value}{t:TypeId}{ti:TI}(T:TyOk P t ti)(hagg:ti.k.agg=true)(hx:RelV φ (x e) x')
  (hE:∀ a,x e=.pointer (some a)→¬ E a.block)(hr:AJ ti.size x F e h=.ok v h'):Av ty φ E h w v h' ((Instr.loadAt t x').run P w):=by
 unfold AJ at hr
 split at hr
 case h_2=>cases hr
 rename_i a ha
 obtain⟨a',rfl,hra⟩:=DI hx ha
 obtain⟨rfl,l,hv,hrun⟩:=LP (P:=P) H hr hra (hE a (Dt ha))
 have key:(Instr.loadAt t (.pointer (some a'))).run P w=.ok (.agg l.toArray) w:=by
  simp only[Instr.loadAt,Sem.run_bind,Dp,Result.andThen_ok,loadVar,T.agg,hagg,T.size,hrun,if_true,Sem.run_pure]
 rw[key];exact .same H hv
def Pb(ty:TTy)(φ:Phi)(E:Nat→Prop)(h:Hp)(w:World)(v:Value)(h':Hp)(r:Result Unit):Prop:=
 v=noRes∧∃ w',r=.ok () w'∧RelW ty φ E h' w'∧Evo φ h w φ h' w'
theorem KW{a:Addr}{u:Value}{k:Hp→R}(hr:Bw a (cellsOf u) h k=.ok v h'):known u=true:=by
 cases u<;>first|rfl|skip
 rename_i cc
 cases cc with
 |some r=>rfl
 |none=>
 exfalso
 unfold Bw at hr
 cases hrow:rowOf h a.block with
 |no=>rw[hrow]at hr;cases hr
 |ok c s e=>
  rw[hrow]at hr
  simp only at hr
  obtain⟨_,hr⟩:=Aw hr
  have h1:=(Aw hr).1
  cases h1
theorem PG(H:RelW ty φ E h w){x y:O}{x' y':Value}{t:TypeId}{ti:TI}(T:TyOk P t ti)(hx:RelV φ (x e) x')(hy:RelV φ (y e) y')
  (hE:∀ a,x e=.pointer (some a)→¬ E a.block)(hr:AD ti.size x y F e h=.ok v h'):Pb ty φ E h w v h' ((Instr.storeAt t x' y').run P w):=by
 unfold AD at hr
 split at hr
 case h_2=>cases hr
 rename_i a ha
 obtain⟨a',rfl,hra⟩:=DI hx ha
 rw[BB]at hr
 obtain⟨hb,hr⟩:=Aw hr
 have hc:=Ga hy (KW hr)
 obtain⟨h1,w1,hk,hrun,H1,ev⟩:=FH (P:=P) H hr hra hc (hE a (Dt ha))
 cases hk
 refine⟨rfl,w1,?_,H1,ev⟩
 have hsz:y'.cells.size=ti.size:=by
  have:=hc.length
  rw[← Ae.1 hb,A9,← this];simp
 simp only[Instr.storeAt,Sem.run_bind,Dp,Result.andThen_ok,storeVar,T.size,hsz,ne_eq,not_true_eq_false,if_false,hrun,Sem.run_pure]
theorem Sx(H:RelW ty φ E h w){x:O}{x':Value}(hx:RelV φ (x e) x')(hr:AO x F e h=.ok v h'):
  RelV φ v x'∧h'=h∧(x'≠.pointer none∧x'≠.nilIface∧x'≠.nilFunc∧∀ nm f c,x'≠.func (.method nm) f c):=by
 unfold AO SS at hr
 split at hr
 ·rename_i a ha
  cases hr;rw[ha]at hx
  obtain⟨a',rfl,hra⟩:=hx.ptr_inv
  exact⟨.ptr hra,rfl,by simp⟩
 ·rename_i f a b ha
  cases hr;rw[ha]at hx
  cases hx with|func fn h1 h2=>exact⟨.func _ h1 h2,rfl,by simp⟩
 ·rename_i a n c ha
  cases hr;rw[ha]at hx
  refine⟨hx,rfl,?_⟩
  cases hx<;>simp
 ·rename_i m ha
  cases hr;rw[ha]at hx
  refine⟨hx,rfl,?_⟩
  cases hx<;>simp
 ·rename_i t u ha
  rw[BB]at hr
  cases hr;rw[ha]at hx
  refine⟨hx,rfl,?_⟩
  cases hx<;>simp
 ·cases hr
theorem D4(H:RelW ty φ E h w){cs cs':List Value}{k:Nat→Hp→R}(hr:newRow h 0 cs k=.ok v h')(hrel:RelL φ cs cs')(t:TypeId):
  ∃ h1 ψ,k h.next h1=.ok v h'∧ψ h.next=some {blk:=w.heap.size,off:=0,sz:=cs.length,room:=cs.length,es:=1}∧
   RelW ty ψ E h1 {w with heap:=w.heap.push (.cells ⟨cs'⟩ t)}∧Evo φ h w ψ h1 {w with heap:=w.heap.push (.cells ⟨cs'⟩ t)}:=by
 have hlen:=hrel.length
 obtain⟨h1,hk,H1,ev⟩:=Jl (cs':=⟨cs'⟩) (t:=t) (fr:=(0,0)) (w':={w with heap:=w.heap.push (.cells ⟨cs'⟩ t)})
  (p:={blk:=w.heap.size,off:=0,sz:=cs.length,room:=cs.length,es:=1}) H hr (by simp[hlen]) ⟨rfl,.inl ⟨rfl,rfl,rfl,.inl rfl⟩⟩ (by simp[hlen]) (.inl rfl)
  (fun j u hj=>by simpa using hrel.get j u hj) rfl rfl rfl rfl
 exact⟨h1,_,hk,Phi.put_self _ _ _,H1,ev⟩
theorem He{ψ:Phi}{n:Nat}{p:Pl}(hp:ψ n=some p)(ho:p.off=0):RelV ψ (.pointer (some ⟨n,0,none⟩)) (.pointer (some ⟨p.blk,0,none⟩)):=
 .ptr ⟨rfl,rfl,p,hp,rfl,by simp[ho]⟩
theorem Sb(H:RelW ty φ E h w){x:O}{x':Value}{t:TypeId}(hx:RelV φ (x e) x')(hr:Al x F e h=.ok v h'):Av ty φ E h w v h' ((Instr.box t x').run P w):=by
 unfold Al at hr;rw[BB]at hr
 obtain⟨hkn,hr⟩:=Aw hr
 obtain⟨h1,ψ,hk,hp,H1,ev⟩:=D4 H hr (Ga hx hkn) t
 cases hk
 exact⟨_,_,ψ,rfl,He hp rfl,H1,ev⟩
theorem O0(H:RelW ty φ E h w){t:TypeId}{ti:TI}(T:TyOk P t ti){c:VT}(hz:ti.zero.length=ti.size)(hc:BX .mt 0 ti.zero=some c)(hr:AV ti.size c F e h=.ok v h'):
  Av ty φ E h w v h' ((Instr.alloc t true (.tuple #[])).run P w):=by
 obtain⟨z,_,hzr,hzc,hzp⟩:=T.zeroOk hz
 have hr':newRow h 0 ti.zero Gq=.ok v h':=by
  unfold newRow B1;rw[hc];simp only[As,A9,hz];exact hr
 obtain⟨h1,ψ,hk,hp,H1,ev⟩:=D4 H hr' (.plain hzp) t
 cases hk
 refine⟨_,_,ψ,?_,He hp rfl,H1,ev⟩
 have e1:(⟨ti.zero⟩:Array Value)=z.cells:=by rw[← hzc]
 simp only[Instr.alloc,Sem.run_bind,hzr,Result.andThen_ok,newVar,Go.newRow,run_newObj,Sem.run_pure,e1]
theorem Lt(H:RelW ty φ E h w){a a':Addr}{n:Nat}(ha:RelA φ a a')(hr:GF a n h=.ok v h'):h'=h∧RelV φ v (.pointer (some (a'.add n))):=by
 unfold GF at hr;rw[As]at hr;cases hr
 obtain⟨p,hp,rfl⟩:=ha.eq
 rw[Addr.add_is]
 refine⟨rfl,.ptr ⟨rfl,rfl,p,hp,rfl,?_⟩⟩
 show p.off+a.off+n=p.off+(a.off+n)
 omega
theorem H8{fs:List (Nat×Nat×Nat)}{fields:Array Field}(hf:fields.toList.map (fun f=>(f.offset,P.cellsOf f.type,f.type))=fs){i o s t:Nat}(hi:nth fs i=some (o,s,t)):
  ∃ f,fields[i]? =some f∧f.offset=o∧P.cellsOf f.type=s∧f.type=t:=by
 rw[DU,← hf,List.getElem?_map]at hi
 cases hg:fields.toList[i]? with
 |none=>rw[hg]at hi;cases hi
 |some f=>
  rw[hg]at hi
  simp only[Option.map_some,Option.some.injEq,Prod.mk.injEq]at hi
  exact⟨f,by simpa using hg,hi.1,hi.2.1,hi.2.2⟩
theorem JA(H:RelW ty φ E h w){x:O}{x':Value}{t:TypeId}{ti:TI}(T:TyOk P t ti){fs:List (Nat×Nat×Nat)}(hk:ti.k=.struct fs){i o s ft:Nat}(hi:nth fs i=some (o,s+1,ft))
  (hx:RelV φ (x e) x')(hr:AB o x F e h=.ok v h'):Av ty φ E h w v h' ((Instr.fieldAt t x' i).run P w):=by
 unfold AB at hr
 cases ha:Cn (x e)with
 |no=>rw[ha]at hr;cases hr
 |ok a=>
  rw[ha]at hr
  obtain⟨a',rfl,hra⟩:=DI hx ha
  obtain⟨rfl,hv⟩:=Lt H hra hr
  obtain⟨d,hd,hkd⟩:=T.desc
  rw[hk]at hkd
  cases hkd with
  |struct hf hin=>
   obtain⟨f,hf1,hf2,hf3,hf4⟩:=H8 hf hi
   have hsome:(P.info? f.type).isSome=true:=by
    have:=List.all_eq_true.1 hin f (by simpa using Array.mem_of_getElem? hf1)
    exact this
   obtain⟨inf,hinf⟩:=Option.isSome_iff_exists.1 hsome
   have key:(Instr.fieldAt t (.pointer (some a')) i).run P w=.ok (.pointer (some (a'.add o))) w:=by
    simp only[Instr.fieldAt,Sem.run_bind,hd,Result.andThen_ok,hf1,Dp,fieldPlace,run_sizeOf w hinf,hf3,hf2,Nat.succ_ne_zero,if_false,Sem.run_pure,Nat.add_eq_zero_iff,reduceCtorEq,and_false]
   rw[key];exact .same H hv
theorem N0(H:RelW ty φ E h w){n esize:Nat}{a a':Addr}{ix:O}{ix':Value}(hi:RelV φ (ix e) ix')(ha:RelA φ a a')(hr:I8 n esize (.ok a) (Ch (ix e)) h=.ok v h'):
  ∃ k i,ix'=.int k (i:Nat)∧i<n∧h'=h∧RelV φ v (.pointer (some (a'.add (i * esize)))):=by
 unfold I8 at hr
 cases h1:Ch (ix e)with
 |no=>rw[h1]at hr;cases hr
 |ok i=>
  rw[h1]at hr
  simp only at hr
  obtain⟨k,rfl⟩:=CG hi h1
  cases hb:Nat.blt i n with
  |false=>rw[hb]at hr;cases hr
  |true=>
   rw[hb]at hr
   simp only at hr
   obtain⟨r1,r2⟩:=Lt H ha hr
   exact⟨k,i,rfl,Aq.1 hb,r1,r2⟩
theorem NC(H:RelW ty φ E h w){x ix:O}{x' ix':Value}{t el:TypeId}{ti ei:TI}(T:TyOk P t ti){n:Nat}(hk:ti.k=.arr n el)(TE:TyOk P el ei)
  (hx:RelV φ (x e) x')(hi:RelV φ (ix e) ix')(hr:A1 n ei.size x ix F e h=.ok v h'):Av ty φ E h w v h' ((Instr.indexAt t x' ix').run P w):=by
 unfold A1 at hr
 cases ha:Cn (x e)with
 |no=>
  rw[ha]at hr
  unfold I8 at hr
  cases h1:Ch (ix e)with
  |no=>rw[h1]at hr;cases hr
  |ok i=>rw[h1]at hr;simp only at hr;cases hb:Nat.blt i n<;>rw[hb]at hr<;>cases hr
 |ok a=>
  rw[ha]at hr
  obtain⟨a',rfl,hra⟩:=DI hx ha
  obtain⟨k,i,rfl,hlt,rfl,hv⟩:=N0 H hi hra hr
  obtain⟨d,hd,hkd⟩:=T.desc
  rw[hk]at hkd
  cases hkd
  have key:(Instr.indexAt t (.pointer (some a')) (.int k (i:Nat))).run P w=.ok (.pointer (some (a'.add (i * ei.size)))) w:=by
   have h2:(0:Int)≤(i:Int)∧(i:Int)<(n:Int):=by omega
   simp only[Instr.indexAt,asIntOf,Sem.run_bind,Sem.run_pure,hd,Result.andThen_ok,Dp,h2,and_self,if_true,TE.size,Int.toNat_natCast,Sem.run_ite]
  rw[key];exact .same H hv
theorem Gs{a a':Addr}{n c c':Nat}(hn:n≤c)(h:RelS φ a c a' c')(h0:0<n):RelA φ a a':=by
 obtain⟨s1,s2,p,hp,hb,h|h⟩:=h
 ·exact⟨s1,s2,p,hp,hb,h.2.1⟩
 ·omega
theorem So(H:RelW ty φ E h w){x ix:O}{x' ix':Value}{t el:TypeId}{ti ei:TI}(T:TyOk P t ti)(hk:ti.k=.slice el)(TE:TyOk P el ei)
  (hx:RelV φ (x e) x')(hi:RelV φ (ix e) ix')(hr:Ac ei.size x ix F e h=.ok v h'):Av ty φ E h w v h' ((Instr.indexAt t x' ix').run P w):=by
 unfold Ac at hr
 split at hr
 case h_2=>cases hr
 rename_i a n c hxe
 rw[hxe]at hx
 cases hx with
 |@slice _ a' _ _ c' hn hs=>
  obtain⟨d,hd,hkd⟩:=T.desc
  rw[hk]at hkd
  cases hkd
  cases h1:Ch (ix e)with
  |no=>rw[h1]at hr;cases hr
  |ok i0=>
   have hpos:0<n:=by
    rw[h1]at hr
    unfold I8 at hr
    simp only at hr
    cases hb:Nat.blt i0 n with
    |false=>rw[hb]at hr;cases hr
    |true=>have:=Aq.1 hb;omega
   obtain⟨k,i,rfl,hlt,rfl,hv⟩:=N0 H hi (Gs hn hs hpos) hr
   have key:(Instr.indexAt t (.slice (some a') n c') (.int k (i:Nat))).run P w=.ok (.pointer (some (a'.add (i * ei.size)))) w:=by
    have h2:(0:Int)≤(i:Int)∧(i:Int)<(n:Int):=by omega
    simp only[Instr.indexAt,asIntOf,Sem.run_bind,Sem.run_pure,hd,Result.andThen_ok,h2,and_self,if_true,TE.size,Int.toNat_natCast,Sem.run_ite]
   rw[key];exact .same H hv
theorem Lq(H:RelW ty φ E h w){t:TypeId}{ti:TI}(T:TyOk P t ti){l l':List Value}(hl:RelL φ l l'){off:Nat}(hr:Jo ti.k.agg ti.size l off h=.ok v h'):
  Av ty φ E h w v h' ((part t ⟨l'⟩ off).run P w):=by
 unfold Jo at hr
 split at hr
 ·rename_i hagg
  rw[Br,Eu,Fv]at hr
  cases hr
  have key:(part t ⟨l'⟩ off).run P w=.ok (.agg ⟨(l'.drop off).take ti.size⟩) w:=by
   simp only[part,Sem.run_bind,T.agg,hagg,Result.andThen_ok,if_true,T.size,Sem.run_pure]
   congr 2
   apply Array.ext'
   simp[Array.toList_extract,List.extract_eq_take_drop]
  rw[key];exact .same H (.agg ((hl.drop off).take ti.size))
 ·rename_i hagg
  split at hr
  ·rename_i u hu
   rw[BB]at hr
   cases hr
   rw[DU]at hu
   obtain⟨u',hu',hru⟩:=hl.get off _ hu
   have key:(part t ⟨l'⟩ off).run P w=.ok u' w:=by
    have:(⟨l'⟩:Array Value)[off]? =some u':=by simpa using hu'
    simp only[part,Sem.run_bind,T.agg,hagg,Result.andThen_ok,Bool.false_eq_true,if_false,this,Sem.run_pure]
   rw[key];exact .same H hru
  ·cases hr
theorem O8(H:RelW ty φ E h w){x:O}{x':Value}{t:TypeId}{ti fi:TI}(T:TyOk P t ti){fs:List (Nat×Nat×Nat)}(hk:ti.k=.struct fs){i o s ft:Nat}(hi:nth fs i=some (o,s,ft))(TF:TyOk P ft fi)
  (hx:RelV φ (x e) x')(hr:C2 fi.k.agg fi.size o x F e h=.ok v h'):Av ty φ E h w v h' ((Instr.field t x' i).run P w):=by
 unfold C2 at hr
 split at hr
 case h_2=>cases hr
 rename_i cs hxe
 rw[hxe]at hx
 cases hx with
 |agg hl=>
  obtain⟨d,hd,hkd⟩:=T.desc
  rw[hk]at hkd
  cases hkd with
  |struct hf hin=>
   obtain⟨f,hf1,hf2,hf3,hf4⟩:=H8 hf hi
   have:=Lq (P:=P) H TF hl hr
   simp only[Instr.field,Sem.run_bind,hd,Result.andThen_ok,hf1,asAgg,Sem.run_pure,hf2,hf4]
   exact this
theorem VU(H:RelW ty φ E h w){x ix:O}{x' ix':Value}{t el:TypeId}{ti ei:TI}(T:TyOk P t ti){n:Nat}(hk:ti.k=.arr n el)(TE:TyOk P el ei)
  (hx:RelV φ (x e) x')(hi:RelV φ (ix e) ix')(hr:oAt ei.k.agg n ei.size x ix F e h=.ok v h'):Av ty φ E h w v h' ((Instr.index t x' ix').run P w):=by
 unfold oAt atF at hr
 split at hr
 case h_2=>cases hr
 rename_i i h1
 obtain⟨hb,hr⟩:=Aw hr
 obtain⟨k,rfl⟩:=CG hi h1
 split at hr
 case h_2=>cases hr
 rename_i cs hxe
 rw[hxe]at hx
 cases hx with
 |agg hl=>
  obtain⟨d,hd,hkd⟩:=T.desc
  rw[hk]at hkd
  cases hkd
  have:=Lq (P:=P) H TE hl hr
  have hlt:=Aq.1 hb
  have h2:(0:Int)≤(i:Int)∧(i:Int)<(n:Int):=by omega
  simp only[Instr.index,asIntOf,Sem.run_bind,Sem.run_pure,hd,Result.andThen_ok,h2,and_self,if_true,TE.size,Int.toNat_natCast,Sem.run_ite]
  exact this
theorem O3(H:RelW ty φ E h w){x ix:O}{x' ix':Value}{t:TypeId}{ti:TI}(T:TyOk P t ti)(hk:ti.k=.string)
  (hx:RelV φ (x e) x')(hi:RelV φ (ix e) ix')(hr:Ib x ix F e h=.ok v h'):Av ty φ E h w v h' ((Instr.index t x' ix').run P w):=by
 unfold Ib J0 at hr
 split at hr
 case h_2=>cases hr
 rename_i i h1
 obtain⟨k,rfl⟩:=CG hi h1
 split at hr
 case h_2=>cases hr
 rename_i s hxe
 rw[hxe]at hx
 obtain rfl:=hx.string_inv
 split at hr
 case h_2=>cases hr
 rename_i b hb
 obtain⟨rfl,rfl⟩:=CX hr
 obtain⟨d,hd,hkd⟩:=T.desc
 rw[hk]at hkd
 cases hkd
 rw[DU]at hb
 have hget:s[i]? =some b:=by
  have h0:i<s.data.toList.length:=by
   rcases Nat.lt_or_ge i s.data.toList.length with h|h
   ·exact h
   ·rw[List.getElem?_eq_none h]at hb;cases hb
  have h1:i<s.size:=h0
  rw[getElem?_pos s i h1]
  rw[List.getElem?_eq_getElem h0]at hb
  rw[← Option.some.inj hb];rfl
 have key:(Instr.index t (.string s) (.int k (i:Nat))).run P w=.ok (.int .u8 b.toNat) w:=by
  have h0:(0:Int)≤(i:Int):=by omega
  simp only[Instr.index,asIntOf,Sem.run_bind,Sem.run_pure,hd,Result.andThen_ok,h0,if_true,Int.toNat_natCast,hget]
 rw[key];exact .same H (.int _ _)
theorem La(H:RelW ty φ E h w){x:O}{x':Value}{i:Nat}(hx:RelV φ (x e) x')(hr:AG i x F e h=.ok v h'):Av ty φ E h w v h' ((Instr.extract x' i).run P w):=by
 unfold AG at hr
 split at hr
 case h_2=>cases hr
 rename_i vs hxe
 rw[hxe]at hx
 cases hx with
 |@tuple l l' hl=>
  split at hr
  case h_2=>cases hr
  rename_i u hu
  rw[BB]at hr
  cases hr
  rw[DU]at hu
  obtain⟨u',hu',hru⟩:=hl.get i _ hu
  have:(⟨l'⟩:Array Value)[i]? =some u':=by simpa using hu'
  simp only[Instr.extract,this,Sem.run_pure]
  exact .same H hru
theorem _root_.Go.Proofs.YtglkncnkbofgfaaGreat.KOk.noIface{k:TK}{d:TypeDesc}(hkd:KOk P k d)(hk:k≠.iface)(ms:Array (String×TypeId)):d≠.interface ms:=by
 cases hkd with
 |other ho=>intro he;subst he;cases ho
 |iface ms'=>exact absurd rfl hk
 |_=>intro he;cases he
theorem PA(H:RelW ty φ E h w){x:O}{x':Value}{t:TypeId}{ti:TI}(T:TyOk P t ti)(hk:ti.k≠.iface)
  (hx:RelV φ (x e) x')(hr:DV t x F e h=.ok v h'):Av ty φ E h w v h' ((Instr.makeInterface t x').run P w):=by
 unfold DV at hr;rw[BB]at hr;cases hr
 obtain⟨d,hd,hkd⟩:=T.und
 have key:(Instr.makeInterface t x').run P w=.ok (.iface t x') w:=by
  simp only[Instr.makeInterface,Sem.run_bind,run_underlying hd,Result.andThen_ok]
  cases d<;>first|rfl|exact absurd rfl (hkd.noIface hk _)
 rw[key];exact .same H (.iface t hx)
theorem Sp(H:RelW ty φ E h w){t:TypeId}(hr:Em F e h=.ok v h'):Av ty φ E h w v h' ((Instr.makeMap t none).run P w):=by
 unfold Em at hr
 obtain⟨bl,hbl,hk⟩:=Dk hr
 cases hk
 let w':World:={w with heap:=w.heap.push (.map #[] 0)}
 have hs:w'.heap.size=w.heap.size+1:=by simp[w']
 have hsame:∀ k,k<w.heap.size→w'.heap[k]? =w.heap[k]?:=fun k hk=>by
  show(w.heap.push _)[k]? =_
  rw[Array.getElem?_push_lt hk,Array.getElem?_eq_getElem hk]
 refine⟨.map (some w.heap.size),w',φ.put h.next {blk:=w.heap.size,off:=0,sz:=0,room:=0,es:=1},rfl,.map (Phi.put_self _ _ _),
  H.new hbl (by omega) (by show w.heap.size<_;omega) (fun j q e _=>by have:=(H.dom j q e).2;show _≠w.heap.size;omega) (fun k hk _=>hsame k hk) ?_,
  .made H hbl (Nat.le_refl _) (by omega) hsame rfl rfl rfl⟩
 have:w'.heap[w.heap.size]? =some (.map #[] 0):=by show(w.heap.push _)[w.heap.size]? =_;simp
 rw[this]
 exact .map .nil
end
end
noncomputable section
open Go
inductive RelO (φ:Phi)(e:Env):Option O→Option Value→Prop
 |none:RelO φ e none none
 |some {o:O} {x:Value} (h:RelV φ (o e) x):RelO φ e (some o) (some x)
section
variable {P:Program}{ty:TTy}{φ:Phi}{E:Nat→Prop}{h h':Hp}{w:World}{F:CallF}{e:Env}{v:Value}
theorem Db{o:O}{x:Value}(hx:RelV φ (o e) x){d y:Nat}{k:Nat→R}(hr:EH e (some o) d y k=.ok v h'):
  ∃ n,n≤y∧k n=.ok v h'∧∀ Y,n≤Y→∀ code w,(Instr.sliceBound x Y code).run P w=.ok n w:=by
 unfold EH at hr
 simp only at hr
 split at hr
 case h_2=>cases hr
 rename_i n hn
 obtain⟨hb,hr⟩:=Aw hr
 obtain⟨k',rfl⟩:=CG hx hn
 refine⟨n,Ar.1 hb,hr,fun Y hY code w=>?_⟩
 have h2:(0:Int)≤(n:Int)∧(n:Int)≤(Y:Int):=by omega
 simp only[Instr.sliceBound,asIntOf,Sem.run_bind,Sem.run_pure,Result.andThen_ok,h2,and_self,if_true,Int.toNat_natCast]
theorem Ma(d y:Nat)(k:Nat→R):EH e none d y k=k d:=rfl
theorem E6{lo hi mx:Option O}{lo' hi' mx':Option Value}(hl:RelO φ e lo lo')(hh:RelO φ e hi hi')(hm:RelO φ e mx mx'){len cap cap':Nat}(hc:cap≤cap')(hlen:len≤cap)
  {k:Nat→Nat→Nat→R}(hr:FW e len cap lo hi mx k=.ok v h')(s:Bool):
  ∃ l b m,k l b m=.ok v h'∧l≤b∧b≤m∧m≤cap∧(mx.isSome=false→m=cap)∧∀ w,(Instr.sliceBounds s len cap' lo' hi' mx').run P w=.ok (l,b,if mx.isSome then m else cap') w:=by
 unfold FW at hr
 cases hm with
 |none=>
  simp only at hr
  cases hh with
  |none=>
   rw[Ma]at hr
   cases hl with
   |none=>exact⟨0,len,cap,hr,Nat.zero_le _,hlen,Nat.le_refl _,fun _=>rfl,fun w=>rfl⟩
   |some hl=>
    obtain⟨l,h1,hk,hs⟩:=Db (P:=P) hl hr
    exact⟨l,len,cap,hk,h1,hlen,Nat.le_refl _,fun _=>rfl,fun w=>by
     simp only[Instr.sliceBounds,Sem.run_bind,Sem.run_pure,Result.andThen_ok,hs len h1];rfl⟩
  |some hh=>
   obtain⟨b,h2,hr,hs2⟩:=Db (P:=P) hh hr
   cases hl with
   |none=>exact⟨0,b,cap,hr,Nat.zero_le _,h2,Nat.le_refl _,fun _=>rfl,fun w=>by
     simp only[Instr.sliceBounds,Sem.run_bind,Sem.run_pure,Result.andThen_ok,hs2 cap' (Nat.le_trans h2 hc)];rfl⟩
   |some hl=>
    obtain⟨l,h1,hk,hs⟩:=Db (P:=P) hl hr
    exact⟨l,b,cap,hk,h1,h2,Nat.le_refl _,fun _=>rfl,fun w=>by
     simp only[Instr.sliceBounds,Sem.run_bind,Sem.run_pure,Result.andThen_ok,hs2 cap' (Nat.le_trans h2 hc),hs b h1];rfl⟩
 |some hm=>
  simp only at hr
  obtain⟨m,h3,hr,hs3⟩:=Db (P:=P) hm hr
  cases hh with
  |none=>cases hr
  |some hh=>
   simp only at hr
   obtain⟨b,h2,hr,hs2⟩:=Db (P:=P) hh hr
   cases hl with
   |none=>exact⟨0,b,m,hr,Nat.zero_le _,h2,h3,fun h=>(by cases h),fun w=>by
     simp only[Instr.sliceBounds,Sem.run_bind,Sem.run_pure,Result.andThen_ok,hs3 cap' (Nat.le_trans h3 hc),hs2 m h2];rfl⟩
   |some hl=>
    obtain⟨l,h1,hk,hs⟩:=Db (P:=P) hl hr
    exact⟨l,b,m,hk,h1,h2,h3,fun h=>(by cases h),fun w=>by
     simp only[Instr.sliceBounds,Sem.run_bind,Sem.run_pure,Result.andThen_ok,hs3 cap' (Nat.le_trans h3 hc),hs2 m h2,hs b h1];rfl⟩
theorem RelS.le{a a':Addr}{c c':Nat}(h:RelS φ a c a' c'):c≤c':=by
 obtain⟨_,_,p,_,_,h|h⟩:=h
 ·rcases h.2.2 with h|h
  ·exact Nat.le_of_eq h.symm
  ·exact h.2.1
 ·omega
theorem Fg(a:Option Addr)(size l b m:Nat)(h:Hp):
  CN a size l b m h=.ok (.slice (if m=l then a else a.map fun a=>if l * size=0 then a else⟨a.block,a.off+l * size,none⟩) (b - l) (m - l)) h:=by
 unfold CN
 rw[As,As]
 by_cases hml:m=l
 ·subst hml;rw[Nat.beq_refl,if_pos rfl];rfl
 ·have hb:Nat.beq m l=false:=by
   cases hb:Nat.beq m l
   ·rfl
   ·exact absurd (Ae.1 hb) hml
  rw[hb,if_neg hml]
  cases a with
  |none=>rfl
  |some a=>
   have e:Nat.mul l size=l * size:=rfl
   rw[e]
   cases hm:l * size with
   |zero=>rw[Option.map_some,if_pos rfl];rfl
   |succ q=>rw[Option.map_some,if_neg (Nat.succ_ne_zero q)];simp only[As];rfl
theorem Rt{a a':Addr}{c c':Nat}(hs:RelS φ a c a' c'){size l b m:Nat}(hlb:l≤b)(hbm:b≤m)(hmc:m≤c){mx:Bool}(hm:mx=false→m=c)
  (hfit:mx=false→0<l→∀ p,φ a.block=some p→p.es=size∨(p.room=p.sz∧p.es=1)):
  RelV φ (.slice (if m=l then some a else(some a).map fun a=>if l * size=0 then a else⟨a.block,a.off+l * size,none⟩) (b - l) (m - l))
   (.slice (if(if mx then m else c')=l then some a' else(some a').map (·.add (l * size))) (b - l) ((if mx then m else c') - l)):=by
 obtain⟨s1,s2,p,hp,hb,hor⟩:=hs
 obtain⟨ab,ao,asp⟩:=a
 obtain⟨ab',ao',asp'⟩:=a'
 simp only at s1 s2 hp hb hor
 subst s1;subst s2;subst hb
 simp only[Option.map_some,Addr.add_is]
 have hle:m≤(if mx then m else c'):=by
  cases mx
  ·have:=hm rfl
   simp only[Bool.false_eq_true,if_false]
   rcases hor with h|h
   ·rcases h.2.2 with h|h<;>omega
   ·omega
  ·simp
 by_cases hml:m=l
 ·rw[if_pos hml]
  by_cases hml':(if mx then m else c')=l
  ·rw[if_pos hml']
   refine .slice (by omega) ⟨rfl,rfl,p,hp,rfl,.inr ⟨by omega,.inl (by omega)⟩⟩
  ·rw[if_neg hml']
   cases mx with
   |true=>exact absurd hml hml'
   |false=>
    simp only[Bool.false_eq_true,if_false]at hml' hle ⊢
    have hmc':=hm rfl
    refine .slice (by omega) ⟨rfl,rfl,p,hp,rfl,.inr ⟨by omega,.inr ?_⟩⟩
    simp only
    rcases Nat.eq_zero_or_pos l with h0|h0
    ·subst h0
     simp only[Nat.zero_mul,Nat.add_zero,Nat.sub_zero]
     rcases hor with h|h
     ·omega
     ·rcases h.2 with h|h
      ·omega
      ·exact h
    ·rcases hor with ⟨_,hoff,h|⟨h1,h2,h3⟩⟩|h
     ·omega
     ·rcases hfit rfl h0 p hp with he|⟨hr1,hr2⟩
      ·have hcl:c=l:=by omega
       have hmul:(c' - l) * p.es+l * p.es=c' * p.es:=by rw[← Nat.add_mul];congr 1;omega
       subst hcl
       rw[← he]
       omega
      ·rw[hr2]at h1 h3;omega
     ·omega
 ·have hne:¬ ((if mx=true then m else c')=l):=by omega
  rw[if_neg hml,if_neg hne]
  have hpos:0<c:=by omega
  rcases hor with ⟨_,hoff,hcap⟩|h
  case inr=>omega
  have hA:∀ X:Addr,X=(if l * size=0 then(⟨ab,ao,none⟩:Addr)else⟨ab,ao+l * size,none⟩)→X=⟨ab,ao+l * size,none⟩:=by
   intro X hX;rw[hX];split
   ·rename_i h;rw[h];rfl
   ·rfl
  rw[hA _ rfl]
  refine .slice (by omega) ⟨rfl,rfl,p,hp,rfl,.inl ⟨by omega,by simp only;omega,?_⟩⟩
  cases mx with
  |true=>exact .inl rfl
  |false=>
   simp only[Bool.false_eq_true,if_false]
   have hmc':=hm rfl
   subst hmc'
   rcases hcap with h|⟨h1,h2,h3⟩
   ·exact .inl (by rw[h])
   ·rcases Nat.eq_zero_or_pos l with h0|h0
    ·subst h0;refine .inr ?_;simp only[Nat.zero_mul,Nat.add_zero,Nat.sub_zero];exact⟨h1,h2,h3⟩
    ·rcases hfit rfl h0 p hp with he|⟨hr1,hr2⟩
     ·refine .inr ?_
      have e1:(m - l) * p.es+l * p.es=m * p.es:=by rw[← Nat.add_mul];congr 1;omega
      have e2:(c' - l) * p.es+l * p.es=c' * p.es:=by rw[← Nat.add_mul];congr 1;omega
      rw[← he]
      omega
     ·rw[hr2]at h1 h3;exact .inl (by omega)
theorem R0(H:RelW ty φ E h w){el:Nat}{ei:TI}(hty:ty.get el=some ei){a:Addr}(hf:IF el (some a) h=true):∀ p,φ a.block=some p→p.es=ei.size∨(p.room=p.sz∧p.es=1):=by
 intro p hp
 unfold IF at hf
 simp only at hf
 split at hf
 ·rename_i c s en hrow
  have hk:=H.kind a.block p c s en hp (Ba hrow)
  rcases hk.2 with ⟨_,h1,h2,_⟩|⟨t,ti,h1,h2,h3⟩
  ·exact .inr ⟨h1,h2⟩
  ·subst h1
   have:t=el:=Ae.1 hf
   subst this
   rw[hty]at h2;cases h2;exact .inl h3
 ·cases hf
theorem Sk(H:RelW ty φ E h w){x:O}{x':Value}{t el:TypeId}{ti ei:TI}(T:TyOk P t ti)(hk:ti.k=.slice el)(hty:ty.get el=some ei)(TE:TyOk P el ei)
  {lo hi mx:Option O}{lo' hi' mx':Option Value}(hx:RelV φ (x e) x')(hl:RelO φ e lo lo')(hh:RelO φ e hi hi')(hm:RelO φ e mx mx')
  (hr:A7 el ei.size x lo hi mx F e h=.ok v h'):Av ty φ E h w v h' ((Instr.sliceAt t x' lo' hi' mx').run P w):=by
 unfold A7 at hr
 split at hr
 case h_2=>cases hr
 rename_i a n c hxe
 rw[hxe]at hx
 obtain⟨d,hd,hkd⟩:=T.desc
 rw[hk]at hkd
 cases hkd
 cases hx with
 |slice0=>
  ·obtain⟨l,b,m,hk2,h1,h2,h3,h4,hs⟩:=E6 (P:=P) hl hh hm (Nat.le_refl 0) (Nat.le_refl 0) hr true
   have hcut:CN none ei.size l b m h=.ok v h':=by
    unfold Of at hk2
    split at hk2
    ·exact hk2
    ·split at hk2
     ·exact hk2
     ·exact(Aw hk2).2
   rw[Fg]at hcut
   cases hcut
   have key:(Instr.sliceAt t (.slice none 0 0) lo' hi' mx').run P w=.ok (.slice none (b - l) (m - l)) w:=by
    have hmm:(if mx.isSome then m else 0)=m:=by
     split
     ·rfl
     ·rename_i hf;exact(h4 (by simpa using hf)).symm
    rw[hmm]at hs
    simp only[Instr.sliceAt,Instr.slice,Sem.run_bind,hd,Result.andThen_ok,hs,TE.size,Sem.run_pure,Option.map_none,ite_self]
   rw[key]
   simp only[Option.map_none,ite_self]
   have e1:m=0:=by omega
   have e2:b=0:=by omega
   have e3:l=0:=by omega
   subst e1;subst e2;subst e3
   exact .same H .slice0
 |@slice a a' _ _ c' hn hsl=>
  obtain⟨l,b,m,hk2,h1,h2,h3,h4,hs⟩:=E6 (P:=P) hl hh hm hsl.le hn hr true
  have hcut:CN (some a) ei.size l b m h=.ok v h'∧(mx.isSome=false→0<l→∀ p,φ a.block=some p→p.es=ei.size∨(p.room=p.sz∧p.es=1)):=by
   unfold Of at hk2
   split at hk2
   ·rename_i hmx;exact⟨hk2,fun hf=>by rw[hmx]at hf;cases hf⟩
   ·split at hk2
    ·exact⟨hk2,fun _ h0=>absurd h0 (Nat.lt_irrefl 0)⟩
    ·obtain⟨hf,hk2⟩:=Aw hk2
     exact⟨hk2,fun _ _=>R0 H hty hf⟩
  obtain⟨hcut,hfit⟩:=hcut
  rw[Fg]at hcut
  cases hcut
  have key:(Instr.sliceAt t (.slice (some a') n c') lo' hi' mx').run P w=
    .ok (.slice (if(if mx.isSome then m else c')=l then some a' else(some a').map (·.add (l * ei.size))) (b - l) ((if mx.isSome then m else c') - l)) w:=by
   simp only[Instr.sliceAt,Instr.slice,Sem.run_bind,hd,Result.andThen_ok,hs,TE.size,Sem.run_pure]
  rw[key]
  exact .same H (Rt hsl h1 h2 h3 h4 hfit)
end
end
noncomputable section
open Go
theorem DM{α:Type}(xs:List α):∀ n,(Ao xs n).length=n * xs.length
 |0=>by simp[Ao]
 |n+1=>by
  show(xs++Ao xs n).length=_
  rw[List.length_append,DM xs n,Nat.succ_mul,Nat.add_comm]
theorem Lv{α:Type}(xs:List α):∀ n i,i<n * xs.length→(Ao xs n)[i]? =xs[i % xs.length]?
 |0,i,h=>by simp at h
 |n+1,i,h=>by
  show(xs++Ao xs n)[i]? =_
  rcases Nat.lt_or_ge i xs.length with hl|hl
  ·rw[List.getElem?_append_left hl,Nat.mod_eq_of_lt hl]
  ·have h2:i - xs.length<n * xs.length:=by rw[Nat.succ_mul]at h;omega
   rw[List.getElem?_append_right hl,Lv xs n _ h2,← Nat.mod_eq_sub_mod hl]
theorem Es{φ:Phi}{l l':List Value}(h:RelL φ l l'):∀ n,RelL φ (Ao l n) (Ao l' n)
 |0=>.nil
 |n+1=>h.append (Es h n)
theorem I3(z:Array Value)(n:Nat):((Array.range (n * z.size)).map (fun i=>z[i % z.size]!))=⟨Ao z.toList n⟩:=by
 apply Array.ext'
 apply List.ext_getElem?
 intro i
 simp only[Array.toList_map,List.getElem?_map,Array.toList_range]
 rcases Nat.lt_or_ge i (n * z.size)with h|h
 ·have h1:i<n * z.toList.length:=by simpa using h
  rw[Lv _ _ _ h1,List.getElem?_range h,Option.map_some]
  have h2:0<z.size:=by
   rcases Nat.eq_zero_or_pos z.size with h0|h0
   ·rw[h0]at h;simp at h
   ·exact h0
  have h3:i % z.size<z.size:=Nat.mod_lt _ h2
  simp[h3]
 ·rw[List.getElem?_eq_none (by simpa using h),List.getElem?_eq_none (by rw[DM];simpa using h)];rfl
theorem EG(z:Array Value)(n:Nat):Builtin.zeroCells z n=⟨Ao z.toList n⟩:=I3 z n
theorem lay_is(cs:List Value)(off:Nat)(vs:List Value):lay cs off vs=cs.take off++vs++cs.drop (off+vs.length):=by
 unfold lay;rw[Eu,Fv,A9];rfl
theorem M0{cs:List Value}{off:Nat}{vs:List Value}(h:off+vs.length≤cs.length):(lay cs off vs).length=cs.length:=by
 rw[lay_is];simp;omega
theorem SH{φ:Phi}{cs cs' vs vs':List Value}(h:RelL φ cs cs')(hv:RelL φ vs vs')(off:Nat):RelL φ (lay cs off vs) (lay cs' off vs'):=by
 rw[lay_is,lay_is,hv.length]
 exact((h.take off).append hv).append (h.drop _)
theorem JV(off:Nat):∀ (vs:List Value) (j:Nat) (cs:Array Value),off+j+vs.length≤cs.size→
  ((vs.zipIdx j).foldl (fun cs (c,j)=>cs.setIfInBounds (off+j) c) cs).toList=lay cs.toList (off+j) vs
 |[],j,cs,h=>by rw[lay_is];simp
 |v::vs,j,cs,h=>by
  simp only[List.length_cons]at h
  rw[List.zipIdx_cons,List.foldl_cons]
  have:=JV off vs (j+1) (cs.setIfInBounds (off+j) v) (by simp;omega)
  rw[this,lay_is,lay_is]
  have hlt:off+j<cs.toList.length:=by simp;omega
  rw[Array.toList_setIfInBounds,show off+(j+1)=off+j+1 by omega]
  rw[List.length_cons,List.take_set,List.drop_set_of_lt (by omega)]
  have e1:(cs.toList.take (off+j+1)).set (off+j) v=cs.toList.take (off+j)++[v]:=by
   rw[List.take_succ_eq_append_getElem hlt,List.set_append_right _ _ (by simp;omega)]
   have:(off+j - (cs.toList.take (off+j)).length)=0:=by simp;omega
   rw[this];rfl
  rw[e1,show off+j+1+vs.length=off+j+(vs.length+1)by omega]
  simp
section
variable {P:Program}{ty:TTy}{φ:Phi}{E:Nat→Prop}{h h':Hp}{w:World}{F:CallF}{e:Env}{v:Value}
inductive RelP (φ:Phi)(e:Env)(place:Nat→Option (Nat×Nat)):List (Nat×Nat×O)→List (Nat×Value)→Prop
 |nil:RelP φ e place [] []
 |cons {i off size:Nat} {o:O} {x:Value} {l:List (Nat×Nat×O)} {l':List (Nat×Value)} (hp:place i=some (off,size)) (hx:RelV φ (o e) x) (t:RelP φ e place l l'):
  RelP φ e place ((off,size,o)::l) ((i,x)::l')
theorem Fy{place:Nat→Option (Nat×Nat)}{k:List Value→R}:∀ {ps:List (Nat×Nat×O)} {ps':List (Nat×Value)},RelP φ e place ps ps'→∀ {cs cs':List Value},RelL φ cs cs'→
  Fx cs e k ps=.ok v h'→∃ r r',k r=.ok v h'∧RelL φ r r'∧r.length=cs.length∧Instr.fill place ⟨cs'⟩ ps'=some ⟨r'⟩
 |_,_,.nil,cs,cs',hc,hr=>by
  unfold Fx at hr
  rw[Br]at hr
  exact⟨cs,cs',hr,hc,rfl,rfl⟩
 |_,_,.cons (off:=off) (size:=size) (o:=o) (x:=x) hp hx t,cs,cs',hc,hr=>by
  unfold Fx at hr
  rw[BB]at hr
  obtain⟨hkn,hr⟩:=Aw hr
  obtain⟨hb1,hr⟩:=Aw hr
  obtain⟨hb2,hr⟩:=Aw hr
  have hcl:=Ga hx hkn
  have h1:=Ae.1 hb1
  have h2:=Ar.1 hb2
  rw[A9]at h1 h2
  have h3:=hcl.length
  have h4:=hc.length
  obtain⟨r,r',hk,hrr,hlen,hf⟩:=Fy t (SH hc hcl off) hr
  have h2':off+size≤cs.length:=h2
  have hsz:x.cells.size=size:=by rw[← h1,← h3];simp
  refine⟨r,r',hk,hrr,by rw[hlen,M0 (by omega)],?_⟩
  rw[Instr.fill,hp]
  simp only
  rw[if_neg (by simp[hsz];omega)]
  have hfold:(x.cells.zipIdx.foldl (fun cs (c,j)=>cs.setIfInBounds (off+j) c) (⟨cs'⟩:Array Value))=⟨lay cs' off x.cells.toList⟩:=by
   apply Array.ext'
   have:=JV off x.cells.toList 0 ⟨cs'⟩ (by simp[hsz];omega)
   rw[← Array.foldl_toList,Array.toList_zipIdx]
   exact this
  rw[hfold]
  exact hf
end
end
noncomputable section
open Go
section
variable {P:Program}{ty:TTy}{φ:Phi}{E:Nat→Prop}{h h':Hp}{w:World}{F:CallF}{e:Env}{v:Value}
theorem M5(H:RelW ty φ E h w){t:TypeId}{ti:TI}(T:TyOk P t ti){fs:List (Nat×Nat×Nat)}(hk:ti.k=.struct fs)(hz:ti.zero.length=ti.size)
  {ps:List (Nat×Nat×O)}{ps':Array (Nat×Value)}(hp:RelP φ e (Ij fs) ps ps'.toList)
  (hr:AZ ti.zero ps F e h=.ok v h'):Av ty φ E h w v h' ((Instr.build t ps').run P w):=by
 unfold AZ at hr
 obtain⟨z,_,hzr,hzc,hzp⟩:=T.zeroOk hz
 obtain⟨r,r',hk2,hrr,hlen,hf⟩:=Fy hp (.plain hzp) hr
 cases hk2
 obtain⟨d,hd,hkd⟩:=T.desc
 rw[hk]at hkd
 cases hkd with
 |@struct fs fields hfl hin=>
  have hmap:∀ w,(fields.mapM (fun f=>(do pure (f.offset,← sizeOf f.type):Sem (Nat×Nat)))).run P w=.ok (fields.map fun f=>(f.offset,P.cellsOf f.type)) w:=by
   intro w
   rw[← Array.toArray_toList (xs:=fields),List.mapM_toArray,List.map_toArray]
   have:∀ l:List Field,l.all (fun f=>(P.info? f.type).isSome)=true→(l.mapM (fun f=>(do pure (f.offset,← sizeOf f.type):Sem (Nat×Nat)))).run P w=.ok (l.map fun f=>(f.offset,P.cellsOf f.type)) w:=by
    intro l
    induction l with
    |nil=>intro _;rfl
    |cons f l ih=>
     intro hall
     simp only[List.all_cons,Bool.and_eq_true]at hall
     obtain⟨inf,hinf⟩:=Option.isSome_iff_exists.1 hall.1
     simp only[List.mapM_cons,Sem.run_bind,run_sizeOf w hinf,Result.andThen_ok,Sem.run_pure,ih hall.2,List.map_cons]
   simp only[Sem.run_map,this _ hin,Result.andThen_ok]
  have hplace:Ij fs=fun i=>(fields.map fun f=>(f.offset,P.cellsOf f.type))[i]?:=by
   funext i
   unfold Ij
   rw[DU,← hfl,List.getElem?_map,Array.getElem?_map,← Array.getElem?_toList]
   cases fields.toList[i]?<;>rfl
  rw[hplace]at hf
  have hz':(⟨ti.zero⟩:Array Value)=z.cells:=by rw[← hzc]
  rw[hz']at hf
  have key:(Instr.build t ps').run P w=.ok (.agg ⟨r'⟩) w:=by
   simp only[Instr.build,Sem.run_bind,hzr,Result.andThen_ok,hd,hmap,hf,Sem.run_pure]
  rw[key];exact .same H (.agg hrr)
theorem M4(H:RelW ty φ E h w){t el:TypeId}{ti ei:TI}(T:TyOk P t ti){n:Nat}(hk:ti.k=.arr n el)(TE:TyOk P el ei)(hz:ti.zero.length=ti.size)
  {ps:List (Nat×Nat×O)}{ps':Array (Nat×Value)}(hp:RelP φ e (fun i=>some (Nat.mul i ei.size,ei.size)) ps ps'.toList)
  (hr:AZ ti.zero ps F e h=.ok v h'):Av ty φ E h w v h' ((Instr.build t ps').run P w):=by
 unfold AZ at hr
 obtain⟨z,_,hzr,hzc,hzp⟩:=T.zeroOk hz
 obtain⟨r,r',hk2,hrr,hlen,hf⟩:=Fy hp (.plain hzp) hr
 cases hk2
 obtain⟨d,hd,hkd⟩:=T.desc
 rw[hk]at hkd
 cases hkd
 have hz':(⟨ti.zero⟩:Array Value)=z.cells:=by rw[← hzc]
 rw[hz']at hf
 have hf':Instr.fill (fun i=>some (i * ei.size,ei.size)) z.cells ps'.toList=some ⟨r'⟩:=hf
 have key:(Instr.build t ps').run P w=.ok (.agg ⟨r'⟩) w:=by
  simp only[Instr.build,Sem.run_bind,hzr,Result.andThen_ok,hd,TE.size,hf',Sem.run_pure]
 rw[key];exact .same H (.agg hrr)
theorem OK{ψ:Phi}{n s l c:Nat}{p:Pl}(hp:ψ n=some p)(ho:p.off=0)(hl:l≤c)(hc:c=0∨0<c):RelV ψ (.slice (some ⟨n,0,none⟩) l c) (.slice (some ⟨p.blk,0,none⟩) l c):=by
 refine .slice hl ⟨rfl,rfl,p,hp,rfl,?_⟩
 rcases hc with h|h
 ·exact .inr ⟨h,.inl h⟩
 ·exact .inl ⟨h,by simp[ho],.inl rfl⟩
theorem Ic(H:RelW ty φ E h w){t el:TypeId}{ti ei:TI}(T:TyOk P t ti)(hk:ti.k=.slice el)(TE:TyOk P el ei)(hz:ei.zero.length=ei.size)
  {len:Nat}(hlen:len * ei.size≤16777216){ps:List (Nat×Nat×O)}{ps':Array (Nat×Value)}(hp:RelP φ e (fun i=>some (Nat.mul i ei.size,ei.size)) ps ps'.toList)
  (hr:AQ len (Ao ei.zero len) ps F e h=.ok v h'):Av ty φ E h w v h' ((Instr.buildSlice t len ps').run P w):=by
 unfold AQ at hr
 obtain⟨z,_,hzr,hzc,hzp⟩:=TE.zeroOk hz
 obtain⟨r,r',hk2,hrr,hlr,hf⟩:=Fy hp (Es (.plain hzp) len) hr
 obtain⟨h1,ψ,hk3,hps,H1,ev⟩:=D4 H hk2 hrr el
 cases hk3
 obtain⟨d,hd,hkd⟩:=T.desc
 rw[hk]at hkd
 cases hkd
 have hzs:z.cells.size=ei.size:=by rw[← hz,← hzc];simp
 have hf':Instr.fill (fun i=>some (i * ei.size,ei.size)) ⟨Ao ei.zero len⟩ ps'.toList=some ⟨r'⟩:=hf
 have hcells:(Array.range (len * ei.size)).map (fun i=>z.cells[i % z.cells.size]!)=⟨Ao ei.zero len⟩:=by
  rw[← hzc,← hzs];exact I3 z.cells len
 have hng:¬ (len * ei.size > 2 ^ 24):=by omega
 have key:(Instr.buildSlice t len ps').run P w=.ok (.slice (some ⟨w.heap.size,0,none⟩) len len) {w with heap:=w.heap.push (.cells ⟨r'⟩ el)}:=by
  by_cases h0:len * ei.size=0
  ·have:(Array.range (len * ei.size)).map (fun i=>(#[]:Array Value)[i % (#[]:Array Value).size]!)=⟨Ao ei.zero len⟩:=by
    rw[← hcells,h0];simp
   simp only[Instr.buildSlice,Sem.run_bind,hd,Result.andThen_ok,TE.size,hng,h0,if_false,if_true,Sem.run_pure,Nat.not_lt_zero,gt_iff_lt]
   rw[h0]at this
   simp only[this,hf',Go.newRow,Sem.run_bind,run_newObj,Result.andThen_ok,Sem.run_pure]
  ·simp only[Instr.buildSlice,Sem.run_bind,hd,Result.andThen_ok,TE.size,hng,h0,if_false,hzr,Sem.run_pure,hcells,hf',Go.newRow,run_newObj]
 rw[key]
 exact⟨_,_,ψ,rfl,OK (s:=0) hps rfl (Nat.le_refl _) (Nat.eq_zero_or_pos _),H1,ev⟩
theorem I2{n:Nat}(h:n≤9223372036854775807):IntKind.i64.wrap (n:Int)=n:=B6 .i64 n h
theorem SL:most=1099511627776:=rfl
theorem SN:QR=70368744177664:=rfl
theorem OD{c b:Nat}(h:Nat.ble (Nat.mul (Nat.succ c) (Nat.succ b)) QR=true):c≤70368744177664∧(c+1) * (b+1)≤70368744177664:=by
 have h1:=Ar.1 h
 rw[SN]at h1
 have h2:(c+1) * (b+1)≤70368744177664:=h1
 refine⟨?_,h2⟩
 have:c+1≤(c+1) * (b+1):=Nat.le_mul_of_pos_right _ (by omega)
 omega
theorem SM{c b:Nat}(h:Nat.ble (Nat.mul (Nat.succ c) (Nat.succ b)) most=true):c≤1099511627776∧(c+1) * (b+1)≤1099511627776:=by
 have h1:=Ar.1 h
 rw[SL]at h1
 have h2:(c+1) * (b+1)≤1099511627776:=h1
 refine⟨?_,h2⟩
 have:c+1≤(c+1) * (b+1):=Nat.le_mul_of_pos_right _ (by omega)
 omega
theorem Qo(H:RelW ty φ E h w){t el:TypeId}{ti ei:TI}(T:TyOk P t ti)(hk:ti.k=.slice el)(TE:TyOk P el ei)(hz:ei.zero.length=ei.size)
  {l c:O}{l' c':Value}(hl:RelV φ (l e) l')(hc:RelV φ (c e) c')(hr:Bp ei.bytes ei.zero l c F e h=.ok v h'):Av ty φ E h w v h' ((Instr.makeSlice t l' c').run P w):=by
 unfold Bp Tt at hr
 split at hr
 case h_2=>cases hr
 rename_i a h1
 split at hr
 case h_2=>cases hr
 rename_i b h2
 obtain⟨k1,rfl⟩:=CG hl h1
 obtain⟨k2,rfl⟩:=CG hc h2
 obtain⟨hb1,hr⟩:=Aw hr
 obtain⟨hb2,hr⟩:=Aw hr
 have hle:=Ar.1 hb1
 obtain⟨hm1,hm2⟩:=SM hb2
 obtain⟨z,_,hzr,hzc,hzp⟩:=TE.zeroOk hz
 have hzs:z.cells.size=ei.size:=by rw[← hz,← hzc];simp
 have hrel:RelL φ (Ao ei.zero b) (Ao ei.zero b):=Es (.plain hzp) b
 obtain⟨h1',ψ,hk3,hps,H1,ev⟩:=D4 H hr hrel el
 cases hk3
 obtain⟨d,hd,hkd⟩:=T.desc
 rw[hk]at hkd
 cases hkd
 obtain⟨inf,hinf,hs,hbt,_⟩:=TE.info
 have hcells:(Array.range (b * ei.size)).map (fun i=>z.cells[i % z.cells.size]!)=⟨Ao ei.zero b⟩:=by
  rw[← hzc,← hzs];exact I3 z.cells b
 have w1:IntKind.i64.wrap (a:Int)=a:=I2 (by omega)
 have w2:IntKind.i64.wrap (b:Int)=b:=I2 (by omega)
 have hbytes:¬ ((ei.bytes:Int) * (b:Int) > 2 ^ 48):=by
  have:ei.bytes * b≤(b+1) * (ei.bytes+1):=by rw[Nat.mul_comm];exact Nat.mul_le_mul (by omega) (by omega)
  have h3:((ei.bytes * b:Nat):Int)≤1099511627776:=by omega
  rw[← Int.natCast_mul]
  omega
 have hcond:((decide ((b:Int)<0) || decide ((ei.bytes:Int) * (b:Int) > 2 ^ 48)) || decide ((a:Int)<0) || decide ((a:Int) > (b:Int)))=false:=by
  simp only[Bool.or_eq_false_iff,decide_eq_false_iff_not]
  refine⟨⟨⟨by omega,hbytes⟩,by omega⟩,by omega⟩
 have key:(Instr.makeSlice t (.int k1 (a:Nat)) (.int k2 (b:Nat))).run P w=.ok (.slice (some ⟨w.heap.size,0,none⟩) a b) {w with heap:=w.heap.push (.cells ⟨Ao ei.zero b⟩ el)}:=by
  by_cases h0:b * ei.size=0
  ·have e0:(Array.range (b * ei.size)).map (fun i=>(#[]:Array Value)[i % (#[]:Array Value).size]!)=⟨Ao ei.zero b⟩:=by
    rw[← hcells,h0];simp
   rw[h0]at e0
   simp only[Instr.makeSlice,Sem.run_bind,hd,Result.andThen_ok,asInt,asIntOf,Sem.run_pure,run_typeInfo _ hinf,hbt,w1,w2,hcond,Bool.false_eq_true,if_false,run_askRoom,Int.toNat_natCast,TE.size,h0,if_true,e0,Go.newRow,run_newObj,Sem.run_ite]
  ·simp only[Instr.makeSlice,Sem.run_bind,hd,Result.andThen_ok,asInt,asIntOf,Sem.run_pure,run_typeInfo _ hinf,hbt,w1,w2,hcond,Bool.false_eq_true,if_false,run_askRoom,Int.toNat_natCast,TE.size,h0,hzr,hcells,Go.newRow,run_newObj,Sem.run_ite]
 rw[key]
 exact⟨_,_,ψ,rfl,OK (s:=0) hps rfl hle (Nat.eq_zero_or_pos _),H1,ev⟩
end
end
noncomputable section
open Go
section
variable {P:Program}{ty:TTy}{φ:Phi}{E:Nat→Prop}{h h':Hp}{w:World}{F:CallF}{e:Env}{v:Value}
theorem M7(H:RelW ty φ E h w){x:O}{x':Value}{t el:TypeId}{ti ei:TI}(T:TyOk P t ti){n:Nat}(hk:ti.k=.arr n el)(TE:TyOk P el ei)
  {lo hi mx:Option O}{lo' hi' mx':Option Value}(hx:RelV φ (x e) x')(hl:RelO φ e lo lo')(hh:RelO φ e hi hi')(hm:RelO φ e mx mx')
  (hr:D5 n ei.size x lo hi mx F e h=.ok v h'):Av ty φ E h w v h' ((Instr.sliceAt t x' lo' hi' mx').run P w):=by
 unfold D5 at hr
 split at hr
 case h_2=>cases hr
 rename_i a ha
 obtain⟨a',rfl,hra⟩:=DI hx ha
 obtain⟨d,hd,hkd⟩:=T.desc
 rw[hk]at hkd
 cases hkd
 obtain⟨l,b,m,hk2,h1,h2,h3,h4,hs⟩:=E6 (P:=P) hl hh hm (Nat.le_refl n) (Nat.le_refl n) hr false
 have hmm:(if mx.isSome then m else n)=m:=by
  split
  ·rfl
  ·rename_i hf;exact(h4 (by simpa using hf)).symm
 rw[hmm]at hs
 rw[Fg]at hk2
 cases hk2
 have key:(Instr.sliceAt t (.pointer (some a')) lo' hi' mx').run P w=.ok (.slice (some (if m=l then a' else a'.add (l * ei.size))) (b - l) (m - l)) w:=by
  simp only[Instr.sliceAt,Sem.run_bind,hd,Result.andThen_ok,Dp,hs,TE.size,Sem.run_pure]
 rw[key]
 refine .same H ?_
 have s1:=hra.1
 obtain⟨p,hp,rfl⟩:=hra.eq
 obtain⟨ab,ao,asp⟩:=a
 simp only at s1 hp
 subst s1
 simp only[Addr.add_is,Option.map_some]
 by_cases hml:m=l
 ·rw[if_pos hml,if_pos hml]
  exact .slice (by omega) ⟨rfl,rfl,p,hp,rfl,.inr ⟨by omega,.inl (by omega)⟩⟩
 ·rw[if_neg hml,if_neg hml]
  have hA:(if l * ei.size=0 then(⟨ab,ao,none⟩:Addr)else⟨ab,ao+l * ei.size,none⟩)=⟨ab,ao+l * ei.size,none⟩:=by
   split
   ·rename_i h;rw[h];rfl
   ·rfl
  rw[hA]
  exact .slice (by omega) ⟨rfl,rfl,p,hp,rfl,.inl ⟨by omega,by simp only;omega,.inl rfl⟩⟩
theorem M9(H:RelW ty φ E h w){x:O}{x':Value}{t:TypeId}{ti:TI}(T:TyOk P t ti)(hk:ti.k=.string){lo hi:Option O}{lo' hi':Option Value}(hx:RelV φ (x e) x')
  (hl:RelO φ e lo lo')(hh:RelO φ e hi hi')(hr:FD x lo hi F e h=.ok v h'):Av ty φ E h w v h' ((Instr.sliceAt t x' lo' hi' none).run P w):=by
 unfold FD at hr
 split at hr
 case h_2=>cases hr
 rename_i s hxe
 rw[hxe]at hx
 obtain rfl:=hx.string_inv
 obtain⟨d,hd,hkd⟩:=T.desc
 rw[hk]at hkd
 cases hkd
 obtain⟨l,b,m,hk2,h1,h2,h3,h4,hs⟩:=E6 (P:=P) hl hh .none (Nat.le_refl _) (Nat.le_refl _) hr false
 cases hk2
 have e1:Bo s.data.toList=s.size:=A9 _
 rw[e1]at hs h3
 have key:(Instr.sliceAt t (.string s) lo' hi' none).run P w=.ok (.string (s.extract l b)) w:=by
  simp only[Instr.sliceAt,Instr.slice,Sem.run_bind,hd,Result.andThen_ok,Option.isSome_none,Bool.false_eq_true,if_false,Sem.run_pure,hs]
 rw[key,← EX (a:=s.extract l b) (l:=GL (Nat.sub b l) (FP l s.data.toList)) (by
  rw[Eu,Fv];simp[List.extract_eq_take_drop])]
 exact .same H (.string _)
theorem Qx(H:RelW ty φ E h w){x:O}{x':Value}(hx:RelV φ (x e) x')(hr:Lg x F e h=.ok v h'):∃ s,x'=.string s∧Av ty φ E h w v h' (.ok x' w):=by
 unfold Lg at hr
 split at hr
 case h_2=>cases hr
 rename_i s hxe
 rw[hxe]at hx
 cases hr
 obtain rfl:=hx.string_inv
 exact⟨s,rfl,.same H hx⟩
theorem Qg(H:RelW ty φ E h w){fn:Fn}{f c:List O}{f' c':List Value}(hf:RelL φ (vals e f) f')(hc:RelL φ (vals e c) c')(hr:Ax fn f c F e h=.ok v h'):
  Av ty φ E h w v h' (.ok (.func fn ⟨f'⟩ ⟨c'⟩) w):=by
 unfold Ax at hr;rw[Br,Br]at hr;cases hr;exact .same H (.func fn hf hc)
theorem SZ(H:RelW ty φ E h w){x:O}{x':Value}{t el:TypeId}{ti:TI}(T:TyOk P t ti){n:Nat}(hk:ti.k=.arr n el)(hn:0<n)(hx:RelV φ (x e) x')
  (hr:O1 n x F e h=.ok v h'):Av ty φ E h w v h' ((Instr.arrayAt t x').run P w):=by
 unfold O1 at hr
 split at hr
 case h_2=>cases hr
 rename_i a l c hxe
 rw[hxe]at hx
 obtain⟨hb,hr⟩:=Aw hr
 cases hr
 have hb:=Ar.1 hb
 obtain⟨d,hd,hkd⟩:=T.desc
 rw[hk]at hkd
 cases hkd
 cases hx with
 |@slice _ a' _ _ c' hlc hs=>
  have key:(Instr.arrayAt t (.slice (some a') l c')).run P w=.ok (.pointer (some a')) w:=by
   simp only[Instr.arrayAt,Sem.run_bind,hd,Result.andThen_ok,Nat.not_lt.2 hb,if_false,Sem.run_pure]
  rw[key];exact .same H (.ptr (Gs hlc hs (by omega)))
theorem Jj(H:RelW ty φ E h w){lt:Bool}{x y:O}{x' y':Value}(hx:RelV φ (x e) x')(hy:RelV φ (y e) y')(hr:Gk lt (x e) (y e) h=.ok v h'):
  ∃ k q m n,x'=.int k m∧y'=.int q n∧h'=h∧v=.int k (if(if lt then n<m else m<n)then n else m):=by
 unfold Gk at hr
 split at hr
 case h_2=>cases hr
 rename_i k m hxe
 split at hr
 case h_2=>cases hr
 rename_i n hye
 obtain⟨q,hq⟩:=KD hye
 rw[hxe]at hx;rw[hq]at hy
 refine⟨k,q,m,n,hx.int_inv,hy.int_inv,?_⟩
 cases lt
 ·simp only[cond_false]at hr
  cases hb:iLt m n with
  |false=>
   rw[hb]at hr;cases hr
   rw[IJ]at hb
   have:=of_decide_eq_false hb
   refine⟨rfl,?_⟩
   simp[this]
  |true=>
   rw[hb]at hr;cases hr
   rw[IJ]at hb
   have:=of_decide_eq_true hb
   refine⟨rfl,?_⟩
   simp[this]
 ·simp only[cond_true]at hr
  cases hb:iLt n m with
  |false=>
   rw[hb]at hr;cases hr
   rw[IJ]at hb
   have:=of_decide_eq_false hb
   refine⟨rfl,?_⟩
   simp[this]
  |true=>
   rw[hb]at hr;cases hr
   rw[IJ]at hb
   have:=of_decide_eq_true hb
   refine⟨rfl,?_⟩
   simp[this]
theorem St(H:RelW ty φ E h w){x y:O}{x' y':Value}{ats:Array TypeId}{t:TypeId}(hx:RelV φ (x e) x')(hy:RelV φ (y e) y')(hr:En x y F e h=.ok v h'):
  Av ty φ E h w v h' ((Builtin.min_ ats t #[x',y']).run P w):=by
 obtain⟨k,q,m,n,rfl,rfl,rfl,rfl⟩:=Jj H hx hy hr
 exact .same H (.int _ _)
theorem Sr(H:RelW ty φ E h w){x y:O}{x' y':Value}{ats:Array TypeId}{t:TypeId}(hx:RelV φ (x e) x')(hy:RelV φ (y e) y')(hr:Lb x y F e h=.ok v h'):
  Av ty φ E h w v h' ((Builtin.max_ ats t #[x',y']).run P w):=by
 obtain⟨k,q,m,n,rfl,rfl,rfl,rfl⟩:=Jj H hx hy hr
 exact .same H (.int _ _)
theorem EI:∀ l:List UInt8,BU l=l.map fun b=>.int .u8 (b.toNat:Int)
 |[]=>rfl
 |b::l=>by unfold BU;rw[As,EI l];rfl
theorem G2(l:List UInt8):RelL φ (BU l) (l.map fun b=>.int .u8 (b.toNat:Int)):=by
 rw[EI]
 induction l with
 |nil=>exact .nil
 |cons b l ih=>exact .cons (.int _ _) ih
theorem DO(H:RelW ty φ E h w){size n:Nat}{x x':Value}(hE:∀ a l c,x=.slice (some a) l c→¬ E a.block)(hx:RelV φ x x'){k:List Value→R}(hr:BE h size x n k=.ok v h')
  (hn:∀ m,lenV x=.ok m→n≤m):
  ∃ cs cs':List Value,k cs=.ok v h'∧RelL φ cs cs'∧(∀ w':World,w'.heap=w.heap→(Builtin.firstCells size n x').run P w'=.ok ⟨cs'⟩ w')∧(∀ a l c,x'=.slice (some a) l c→cs'.length=n * size)∧(∀ s,x'=.string s→cs'.length=n∧size=1)∧
   (∀ a l c,x=.slice (some a) l c→0<c→∃ p cs t fr,φ a.block=some p∧w.heap[p.blk]? =some (.cells cs t fr)∧∀ (j:Nat) (u:Value),cs'[j]? =some u→cs[p.off+a.off+j]? =some u):=by
 unfold BE at hr
 split at hr
 ·cases hx
  exact⟨[],[],hr,.nil,(fun _ _=>rfl),(fun _ _ _ h=>by cases h),(fun _ h=>by cases h),(fun _ _ _ h=>by cases h)⟩
 ·rename_i a l c
  split at hr
  case h_2=>cases hr
  rename_i ct s en hrow
  obtain⟨hb,hr⟩:=Aw hr
  rw[D1,List.append_nil]at hr
  cases hx with
  |@slice _ a' _ _ c' hlc hs=>
   rcases Nat.eq_zero_or_pos c with h0|h0
   ·have hl0:l=0:=by omega
    have hn0:n=0:=by have:=hn l rfl;omega
    subst hn0
    refine⟨_,[],hr,by simp[rowL];exact .nil,fun w' _=>?_,(fun _ _ _ h=>by simp),(fun _ h=>by cases h),(fun _ _ _ h hpos=>by cases h;omega)⟩
    simp only[Builtin.firstCells,Nat.zero_mul];rfl
   ·obtain⟨s1,s2,p,hp,hbl,hor⟩:=hs
    have ha:RelA φ a a':=by
     rcases hor with h|h
     ·exact⟨s1,s2,p,hp,hbl,h.2.1⟩
     ·omega
    obtain⟨cs',hcs,hlen,hrun,hcell⟩:=LR (P:=P) H ha (hE _ _ _ rfl) hrow (Ar.1 hb)
    exact⟨_,cs',hr,hcs,hrun,(fun _ _ _ _=>hlen),(fun _ h=>by cases h),(fun _ _ _ h _=>by cases h;exact hcell)⟩
 ·rename_i s
  obtain rfl:=hx.string_inv
  have hn':n≤s.data.toList.length:=by
   have:=hn (Bo s.data.toList) rfl
   rwa [A9]at this
  obtain⟨hone,hr⟩:=Aw hr
  rw[Eu]at hr
  refine⟨_,_,hr,G2 _,fun w' _=>?_,(fun _ _ _ h=>by cases h),(fun _ _=>⟨by simp only[List.length_map,List.length_take];omega,Ae.1 hone⟩),(fun _ _ _ h=>by cases h)⟩
  simp only[Builtin.firstCells,Sem.run_pure]
  congr 1
  apply Array.ext'
  simp[List.extract_eq_take_drop]
 ·rename_i c
  cases c with
  |none=>cases hr
  |some r=>
   cases hx
   have hn0:n=0:=by have:=hn 0 rfl;omega
   subst hn0
   exact⟨[],[],hr,.nil,(fun w' _=>by simp only[Builtin.firstCells,Nat.zero_mul];rfl),(fun _ _ _ h=>by simp),(fun _ h=>by cases h),(fun _ _ _ h=>by cases h)⟩
 ·cases hr
theorem LN{x x':Value}(hx:RelV φ x x'){n:Nat}(h:lenV x=.ok n):(Builtin.lenOf x').run P w=.ok n w:=by
 unfold lenV at h
 split at h
 ·cases h;cases hx<;>rfl
 ·cases h
  obtain rfl:=hx.string_inv
  simp only[Builtin.lenOf,Sem.run_pure,A9];rfl
 ·rename_i c
  cases c with
  |none=>cases h
  |some r=>
   cases h
   cases hx
   rfl
 ·cases h
theorem Qc(H:RelW ty φ E h w)(hE:∀ b,¬ E b){d x:O}{d' x':Value}{ats:Array TypeId}{dt t el:TypeId}(h0:ats[0]? =some dt){ti ei:TI}(T:TyOk P dt ti)(hk:ti.k=.slice el)(TE:TyOk P el ei)
  (hd:RelV φ (d e) d')(hx:RelV φ (x e) x')(hr:Bj ei.size d x F e h=.ok v h'):Av ty φ E h w v h' ((Builtin.copy_ ats t #[d',x']).run P w):=by
 unfold Bj Tl at hr
 split at hr
 case h_2=>cases hr
 rename_i base dl dc hde
 rw[hde]at hd
 split at hr
 case h_2=>cases hr
 rename_i xl hxl
 rw[As,A0]at hr
 obtain⟨cs,cs',hr,hcs,hrun0,hl1,hl2,_⟩:=DO (P:=P) H (fun _ _ _ _=>hE _) hx hr (fun m hm=>by rw[hxl]at hm;cases hm;exact Nat.min_le_left _ _)
 have hrun:=hrun0 w rfl
 obtain⟨dd,hdd,hkd⟩:=T.desc
 rw[hk]at hkd
 cases hkd
 have hlen:=LN (P:=P) (w:=w) hx hxl
 split at hr
 ·cases hr
  cases hd
  have key:(Builtin.copy_ ats t #[.slice none 0 0,x']).run P w=.ok (goInt ((min xl 0:Nat):Int)) w:=by
   simp only[Builtin.copy_,h0,Sem.run_bind,hdd,Result.andThen_ok,hlen,TE.size,Sem.run_pure,List.getElem?_toArray,List.getElem?_cons_zero,List.getElem?_cons_succ]
   have:Nat.min xl 0=min xl 0:=rfl
   rw[this,hrun];rfl
  rw[key];exact .same H (.int _ _)
 ·rename_i a hr0
  cases hd with
  |@slice _ a' _ _ dc' hlc hs=>
   have hstore:∃ h1 w1,(.ok (.int .i64 (.ofNat (min xl dl))) h1:R)=.ok v h'∧(storeCells a' cs').run P w=.ok () w1∧RelW ty φ E h1 w1∧Evo φ h w φ h1 w1:=by
    rcases Nat.eq_zero_or_pos dc with h0|h0
    ·have hdl:dl=0:=by omega
     subst hdl
     have hcs0:cs'=[]:=by
      have hz:min xl 0=0:=Nat.min_zero _
      rw[hz]at hrun hl1 hl2
      cases x'<;>first|(simp only[Builtin.firstCells]at hrun;cases hrun;done)|skip
      ·exact List.length_eq_zero_iff.1 (hl2 _ rfl).1
      ·rename_i sa sl scap
       cases sa with
       |none=>simp only[Builtin.firstCells,Sem.run_pure]at hrun;cases hrun;rfl
       |some sa=>exact List.length_eq_zero_iff.1 (by have:=hl1 sa sl scap rfl;simpa using this)
     subst hcs0
     have:cs=[]:=by cases hcs;rfl
     subst this
     unfold Bw at hr
     split at hr
     case h_2=>cases hr
     rename_i ct s en hrow
     obtain⟨_,hr⟩:=Aw hr
     obtain⟨_,hr⟩:=Aw hr
     simp only[BX]at hr
     obtain⟨bl,h256,hbl,hk2⟩:=CY hr
     obtain⟨_,_,p,hp,_,_⟩:=hs
     have hold:=H.row a.block p hp (hE _)
     have hrow':=Ba hrow
     rw[hrow']at hold
     have hlive:Live h a.block:=by unfold Live;rw[hrow'];intro hd;cases hd
     exact⟨_,w,hk2,rfl,H.put (hE _) h256 hp hlive hbl rfl (fun _ _=>rfl) hold,.put (H.notInp hp h256) hp hlive hbl (by rw[Ba hrow];exact .inr ⟨rfl,rfl⟩) rfl (fun _ _=>rfl) rfl rfl rfl⟩
    ·obtain⟨s1,s2,p,hp,hbl,hor⟩:=hs
     have ha:RelA φ a a':=by
      rcases hor with h|h
      ·exact⟨s1,s2,p,hp,hbl,h.2.1⟩
      ·omega
     exact FH (P:=P) H hr ha hcs (hE _)
   obtain⟨h1,w1,hk2,hrun2,H1,ev⟩:=hstore
   cases hk2
   have key:(Builtin.copy_ ats t #[.slice (some a') dl dc',x']).run P w=.ok (goInt ((min xl dl:Nat):Int)) w1:=by
    simp only[Builtin.copy_,h0,Sem.run_bind,hdd,Result.andThen_ok,hlen,TE.size,Sem.run_pure,List.getElem?_toArray,List.getElem?_cons_zero,List.getElem?_cons_succ]
    have:Nat.min xl dl=min xl dl:=rfl
    rw[this,hrun]
    simp only[Result.andThen_ok,hrun2,Sem.run_bind,Sem.run_pure]
   rw[key]
   exact⟨_,_,φ,rfl,.int _ _,H1,ev⟩
end
end
noncomputable section
open Go
section
variable {P:Program}{ty:TTy}{φ:Phi}{E:Nat→Prop}{h h':Hp}{w:World}{F:CallF}{e:Env}{v:Value}
theorem RelW.of_heap(H:RelW ty φ E h w){w':World}(hw:w'.heap=w.heap):RelW ty φ E h w' where
 dom:=by rw[hw];exact H.dom
 inj:=H.inj
 row:=by rw[hw];exact H.row
 fresh:=H.fresh
 kind:=H.kind
 inp:=H.inp
theorem PS(H:RelW ty φ E h w)(hE:∀ b,¬ E b){a a':Addr}{c c' o:Nat}{vs vs':List Value}{k:Hp→R}(hs:RelS φ a c a' c')(h0:c=0→vs=[])
  (hr:Bw (EU a o) vs h k=.ok v h')(hv:RelL φ vs vs'):
  ∃ h1 w1,k h1=.ok v h'∧(storeCells (a'.add o) vs').run P w=.ok () w1∧RelW ty φ E h1 w1∧Evo φ h w φ h1 w1:=by
 obtain⟨s1,s2,p,hp,hbl,hor⟩:=hs
 have hblk:(EU a o).block=a.block:=by unfold EU;split<;>rfl
 rcases Nat.eq_zero_or_pos c with hc|hc
 ·have:=h0 hc
  subst this
  have:vs'=[]:=by cases hv;rfl
  subst this
  unfold Bw at hr
  split at hr
  case h_2=>cases hr
  rename_i ct s en hrow
  obtain⟨_,hr⟩:=Aw hr
  obtain⟨_,hr⟩:=Aw hr
  simp only[BX]at hr
  obtain⟨bl,h256,hbl2,hk2⟩:=CY hr
  rw[hblk]at hrow hbl2 hk2 h256
  have hold:=H.row a.block p hp (hE _)
  have hrow':=Ba hrow
  rw[hrow']at hold
  have hlive:Live h a.block:=by unfold Live;rw[hrow'];intro hd;cases hd
  exact⟨_,w,hk2,rfl,H.put (hE _) h256 hp hlive hbl2 rfl (fun _ _=>rfl) hold,.put (H.notInp hp h256) hp hlive hbl2 (by rw[Ba hrow];exact .inr ⟨rfl,rfl⟩) rfl (fun _ _=>rfl) rfl rfl rfl⟩
 ·have hoff:a'.off=p.off+a.off:=by
   rcases hor with h|h
   ·exact h.2.1
   ·omega
  obtain⟨ab',ao',asp'⟩:=a'
  obtain⟨ab,ao,asp⟩:=a
  simp only at s1 s2 hp hbl hoff
  subst s1;subst s2;subst hbl;subst hoff
  have hadd:EU ⟨ab,ao,none⟩ o=⟨ab,ao+o,none⟩:=by
   unfold EU
   cases o<;>rfl
  rw[hadd]at hr
  rw[Addr.add_is]
  refine FH (P:=P) H hr ⟨rfl,rfl,p,hp,rfl,?_⟩ hv (hE _)
  show p.off+ao+o=p.off+(ao+o)
  omega
theorem JX(N:Nat):∀ (r c:Nat),c<N→Builtin.growBy N r c≤N+(N+768) / 4
 |0,c,h=>by unfold Builtin.growBy;omega
 |r+1,c,h=>by
  unfold Builtin.growBy
  split
  ·omega
  ·rcases Nat.lt_or_ge (c+(c+768) / 4) N with h2|h2
   ·exact JX N r _ h2
   ·cases r with
    |zero=>unfold Builtin.growBy;omega
    |succ r=>unfold Builtin.growBy;rw[if_pos h2];omega
theorem SR{need cap:Nat}(h:cap<need):Builtin.nextslicecap need cap≤2 * need:=by
 unfold Builtin.nextslicecap
 split
 ·omega
 ·split
  ·omega
  ·have:=JX need 4 cap h
   omega
theorem II(H:RelW ty φ E h w){en:Nat}{ei:TI}(hty:ty.get en=some ei){need c:Nat}(hneed:0<need)(hc:need≤c){cs cs' rest:List Value}(hrel:RelL φ cs cs')(hlen:cs.length=need * ei.size)
  (hrest:rest.length=(c - need) * ei.size){w':World}(hw':w'.heap=w.heap.push (.cells ⟨cs'++rest⟩ en))(ht:w'.tape=w.tape)(ho:w'.os=w.os)(hout:w'.output=w.output)
  {t:VT}{n:Nat}(hT:∀ j,j<cs.length→t.get j=cs.getD j undef)(hN:n=cs.length)(hr:B1 h (Nat.succ en) t n (DZ need need)=.ok v h'):∃ ψ,RelV ψ v (.slice (some ⟨w.heap.size,0,none⟩) need c)∧RelW ty ψ E h' w'∧Evo φ h w ψ h' w':=by
 have hl':=hrel.length
 have hmul:(c - need) * ei.size+need * ei.size=c * ei.size:=by rw[← Nat.add_mul];congr 1;omega
 have hsz:(⟨cs'++rest⟩:Array Value).size=c * ei.size:=by simp[hl',hrest,hlen];omega
 obtain⟨h1,hk,H1,ev⟩:=IZ (cs:=cs) (cs':=⟨cs'++rest⟩) (t:=en) (fr:=(0,0)) (w':=w')
  (p:={blk:=w.heap.size,off:=0,sz:=cs.length,room:=(⟨cs'++rest⟩:Array Value).size,es:=ei.size}) H hr hT hN rfl ⟨rfl,.inr ⟨en,ei,rfl,hty,rfl⟩⟩ (by simp[hl']) (.inl rfl)
  (fun j u hj=>by
   obtain⟨u',hu,hru⟩:=hrel.get j u hj
   refine⟨u',?_,hru⟩
   have hj':j<cs'.length:=by
    rcases Nat.lt_or_ge j cs'.length with h|h
    ·exact h
    ·rw[List.getElem?_eq_none h]at hu;cases hu
   simp only[List.getElem?_toArray]
   rw[List.getElem?_append_left hj'];exact hu) hw' ht ho hout
 cases hk
 refine⟨_,.slice (Nat.le_refl _) ⟨rfl,rfl,_,Phi.put_self _ _ _,rfl,.inl ⟨hneed,rfl,.inr ⟨?_,hc,?_⟩⟩⟩,H1,ev⟩
 ·simp only;omega
 ·simp only[hsz];omega
theorem P4(H:RelW ty φ E h w)(hE:∀ b,¬ E b){en:Nat}{ei:TI}(hty:ty.get en=some ei)(hes:0<ei.size){base:Option Addr}{base':Option Addr}{sl sc sc' need:Nat}
  (hsl:RelV φ (.slice base sl sc) (.slice base' sl sc'))(hneed:sc<need){olds news olds' news':List Value}(ho:RelL φ olds olds')(hn:RelL φ news news')
  (hol:olds.length=sl * ei.size)(hnl:(olds++news).length=need * ei.size)(hone:∀ v∈news',v.oneCell'=true)
  (hcell:∀ a a',base=some a→base'=some a'→0<sc→∃ p cs t fr,φ a.block=some p∧w.heap[p.blk]? =some (.cells cs t fr)∧∀ j u,olds'[j]? =some u→cs[p.off+a.off+j]? =some u)
  {tr:VT}{n:Nat}(hT:∀ j,j<(olds++news).length→tr.get j=(olds++news).getD j undef)(hN:n=(olds++news).length)(hr:F5 ei.size en base sc need tr n h=.ok v h'):
  (∀ c rest,need≤c→rest.length=(c - need) * ei.size→∀ w':World,sc'<need→w'.heap=w.heap.push (.cells ⟨(olds'++news')++rest⟩ en)→w'.tape=w.tape→w'.os=w.os→w'.output=w.output→
   ∃ ψ,RelV ψ v (.slice (some ⟨w.heap.size,0,none⟩) need c)∧RelW ty ψ E h' w'∧Evo φ h w ψ h' w')∧
  (∀ a',base'=some a'→need≤sc'→∃ w' ψ,(storeCells (a'.add (sl * ei.size)) news').run P w=.ok () w'∧RelV ψ v (.slice (some a') need sc')∧RelW ty ψ E h' w'∧Evo φ h w ψ h' w'):=by
 have hrel:=ho.append hn
 have hneed0:0<need:=by omega
 unfold F5 at hr
 split at hr
 ·
  cases hsl
  refine⟨fun c rest hc hrest w' _ hw' ht hos hout=>II H hty hneed0 hc hrel hnl hrest hw' ht hos hout hT hN hr,fun a' ha=>by cases ha⟩
 ·rename_i _ a
  cases hsl with
  |@slice _ a' _ _ _ hlc hs=>
  split at hr
  case h_2=>cases hr
  rename_i ct s en0 hrow
  obtain⟨s1,s2,p,hp,hbl,hor⟩:=hs
  have hkind:=H.kind a.block p ct s en0 hp (Ba hrow)
  have hlive:Live h a.block:=by unfold Live;rw[Ba hrow];intro hd;cases hd
  have noroom:(p.room=p.sz∧p.es=1)→sc'=sc:=by
   rintro⟨q1,q2⟩
   rcases hor with ⟨q3,q4,q5|⟨q5,q6,q7⟩⟩|⟨q3,q4|q4⟩
   ·exact q5
   ·rw[q2]at q5 q7;omega
   ·omega
   ·rw[q2]at q4;omega
  have real:sc'=sc→B1 h (Nat.succ en) tr n (DZ need need)=.ok v h'→
    (∀ c rest,need≤c→rest.length=(c - need) * ei.size→∀ w':World,sc'<need→w'.heap=w.heap.push (.cells ⟨(olds'++news')++rest⟩ en)→w'.tape=w.tape→w'.os=w.os→w'.output=w.output→
     ∃ ψ,RelV ψ v (.slice (some ⟨w.heap.size,0,none⟩) need c)∧RelW ty ψ E h' w'∧Evo φ h w ψ h' w')∧
    (∀ a'',some a'=some a''→need≤sc'→∃ w' ψ,(storeCells (a''.add (sl * ei.size)) news').run P w=.ok () w'∧RelV ψ v (.slice (some a'') need sc')∧RelW ty ψ E h' w'∧Evo φ h w ψ h' w'):=by
   intro hsc hr
   exact⟨fun c rest hc hrest w' _ hw' ht hos hout=>II H hty hneed0 hc hrel hnl hrest hw' ht hos hout hT hN hr,fun a'' _ h2=>by omega⟩
  split at hr
  ·refine real (noroom ?_) hr
   rcases hkind.2 with ⟨_,q1,q2,_⟩|⟨t,ti,q1,_⟩
   ·exact⟨q1,q2⟩
   ·cases q1
  ·rename_i e0
   obtain⟨hb,hr⟩:=Aw hr
   have hen:e0=en:=Ae.1 hb
   subst hen
   have hpes:p.es=ei.size:=by
    rcases hkind.2 with ⟨q0,_⟩|⟨t,ti,q1,q2,q3⟩
    ·cases q0
    ·have:t=e0:=by omega
     subst this
     rw[hty]at q2;cases q2;exact q3
   split at hr
   ·obtain⟨bl,h256,hkill,hr⟩:=CY hr
    have Hk:=H.kill hkill (lo:=A3 h.low a.block) (hi:=BH h.high a.block) (mk:=h.mark)
    refine⟨fun c rest hc hrest w' _ hw' ht hos hout=>?_,fun a'' ha'' hcap=>?_⟩
    ·obtain⟨ψ,hv,H2,ev⟩:=II Hk hty hneed0 hc hrel hnl hrest hw' ht hos hout hT hN hr
     refine⟨ψ,hv,H2,?_⟩
     have evk:Evo φ h w φ {next:=h.next,low:=A3 h.low a.block,high:=BH h.high a.block,mark:=h.mark,bl:=bl} w:={
      le:=.refl _,new:=fun _ _ e=>.inl e,next:=Nat.le_refl _,size:=Nat.le_refl _,tape:=rfl,os:=rfl,output:=rfl,frame:=fun _ _ _=>rfl,
      back:=fun i q e hl _=>⟨i,q,e,fun hd=>hl (by show bl.get i=_;rw[BT.live_set hkill];split<;>first|rfl|exact hd),rfl,rfl,.inl rfl⟩,
      kept:=fun i _ hi=>by
       show bl.get i=_
       have hi:i<A3 h.low a.block∨BH h.high a.block<i:=hi
       rw[A0,A6]at hi
       rw[BT.live_set hkill,if_neg (by omega)],
      low:=by show A3 _ _≤_;rw[A0];exact Nat.min_le_left _ _,
      high:=by show _≤BH _ _;rw[A6];exact Nat.le_max_left _ _,
      shape:=fun i _=>by
       show ShapeLe _ (bl.get i)
       rw[BT.live_set hkill]
       split
       ·exact .inl rfl
       ·exact .refl _,
      only:=fun i _ h0=>by
       show bl.get i=_
       rw[BT.live_set hkill,if_neg (fun e=>by rw[e,hp]at h0;cases h0)],
      all:=fun _ h1 h2=>absurd h2 (Nat.not_lt.2 h1)}
     exact evk.trans ev
    ·cases ha''
     obtain⟨p0,cs,t,fr,hp0,hwc,R⟩:∃ p0 cs t fr,φ a.block=some p0∧w.heap[p0.blk]? =some (.cells cs t fr)∧RelC ty φ p0 ct s (e0+1) cs fr:=by
      obtain⟨cs,t,fr,q1,q2⟩:=H.rowAt hp (hE _) hrow
      exact⟨p,cs,t,fr,hp,q1,q2⟩
     rw[hp]at hp0;cases hp0
     obtain⟨ab',ao',asp'⟩:=a'
     simp only at s2 hbl hor
     subst s2;subst hbl
     have hcap':p.off≤ao'∧ao'+sc' * ei.size≤p.off+p.room∧(0<sc→ao'=p.off+a.off):=by
      have hz:p.sz≤p.room:=R.room
      rw[hpes]at hor
      rcases hor with ⟨q3,q4,q5|⟨q5,q6,q7⟩⟩|⟨q3,q4|⟨q4,q5⟩⟩
      ·omega
      ·exact⟨by omega,by omega,fun _=>q4⟩
      ·omega
      ·exact⟨by omega,by omega,fun h=>by omega⟩
     have hfits:=R.fits
     have hmul:need * ei.size≤sc' * ei.size:=Nat.mul_le_mul_right _ hcap
     have hlo:=ho.length
     have hln:=hn.length
     have hnl':olds.length+news.length=need * ei.size:=by rw[← hnl];simp
     rw[Addr.add_is]
     have hst:(storeCells ⟨p.blk,ao'+sl * ei.size,none⟩ news').run P w=.ok () (w.setCells p.blk (ao'+sl * ei.size) news'):=by
      refine run_storeCells_cells (P:=P) p.blk (ao'+sl * ei.size) news' 0 w (fun j hj=>?_) (fun j hj=>?_) hone
      ·rw[Fp hwc];simp;omega
      ·exact JW hwc R.hard (by omega)
     obtain⟨cs',e1,e2,e3,e4,e5,e6,e7,e8⟩:=DY p.blk t fr news' (ao'+sl * ei.size) cs w hwc (by omega)
     unfold B1 at hr
     rw[As]at hr
     obtain⟨bl2,hbl2,hk2⟩:=Dk hr
     cases hk2
     let p':Pl:={blk:=p.blk,off:=ao',sz:=need * ei.size,room:=p.off+p.room - ao',es:=ei.size}
     have hB:RelB ty (φ.put h.next p') p' (.cells tr n (e0+1)) ((w.setCells p.blk (ao'+sl * ei.size) news').heap[p'.blk]?):=by
      show RelB ty (φ.put h.next p') p' _ ((w.setCells p.blk (ao'+sl * ei.size) news').heap[p.blk]?)
      rw[e1,hN,hnl]
      refine .cells {
       kind:=⟨rfl,.inr ⟨e0,ei,rfl,hty,rfl⟩⟩,room:=(by show need * ei.size≤p.off+p.room - ao';omega),fits:=(by show ao'+(p.off+p.room - ao')≤cs'.size;omega),
       loose:=.inl (by rw[e2];exact R.hard),cell:=fun j hj=>?_}
      have hj2:j<(olds++news).length:=by omega
      rw[hT j hj2]
      show ∃ v,cs'[ao'+j]? =some v∧_
      have hD:(olds++news).getD j undef=(olds++news)[j]:=by
       rw[List.getD_eq_getElem?_getD,List.getElem?_eq_getElem hj2];rfl
      rw[hD]
      obtain⟨u',hu,hru⟩:=hrel.get j _ (List.getElem?_eq_getElem hj2)
      refine⟨u',?_,hru.mono (Phi.put_le H.none_next)⟩
      rw[e3]
      rcases Nat.lt_or_ge j olds.length with hjo|hjo
      ·rw[if_neg (by omega)]
       rw[List.getElem?_append_left (by omega)]at hu
       have hsc0:0<sc:=by
        rcases Nat.eq_zero_or_pos sc with q|q
        ·have:sl=0:=by omega
         rw[this,Nat.zero_mul]at hol;omega
        ·exact q
       obtain⟨p1,cs1,t1,fr1,hp1,hw1,hc1⟩:=hcell a _ rfl rfl hsc0
       rw[hp]at hp1;cases hp1
       rw[hwc]at hw1;cases hw1
       rw[hcap'.2.2 hsc0]
       exact hc1 j u' hu
      ·rw[if_pos (by omega)]
       rw[List.getElem?_append_right (by omega)]at hu
       rw[← hu];congr 1;omega
     have hnlive:∀ j q,φ j=some q→Live ({next:=h.next,low:=A3 h.low a.block,high:=BH h.high a.block,mark:=h.mark,bl:=bl}:Hp) j→q.blk≠p'.blk:=by
      intro j q hq hl hqb
      have hl':bl.get j≠.dead:=hl
      rw[BT.live_set hkill]at hl'
      split at hl'
      ·exact hl' rfl
      ·rename_i hjb
       exact hjb (H.inj j a.block q p hq hp (hE _) (hE _) hl' hlive (.inr (H.notInp hp h256)) hqb)
     have H2:=Hk.new (lo:=A3 h.low a.block) (hi:=BH h.high a.block) (mk:=h.mark) (w':=w.setCells p.blk (ao'+sl * ei.size) news') (p:=p') hbl2 (Nat.le_of_eq e4.symm) (by rw[e4];exact(H.dom _ _ hp).2) hnlive (fun k _ hk=>e5 k hk) hB
     refine⟨_,_,hst,?_,H2,Evo.grow H (H.notInp hp h256) rfl hp hlive hkill hbl2 rfl e4 e5 e6 e7 e8⟩
     refine .slice (Nat.le_refl _) ⟨rfl,rfl,p',Phi.put_self _ _ _,rfl,.inl ⟨hneed0,rfl,.inr ⟨?_,hcap,?_⟩⟩⟩
     ·show 0+need * ei.size=need * ei.size;omega
     ·show 0+sc' * ei.size≤p.off+p.room - ao';omega
   ·rename_i hend
    refine real ?_ hr
    rcases hor with ⟨q3,q4,q5|⟨q5,q6,q7⟩⟩|⟨q3,_⟩
    ·exact q5
    ·exfalso
     unfold Th at hend
     cases sc with
     |zero=>omega
     |succ n=>
      simp only at hend
      have:Nat.beq (Nat.add a.off (Nat.mul (n+1) ei.size)) s=true:=Ae.2 (by rw[← hkind.1,← q5,hpes];rfl)
      rw[this]at hend;cases hend
    ·exfalso
     subst q3
     cases hend
end
end
noncomputable section
open Go
section
variable {P:Program}{ty:TTy}{φ:Phi}{E:Nat→Prop}{h h':Hp}{w:World}{F:CallF}{e:Env}{v:Value}
theorem P3{esize en:Nat}{base:Option Addr}{sc need:Nat}{cs:List Value}(hr:JY esize en base sc need cs h=.ok v h'):
  ∃ (t:VT) (m:Nat),(∀ j,j<cs.length→t.get j=cs.getD j undef)∧m=cs.length∧F5 esize en base sc need t m h=.ok v h':=by
 unfold JY at hr
 split at hr
 case h_2=>cases hr
 rename_i c hset
 exact⟨c,_,Ff hset,A9 _,hr⟩
open Classical in
theorem K7{esize en:Nat}{base:Option Addr}{sl sc need:Nat}{news:List Value}
  (hr:Nx esize en base sl sc need news h (BE h esize (.slice base sl sc) sl fun olds=>JY esize en base sc need (olds++news) h)=.ok v h'):
  ∃ G:List Value→R,BE h esize (.slice base sl sc) sl G=.ok v h'∧∀ olds,G olds=.ok v h'→∃ (t:VT) (m:Nat),(∀ j,j<(olds++news).length→t.get j=(olds++news).getD j undef)∧
   m=(olds++news).length∧F5 esize en base sc need t m h=.ok v h':=by
 have slow:BE h esize (.slice base sl sc) sl (fun olds=>JY esize en base sc need (olds++news) h)=.ok v h'→
   ∃ G:List Value→R,BE h esize (.slice base sl sc) sl G=.ok v h'∧∀ olds,G olds=.ok v h'→∃ (t:VT) (m:Nat),(∀ j,j<(olds++news).length→t.get j=(olds++news).getD j undef)∧
    m=(olds++news).length∧F5 esize en base sc need t m h=.ok v h':=fun hr=>⟨_,hr,fun olds h=>P3 h⟩
 unfold Nx at hr
 split at hr
 ·exact slow hr
 ·rename_i _ a
  split at hr
  ·rename_i hoff
   split at hr
   ·rename_i c sz ec hrow
    split at hr
    ·rename_i hb
     have hsz:sz=sl * esize:=Ae.1 hb
     split at hr
     case h_2=>cases hr
     rename_i t hset
     refine⟨fun olds=>if olds=rowL c 0 sz then F5 esize en (some a) sc need t (Nat.add sz (Bo news)) h else .no,?_,fun olds ho=>?_⟩
     ·unfold BE
      simp only[hrow,hoff]
      have hle:Nat.ble (Nat.add 0 (Nat.mul sl esize)) sz=true:=Ar.2 (by show 0+sl * esize≤sz;omega)
      rw[hle,D1,List.append_nil]
      have:Nat.mul sl esize=sz:=hsz.symm
      rw[this]
      simp only[cond_true,if_true]
      exact hr
     ·by_cases he:olds=rowL c 0 sz
      ·simp only[he,if_true]at ho
       subst he
       refine⟨t,_,fun j hj=>?_,?_,ho⟩
       ·have hl:(rowL c 0 sz).length=sz:=DN c 0 sz
        rw[EC _ _ _ _ hset j,List.getD_eq_getElem?_getD (l:=rowL c 0 sz++news)]
        rw[List.length_append,hl]at hj
        rcases Nat.lt_or_ge j sz with hjs|hjs
        ·rw[if_neg (by omega),List.getElem?_append_left (by omega)]
         simp[rowL,hjs]
        ·rw[if_pos (by omega),List.getElem?_append_right (by omega),hl,← List.getD_eq_getElem?_getD]
       ·rw[List.length_append,DN,A9];rfl
      ·simp only[he,if_false]at ho;cases ho
    ·exact slow hr
   ·exact slow hr
  ·exact slow hr
def BK(elem:TypeId)(size:Nat)(base:Option Addr)(s:Value)(sLen sCap n:Nat)(zeros:Bool)(x:Value)(appended:Sem (Array Value)):Sem Value:=do
 let need:=sLen+n
 if need≤sCap then
  let new ← appended
  if let some a:=base then storeCells (a.add (sLen * size)) new.toList
  pure (.slice base need sCap)
 else
  if(need:Int) > IntKind.i64.max∧(zeros∨(← typeInfo elem).bytes=0)then runtimePanic (.error "growslice: len out of range")
  if Builtin.nextslicecap need sCap * (← typeInfo elem).bytes > 2 ^ 48 then(if zeros then runtimePanic (.error "growslice: len out of range")else do
   if !(← Builtin.mayShare size sLen n base x)then mark .noRoom
   unsupported (.resourceLimit "append: a slice or a string whose bytes no memory bears"))
  let newCap ← choose (.appendCap need sCap elem)
  askRoom (newCap * (← typeInfo elem).bytes)
  let old ← Builtin.firstCells size sLen s
  let new ← appended
  let rest:=Builtin.zeroCells (← zeroValue elem).cells (newCap - need)
  pure (.slice (some (← Go.newRow elem (old++new++rest))) need newCap)
theorem FO(H:RelW ty φ E h w)(hE:∀ b,¬ E b){en:Nat}{ei:TI}(hty:ty.get en=some ei)(TE:TyOk P en ei)(hes:0<ei.size)(hz:ei.zero.length=ei.size)
  {base base':Option Addr}{sl sc sc' n:Nat}(hs:RelV φ (.slice base sl sc) (.slice base' sl sc')){zeros:Bool}{x':Value}{appended:Sem (Array Value)}{news news':List Value}
  (hn:RelL φ news news')(hnl:news.length=n * ei.size)(happ:∀ w':World,w'.heap=w.heap→appended.run P w'=.ok ⟨news'⟩ w')
  (hr:(∃ k,sl+n≤sc∧k=(match base with
    |none=>(.ok (.slice none (sl+n) sc) h:R)
    |some a=>Bw (EU a (sl * ei.size)) news h fun h=>.ok (.slice (some a) (sl+n) sc) h)∧k=.ok v h')∨
   (sc<sl+n∧Nat.ble (Nat.mul (Nat.succ (sl+n)) (Nat.succ ei.bytes)) QR=true∧Bt news=true∧
    ∃ G:List Value→R,BE h ei.size (.slice base sl sc) sl G=.ok v h'∧∀ olds,G olds=.ok v h'→∃ (t:VT) (m:Nat),(∀ j,j<(olds++news).length→t.get j=(olds++news).getD j undef)∧
     m=(olds++news).length∧F5 ei.size en base sc (sl+n) t m h=.ok v h')):
  Av ty φ E h w v h' ((BK en ei.size base' (.slice base' sl sc') sl sc' n zeros x' appended).run P w):=by
 obtain⟨inf,hinf,hsz,hbt,_⟩:=TE.info
 obtain⟨z,_,hzr,hzc,hzp⟩:=TE.zeroOk hz
 have hzs:z.cells.size=ei.size:=by rw[← hz,← hzc];simp
 rcases hr with ⟨k,hle,rfl,hr⟩|⟨hlt,hmost,hone,G,hr,hG⟩
 ·cases hs with
  |slice0=>
   cases hr
   have:n=0:=by omega
   subst this
   have key:(BK en ei.size none (.slice none 0 0) 0 0 0 zeros x' appended).run P w=.ok (.slice none 0 0) w:=by
    simp only[BK,Nat.le_refl,if_true,Sem.run_bind,happ w rfl,Result.andThen_ok,Sem.run_pure]
   rw[key];exact .same H .slice0
  |@slice a a' _ _ _ hlc hs=>
   simp only at hr
   have h0:sc=0→news=[]:=fun h0=>List.length_eq_zero_iff.1 (by
    have:n=0:=by omega
    rw[hnl,this,Nat.zero_mul])
   obtain⟨h1,w1,hk,hrun,H1,ev⟩:=PS (P:=P) H hE hs h0 hr hn
   cases hk
   have hcc:sl+n≤sc':=Nat.le_trans hle hs.le
   have key:(BK en ei.size (some a') (.slice (some a') sl sc') sl sc' n zeros x' appended).run P w=.ok (.slice (some a') (sl+n) sc') w1:=by
    simp only[BK,hcc,if_true,Sem.run_bind,happ w rfl,Result.andThen_ok,hrun,Sem.run_pure]
   rw[key]
   exact⟨_,_,φ,rfl,.slice hle hs,H1,ev⟩
 ·have hs0:=hs
  obtain⟨olds,olds',hr,ho,hrun,hl1,hl2,hcell⟩:=DO (P:=P) H (fun _ _ _ _=>hE _) hs hr (fun m hm=>by cases hm;exact Nat.le_refl _)
  obtain⟨tr,tn,hT,hN,hr⟩:=hG olds hr
  have hone':=FV hn hone
  obtain⟨hm1,hm2⟩:=OD hmost
  have hol:olds.length=sl * ei.size:=by
   rw[← ho.length]
   cases base' with
   |none=>cases hs;have:=hrun w rfl;simp only[Builtin.firstCells,Sem.run_pure]at this;cases this;simp
   |some a'=>exact hl1 a' sl sc' rfl
  have hnl2:(olds++news).length=(sl+n) * ei.size:=by rw[List.length_append,hol,hnl,Nat.add_mul]
  obtain⟨hfar,hnear⟩:=P4 (P:=P) H hE hty hes hs hlt ho hn hol hnl2 hone' (fun a a' ha ha' hpos=>hcell a sl sc (by rw[ha]) hpos) hT hN hr
  rcases Nat.lt_or_ge sc' (sl+n)with hroom|hroom
  ·
   let q:Question:=.appendCap (sl+n) sc' en
   let c:Nat:=q.cut (w.tape w.drawn q)
   let w1:World:={w with drawn:=w.drawn+1}
   have hc:sl+n≤c:=Nat.le_add_right _ _
   have hrl:(Ao z.cells.toList (c - (sl+n))).length=(c - (sl+n)) * ei.size:=by rw[DM];simp[hzs]
   obtain⟨ψ,hv,H2,ev⟩:=hfar c (Ao z.cells.toList (c - (sl+n))) hc hrl {w1 with heap:=w.heap.push (.cells ⟨(olds'++news')++Ao z.cells.toList (c - (sl+n))⟩ en)} hroom rfl rfl rfl rfl
   have hbig:¬ ((sl+n:Nat):Int) > IntKind.i64.max:=by
    have:IntKind.i64.max=9223372036854775807:=by decide
    rw[this];omega
   have hnx:¬ (Builtin.nextslicecap (sl+n) sc' * ei.bytes > 2 ^ 48):=by
    have h1:=SR hroom
    have h2:Builtin.nextslicecap (sl+n) sc' * ei.bytes≤(2 * (sl+n)) * ei.bytes:=Nat.mul_le_mul_right _ h1
    have h3:(2 * (sl+n)) * ei.bytes≤(2 * (sl+n+1)) * (ei.bytes+1):=Nat.mul_le_mul (by omega) (by omega)
    have h4:(2 * (sl+n+1)) * (ei.bytes+1)=2 * ((sl+n+1) * (ei.bytes+1)):=by rw[Nat.mul_assoc]
    omega
   have hnle:¬ (sl+n≤sc'):=by omega
   have key:(BK en ei.size base' (.slice base' sl sc') sl sc' n zeros x' appended).run P w=.ok (.slice (some ⟨w.heap.size,0,none⟩) (sl+n) c)
     {w1 with heap:=w.heap.push (.cells ⟨(olds'++news')++Ao z.cells.toList (c - (sl+n))⟩ en)}:=by
    have ho1:=hrun w1 rfl
    have hn1:=happ w1 rfl
    have hforced:q.forced=false:=rfl
    simp only[BK,hnle,if_false,Sem.run_bind,run_typeInfo _ hinf,Result.andThen_ok,hbig,false_and,Sem.run_pure,hbt,hnx,Sem.run_ite,run_choose,hforced,Bool.false_eq_true,run_askRoom]
    show((Builtin.firstCells ei.size sl (.slice base' sl sc')).run P w1).andThen _=_
    rw[ho1]
    simp only[Result.andThen_ok]
    show(appended.run P w1).andThen _=_
    rw[hn1]
    have earr:∀ a b:List Value,(⟨a⟩:Array Value)++(⟨b⟩:Array Value)=⟨a++b⟩:=fun a b=>by apply Array.ext';simp
    simp only[Result.andThen_ok,hzr,EG,Go.newRow,Sem.run_bind,run_newObj,Sem.run_pure,earr]
    rfl
   rw[key]
   exact⟨_,_,ψ,rfl,hv,H2,ev⟩
  ·
   cases base' with
   |none=>cases hs;omega
   |some a'=>
    obtain⟨w',ψ,hst,hv,H2,ev⟩:=hnear a' rfl hroom
    have key:(BK en ei.size (some a') (.slice (some a') sl sc') sl sc' n zeros x' appended).run P w=.ok (.slice (some a') (sl+n) sc') w':=by
     simp only[BK,hroom,if_true,Sem.run_bind,happ w rfl,Result.andThen_ok,hst,Sem.run_pure]
    rw[key]
    exact⟨_,_,ψ,rfl,hv,H2,ev⟩
theorem GS{ats:Array TypeId}{dt st t el:TypeId}(h0:ats[0]? =some dt)(h1:ats[1]? =some st){ti xi:TI}(T:TyOk P dt ti)(hk:ti.k=.slice el)(TX:TyOk P st xi)(hx:(∃ q,xi.k=.slice q)∨xi.k=.string){ei:TI}(TE:TyOk P el ei){base:Option Addr}{sl sc n:Nat}{x:Value}
  (hn:(Builtin.lenOf x).run P w=.ok n w):
  (Builtin.append_ ats t #[.slice base sl sc,x]).run P w=(BK el ei.size base (.slice base sl sc) sl sc n false x (Builtin.firstCells ei.size n x)).run P w:=by
 obtain⟨d,hd,hkd⟩:=T.desc
 rw[hk]at hkd
 cases hkd
 obtain⟨dx,hdx,hkx⟩:=TX.desc
 rcases hx with ⟨q,hx⟩|hx<;>rw[hx]at hkx<;>cases hkx<;>
 ·unfold Builtin.append_ BK
  simp only[Sem.run_bind,hd,Result.andThen_ok,TE.size,Sem.run_pure,h0,h1,List.getElem?_toArray,List.getElem?_cons_zero,List.getElem?_cons_succ,hdx,Bool.false_eq_true,if_false,hn,Bool.not_false,if_true]
  rfl
theorem Ia(H:RelW ty φ E h w)(hE:∀ b,¬ E b){s x:O}{s' x':Value}{ats:Array TypeId}{dt st t el:TypeId}(h0:ats[0]? =some dt)(h1:ats[1]? =some st){ti xi ei:TI}(T:TyOk P dt ti)(hk:ti.k=.slice el)(TX:TyOk P st xi)(hxk:(∃ q,xi.k=.slice q)∨xi.k=.string)
  (hty:ty.get el=some ei)(TE:TyOk P el ei)(hes:0<ei.size)(hz:ei.zero.length=ei.size)
  (hs:RelV φ (s e) s')(hx:RelV φ (x e) x')(hr:Aj ei.size ei.bytes el s x F e h=.ok v h'):Av ty φ E h w v h' ((Builtin.append_ ats t #[s',x']).run P w):=by
 unfold Aj Nf at hr
 split at hr
 case h_2=>cases hr
 rename_i base sl sc hse
 rw[hse]at hs
 split at hr
 case h_2=>cases hr
 rename_i n hn
 obtain⟨news,news',hr,hnr,hrun,hl1,hl2,_⟩:=DO (P:=P) H (fun _ _ _ _=>hE _) hx hr (fun m hm=>by rw[hn]at hm;cases hm;exact Nat.le_refl _)
 rw[As]at hr
 have hlen:=LN (P:=P) (w:=w) hx hn
 have hb:∃ base' sc',s'=.slice base' sl sc':=by
  cases hs
  ·exact⟨_,_,rfl⟩
  ·exact⟨_,_,rfl⟩
 obtain⟨base',sc',rfl⟩:=hb
 rw[GS h0 h1 T hk TX hxk TE hlen]
 have hnl:news.length=n * ei.size:=by
  rw[← hnr.length]
  cases x' with
  |string s=>obtain⟨q1,q2⟩:=hl2 s rfl;rw[q1,q2,Nat.mul_one]
  |slice a l c=>
   cases a with
   |some a=>exact hl1 a l c rfl
   |none=>
    have:=hrun w rfl
    simp only[Builtin.firstCells,Sem.run_pure]at this
    cases this
    have hn0:n=0:=by
     generalize x e=xv at hx hn
     cases hx
     ·unfold lenV at hn;cases hn;rfl
     ·unfold lenV at hn;cases hn
    rw[hn0];simp
  |_=>have:=hrun w rfl;simp only[Builtin.firstCells]at this;cases this
 refine FO (P:=P) H hE hty TE hes hz hs hnr hnl hrun ?_
 split at hr
 ·rename_i hb
  refine .inl ⟨_,Ar.1 hb,rfl,?_⟩
  exact hr
 ·rename_i hb
  obtain⟨hm,hr⟩:=Aw hr
  obtain⟨hone,hr⟩:=Aw hr
  refine .inr ⟨?_,hm,hone,K7 hr⟩
  rcases Nat.lt_or_ge sc (sl+n)with h|h
  ·exact h
  ·exact absurd (Ar.2 (show Nat.add sl n≤sc from h)) (by rw[hb];simp)
theorem HI{ats:Array TypeId}{dt st t el:TypeId}(h0:ats[0]? =some dt)(h1:ats[1]? =some st){ti xi:TI}(T:TyOk P dt ti)(hk:ti.k=.slice el)(TX:TyOk P st xi){q:IntKind}(hx:xi.k=.int q){ei:TI}(TE:TyOk P el ei){base:Option Addr}{sl sc n:Nat}{q':IntKind}
  (hn1:n≤70368744177664)(hn2:n * ei.bytes≤70368744177664):
  (Builtin.append_ ats t #[.slice base sl sc,.int q' (n:Nat)]).run P w=(BK el ei.size base (.slice base sl sc) sl sc n true (.int q' (n:Nat))
   (if n * ei.size=0 then pure #[]else do pure (Builtin.zeroCells (← zeroValue el).cells n))).run P w:=by
 obtain⟨d,hd,hkd⟩:=T.desc
 rw[hk]at hkd
 cases hkd
 obtain⟨dx,hdx,hkx⟩:=TX.desc
 rw[hx]at hkx;cases hkx
 obtain⟨inf,hinf,hsz,hbt,_⟩:=TE.info
 have w1:IntKind.i64.wrap (n:Int)=n:=I2 (by omega)
 have q0:¬ ((n:Int)<0):=by omega
 have q1:¬ ((n:Int) * (ei.bytes:Int) > 2 ^ 48):=by rw[← Int.natCast_mul];omega
 unfold Builtin.append_ BK
 simp only[Sem.run_bind,hd,Result.andThen_ok,TE.size,Sem.run_pure,List.getElem?_toArray,List.getElem?_cons_zero,List.getElem?_cons_succ,h0,h1,hdx,if_true,asInt,asIntOf,w1,q0,if_false,run_typeInfo _ hinf,hbt,q1,Int.toNat_natCast,Bool.not_true,Bool.false_eq_true]
 rfl
theorem LY(H:RelW ty φ E h w)(hE:∀ b,¬ E b){s x:O}{s' x':Value}{ats:Array TypeId}{dt st t el:TypeId}(h0:ats[0]? =some dt)(h1:ats[1]? =some st){ti xi ei:TI}(T:TyOk P dt ti)(hk:ti.k=.slice el)(TX:TyOk P st xi){q:IntKind}(hxk:xi.k=.int q)
  (hty:ty.get el=some ei)(TE:TyOk P el ei)(hes:0<ei.size)(hz:ei.zero.length=ei.size)
  (hs:RelV φ (s e) s')(hx:RelV φ (x e) x')(hr:Ci ei.size ei.bytes el ei.zero s x F e h=.ok v h'):Av ty φ E h w v h' ((Builtin.append_ ats t #[s',x']).run P w):=by
 unfold Ci Ng at hr
 split at hr
 case h_2=>cases hr
 rename_i base sl sc hse
 rw[hse]at hs
 split at hr
 case h_2=>cases hr
 rename_i n hn
 obtain⟨q',rfl⟩:=CG hx hn
 rw[As]at hr
 have hb:∃ base' sc',s'=.slice base' sl sc':=by
  cases hs
  ·exact⟨_,_,rfl⟩
  ·exact⟨_,_,rfl⟩
 obtain⟨base',sc',rfl⟩:=hb
 obtain⟨hm,hr⟩:=Aw hr
 obtain⟨hone,hr⟩:=Aw hr
 obtain⟨hm1,hm2⟩:=OD hm
 have hm1':sl+n≤70368744177664:=hm1
 have hm2':(sl+n+1) * (ei.bytes+1)≤70368744177664:=hm2
 have hnb:n * ei.bytes≤(sl+n+1) * (ei.bytes+1):=Nat.mul_le_mul (by omega) (by omega)
 rw[HI h0 h1 T hk TX hxk TE (by omega) (by omega)]
 obtain⟨z,_,hzr,hzc,hzp⟩:=TE.zeroOk hz
 have hzs:z.cells.size=ei.size:=by rw[← hz,← hzc];simp
 have hrel:RelL φ (Ao ei.zero n) (Ao ei.zero n):=Es (.plain hzp) n
 have hnl:(Ao ei.zero n).length=n * ei.size:=by rw[DM,hz]
 have hones:Bt (Ao ei.zero n)=true:=by
  have app:∀ a b:List Value,Bt a=true→Bt b=true→Bt (a++b)=true:=by
   intro a
   induction a with
   |nil=>intro b _ h;exact h
   |cons u a ih=>
    intro b h1 h2
    unfold Bt at h1
    cases hu:GD u with
    |false=>rw[hu]at h1;cases h1
    |true=>
     rw[hu]at h1
     show(bif GD u then Bt (a++b)else false)=true
     rw[hu];exact ih b h1 h2
  have:∀ n,Bt (Ao ei.zero n)=true:=by
   intro n
   induction n with
   |zero=>rfl
   |succ n ih=>exact app _ _ hone ih
  exact this n
 refine FO (P:=P) H hE hty TE hes hz hs hrel hnl (fun w' _=>?_) ?_
 ·by_cases h0:n * ei.size=0
  ·rw[if_pos h0]
   have:Ao ei.zero n=[]:=List.length_eq_zero_iff.1 (by rw[hnl,h0])
   rw[this];rfl
  ·rw[if_neg h0]
   simp only[Sem.run_bind,hzr,Result.andThen_ok,EG,hzc,Sem.run_pure]
 ·split at hr
  ·rename_i hb
   exact .inl ⟨_,Ar.1 hb,rfl,hr⟩
  ·rename_i hb
   refine .inr ⟨?_,hm,hones,K7 hr⟩
   rcases Nat.lt_or_ge sc (sl+n)with h|h
   ·exact h
   ·exact absurd (Ar.2 (show Nat.add sl n≤sc from h)) (by rw[hb];simp)
end
end
noncomputable section
open Go
section
variable {P:Program}{ty:TTy}{φ:Phi}{E:Nat→Prop}{h h':Hp}{w:World}{F:CallF}{e:Env}{v:Value}
theorem Hw:∀ {cs cs':List Value} {bs:List UInt8},RelL φ cs cs'→Cb cs=some bs→
  ∃ ns:List Int,cs'=ns.map (Value.int .u8)∧∀ s:ByteArray,(ns.foldl (fun r n=>r.push (UInt8.ofNat n.toNat)) s).data.toList=s.data.toList++bs
 |_,_,bs,.nil,hb=>by
  cases hb
  exact⟨[],rfl,fun s=>by simp⟩
 |_,_,bs,.cons (v:=u) (v':=u') (l:=l) (l':=l') hu t,hb=>by
  unfold Cb at hb
  split at hb
  ·cases ‹_::_=[]›
  ·rename_i n l2 heq
   injection heq with h1 h2
   subst h1;subst h2
   split at hb
   ·rename_i bs' hbs
    rw[As]at hb
    cases hb
    obtain⟨ns,hns,hf⟩:=Hw t hbs
    have:=hu.int_inv
    subst this
    refine⟨(n:Int)::ns,by rw[hns];rfl,fun s=>?_⟩
    rw[List.foldl_cons,hf]
    simp
   ·cases hb
  ·cases hb
theorem PI(H:RelW ty φ E h w){x:O}(hE:∀ a l c,x e=.slice (some a) l c→¬ E a.block){x':Value}{src dst el:TypeId}{si di ei:TI}(TS:TyOk P src si)(hs:si.k=.slice el)(TD:TyOk P dst di)(hd:di.k=.string)(TE:TyOk P el ei)(he:ei.k=.int .u8)
  (hx:RelV φ (x e) x')(hr:C3 x F e h=.ok v h'):Av ty φ E h w v h' ((convert src dst x').run P w):=by
 obtain⟨d1,h1,k1⟩:=TS.und
 obtain⟨d2,h2,k2⟩:=TD.und
 obtain⟨d3,h3,k3⟩:=TE.und
 rw[hs]at k1;cases k1
 rw[hd]at k2;cases k2
 rw[he]at k3;cases k3
 unfold C3 at hr
 split at hr
 case h_3=>cases hr
 case h_2=>
  rename_i r hxe
  rw[hxe]at hx
  cases r with
  |none=>cases hr
  |some r=>
   cases hr
   cases hx
   rw[run_convert_bytes_string w src dst el (some _) 0 0 h1 h3 h2,run_bytesToString w _ 0 0 [] rfl]
   exact .same H (.string _)
 rename_i a n c hxe
 rw[hxe]at hx
 have hx0:=hx
 obtain⟨cs,cs',hr,hcs,hrun,hl1,hl2,_⟩:=DO (P:=P) H (fun a l c heq=>by cases heq;exact hE _ _ _ hxe) hx hr (fun m hm=>by cases hm;exact Nat.le_refl _)
 split at hr
 case h_2=>cases hr
 rename_i bs hbs
 cases hr
 obtain⟨ns,hns,hf⟩:=Hw hcs hbs
 have hempty:=hf ByteArray.empty
 have hdat:=EX (a:=ns.foldl (fun r n=>r.push (UInt8.ofNat n.toNat)) ByteArray.empty) (l:=bs) (by rw[hempty];rfl)
 cases hx with
 |slice0=>
  rw[run_convert_bytes_string w src dst el none 0 0 h1 h3 h2]
  have:=hrun w rfl
  simp only[Builtin.firstCells,Sem.run_pure]at this
  have hcs0:cs'=[]:=by cases this;rfl
  have hns0:ns=[]:=by
   rw[hcs0]at hns
   cases ns with
   |nil=>rfl
   |cons _ _=>cases hns
  subst hns0
  rw[← hdat]
  exact .same H (.string _)
 |@slice _ a' _ _ c' hlc hsl=>
  rw[run_convert_bytes_string w src dst el (some a') n c' h1 h3 h2]
  have hld:(loadCells a' n).run P w=.ok (ns.map (Value.int .u8)).toArray w:=by
   have:=hrun w rfl
   rw[hns]at this
   simp only[Builtin.firstCells,Nat.mul_one]at this
   exact this
  rw[run_bytesToString w a' n c' ns hld,hdat]
  exact .same H (.string _)
theorem LU(A:Array Obj)(x:Obj)(f:Obj→Obj):(A.push x).modify A.size f=A.push (f x):=by
 apply Array.ext_getElem?
 intro i
 rw[Array.getElem?_modify,Array.getElem?_push,Array.getElem?_push]
 by_cases hi:i=A.size
 ·subst hi;simp
 ·rw[if_neg (Ne.symm hi),if_neg hi,if_neg hi]
theorem QO(w:World)(A:Array Value)(el:TypeId):(markStringish ⟨w.heap.size,0,none⟩).run P {w with heap:=w.heap.push (.cells A el)}=
  .ok () {w with heap:=w.heap.push (.cells A el (A.size,A.size+1))}:=by
 have hs:World.shape? {w with heap:=w.heap.push (.cells A el)} w.heap.size=some (el,A.size):=by simp[World.shape?]
 simp only[markStringish,Sem.run_bind,run_shape,Result.andThen_ok,hs,run_freeze,World.freeze,Nat.one_ne_zero,if_false,LU]
 rfl
theorem Lh(H:RelW ty φ E h w){x:O}{x':Value}{src dst el:TypeId}{si di ei:TI}(TS:TyOk P src si)(hs:si.k=.string)(TD:TyOk P dst di)(hd:di.k=.slice el)(TE:TyOk P el ei)(he:ei.k=.int .u8)
  (hty:ty.get el=some ei)(hz:ei.size=1)(hx:RelV φ (x e) x')(hr:Dm el x F e h=.ok v h'):Av ty φ E h w v h' ((convert src dst x').run P w):=by
 obtain⟨d1,h1,k1⟩:=TS.und
 obtain⟨d2,h2,k2⟩:=TD.und
 obtain⟨d3,h3,k3⟩:=TE.und
 rw[hs]at k1;cases k1
 rw[hd]at k2;cases k2
 rw[he]at k3;cases k3
 unfold Dm at hr
 split at hr
 case h_2=>cases hr
 rename_i s hxe
 rw[hxe]at hx
 obtain rfl:=hx.string_inv
 rw[As,A9]at hr
 obtain⟨hb,hr⟩:=Aw hr
 let q:Question:=.appendCap s.size 0 el
 let c:Nat:=q.cut (w.tape w.drawn q)
 have hc:s.size≤c:=Nat.le_add_right _ _
 let cells:List Value:=s.data.toList.map fun b=>.int .u8 (b.toNat:Int)
 let rest:List Value:=List.replicate (c - s.size) (.int .u8 0)
 have hcl:cells.length=s.size:=by simp[cells]
 let w':World:={w with drawn:=w.drawn+1,heap:=w.heap.push (.cells ⟨cells++rest⟩ el (c,c+1))}
 have hsz:(⟨cells++rest⟩:Array Value).size=c:=by simp[rest,hcl];omega
 have hrel:RelL φ (BU s.data.toList) cells:=G2 _
 have hlen:(BU s.data.toList).length=s.size:=by rw[← hrel.length,hcl]
 obtain⟨hh1,hk,H1,ev⟩:=Jl (cs':=⟨cells++rest⟩) (t:=el) (fr:=(c,c+1)) (w':=w')
  (p:={blk:=w.heap.size,off:=0,sz:=(BU s.data.toList).length,room:=(⟨cells++rest⟩:Array Value).size,es:=1}) H hr rfl ⟨rfl,.inr ⟨el,ei,rfl,hty,hz.symm⟩⟩ (by rw[hlen,hsz];exact hc) (.inr (by rw[hsz];exact Nat.le_refl _))
  (fun j u hj=>by
   obtain⟨u',hu,hru⟩:=hrel.get j u hj
   refine⟨u',?_,hru⟩
   have hj':j<cells.length:=by
    rcases Nat.lt_or_ge j cells.length with h|h
    ·exact h
    ·rw[List.getElem?_eq_none h]at hu;cases hu
   simp only[List.getElem?_toArray]
   rw[List.getElem?_append_left hj'];exact hu) rfl rfl rfl rfl
 cases hk
 have key:(convert src dst (.string s)).run P w=.ok (.slice (some ⟨w.heap.size,0,none⟩) s.size c) w':=by
  have hforced:(Question.appendCap s.size 0 el).forced=false:=rfl
  have harr:(s.data.map fun b=>(Value.int .u8 (b.toNat:Int)))++Array.replicate (c - s.size) (Value.int .u8 0)=⟨cells++rest⟩:=by
   apply Array.ext';simp[cells,rest]
  have hm:=QO (P:=P) {w with drawn:=w.drawn+1} ⟨cells++rest⟩ el
  rw[hsz]at hm
  simp only[convert,Sem.run_bind,run_underlying h1,run_underlying h2,run_underlying h3,Result.andThen_ok,Conv.stringToBytes,run_choose,hforced,Bool.false_eq_true,if_false,Go.newRow,run_newObj,Sem.run_pure]
  show(((markStringish ⟨w.heap.size,0,none⟩).run P {w with drawn:=w.drawn+1,heap:=w.heap.push (.cells ((s.data.map fun b=>(Value.int .u8 (b.toNat:Int)))++Array.replicate (c - s.size) (Value.int .u8 0)) el)}).andThen
   fun _ w''=>Result.ok (Value.slice (some ⟨w.heap.size,0,none⟩) s.size c) w'')=_
  rw[harr]
  have hm':(markStringish ⟨w.heap.size,0,none⟩).run P {w with drawn:=w.drawn+1,heap:=w.heap.push (.cells ⟨cells++rest⟩ el)}=.ok () w':=hm
  rw[hm'];rfl
 rw[key]
 refine⟨_,_,_,rfl,?_,H1,ev⟩
 have e1:s.data.toList.length=s.size:=rfl
 rw[e1]
 refine .slice (Nat.le_refl _) ⟨rfl,rfl,_,Phi.put_self _ _ _,rfl,?_⟩
 rcases Nat.eq_zero_or_pos s.size with h0|h0
 ·refine .inr ⟨h0,.inr ⟨?_,?_⟩⟩
  ·simp only[hlen,h0]
  ·simp only[hlen,hsz,h0];omega
 ·refine .inl ⟨h0,rfl,.inr ⟨?_,hc,?_⟩⟩
  ·simp only[hlen];omega
  ·simp only[hsz];omega
end
end
noncomputable section
open Go
section
variable {P:Program}{ty:TTy}{φ:Phi}{E:Nat→Prop}{h h':Hp}{w:World}{F:CallF}{e:Env}{v:Value}{f:Fr}
def C9:Value→Lit
 |.bool b=>.bool b
 |.int q n=>.int q n
 |.string s=>.string s.data.toList
 |_=>.bool false
theorem VL{k:IntKind}{n:Int}(h:inK k n=true):(Lit.int k n).wf=true:=by
 unfold Lit.wf
 simp only[Bool.and_eq_true,decide_eq_true_eq]
 cases n with
 |ofNat m=>
  have h:Nat.ble m (AW k)=true:=h
  have:=Ar.1 h
  cases k<;>simp[IntKind.min,IntKind.max,IntKind.signed,IntKind.bits,AW]at this ⊢<;>omega
 |negSucc m=>
  cases k<;>simp only[inK]at h<;>first|(cases h;done)|skip
  all_goals
   have:=Ar.1 h
   simp[IntKind.min,IntKind.max,IntKind.signed,IntKind.bits,AW]at this ⊢
   omega
theorem EY{k:IntKind}{v:Value}(h:HJ (.i k) v=true):∃ n,v=.int k n∧(Lit.int k n).wf=true:=by
 unfold HJ at h
 simp only at h
 split at h
 ·split at h
  ·rename_i hq
   exact⟨_,by rw[CM hq],VL h⟩
  ·cases h
 ·cases h
theorem Dd{v:Value}(h:HJ .b v=true):∃ b,v=.bool b:=by
 unfold HJ at h
 simp only at h
 split at h
 ·exact⟨_,rfl⟩
 ·cases h
theorem EZ{v:Value}(h:HJ .s v=true):∃ s,v=.string s∧s.size≤maxLen:=by
 unfold HJ at h
 simp only at h
 split at h
 ·rename_i s
  refine⟨s,rfl,?_⟩
  have:=Ar.1 h
  rw[A9]at this
  have e:s.data.toList.length=s.size:=by simp
  have hm:most≤maxLen:=by unfold most maxLen;omega
  omega
 ·cases h
theorem Bi{l:List Value}(h:CV [] l=true):l=[]:=by
 cases l with
 |nil=>rfl
 |cons=>cases h
theorem BV{c:CK}{ks:List CK}{l:List Value}(h:CV (c::ks) l=true):∃ v r,l=v::r∧HJ c v=true∧CV ks r=true:=by
 cases l with
 |nil=>cases h
 |cons v r=>
  unfold CV at h
  split at h
  ·rename_i hc;exact⟨v,r,rfl,hc,h⟩
  ·cases h
theorem F2:∀ {ks:List CK} {l:List Value},CV ks l=true→l.length=ks.length
 |[],l,h=>by rw[Bi h];rfl
 |c::ks,l,h=>by
  obtain⟨v,r,rfl,_,hr⟩:=BV h
  simp[F2 hr]
theorem Ea:∀ {a b:List CK} {l:List Value},CV (a++b) l=true→CV a (l.take a.length)=true∧CV b (l.drop a.length)=true
 |[],b,l,h=>⟨rfl,h⟩
 |c::a,b,l,h=>by
  obtain⟨v,r,rfl,hc,hr⟩:=BV h
  obtain⟨h1,h2⟩:=Ea hr
  refine⟨?_,by simpa using h2⟩
  show CV (c::a) (v::r.take a.length)=true
  unfold CV
  rw[hc];exact h1
theorem FY{c:CK}{v:Value}(h:HJ c v=true):∃ l:Lit,C9 v=l∧v=l.toCell∧l.keyWf:=by
 cases c with
 |i k=>obtain⟨n,rfl,hw⟩:=EY h;exact⟨.int k n,rfl,rfl,hw⟩
 |b=>obtain⟨b,rfl⟩:=Dd h;exact⟨.bool b,rfl,rfl,trivial⟩
 |s=>obtain⟨s,rfl,hs⟩:=EZ h;exact⟨.string s.data.toList,rfl,rfl,by show s.data.toList.length≤maxLen;simpa using hs⟩
theorem Ky{ks:List CK}:∀ {l l':List Value},CV ks l=true→RelL φ l l'→l'=l:=by
 induction ks with
 |nil=>intro l l' h hr;rw[Bi h]at hr ⊢;cases hr;rfl
 |cons c ks ih=>
  intro l l' h hr
  obtain⟨v,r,rfl,hc,hr'⟩:=BV h
  cases hr with
  |cons hv ht=>
   rw[ih hr' ht]
   congr 1
   cases c with
   |i k=>obtain⟨n,rfl,_⟩:=EY hc;exact hv.int_inv
   |b=>obtain⟨n,rfl⟩:=Dd hc;exact hv.bool_inv
   |s=>obtain⟨n,rfl,_⟩:=EZ hc;exact hv.string_inv
theorem DK{x:Value}(hne:∀ l,x≠.agg l):cellsOf x=[x]:=by
 unfold cellsOf
 split
 ·rename_i l;exact absurd rfl (hne l)
 ·rfl
theorem Bf{K:KS}{x:Value}(h:Cy K x=true):CV K.ks (cellsOf x)=true∧cellsOf x=x.cells.toList∧((K.agg=true∧∃ l,x=.agg ⟨l⟩)∨(K.agg=false∧(∀ l,x≠.agg l)∧∀ l,x≠.tuple l)):=by
 unfold Cy at h
 split at h
 ·rename_i cs
  split at h
  ·rename_i ha
   exact⟨h,rfl,.inl ⟨ha,cs.toList,rfl⟩⟩
  ·cases h
 ·rename_i hne
  split at h
  ·cases h
  ·rename_i ha
   have hne':∀ l,x≠.agg l:=fun l e=>hne l e
   have hc:cellsOf x=[x]:=by
    unfold cellsOf
    split
    ·rename_i l;exact absurd rfl (hne' l)
    ·rfl
   have hnt:∀ l,x≠.tuple l:=by
    intro l e
    subst e
    cases hk:K.ks with
    |nil=>rw[hk]at h;cases h
    |cons c ks=>
     rw[hk]at h
     obtain⟨v,r,e,hc,_⟩:=BV h
     cases e
     cases c<;>cases hc
   refine⟨by rw[hc];exact h,?_,.inr ⟨ha,hne',hnt⟩⟩
   rw[hc]
   cases x<;>first|rfl|exact absurd rfl (hne' _)|exact absurd rfl (hnt _)
theorem F1{K:KS}{x x':Value}(h:Cy K x=true)(hr:RelV φ x x'):x'=x:=by
 obtain⟨h1,h2,h3⟩:=Bf h
 rcases h3 with ⟨_,l,rfl⟩|⟨_,hne,hnt⟩
 ·cases hr with
  |agg hr=>rw[Ky h1 hr];rfl
 ·have hc:cellsOf x=[x]:=DK hne
  rw[hc]at h1
  have:=Ky h1 (.cons hr .nil)
  exact List.cons.inj this |>.1
theorem IW{α β:Type}{f:α→Option β}{g:α→β}:∀ {L:List α},(∀ x∈L,f x=some (g x))→L.mapM f=some (L.map g)
 |[],_=>rfl
 |x::L,h=>by
  rw[List.mapM_cons,h x (by simp),IW fun y hy=>h y (by simp[hy])];rfl
theorem Kz{ks:List CK}:∀ {m:Nat} {cs:List Value},CV (Ao ks m) cs=true→cs.length=m * ks.length∧∀ i,i<m→CV ks ((cs.drop (i * ks.length)).take ks.length)=true
 |0,cs,h=>by
  refine⟨?_,fun i hi=>absurd hi (Nat.not_lt_zero _)⟩
  rw[Bi h];simp
 |m+1,cs,h=>by
  have h:CV (ks++Ao ks m) cs=true:=h
  obtain⟨h1,h2⟩:=Ea h
  obtain⟨h3,h4⟩:=Kz h2
  have hl:=F2 h1
  refine⟨?_,fun i hi=>?_⟩
  ·simp only[List.length_take,List.length_drop]at hl h3
   rw[Nat.succ_mul];omega
  ·cases i with
   |zero=>simpa using h1
   |succ i=>
    have:=h4 i (by omega)
    rw[List.drop_drop]at this
    rw[Nat.succ_mul,Nat.add_comm]
    exact this
theorem K2{P:Program}{rec:Nat→Option (List CK)}:∀ {L:List Field} {off:Nat} {ks:List CK},flatK.flatF rec off (L.map fun f=>(f.offset,P.cellsOf f.type,f.type))=some ks→
  (∀ f∈L,∃ kf,rec f.type=some kf)∧
  ∀ cs:List Value,CV ks (cs.drop off)=true→(∀ f∈L,∀ kf,rec f.type=some kf→CV kf ((cs.drop f.offset).take (P.cellsOf f.type))=true)∧
   ((L.map fun f=>(cs.drop f.offset).take (P.cellsOf f.type)).flatten=cs.drop off)
 |[],off,ks,hk=>by
  cases hk
  refine⟨(fun f hf=>by cases hf),fun cs h=>⟨(fun f hf=>by cases hf),?_⟩⟩
  rw[Bi h];rfl
 |f::L,off,ks,hk=>by
  rw[List.map_cons]at hk
  unfold flatK.flatF at hk
  split at hk
  case h_2=>cases hk
  rename_i ho
  split at hk
  case h_2=>cases hk
  rename_i kf hkf
  split at hk
  case h_2=>cases hk
  rename_i hl
  split at hk
  case h_2=>cases hk
  rename_i r hr
  cases hk
  have ho:f.offset=off:=Ae.1 ho
  have hl:kf.length=P.cellsOf f.type:=by rw[← Ae.1 hl,A9]
  obtain⟨i1,i2⟩:=K2 hr
  refine⟨fun g hg=>?_,fun cs h=>?_⟩
  ·rcases List.mem_cons.1 hg with rfl|hg
   ·exact⟨kf,hkf⟩
   ·exact i1 g hg
  ·obtain⟨h1,h2⟩:=Ea h
   rw[hl]at h1 h2
   rw[List.drop_drop]at h2
   obtain⟨i3,i4⟩:=i2 cs h2
   refine⟨fun g hg kg hkg=>?_,?_⟩
   ·rcases List.mem_cons.1 hg with rfl|hg
    ·rw[hkf]at hkg;cases hkg
     rw[ho];exact h1
    ·exact i3 g hg kg hkg
   ·rw[List.map_cons,List.flatten_cons,i4,ho]
    have:cs.drop (Nat.add off (P.cellsOf f.type))=(cs.drop off).drop (P.cellsOf f.type):=by rw[List.drop_drop];rfl
    rw[this,List.take_append_drop]
theorem KA{t:Nat}{fs:Array Field}(hu:P.underlying t=some (.struct fs))(hf:fineS P t=true):
  (∀ f∈fs.toList,(f.name != "_")=true)∧(!(P.cutTypes.any (·.2 == t)) && !P.stoodInHeld t)=true:=by
 unfold fineS at hf
 rw[hu]at hf
 simp only[Bool.and_eq_true,Array.all_eq_true_iff_forall_mem]at hf
 obtain⟨⟨h1,h2⟩,h3⟩:=hf
 exact⟨fun f hm=>h1 f (Array.mem_toList_iff.1 hm),by rw[h2,h3];rfl⟩
theorem Ce(hT:BN P ty):∀ (n t:Nat) (ks:List CK),flatK ty n t=some ks→
  P.keyTypeAt n t=true∧(∀ d,n≤d→P.eqGuardType d t=false)∧(∀ ti,ty.get t=some ti→ti.k.agg=true→ks.length=ti.size)∧
  ∀ cs,CV ks cs=true→P.keyLits n t cs=some (cs.map C9)
 |0,t,ks,h=>by cases h
 |n+1,t,ks,h=>by
  unfold flatK at h
  cases hg:ty.get t with
  |none=>rw[hg]at h;cases h
  |some ti=>
   simp only[hg]at h
   have T:=hT t ti hg
   obtain⟨d,hd,hk⟩:=T.und
   have hcell:=T.cells
   have plain:∀ {d:TypeDesc},(match d with|.interface _=>true|.struct _=>true|.array _ _=>true|_=>false)=false→P.underlying t=some d→∀ q,n+1≤q→P.eqGuardType q t=false:=by
    intro d h1 hd q hq
    cases q with
    |zero=>omega
    |succ q=>unfold Program.eqGuardType;rw[hd];cases d<;>first|rfl|cases h1
   cases hkk:ti.k with
   |int k=>
    simp only[hkk]at h;rw[hkk]at hk;cases hk;cases h
    refine⟨by unfold Program.keyTypeAt;rw[hd],plain rfl hd,(fun ti' ht' ha=>by cases ht';rw[hkk]at ha;cases ha),fun cs hf=>?_⟩
    obtain⟨v,r,rfl,hc,hr⟩:=BV hf
    obtain rfl:=Bi hr
    obtain⟨m,rfl,hw⟩:=EY hc
    unfold Program.keyLits;rw[hd]
    simp[hw,C9]
   |bool=>
    simp only[hkk]at h;rw[hkk]at hk;cases hk;cases h
    refine⟨by unfold Program.keyTypeAt;rw[hd],plain rfl hd,(fun ti' ht' ha=>by cases ht';rw[hkk]at ha;cases ha),fun cs hf=>?_⟩
    obtain⟨v,r,rfl,hc,hr⟩:=BV hf
    obtain rfl:=Bi hr
    obtain⟨m,rfl⟩:=Dd hc
    unfold Program.keyLits;rw[hd]
    simp[C9]
   |string=>
    simp only[hkk]at h;rw[hkk]at hk;cases hk;cases h
    refine⟨by unfold Program.keyTypeAt;rw[hd],plain rfl hd,(fun ti' ht' ha=>by cases ht';rw[hkk]at ha;cases ha),fun cs hf=>?_⟩
    obtain⟨v,r,rfl,hc,hr⟩:=BV hf
    obtain rfl:=Bi hr
    obtain⟨m,rfl,hw⟩:=EZ hc
    unfold Program.keyLits;rw[hd]
    simp[hw,C9]
   |arr m el=>
    simp only[hkk]at h;rw[hkk]at hk;cases hk
    split at h
    case h_2=>cases h
    rename_i ei hei
    split at h
    case h_2=>cases h
    rename_i ke hke
    split at h
    case h_2=>cases h
    rename_i hl
    split at h
    case h_2=>cases h
    rename_i hm
    cases h
    obtain⟨i1,i2,_,i3⟩:=Ce hT n el ke hke
    have hce:=(hT el ei hei).cells
    have hl:ke.length=ei.size:=by rw[← Ae.1 hl,A9]
    have hm:m * ei.size=ti.size:=Ae.1 hm
    have hrep:∀ m,(Ao ke m).length=m * ke.length:=by
     intro m
     induction m with
     |zero=>simp[Ao]
     |succ m ih=>rw[Ao,List.length_append,ih,Nat.succ_mul];omega
    refine⟨by unfold Program.keyTypeAt;rw[hd];exact i1,fun q hq=>?_,(fun ti' ht' ha=>by cases ht';rw[hrep,hl,hm]),fun cs hf=>?_⟩
    ·cases q with
     |zero=>omega
     |succ q=>unfold Program.eqGuardType;rw[hd];exact i2 q (by omega)
    ·obtain⟨f1,f2⟩:=Kz hf
     have hlen:cs.length=P.cellsOf t:=by rw[hcell,← hm,f1,hl]
     have hmap:(List.range m).mapM (fun i=>P.keyLits n el ((cs.drop (i * P.cellsOf el)).take (P.cellsOf el)))=some ((List.range m).map fun i=>((cs.drop (i * P.cellsOf el)).take (P.cellsOf el)).map C9):=
      IW fun i hi=>by
       rw[hce,← hl]
       exact i3 _ (f2 i (List.mem_range.1 hi))
     unfold Program.keyLits
     rw[hd]
     simp only[hlen,if_true,hmap,Option.map_some]
     congr 1
     have:=chunks_flatten (P.cellsOf el) m cs (by rw[hce,← hl];exact f1)
     conv=>rhs;rw[← this]
     rw[List.map_flatten,List.map_map];rfl
   |struct fs=>
    simp only[hkk]at h;rw[hkk]at hk
    cases hk with
    |@struct _ fields hfs _=>
     split at h
     case h_2=>cases h
     rename_i ks' hks
     split at h
     case h_2=>cases h
     rename_i hl
     cases h
     have hl:ks.length=ti.size:=by rw[← Ae.1 hl,A9]
     rw[← hfs]at hks
     obtain⟨j1,j2⟩:=K2 hks
     obtain⟨n1,n2⟩:=KA hd T.fine
     refine⟨?_,fun q hq=>?_,(fun ti' ht' ha=>by cases ht';exact hl),fun cs hf=>?_⟩
     ·unfold Program.keyTypeAt
      rw[hd]
      simp only[Bool.and_assoc,n2,Bool.and_true]
      rw[Array.all_eq_true_iff_forall_mem]
      intro f hm
      obtain⟨kf,hkf⟩:=j1 f (Array.mem_toList_iff.2 hm)
      rw[n1 f (Array.mem_toList_iff.2 hm),(Ce hT n f.type kf hkf).1];rfl
     ·cases q with
      |zero=>omega
      |succ q=>
       unfold Program.eqGuardType;rw[hd]
       simp only
       rw[Array.any_eq_false]
       intro i hi
       obtain⟨kf,hkf⟩:=j1 fields[i] (Array.mem_toList_iff.2 (Array.getElem_mem hi))
       rw[(Ce hT n _ kf hkf).2.1 q (by omega)];simp
     ·have hf0:CV ks (cs.drop 0)=true:=hf
      obtain⟨k1,k2⟩:=j2 cs hf0
      have hlen:cs.length=P.cellsOf t:=by rw[hcell,← hl,F2 hf]
      have hmap:fields.toList.mapM (fun f=>P.keyLits n f.type ((cs.drop f.offset).take (P.cellsOf f.type)))=some (fields.toList.map fun f=>((cs.drop f.offset).take (P.cellsOf f.type)).map C9):=
       IW fun f hm=>by
        obtain⟨kf,hkf⟩:=j1 f hm
        exact(Ce hT n f.type kf hkf).2.2.2 _ (k1 f hm kf hkf)
      have hall:fields.all (·.name != "_")=true:=by
       rw[Array.all_eq_true_iff_forall_mem]
       intro f hm
       exact n1 f (Array.mem_toList_iff.2 hm)
      unfold Program.keyLits
      rw[hd]
      simp only[hlen,hall,and_self,if_true,hmap,Option.map_some]
      congr 1
      have:cs=cs.drop 0:=rfl
      conv=>rhs;rw[this,← k2]
      rw[List.map_flatten,List.map_map];rfl
   |_=>simp only[hkk]at h;cases h
theorem GZ{c:CK}{a b:Value}(ha:HJ c a=true)(hb:HJ c b=true){r:Bool}(hr:Hx a b=some r):r=true↔C9 a=C9 b:=by
 cases c with
 |i k=>
  obtain⟨m,rfl,_⟩:=EY ha
  obtain⟨n,rfl,_⟩:=EY hb
  unfold Hx at hr
  simp only at hr
  split at hr
  ·cases hr;rw[Ef];simp[C9]
  ·cases hr
 |b=>
  obtain⟨m,rfl⟩:=Dd ha
  obtain⟨n,rfl⟩:=Dd hb
  unfold Hx at hr
  cases hr;simp[C9]
 |s=>
  obtain⟨m,rfl,_⟩:=EZ ha
  obtain⟨n,rfl,_⟩:=EZ hb
  unfold Hx at hr
  cases hr;rw[GU];simp[C9]
theorem Hz:∀ {ks:List CK} {a b:List Value},CV ks a=true→CV ks b=true→∀ {r:Bool},Dx a b=some r→(r=true↔a.map C9=b.map C9)
 |[],a,b,ha,hb,r,hr=>by
  rw[Bi ha,Bi hb]at *
  cases hr;simp
 |c::ks,a,b,ha,hb,r,hr=>by
  obtain⟨x,a,rfl,hx,ha⟩:=BV ha
  obtain⟨y,b,rfl,hy,hb⟩:=BV hb
  unfold Dx at hr
  split at hr
  ·rename_i h1
   have i1:=(GZ hx hy h1).1 rfl
   rw[Hz ha hb hr]
   simp[i1]
  ·rename_i h1
   cases hr
   have i1:=GZ hx hy h1
   simp only[List.map_cons,List.cons.injEq]
   constructor
   ·intro h;cases h
   ·intro h;exact i1.2 h.1
  ·cases hr
structure KeyOf (P:Program)(ty:TTy)(t:Nat)(K:KS):Prop where
 ti:∃ ti,ty.get t=some ti∧K.agg=ti.k.agg
 flat:flatK ty 8 t=some K.ks
theorem KeyOf.formed(hT:BN P ty){t:Nat}{K:KS}(hK:KeyOf P ty t K){x:Value}(hx:Cy K x=true):x.formed P t=true∧P.keyLits 8 t x.cells.toList=some ((cellsOf x).map C9):=by
 obtain⟨ti,hti,ha⟩:=hK.ti
 obtain⟨_,_,f3,f4⟩:=Ce hT 8 t K.ks hK.flat
 obtain⟨h1,h2,h3⟩:=Bf hx
 have T:=hT t ti hti
 obtain⟨d,hd,hk⟩:=T.und
 refine⟨?_,by rw[← h2];exact f4 _ h1⟩
 rcases h3 with ⟨hag,l,rfl⟩|⟨hag,hne,hnt⟩
 ·rw[ha]at hag
  have hs:=f3 ti hti hag
  have hl:=F2 h1
  unfold Value.formed
  rw[hd]
  have hsz:(Array.mk l).size=P.cellsOf t:=by
   have:l.length=K.ks.length:=hl
   rw[T.cells,← hs,← this];rfl
  generalize ti.k=kk at hk hag
  cases hk<;>first|(cases hag;done)|(simp only[hsz];exact beq_self_eq_true _)
 ·rw[ha]at hag
  have:(match P.underlying t with|some (.struct _)=>false|some (.array _ _)=>false|_=>true)=true:=by
   rw[hd]
   generalize ti.k=kk at hk hag
   cases hk<;>first|rfl|(cases hag;done)|skip
   rename_i ho
   cases d<;>first|rfl|cases ho
  unfold Value.formed
  cases x<;>first|exact absurd rfl (hne _)|exact absurd rfl (hnt _)|exact this
theorem KeyOf.equal(hT:BN P ty){t:Nat}{K:KS}(hK:KeyOf P ty t K){x y:Value}(hx:Cy K x=true)(hy:Cy K y=true){r:Bool}(hr:Dx (cellsOf x) (cellsOf y)=some r)(w:World):
  (Op.equal t x y).run P w=.ok r w:=by
 obtain⟨f1,f2⟩:=hK.formed hT hx
 obtain⟨g1,g2⟩:=hK.formed hT hy
 obtain⟨k1,_⟩:=Ce hT 8 t K.ks hK.flat
 obtain⟨r',hr',hiff⟩:=run_equalIn_deep (P:=P) 9992 8 t k1 w _ _ x y _ _ f1 g1 f2 g2
 have:=Hz (Bf hx).1 (Bf hy).1 hr
 have e:r'=r:=by
  rw[Bool.eq_iff_iff,hiff,this]
 rw[← e];exact hr'
theorem KeyOf.check(hT:BN P ty){t:Nat}{K:KS}(hK:KeyOf P ty t K){x:Value}(hx:Cy K x=true)(em:Bool)(w:World):(Instr.checkKey em 10000 t x).run P w=.ok () w:=by
 obtain⟨f1,f2⟩:=hK.formed hT hx
 obtain⟨k1,_⟩:=Ce hT 8 t K.ks hK.flat
 exact run_checkKey_deep (P:=P) em 9992 8 t k1 w _ x _ f1 f2
theorem J8{t:Nat}{d:TypeDesc}(hd:P.underlying t=some d)(n:Nat){a b:Value}{c:Bool}(hs:Instr.sameNow d a b=some c)(w:World):(Op.equalIn (n+1) t a b).run P w=.ok c w:=by
 unfold Instr.sameNow at hs
 split at hs
 ·split at hs
  ·rename_i hkk
   cases hs
   simp[Op.equalIn,run_underlying hd,hkk]
  ·cases hs
 ·cases hs;simp[Op.equalIn,run_underlying hd]
 ·cases hs;simp[Op.equalIn,run_underlying hd]
 ·cases hs
theorem Fz{t:Nat}{d:TypeDesc}(hd:P.underlying t=some d){k:Value}:∀ {es:List MapEntry} {i:Nat} {r:Option (Nat×Value)},Instr.findNow d k es i=some r→∀ w:World,(Instr.findAsking t k es i).run P w=.ok r w
 |[],i,r,h,w=>by cases h;simp[Instr.findAsking]
 |e::es,i,r,h,w=>by
  have same:∀ {a b:Value} {c:Bool},Instr.sameNow d a b=some c→(Op.equal t a b).run P w=.ok c w:=fun hs=>J8 hd 9999 hs w
  unfold Instr.findNow at h
  split at h
  ·rename_i hs
   cases h
   simp[Instr.findAsking,same hs]
  ·rename_i hs
   have:=Fz hd h w
   simp[Instr.findAsking,same hs,this]
  ·cases h
theorem B4{t:Nat}{d:TypeDesc}(hd:P.underlying t=some d){k:Value}{es:List MapEntry}{r:Option (Nat×Value)}(hr:(Instr.findAsking t k es 0).run P w=.ok r w):(Instr.findKey t k es).run P w=.ok r w:=by
 unfold Instr.findKey
 simp only[Sem.run_bind,run_underlying hd,Result.andThen_ok]
 cases hn:Instr.findNow d k es 0 with
 |none=>exact hr
 |some r'=>
  have:=Fz hd hn w
  rw[hr]at this
  cases this
  simp
theorem Cz(hT:BN P ty){t:Nat}{K:KS}(hK:KeyOf P ty t K){x y y':Value}(hx:Cy K x=true)(hy:RelV φ y y'){r:Bool}(hr:EM K x y=some r)(w:World):(Op.equal t x y').run P w=.ok r w∧Cy K y=true∧y'=y:=by
 unfold EM at hr
 split at hr
 ·rename_i hf
  have:=F1 hf hy
  subst this
  exact⟨hK.equal hT hx hf hr w,hf,rfl⟩
 ·cases hr
theorem ID(hT:BN P ty){t:Nat}{K:KS}(hK:KeyOf P ty t K){x:Value}(hx:Cy K x=true)(w:World):∀ {es:List Ent} {es':List MapEntry} (i:Nat),RelE φ es es'→∀ {r:Option Ent},JT K x es=some r→
  match r with
  |none=>(Instr.findAsking t x es' i).run P w=.ok none w
  |some e=>∃ j v',(Instr.findAsking t x es' i).run P w=.ok (some (j,v')) w∧RelV φ e.val v'
 |_,_,i,.nil,r,h=>by cases h;simp[Instr.findAsking]
 |_,_,i,.cons (k:=k) (k':=k') (v:=v) (v':=v') (b:=b) (l:=l) (l':=l') hk hv ht,r,h=>by
  unfold JT at h
  split at h
  ·rename_i he
   cases h
   obtain⟨h1,_⟩:=Cz hT hK hx hk he w
   exact⟨i,v',by simp[Instr.findAsking,h1],hv⟩
  ·rename_i he
   obtain⟨h1,_⟩:=Cz hT hK hx hk he w
   have ih:=ID hT hK hx w (i+1) ht h
   cases r with
   |none=>simpa [Instr.findAsking,h1] using ih
   |some e=>
    obtain⟨j,u,hj,hu⟩:=ih
    exact⟨j,u,by simp[Instr.findAsking,h1,hj],hu⟩
  ·cases h
theorem K1{c:CK}{x:Value}(h:HJ c x=true)(n:Nat):Instr.sameBits n x x=true:=by
 obtain⟨l,_,rfl,hw⟩:=FY h
 exact sameBits_toCell hw n
theorem Oj{ks:List CK}(n:Nat):∀ {l:List Value},CV ks l=true→(l.zip l).all (fun (x,y)=>Instr.sameBits n x y)=true:=by
 induction ks with
 |nil=>intro l h;rw[Bi h];rfl
 |cons c ks ih=>
  intro l h
  obtain⟨v,r,rfl,hc,hr⟩:=BV h
  simp only[List.zip_cons_cons,List.all_cons,K1 hc,ih hr,Bool.and_self]
theorem Oi{K:KS}{x:Value}(h:Cy K x=true)(n:Nat):Instr.sameBits (n+1) x x=true:=by
 obtain⟨h1,_,h3⟩:=Bf h
 rcases h3 with ⟨_,l,rfl⟩|⟨_,hne,hnt⟩
 ·unfold Instr.sameBits
  simp only[beq_self_eq_true,Bool.true_and]
  exact Oj n h1
 ·have hc:cellsOf x=[x]:=DK hne
  rw[hc]at h1
  cases hk:K.ks with
  |nil=>rw[hk]at h1;cases h1
  |cons c ks=>
   rw[hk]at h1
   obtain⟨v,r,e,hcc,_⟩:=BV h1
   cases e
   exact K1 hcc _
theorem Hy:∀ {ks:List CK} {a b:List Value},CV ks a=true→CV ks b=true→Dx a b=some true→a=b
 |[],a,b,ha,hb,_=>by rw[Bi ha,Bi hb]
 |c::ks,a,b,ha,hb,hr=>by
  obtain⟨x,a,rfl,hx,ha⟩:=BV ha
  obtain⟨y,b,rfl,hy,hb⟩:=BV hb
  unfold Dx at hr
  split at hr
  ·rename_i h1
   have i1:=(GZ hx hy h1).1 rfl
   rw[Hy ha hb hr]
   obtain⟨l,e1,e2,_⟩:=FY hx
   obtain⟨m,e3,e4,_⟩:=FY hy
   rw[e2,e4,← e1,← e3,i1]
  ·cases hr
  ·cases hr
theorem Mx{K:KS}{x y:Value}(hx:Cy K x=true)(hr:EM K x y=some true):x=y:=by
 unfold EM at hr
 split at hr
 ·rename_i hf
  obtain⟨h1,h2,h3⟩:=Bf hx
  obtain⟨g1,g2,g3⟩:=Bf hf
  have:=Hy h1 g1 hr
  rcases h3 with ⟨ha,l,rfl⟩|⟨ha,hne,hnt⟩
  ·rcases g3 with ⟨_,m,rfl⟩|⟨hb,_⟩
   ·have:l=m:=this
    rw[this]
   ·rw[ha]at hb;cases hb
  ·rcases g3 with ⟨hb,_⟩|⟨_,gne,gnt⟩
   ·rw[ha]at hb;cases hb
   ·have c1:cellsOf x=[x]:=DK hne
    have c2:cellsOf y=[y]:=DK gne
    rw[c1,c2]at this
    exact List.cons.inj this |>.1
 ·cases hr
theorem Hg(hT:BN P ty){t:Nat}{K:KS}(hK:KeyOf P ty t K){x:Value}(hx:Cy K x=true){u u':Value}(hu:RelV φ u u')(hxx:RelV φ x x)(w:World):∀ {es:List Ent} {es':List MapEntry} (i:Nat),RelE φ es es'→∀ {r:Option (List Ent)},L0 K x u es=some r→
  match r with
  |none=>(Instr.findAsking t x es' i).run P w=.ok none w
  |some es2=>∃ j v' en,(Instr.findAsking t x es' i).run P w=.ok (some (i+j,v')) w∧es'[j]? =some en∧en.key=x∧RelE φ es2 (es'.modify j fun e=>{e with key:=x,val:=u'})
 |_,_,i,.nil,r,h=>by cases h;simp[Instr.findAsking]
 |_,_,i,.cons (k:=k) (k':=k') (v:=v) (v':=v') (b:=b) (l:=l) (l':=l') hk hv ht,r,h=>by
  unfold L0 at h
  split at h
  ·rename_i he
   cases h
   obtain⟨h1,_,h2⟩:=Cz hT hK hx hk he w
   have h3:=Mx hx he
   exact⟨0,v',⟨k',v',b⟩,by simp[Instr.findAsking,h1],rfl,by simp only;rw[h2];exact h3.symm,by simpa using RelE.cons hxx hu ht⟩
  ·rename_i he
   obtain⟨h1,_⟩:=Cz hT hK hx hk he w
   split at h
   ·rename_i es2 hs
    cases h
    obtain⟨j,v2,en,e1,e2,e3,e4⟩:=Hg hT hK hx hu hxx w (i+1) ht hs
    refine⟨j+1,v2,en,?_,by simpa using e2,e3,by simpa using RelE.cons hk hv e4⟩
    simp only[Instr.findAsking,Sem.run_bind,h1,Result.andThen_ok,Bool.false_eq_true,if_false]
    rw[e1];congr 3;omega
   ·rename_i hs
    cases h
    have:=Hg hT hK hx hu hxx w (i+1) ht hs
    simpa [Instr.findAsking,h1] using this
   ·cases h
  ·cases h
theorem Nl(hT:BN P ty){t:Nat}{K:KS}(hK:KeyOf P ty t K){x:Value}(hx:Cy K x=true)(w:World):∀ {es:List Ent} {es':List MapEntry} (i:Nat),RelE φ es es'→∀ {es2:List Ent},Md K x es=some es2→
  ((Instr.findAsking t x es' i).run P w=.ok none w∧es2=es)∨∃ j v',(Instr.findAsking t x es' i).run P w=.ok (some (i+j,v')) w∧RelE φ es2 (es'.eraseIdx j)
 |_,_,i,.nil,es2,h=>by cases h;exact .inl ⟨by simp[Instr.findAsking],rfl⟩
 |_,_,i,.cons (k:=k) (k':=k') (v:=v) (v':=v') (b:=b) (l:=l) (l':=l') hk hv ht,es2,h=>by
  unfold Md at h
  split at h
  ·rename_i he
   cases h
   obtain⟨h1,_⟩:=Cz hT hK hx hk he w
   exact .inr ⟨0,v',by simp[Instr.findAsking,h1],by simpa using ht⟩
  ·rename_i he
   obtain⟨h1,_⟩:=Cz hT hK hx hk he w
   split at h
   ·rename_i l2 hs
    cases h
    rcases Nl hT hK hx w (i+1) ht hs with ⟨e1,e2⟩|⟨j,v2,e1,e2⟩
    ·exact .inl ⟨by simp[Instr.findAsking,h1,e1],by rw[e2]⟩
    ·refine .inr ⟨j+1,v2,?_,by simpa using RelE.cons hk hv e2⟩
     simp only[Instr.findAsking,Sem.run_bind,h1,Result.andThen_ok,Bool.false_eq_true,if_false]
     rw[e1];congr 3;omega
   ·cases h
  ·cases h
theorem Nc{x:Ent}:∀ {es:List Ent},Rj x es=es++[x]
 |[]=>rfl
 |e::es=>by unfold Rj;rw[Nc];rfl
theorem RelE.append{x:Ent}{x':MapEntry}(hx:RelE φ [x] [x']):∀ {es:List Ent} {es':List MapEntry},RelE φ es es'→RelE φ (es++[x]) (es'++[x'])
 |_,_,.nil=>hx
 |_,_,.cons hk hv t=>.cons hk hv (RelE.append hx t)
theorem IE{K:KS}{x x':Value}(h:Cy K x=true)(hr:RelV φ x x'):x'=x∧RelV φ x x:=by
 have:=F1 h hr
 subst this
 exact⟨rfl,hr⟩
end
end
noncomputable section
open Go
section
variable {P:Program}{ty:TTy}{φ:Phi}{E:Nat→Prop}{h h':Hp}{w:World}{F:CallF}{e:Env}{v:Value}{f:Fr}
def Ny:Value→Bool
 |.bool _|.pointer _|.slice _ _ _|.map _|.func _ _ _|.nilFunc=>true
 |_=>false
theorem Pk{op:BinOp}{neg:Bool}(hop:(op=.eql∧neg=false)∨(op=.neq∧neg=true)){t:TypeId}{X Y:Operand}{a b:Value}(ha:Ny a=true∨∃ l,a=.agg l)(hg:(eqGuard op t X Y a b).run P w=.ok () w)
  {r:Bool}(hr:(Op.equal t a b).run P w=.ok r w):(A4 op t X Y a b).run P w=.ok (.bool (neg != r)) w:=by
 unfold A4
 rw[Sem.run_bind,hg,Result.andThen_ok]
 have:binOp op t a b=(do pure (.bool (neg != (← Op.equal t a b)))):=by
  rcases hop with ⟨rfl,rfl⟩|⟨rfl,rfl⟩
  ·rcases ha with ha|⟨l,rfl⟩
   ·cases a<;>first|(cases ha;done)|skip
    all_goals (simp[binOp];try rfl)
   ·simp[binOp]
  ·rcases ha with ha|⟨l,rfl⟩
   ·cases a<;>first|(cases ha;done)|skip
    all_goals (simp[binOp];try rfl)
   ·simp[binOp]
 rw[this,Sem.run_bind,hr,Result.andThen_ok,Sem.run_pure]
theorem Mm{op:BinOp}{t:TypeId}{X Y:Operand}{a b:Value}(ha:Ny a=true):(eqGuard op t X Y a b).run P w=.ok () w:=by
 cases op<;>first|rfl|skip
 all_goals (cases a<;>first|(cases ha;done)|rfl)
theorem Oo{op:BinOp}{t:TypeId}{X Y:Operand}{a b:Array Value}(hg:P.eqGuardType P.depth t=false):(eqGuard op t X Y (.agg a) (.agg b)).run P w=.ok () w:=by
 cases op<;>first|rfl|skip
 all_goals (simp[eqGuard,hg])
theorem Uv(n:Nat){k:TK}{x y x' y':Value}{r:Bool}(hr:eqV k x y=some r)(hx:RelV φ x x')(hy:RelV φ y y'){t:Nat}{d:TypeDesc}(hd:P.underlying t=some d)(hk:KOk P k d)(w:World):
  Ny x'=true∧(Op.equalIn (n+1) t x' y').run P w=.ok r w:=by
 unfold eqV at hr
 split at hr
 case h_12=>cases hr
 all_goals (cases hr;cases hk;first|skip|(rename_i ho;cases ho))
 all_goals (cases hx;cases hy)
 all_goals (refine⟨rfl,?_⟩;simp[Op.equalIn,run_underlying hd])
theorem Uw{k:TK}{x y x' y':Value}{r:Bool}(hr:eqV k x y=some r)(hx:RelV φ x x')(hy:RelV φ y y'){t:Nat}{d:TypeDesc}(hd:P.underlying t=some d)(hk:KOk P k d)(w:World):
 Ny x'=true∧(Op.equal t x' y').run P w=.ok r w:=Uv 9999 hr hx hy hd hk w
theorem Qe(H:RelW ty φ E h w){k:TK}{op:BinOp}{neg:Bool}(hop:(op=.eql∧neg=false)∨(op=.neq∧neg=true)){t:Nat}{ti:TI}(T:TyOk P t ti)(hk:ti.k=k){X Y:Operand}{x y:O}{x' y':Value}
  (hx:RelV φ (x e) x')(hy:RelV φ (y e) y')(hr:oEq k neg x y F e h=.ok v h'):Av ty φ E h w v h' ((A4 op t X Y x' y').run P w):=by
 obtain⟨d,hd,hkd⟩:=T.und
 rw[hk]at hkd
 unfold oEq at hr
 split at hr
 case h_2=>cases hr
 rename_i r hq
 obtain⟨rfl,rfl⟩:=Ep hr
 obtain⟨h1,h2⟩:=Uw hq hx hy hd hkd w
 rw[Pk hop (.inl h1) (Mm h1) h2]
 exact .same H (.bool _)
theorem Lf(H:RelW ty φ E h w){op:BinOp}{neg:Bool}(hop:(op=.eql∧neg=false)∨(op=.neq∧neg=true)){t:Nat}{ti:TI}(T:TyOk P t ti)(hk:ti.k=.iface){X:Operand}{x:O}{x':Value}
  (hx:RelV φ (x e) x')(hr:G8 neg x F e h=.ok v h'):Av ty φ E h w v h' ((A4 op t X (.const .nilIface) x' .nilIface).run P w):=by
 obtain⟨d,hd,hkd⟩:=T.und
 rw[hk]at hkd
 have main:∀ (a:Value) (r:Bool),((a=.nilIface∧r=true)∨((∃ t v,a=.iface t v)∧r=false))→(A4 op t X (.const .nilIface) a .nilIface).run P w=.ok (.bool (neg != r)) w:=by
  intro a r ha
  cases hkd with
  |iface ms=>
  unfold A4
  have hg:(eqGuard op t X (.const .nilIface) a .nilIface).run P w=.ok () w:=by
   cases op<;>first|rfl|skip
   all_goals (rcases ha with ⟨rfl,_⟩|⟨⟨t,v,rfl⟩,_⟩<;>simp[eqGuard])
  have he1:∀ n,(Op.equalIn (n+1) t a .nilIface).run P w=.ok r w:=fun n=>by
   rcases ha with ⟨rfl,rfl⟩|⟨⟨t,v,rfl⟩,rfl⟩<;>simp[Op.equalIn,run_underlying hd]
  have he:(Op.equal t a .nilIface).run P w=.ok r w:=he1 9999
  have hb:binOp op t a .nilIface=(do pure (.bool (neg != (← Op.equal t a .nilIface)))):=by
   rcases hop with ⟨rfl,rfl⟩|⟨rfl,rfl⟩<;>rcases ha with ⟨rfl,rfl⟩|⟨⟨t,v,rfl⟩,rfl⟩<;>(simp[binOp];try rfl)
  rw[Sem.run_bind,hg,Result.andThen_ok,hb,Sem.run_bind,he,Result.andThen_ok,Sem.run_pure]
 have hr:QW neg (x e) h=.ok v h':=hr
 generalize x e=u at hx hr
 unfold QW at hr
 split at hr
 ·obtain⟨rfl,rfl⟩:=Ep hr
  cases hx
  rw[main _ true (.inl ⟨rfl,rfl⟩)];exact .same H (.bool _)
 ·obtain⟨rfl,rfl⟩:=Ep hr
  cases hx with
  |iface t h=>rw[main _ false (.inr ⟨⟨_,_,rfl⟩,rfl⟩)];exact .same H (.bool _)
 ·cases hr
theorem Ha(hT:BN P ty)(H:RelW ty φ E h w){K:KS}{op:BinOp}{neg:Bool}(hop:(op=.eql∧neg=false)∨(op=.neq∧neg=true)){t:Nat}{ti:TI}(hti:ty.get t=some ti)(hk:ti.k.agg=true)(hf:flatK ty 8 t=some K.ks)(ha:K.agg=true)
  {X Y:Operand}{x y:O}{x' y':Value}(hx:RelV φ (x e) x')(hy:RelV φ (y e) y')(hr:Dl K neg x y F e h=.ok v h'):Av ty φ E h w v h' ((A4 op t X Y x' y').run P w):=by
 have T:=hT t ti hti
 have hK:KeyOf P ty t K:=⟨⟨ti,hti,by rw[ha,hk]⟩,hf⟩
 unfold Dl eqC at hr
 split at hr
 case h_2=>cases hr
 rename_i r hq
 split at hq
 case h_2=>cases hq
 rename_i hfx
 obtain⟨rfl,rfl⟩:=Ep hr
 have e1:=F1 hfx hx
 obtain⟨h1,hfy,e2⟩:=Cz hT hK hfx hy hq w
 rw[← e1]at hfx
 have hgt:=(Ce hT 8 t K.ks hf).2.1 P.depth T.deep
 obtain⟨_,_,g1⟩:=Bf hfx
 obtain⟨_,_,g2⟩:=Bf hfy
 rw[← e2]at g2
 rcases g1 with ⟨_,l,hl⟩|⟨hb,_⟩
 ·rcases g2 with ⟨_,m,hm⟩|⟨hb,_⟩
  ·rw[← e1]at h1
   have hg:(eqGuard op t X Y x' y').run P w=.ok () w:=by rw[hl,hm];exact Oo hgt
   rw[Pk hop (.inr ⟨_,hl⟩) hg h1]
   exact .same H (.bool _)
  ·rw[ha]at hb;cases hb
 ·rw[ha]at hb;cases hb
end
end
noncomputable section
open Go
section
variable {P:Program}{ty:TTy}{φ:Phi}{E:Nat→Prop}{h h':Hp}{w:World}{F:CallF}{e:Env}{v:Value}{f:Fr}
theorem Ay{t:Nat}{k:TI→OpF}(hr:wTy ty t k F e h=.ok v h'):∃ ti,ty.get t=some ti∧k ti F e h=.ok v h':=by
 unfold wTy at hr
 cases hg:ty.get t with
 |none=>rw[hg]at hr;cases hr
 |some ti=>rw[hg]at hr;exact⟨ti,rfl,hr⟩
theorem Bb{x:Operand}{k:O→OpF}(hr:w1 f x k F e h=.ok v h'):∃ y,cO f x=some y∧k y F e h=.ok v h':=by
 unfold w1 at hr
 cases hg:cO f x with
 |none=>rw[hg]at hr;cases hr
 |some y=>rw[hg]at hr;exact⟨y,rfl,hr⟩
theorem GO{x y:Operand}{k:O→O→OpF}(hr:w2 f x y k F e h=.ok v h'):∃ x' y',cO f x=some x'∧cO f y=some y'∧k x' y' F e h=.ok v h':=by
 unfold w2 at hr
 obtain⟨x',hx,hr⟩:=Bb hr
 obtain⟨y',hy,hr⟩:=Bb hr
 exact⟨x',y',hx,hy,hr⟩
theorem FR{ti:TI}{k:OpF}(hr:wZ ti k F e h=.ok v h'):ti.zero.length=ti.size∧k F e h=.ok v h':=by
 unfold wZ at hr
 cases hg:Nat.beq (Bo ti.zero) ti.size with
 |false=>rw[hg]at hr;cases hr
 |true=>rw[hg]at hr;exact⟨by rw[← Ae.1 hg,A9],hr⟩
def BM(P:Program)(ty:TTy)(F:CallF):Prop:=∀ g args h v h',F g args h=.ok v h'→
 (∃ fn,P.funcs[g]? =some fn∧fn.name≠"runtime.NumGoroutine" ∧fn.body.isNone=false)∧
 ∀ φ w args',RelL φ args args'→RelW ty φ (fun _=>False) h w→
  Calls P g ⟨args'⟩ w fun en w'=>∃ v' ψ,en=.returned v'∧RelV ψ v v'∧RelW ty ψ (fun _=>False) h' w'∧Evo φ h w ψ h' w'
def CR(P:Program)(ty:TTy)(φ:Phi)(E:Nat→Prop)(h:Hp)(v:Value)(h':Hp)(o:Oper)(a:Act)(w:World):Prop:=
 ∀ (next:Act→World→Prop) (Q:Exit→Act→World→Prop),
  (∀ ψ v' w',RelV ψ v v'→RelW ty ψ E h' w'→Evo φ h w ψ h' w'→next (a.put o.dst v') w')→o.wp P a w next Q
theorem CR.of_gives{o:Oper}{a:Act}{s:Sem Value}(hx:execOp a.eval o=(do pure (.value (← s))))(hg:Av ty φ E h w v h' (s.run P w)):CR P ty φ E h v h' o a w:=by
 intro next Q hn
 obtain⟨v',w',ψ,hs,hv,H,ev⟩:=hg
 unfold Oper.wp
 rw[hx,Sem.run_bind,hs,Result.andThen_ok,Sem.run_pure,Oper.upon_value]
 exact hn ψ v' w' hv H ev
theorem CR.of_skips{o:Oper}{a:Act}{s:Sem Unit}(hx:execOp a.eval o=(do s;pure .skip))(hg:Pb ty φ E h w v h' (s.run P w)):CR P ty φ E h v h' o a w:=by
 intro next Q hn
 obtain⟨rfl,w',hs,H,ev⟩:=hg
 unfold Oper.wp
 rw[hx,Sem.run_bind,hs,Result.andThen_ok,Sem.run_pure,Oper.upon_skip]
 exact hn φ undef w' (.tuple .nil) H ev
theorem GE{place:Nat→Option (Nat×Nat)}{ρ:Operand→Value}:∀ {l:List (Nat×Operand)} {ps:List (Nat×Nat×O)},D8 f place l=some ps→
  (∀ p∈l,∀ y,cO f p.2=some y→RelV φ (y e) (ρ p.2))→RelP φ e place ps (l.map fun (i,x)=>(i,ρ x))
 |[],ps,hp,_=>by cases hp;exact .nil
 |(i,x)::l,ps,hp,hst=>by
  unfold D8 at hp
  split at hp
  ·rename_i off size hpl
   split at hp
   ·rename_i y hy
    split at hp
    ·rename_i r hr
     cases hp
     exact .cons hpl (hst (i,x) (by simp) y hy) (GE hr fun p hp=>hst p (by simp[hp]))
    ·cases hp
   ·cases hp
  ·cases hp
theorem J3{ρ:Operand→Value}:∀ {l:List Operand} {ys:List O},cOs f l=some ys→(∀ x∈l,∀ y,cO f x=some y→RelV φ (y e) (ρ x))→RelL φ (vals e ys) (l.map ρ)
 |[],ys,h,_=>by cases h;exact .nil
 |x::l,ys,h,hst=>by
  unfold cOs at h
  split at h
  ·rename_i y hy
   split at h
   ·rename_i r hr
    cases h
    exact .cons (hst x (by simp) y hy) (J3 hr fun x hx=>hst x (by simp[hx]))
   ·cases h
  ·cases h
theorem Mb{ρ:Operand→Value}{x:Option Operand}{y:Option O}(h:cOo f x=some y)(hst:∀ z,x=some z→∀ y,cO f z=some y→RelV φ (y e) (ρ z)):RelO φ e y (x.map ρ):=by
 unfold cOo at h
 split at h
 ·cases h;exact .none
 ·rename_i x
  split at h
  ·rename_i y hy;cases h;exact .some (hst x rfl y hy)
  ·cases h
def Tg(φ:Phi)(f:Fr)(e:Env)(ρ:Operand→Value)(op:Op):Prop:=∀ x∈op.operands.toList,∀ y,cO f x=some y→RelV φ (y e) (ρ x)
def ET(ty:TTy)(f:Fr)(e:Env)(E:Nat→Prop)(op:Op):Prop:=match kd ty op with
 |.p=>True
 |.a=>True
 |.r x=>∀ y,cO f x=some y→∀ b,blkOf (y e)=.ok b→¬ E b
 |.w _=>∀ b,¬ E b
 |.q=>∀ b,¬ E b
theorem Uj(hT:BN P ty)(H:RelW ty φ E h w){op:BinOp}{t yt:TypeId}{x y:Operand}{o:Oper}{a:Act}(ho:o.op=.binOp op t x y yt)(hst:Tg φ f e a.eval o.op)(hr:Pj ty f op t x y F e h=.ok v h'):CR P ty φ E h v h' o a w:=by
 have hx:execOp a.eval o=(do pure (.value (← A4 op t x y (a.eval x) (a.eval y)))):=by unfold execOp;rw[ho];rfl
 unfold Pj at hr
 obtain⟨ti,hti,hr⟩:=Ay hr
 obtain⟨x',y',hx',hy',hr⟩:=GO hr
 have r1:=hst x (by rw[ho];simp[Op.operands]) x' hx'
 have r2:=hst y (by rw[ho];simp[Op.operands]) y' hy'
 cases hk:ti.k with
 |int k=>
  rw[hk]at hr
  cases op with
  |add=>exact .of_gives hx (SW H r1 r2 hr)
  |sub=>exact .of_gives hx (OH H (.inl ⟨rfl,rfl⟩) r1 r2 hr)
  |mul=>exact .of_gives hx (OH H (.inr ⟨rfl,rfl⟩) r1 r2 hr)
  |quo=>exact .of_gives hx (Sm H r1 r2 hr)
  |rem=>exact .of_gives hx (S4 H r1 r2 hr)
  |and=>exact .of_gives hx (KN H (.inl ⟨rfl,rfl⟩) r1 r2 hr)
  |or=>exact .of_gives hx (KN H (.inr (.inl ⟨rfl,rfl⟩)) r1 r2 hr)
  |xor=>exact .of_gives hx (KN H (.inr (.inr ⟨rfl,rfl⟩)) r1 r2 hr)
  |shl=>exact .of_gives hx (S6 H r1 r2 hr)
  |shr=>exact .of_gives hx (S8 H r1 r2 hr)
  |andNot=>cases hr
  |eql=>exact .of_gives hx (FC H (.inl ⟨rfl,rfl⟩) r1 r2 hr)
  |neq=>exact .of_gives hx (FC H (.inr (.inl ⟨rfl,rfl⟩)) r1 r2 hr)
  |lss=>exact .of_gives hx (FC H (.inr (.inr (.inl ⟨rfl,rfl⟩))) r1 r2 hr)
  |leq=>exact .of_gives hx (FC H (.inr (.inr (.inr (.inl ⟨rfl,rfl⟩)))) r1 r2 hr)
  |gtr=>exact .of_gives hx (FC H (.inr (.inr (.inr (.inr (.inl ⟨rfl,rfl⟩))))) r1 r2 hr)
  |geq=>exact .of_gives hx (FC H (.inr (.inr (.inr (.inr (.inr ⟨rfl,rfl⟩))))) r1 r2 hr)
 |string=>
  rw[hk]at hr
  cases op with
  |add=>exact .of_gives hx (Se H r1 r2 hr)
  |eql=>exact .of_gives hx (FE H (.inl ⟨rfl,rfl⟩) r1 r2 hr)
  |neq=>exact .of_gives hx (FE H (.inr (.inl ⟨rfl,rfl⟩)) r1 r2 hr)
  |lss=>exact .of_gives hx (FE H (.inr (.inr (.inl ⟨rfl,rfl⟩))) r1 r2 hr)
  |gtr=>exact .of_gives hx (FE H (.inr (.inr (.inr (.inl ⟨rfl,rfl⟩)))) r1 r2 hr)
  |leq=>exact .of_gives hx (FE H (.inr (.inr (.inr (.inr (.inl ⟨rfl,rfl⟩))))) r1 r2 hr)
  |geq=>exact .of_gives hx (FE H (.inr (.inr (.inr (.inr (.inr ⟨rfl,rfl⟩))))) r1 r2 hr)
  |_=>cases hr
 |struct fs=>
  rw[hk]at hr
  simp only at hr
  cases hf:flatK ty 8 t with
  |none=>rw[hf]at hr;cases hr
  |some ks=>
   rw[hf]at hr
   have hag:ti.k.agg=true:=by rw[hk];rfl
   cases op with
   |eql=>exact .of_gives hx (Ha hT H (K:=⟨true,ks⟩) (.inl ⟨rfl,rfl⟩) hti hag hf rfl r1 r2 hr)
   |neq=>exact .of_gives hx (Ha hT H (K:=⟨true,ks⟩) (.inr ⟨rfl,rfl⟩) hti hag hf rfl r1 r2 hr)
   |_=>cases hr
 |arr n el=>
  rw[hk]at hr
  simp only at hr
  cases hf:flatK ty 8 t with
  |none=>rw[hf]at hr;cases hr
  |some ks=>
   rw[hf]at hr
   have hag:ti.k.agg=true:=by rw[hk];rfl
   cases op with
   |eql=>exact .of_gives hx (Ha hT H (K:=⟨true,ks⟩) (.inl ⟨rfl,rfl⟩) hti hag hf rfl r1 r2 hr)
   |neq=>exact .of_gives hx (Ha hT H (K:=⟨true,ks⟩) (.inr ⟨rfl,rfl⟩) hti hag hf rfl r1 r2 hr)
   |_=>cases hr
 |iface=>
  rw[hk]at hr
  have hr:(match KF y with|true=>(match op with|.eql=>G8 false x'|.neq=>G8 true x'|_=>oNo)|false=>oNo) F e h=.ok v h':=hr
  cases hn:KF y with
  |false=>rw[hn]at hr;cases hr
  |true=>
   rw[hn]at hr
   have hy:y=.const .nilIface:=by
    unfold KF at hn
    split at hn
    ·split at hn
     ·rfl
     ·cases hn
    ·cases hn
   subst hy
   cases op with
   |eql=>exact .of_gives hx (Lf H (.inl ⟨rfl,rfl⟩) (hT t ti hti) hk r1 hr)
   |neq=>exact .of_gives hx (Lf H (.inr ⟨rfl,rfl⟩) (hT t ti hti) hk r1 hr)
   |_=>cases hr
 |_=>
  rw[hk]at hr
  cases op with
  |eql=>exact .of_gives hx (Qe H (.inl ⟨rfl,rfl⟩) (hT t ti hti) hk r1 r2 hr)
  |neq=>exact .of_gives hx (Qe H (.inr ⟨rfl,rfl⟩) (hT t ti hti) hk r1 r2 hr)
  |_=>cases hr
end
end
noncomputable section
open Go
section
variable {P:Program}{ty:TTy}{φ:Phi}{E:Nat→Prop}{h h':Hp}{w:World}{F:CallF}{e:Env}{v:Value}{f:Fr}
theorem RelW.less(H:RelW ty φ E h w)(hE:∀ b,¬ E b){E':Nat→Prop}:RelW ty φ E' h w where
 dom:=H.dom
 inj:=fun i j p q ei ej _ _=>H.inj i j p q ei ej (hE i) (hE j)
 row:=fun i p hp _=>H.row i p hp (hE i)
 fresh:=H.fresh
 kind:=H.kind
 inp:=H.inp
theorem J4(hF:BM P ty F)(H:RelW ty φ E h w)(hE:∀ b,¬ E b){g:Nat}{args args':List Value}(ha:RelL φ args args')(hr:F g args h=.ok v h'){o:Oper}{a:Act}
  (hx:(execOp a.eval o).run P w=(callFunc g ⟨args'⟩).run P w):CR P ty φ E h v h' o a w:=by
 intro next Q hn
 obtain⟨⟨fn,hfn,hnm,hb⟩,hc⟩:=hF g args h v h' hr
 have hcall:(callFunc g ⟨args'⟩).run P w=.ok (.enter g ⟨args'⟩) w:=by
  have hnm':(fn.name == "runtime.NumGoroutine")=false:=by simpa using hnm
  simp only[callFunc,Sem.run_bind,run_program,Result.andThen_ok,hfn,hnm',Bool.false_eq_true,if_false,hb,Sem.run_pure,Sem.run_ite]
 unfold Oper.wp
 rw[hx,hcall,Oper.upon_enter]
 refine(hc φ w args' ha (H.less hE)).mono fun en w' ⟨v',ψ,he,hv,H',ev⟩=>?_
 subst he
 exact hn ψ v' w' hv (H'.less (fun _ h=>h)) ev
theorem QY(hF:BM P ty F)(H:RelW ty φ E h w)(hE:∀ b,¬ E b){g:Nat}{c:Call}(hc:c.callee=.value (.func g)){o:Oper}{a:Act}(ho:o.op=.call c){args:List O}
  (ha:RelL φ (vals e args) (c.args.toList.map a.eval))(hr:AE g args F e h=.ok v h'):CR P ty φ E h v h' o a w:=by
 unfold AE at hr
 rw[Br]at hr
 refine J4 hF H hE ha hr ?_
 have e1:c.args.map a.eval=⟨c.args.toList.map a.eval⟩:=by apply Array.ext';simp
 unfold execOp
 rw[ho]
 simp only[resolve,hc,e1,Act.eval,Deferred.ofValue,Sem.run_bind,Sem.run_pure,Result.andThen_ok,invoke]
 congr 2
 apply Array.ext';simp
theorem Gl(hF:BM P ty F)(H:RelW ty φ E h w)(hE:∀ b,¬ E b){x:Operand}{g:O}{c:Call}(hc:c.callee=.value x){o:Oper}{a:Act}(ho:o.op=.call c){args:List O}
  (hg:RelV φ (g e) (a.eval x))(ha:RelL φ (vals e args) (c.args.toList.map a.eval))(hr:Ap g args F e h=.ok v h'):CR P ty φ E h v h' o a w:=by
 unfold Ap at hr
 split at hr
 case h_2=>cases hr
 rename_i k first cap hge
 rw[hge]at hg
 rw[Br]at hr
 generalize hxe:a.eval x=xv at hg
 cases hg with
 |func _ h1 h2=>
  refine J4 hF H hE (h1.append (ha.append h2)) hr ?_
  have e1:c.args.map a.eval=⟨c.args.toList.map a.eval⟩:=by apply Array.ext';simp
  unfold execOp
  rw[ho]
  simp only[resolve,hc,e1,hxe,Deferred.ofValue,Sem.run_bind,Sem.run_pure,Result.andThen_ok,invoke]
  congr 2
  apply Array.ext';simp
theorem IY{name:String}:∀ {t:TTy} {ix:Nat→Nat} {u f:Nat},(u,f)∈t.meths name ix→∃ k ti,u=ix k∧t.get k=some ti∧findM name ti.ms=some f
 |.mt,ix,u,f,h=>by cases h
 |.nd t l r,ix,u,f,h=>by
  have sub:(u,f)∈l.meths name (fun k=>ix (Nat.succ (Nat.mul 2 k)))++r.meths name (fun k=>ix (Nat.succ (Nat.succ (Nat.mul 2 k))))→∃ k ti,u=ix k∧(TTy.nd t l r).get k=some ti∧findM name ti.ms=some f:=fun h=>by
   rcases List.mem_append.1 h with h|h
   ·obtain⟨k,ti,h1,h2,h3⟩:=IY h
    refine⟨Nat.succ (Nat.mul 2 k),ti,h1,?_,h3⟩
    show(match Nat.mod (Nat.mul 2 k) 2 with| 0=>l.get (Nat.div (Nat.mul 2 k) 2)|Nat.succ _=>r.get (Nat.div (Nat.mul 2 k) 2))=_
    have e1:Nat.mod (Nat.mul 2 k) 2=0:=by show(2 * k) % 2=0;omega
    have e2:Nat.div (Nat.mul 2 k) 2=k:=by show(2 * k) / 2=k;omega
    rw[e1,e2];exact h2
   ·obtain⟨k,ti,h1,h2,h3⟩:=IY h
    refine⟨Nat.succ (Nat.succ (Nat.mul 2 k)),ti,h1,?_,h3⟩
    show(match Nat.mod (Nat.succ (Nat.mul 2 k)) 2 with| 0=>l.get (Nat.div (Nat.succ (Nat.mul 2 k)) 2)|Nat.succ _=>r.get (Nat.div (Nat.succ (Nat.mul 2 k)) 2))=_
    have e1:Nat.mod (Nat.succ (Nat.mul 2 k)) 2=1:=by show(2 * k+1) % 2=1;omega
    have e2:Nat.div (Nat.succ (Nat.mul 2 k)) 2=k:=by show(2 * k+1) / 2=k;omega
    rw[e1,e2];exact h2
  unfold TTy.meths at h
  split at h
  ·rename_i g hg
   rcases List.mem_cons.1 h with h|h
   ·cases h
    cases t with
    |none=>cases hg
    |some ti=>exact⟨0,ti,rfl,rfl,hg⟩
   ·exact sub h
  ·exact sub h
theorem Kx{t f:Nat}:∀ {l:List (Nat×Nat)},Nu t l=some f→(t,f)∈l
 |[],h=>by cases h
 |(u,g)::l,h=>by
  have h:(bif Nat.beq u t then some g else Nu t l)=some f:=h
  cases hb:Nat.beq u t with
  |true=>
   rw[hb]at h
   cases h
   rw[Ae.1 hb];exact List.mem_cons_self
  |false=>
   rw[hb]at h
   exact List.mem_cons_of_mem _ (Kx h)
theorem ND(hT:BN P ty)(hF:BM P ty F)(H:RelW ty φ E h w)(hE:∀ b,¬ E b){recv:Operand}{name:String}{x:O}{c:Call}(hc:c.callee=.invoke recv name){o:Oper}{a:Act}(ho:o.op=.call c){args:List O}
  (hg:RelV φ (x e) (a.eval recv))(ha:RelL φ (vals e args) (c.args.toList.map a.eval))(hr:B2 (ty.meths name fun k=>k) x args F e h=.ok v h'):CR P ty φ E h v h' o a w:=by
 unfold B2 at hr
 split at hr
 case h_2=>cases hr
 rename_i t u hxe
 split at hr
 case h_2=>cases hr
 rename_i f hf
 rw[BB,Br]at hr
 rw[hxe]at hg
 generalize hxe':a.eval recv=xv at hg
 cases hg with
 |@iface _ _ u' hu=>
  obtain⟨k,ti,hk,h2,h3⟩:=IY (Kx hf)
  have hk:t=k:=hk
  subst hk
  have hm:=(hT t ti h2).ms name f h3 u' w
  refine J4 hF H hE (.cons hu ha) hr ?_
  have e1:c.args.map a.eval=⟨c.args.toList.map a.eval⟩:=by apply Array.ext';simp
  unfold execOp
  rw[ho]
  have e2:(#[Value.iface t u']++(⟨c.args.toList.map a.eval⟩:Array Value))[0]? =some (.iface t u'):=by simp
  have e3:(#[Value.iface t u']++(⟨c.args.toList.map a.eval⟩:Array Value)).extract 1 (#[Value.iface t u']++(⟨c.args.toList.map a.eval⟩:Array Value)).size=⟨c.args.toList.map a.eval⟩:=by apply Array.ext';simp;exact List.take_of_length_le (by simp)
  have e4: #[u']++(⟨c.args.toList.map a.eval⟩:Array Value)=⟨u'::c.args.toList.map a.eval⟩:=by apply Array.ext';simp
  simp only[resolve,hc,e1,hxe',Sem.run_bind,Sem.run_pure,Result.andThen_ok,invoke,e2,e3,callMethod,run_program,hm,e4]
theorem A2{b:Nat}{ob:Obj}(h1:w.heap[b]? =some ob)(h2:(match ob with|.cells .. =>true|_=>false)=false):(getObj b).run P w=.ok ob w:=by
 unfold getObj
 simp only[Sem.run,h1]
 cases ob<;>first|rfl|cases h2
theorem RelE.length:∀ {l:List Ent} {l':List MapEntry},RelE φ l l'→l'.length=l.length
 |_,_,.nil=>rfl
 |_,_,.cons _ _ t=>congrArg (· +1) t.length
theorem CE{r:Nat}{es:List Ent}{c:Nat}(hr:BG h r=.ok es c):h.bl.get r=.map es c:=by
 unfold BG Rw at hr
 split at hr
 ·cases hr;assumption
 ·cases hr
theorem RelW.entsAt(H:RelW ty φ E h w){r:Nat}{p:Pl}(hp:φ r=some p)(hE:¬ E r){es:List Ent}{c:Nat}(hr:BG h r=.ok es c):
  ∃ es',w.heap[p.blk]? =some (.map ⟨es'⟩ c)∧RelE φ es es':=by
 have:=H.row r p hp hE
 rw[CE hr]at this
 generalize w.heap[p.blk]? =o at this
 cases this with
 |map h=>exact⟨_,rfl,h⟩
theorem Qk(H:RelW ty φ E h w){x:O}{x':Value}{ats:Array TypeId}{t t' el:TypeId}(h0:ats[0]? =some t){ti:TI}(T:TyOk P t ti)(hk:ti.k=.slice el)(hx:RelV φ (x e) x')(hr:AP x F e h=.ok v h'):
  Av ty φ E h w v h' ((Builtin.len_ ats t' #[x']).run P w):=by
 unfold AP at hr
 split at hr
 case h_3=>cases hr
 case h_2=>
  rename_i r hxe
  rw[hxe]at hx
  cases hr
  obtain⟨d,hd,hkd⟩:=T.desc
  rw[hk]at hkd;cases hkd
  have key:(Builtin.len_ ats t' #[x']).run P w=.ok (goInt ((0:Nat):Int)) w:=by
   cases hx<;>simp only[Builtin.len_,h0,Sem.run_bind,hd,Result.andThen_ok,Sem.run_pure,List.getElem?_toArray,List.getElem?_cons_zero]
  rw[key];exact .same H (.int _ _)
 rename_i a n c hxe
 rw[hxe]at hx
 cases hr
 obtain⟨d,hd,hkd⟩:=T.desc
 rw[hk]at hkd;cases hkd
 have key:(Builtin.len_ ats t' #[x']).run P w=.ok (goInt n) w:=by
  cases hx<;>simp only[Builtin.len_,h0,Sem.run_bind,hd,Result.andThen_ok,Sem.run_pure,List.getElem?_toArray,List.getElem?_cons_zero]
 rw[key];exact .same H (.int _ _)
theorem QZ(H:RelW ty φ E h w){x:O}{x':Value}{ats:Array TypeId}{t t' el:TypeId}(h0:ats[0]? =some t){ti:TI}(T:TyOk P t ti)(hk:ti.k=.slice el)(hx:RelV φ (x e) x')(hr:G7 x F e h=.ok v h'):
  Av ty φ E h w v h' ((Builtin.cap_ ats t' #[x']).run P w):=by
 unfold G7 at hr
 split at hr
 case h_2=>cases hr
 rename_i hxe
 rw[hxe]at hx
 cases hr
 obtain⟨d,hd,hkd⟩:=T.desc
 rw[hk]at hkd;cases hkd
 have key:(Builtin.cap_ ats t' #[x']).run P w=.ok (goInt 0) w:=by
  cases hx<;>simp only[Builtin.cap_,h0,Sem.run_bind,hd,Result.andThen_ok,Sem.run_pure,List.getElem?_toArray,List.getElem?_cons_zero]<;>rfl
 rw[key];exact .same H (.int _ _)
theorem Qn(H:RelW ty φ E h w){x:O}{x':Value}{ats:Array TypeId}{t t':TypeId}(h0:ats[0]? =some t){ti:TI}(T:TyOk P t ti)(hk:ti.k=.string)(hx:RelV φ (x e) x')(hr:EN x F e h=.ok v h'):
  Av ty φ E h w v h' ((Builtin.len_ ats t' #[x']).run P w):=by
 unfold EN at hr
 split at hr
 case h_2=>cases hr
 rename_i s hxe
 rw[hxe]at hx
 rw[As,A9]at hr
 cases hr
 obtain⟨d,hd,hkd⟩:=T.desc
 rw[hk]at hkd;cases hkd
 obtain rfl:=hx.string_inv
 have key:(Builtin.len_ ats t' #[.string s]).run P w=.ok (goInt s.size) w:=by
  simp only[Builtin.len_,h0,Sem.run_bind,hd,Result.andThen_ok,Sem.run_pure,List.getElem?_toArray,List.getElem?_cons_zero]
 rw[key];exact .same H (.int _ _)
theorem Qi(H:RelW ty φ E h w){x:O}{x':Value}{ats:Array TypeId}{t t' kt el:TypeId}(h0:ats[0]? =some t){ti:TI}(T:TyOk P t ti)(hk:ti.k=.map kt el)(hx:RelV φ (x e) x')
  (hE:∀ r,x e=.map (some r)→¬ E r)(hr:Ie x F e h=.ok v h'):Av ty φ E h w v h' ((Builtin.len_ ats t' #[x']).run P w):=by
 obtain⟨d,hd,hkd⟩:=T.desc
 rw[hk]at hkd;cases hkd
 unfold Ie at hr
 split at hr
 ·rename_i hxe
  rw[hxe]at hx
  cases hr;cases hx
  have key:(Builtin.len_ ats t' #[.map none]).run P w=.ok (goInt 0) w:=by
   simp only[Builtin.len_,h0,Sem.run_bind,hd,Result.andThen_ok,Sem.run_pure,List.getElem?_toArray,List.getElem?_cons_zero]
  rw[key];exact .same H (.int _ _)
 ·rename_i r hxe
  rw[hxe]at hx
  cases hx with
  |@map _ p hp=>
   split at hr
   case h_2=>cases hr
   rename_i es c hes
   rw[As,A9]at hr
   cases hr
   obtain⟨es',hw,hrel⟩:=H.entsAt hp (hE r hxe) hes
   have key:(Builtin.len_ ats t' #[.map (some p.blk)]).run P w=.ok (goInt es.length) w:=by
    simp only[Builtin.len_,h0,Sem.run_bind,hd,Result.andThen_ok,Sem.run_pure,List.getElem?_toArray,List.getElem?_cons_zero,A2 hw rfl]
    rw[← hrel.length];rfl
   rw[key];exact .same H (.int _ _)
 ·cases hr
theorem SJ{x':Value}{ats:Array TypeId}{t t' el:TypeId}{n:Nat}(h0:ats[0]? =some t){ti:TI}(T:TyOk P t ti)(hk:ti.k=.arr n el):(Builtin.len_ ats t' #[x']).run P w=.ok (goInt n) w:=by
 obtain⟨d,hd,hkd⟩:=T.desc
 rw[hk]at hkd;cases hkd
 simp only[Builtin.len_,h0,Sem.run_bind,hd,Result.andThen_ok,Sem.run_pure,List.getElem?_toArray,List.getElem?_cons_zero]
theorem B5{b:Nat}{ob ob':Obj}(h1:w.heap[b]? =some ob)(h2:(match ob with|.cells .. =>true|_=>false)=false):
  (setObj b ob').run P w=.ok () {w with heap:=w.heap.setIfInBounds b ob'}:=by
 unfold setObj
 simp only[Sem.run,h1]
 cases ob<;>first|rfl|cases h2
theorem Cw(H:RelW ty φ E h w){r:Nat}{p:Pl}(hEr:¬ E r)(hp:φ r=some p)(hl:Live h r){o:Blk}{ob:Obj}{k:Hp→R}(hr:Bv h r o k=.ok v h')(hsh:ShapeLe (h.bl.get r) o)(hB:RelB ty φ p o (some ob)):
  ∃ h1,k h1=.ok v h'∧RelW ty φ E h1 {w with heap:=w.heap.setIfInBounds p.blk ob}∧Evo φ h w φ h1 {w with heap:=w.heap.setIfInBounds p.blk ob}:=by
 obtain⟨bl,h256,hbl,hk⟩:=CY hr
 have hlt:=(H.dom r p hp).2
 have e1:(w.heap.setIfInBounds p.blk ob).size=w.heap.size:=by simp
 have e2:∀ k,k≠p.blk→(w.heap.setIfInBounds p.blk ob)[k]? =w.heap[k]?:=fun k hk=>by
  rw[Array.getElem?_setIfInBounds,if_neg (Ne.symm hk)]
 have e3:(w.heap.setIfInBounds p.blk ob)[p.blk]? =some ob:=by rw[Array.getElem?_setIfInBounds,if_pos rfl,if_pos hlt]
 exact⟨_,hk,H.put hEr h256 hp hl hbl e1 e2 (by show RelB ty φ p o ((w.heap.setIfInBounds p.blk ob)[p.blk]?);rw[e3];exact hB),.put (H.notInp hp h256) hp hl hbl hsh e1 e2 rfl rfl rfl⟩
theorem Dj{r:Nat}{es:List Ent}{c:Nat}(hr:BG h r=.ok es c):Live h r:=by
 unfold Live;rw[CE hr];intro hd;cases hd
theorem KP(H:RelW ty φ E h w)(hE:∀ b,¬ E b){x:O}{x':Value}{ats:Array TypeId}{t t':TypeId}{ti:TI}(h0:ats[0]? =some t)(T:TyOk P t ti)(hx:RelV φ (x e) x')(hr:FB x F e h=.ok v h'):
  Av ty φ E h w v h' ((Builtin.clear_ ats t' #[x']).run P w):=by
 obtain⟨d,hd,_⟩:=T.desc
 unfold FB at hr
 split at hr
 ·rename_i hxe
  rw[hxe]at hx
  cases hr;cases hx
  have key:(Builtin.clear_ ats t' #[.map none]).run P w=.ok noRes w:=by
   simp only[Builtin.clear_,h0,Sem.run_bind,hd,Result.andThen_ok,Sem.run_pure,List.getElem?_toArray,List.getElem?_cons_zero];rfl
  rw[key];exact .same H (.tuple .nil)
 ·rename_i r hxe
  rw[hxe]at hx
  cases hx with
  |@map _ p hp=>
   split at hr
   case h_2=>cases hr
   rename_i es c hes
   obtain⟨es',hw,hrel⟩:=H.entsAt hp (hE r) hes
   obtain⟨h1,hk,H1,ev⟩:=Cw (ob:=.map #[] c) H (hE _) hp (Dj hes) hr (by rw[CE hes];exact .inr trivial) (.map .nil)
   cases hk
   have key:(Builtin.clear_ ats t' #[.map (some p.blk)]).run P w=.ok noRes {w with heap:=w.heap.setIfInBounds p.blk (.map #[] c)}:=by
    simp only[Builtin.clear_,h0,Sem.run_bind,hd,Result.andThen_ok,Sem.run_pure,List.getElem?_toArray,List.getElem?_cons_zero,A2 hw rfl,B5 hw rfl];rfl
   rw[key];exact⟨_,_,φ,rfl,.tuple .nil,H1,ev⟩
 ·cases hr
theorem O5(H:RelW ty φ E h w)(hE:∀ b,¬ E b){x:O}{x':Value}{ats:Array TypeId}{t t' el:TypeId}{ti ei:TI}(h0:ats[0]? =some t)(T:TyOk P t ti)(hk:ti.k=.slice el)(TE:TyOk P el ei)(hz:ei.zero.length=ei.size)
  (hx:RelV φ (x e) x')(hr:Id ei.zero x F e h=.ok v h'):Av ty φ E h w v h' ((Builtin.clear_ ats t' #[x']).run P w):=by
 obtain⟨d,hd,hkd⟩:=T.desc
 rw[hk]at hkd;cases hkd
 obtain⟨z,_,hzr,hzc,hzp⟩:=TE.zeroOk hz
 unfold Id at hr
 split at hr
 ·rename_i hxe
  rw[hxe]at hx
  cases hr;cases hx
  have key:(Builtin.clear_ ats t' #[.slice none 0 0]).run P w=.ok noRes w:=by
   simp only[Builtin.clear_,h0,Sem.run_bind,hd,Result.andThen_ok,Sem.run_pure,List.getElem?_toArray,List.getElem?_cons_zero];rfl
  rw[key];exact .same H (.tuple .nil)
 ·rename_i a n c hxe
  rw[hxe]at hx
  cases hx with
  |@slice _ a' _ _ c' hlc hs=>
   cases n with
   |zero=>
    cases hr
    have key:(Builtin.clear_ ats t' #[.slice (some a') 0 c']).run P w=.ok noRes w:=by
     simp only[Builtin.clear_,h0,Sem.run_bind,hd,Result.andThen_ok,Sem.run_pure,List.getElem?_toArray,List.getElem?_cons_zero];rfl
    rw[key];exact .same H (.tuple .nil)
   |succ n=>
    have hrel:RelL φ (Ao ei.zero (n+1)) (Ao ei.zero (n+1)):=Es (.plain hzp) (n+1)
    obtain⟨h1,w1,hk2,hrun,H1,ev⟩:=FH (P:=P) H hr (Gs hlc hs (Nat.succ_pos n)) hrel (hE _)
    cases hk2
    have hc:(Builtin.zeroCells z.cells (n+1)).toList=Ao ei.zero (n+1):=by rw[EG,hzc]
    have key:(Builtin.clear_ ats t' #[.slice (some a') (n+1) c']).run P w=.ok noRes w1:=by
     simp only[Builtin.clear_,h0,Sem.run_bind,hd,Result.andThen_ok,Sem.run_pure,List.getElem?_toArray,List.getElem?_cons_zero,hzr,hc,hrun];rfl
    rw[key];exact⟨_,_,φ,rfl,.tuple .nil,H1,ev⟩
 ·cases hr
theorem O4(H:RelW ty φ E h w)(hE:∀ b,¬ E b){x:O}{x':Value}{t el:TypeId}{ti ei:TI}(T:TyOk P t ti)(hk:ti.k=.slice el)(TE:TyOk P el ei)(he:ei.k=.int .u8)(hx:RelV φ (x e) x')(hr:KO x F e h=.ok v h'):
  Av ty φ E h w v h' ((convert t t x').run P w):=by
 obtain⟨d,hd,hkd⟩:=T.und
 rw[hk]at hkd;cases hkd
 obtain⟨d3,h3,k3⟩:=TE.und
 rw[he]at k3;cases k3
 unfold KO at hr
 split at hr
 case h_2=>cases hr
 rename_i a n c hxe
 rw[hxe]at hx
 have hx0:=hx
 cases hx with
 |@slice _ a' _ _ c' hlc hs=>
  split at hr
  case h_2=>cases hr
  rename_i ct s en hrow
  obtain⟨s1,s2,p,hp,hbl,hor⟩:=hs
  obtain⟨cs,tt,fr,hw,R⟩:=H.rowAt hp (hE _) hrow
  have hlive:Live h a.block:=by unfold Live;rw[Ba hrow];intro hd;cases hd
  obtain⟨bl,h256,hbl2,hk2⟩:=CY hr
  cases hk2
  let fr':Nat×Nat:=if fr.1 == fr.2 then(cs.size,cs.size+1)else(min fr.1 cs.size,max fr.2 (cs.size+1))
  let w':World:=w.freeze ⟨a'.block,cs.size,none⟩ 1
  have hf:∃ g:Obj→Obj,w'.heap=w.heap.modify p.blk g∧g (.cells cs tt fr)=.cells cs tt fr':=by
   obtain⟨lo,hi⟩:=fr
   refine⟨_,by show(w.freeze ⟨a'.block,cs.size,none⟩ 1).heap=_;unfold World.freeze;rw[if_neg Nat.one_ne_zero,hbl],rfl⟩
  obtain⟨g,hheap,hg⟩:=hf
  have e1:w'.heap.size=w.heap.size:=by rw[hheap];simp
  have e2:∀ k,k≠p.blk→w'.heap[k]? =w.heap[k]?:=fun k hk=>by
   rw[hheap,Array.getElem?_modify,if_neg (Ne.symm hk)]
  have e3:w'.heap[p.blk]? =some (.cells cs tt fr'):=by
   rw[hheap,Array.getElem?_modify,if_pos rfl,hw,Option.map_some,hg]
  have e4:w'.tape=w.tape∧w'.os=w.os∧w'.output=w.output:=by
   show(w.freeze ⟨a'.block,cs.size,none⟩ 1).tape=_∧(w.freeze ⟨a'.block,cs.size,none⟩ 1).os=_∧(w.freeze ⟨a'.block,cs.size,none⟩ 1).output=_
   unfold World.freeze
   rw[if_neg Nat.one_ne_zero]
   exact⟨rfl,rfl,rfl⟩
  have hB:RelB ty φ p (.cells ct s en) w'.heap[p.blk]?:=by
   rw[e3]
   refine .cells {R with loose:=.inl ?_}
   have:=R.firm (H.notInp hp h256)
   show fr'.1=fr'.2∨cs.size≤fr'.1
   refine .inr ?_
   simp only[fr']
   split
   ·exact Nat.le_refl _
   ·rename_i hne
    have hne':fr.1≠fr.2:=by simpa using hne
    rcases this with h|h
    ·exact absurd h hne'
    ·show cs.size≤min fr.1 cs.size
     omega
  have key:(convert t t (.slice (some a') n c')).run P w=.ok (.slice (some a') n c') w':=by
   have hsh:w.shape? a'.block=some (tt,cs.size):=by rw[hbl];simp[World.shape?,hw]
   simp only[convert,Sem.run_bind,run_underlying hd,run_underlying h3,Result.andThen_ok,beq_self_eq_true,markStringish,run_shape,hsh,run_freeze,Sem.run_pure]
   rfl
  rw[key]
  exact⟨_,w',φ,rfl,hx0,H.put (hE _) h256 hp hlive hbl2 e1 e2 hB,.put (H.notInp hp h256) hp hlive hbl2 (by rw[Ba hrow];exact .inr ⟨rfl,rfl⟩) e1 e2 e4.1 e4.2.1 e4.2.2⟩
end
end
noncomputable section
open Go
section
variable {P:Program}{ty:TTy}{φ:Phi}{E:Nat→Prop}{h h':Hp}{w:World}{F:CallF}{e:Env}{v:Value}{f:Fr}
theorem Jk(H:RelW ty φ E h w){o:Blk}{ob:Obj}(hr:El h o Gq=.ok v h')
  (hB:RelB ty (φ.put h.next {blk:=w.heap.size,off:=0,sz:=0,room:=0,es:=1}) {blk:=w.heap.size,off:=0,sz:=0,room:=0,es:=1} o (some ob)):
  Av ty φ E h w v h' (.ok (.pointer (some ⟨w.heap.size,0,none⟩)) {w with heap:=w.heap.push ob}):=by
 obtain⟨bl,hbl,hk⟩:=Dk hr
 cases hk
 let w':World:={w with heap:=w.heap.push ob}
 have hs:w'.heap.size=w.heap.size+1:=by simp[w']
 have hsame:∀ k,k<w.heap.size→w'.heap[k]? =w.heap[k]?:=fun k hk=>by
  show(w.heap.push _)[k]? =_
  rw[Array.getElem?_push_lt hk,Array.getElem?_eq_getElem hk]
 refine⟨_,w',φ.put h.next {blk:=w.heap.size,off:=0,sz:=0,room:=0,es:=1},rfl,He (Phi.put_self _ _ _) rfl,
  H.new hbl (by omega) (by show w.heap.size<_;omega) (fun j q e _=>by have:=(H.dom j q e).2;show _≠w.heap.size;omega) (fun k hk _=>hsame k hk) ?_,
  .made H hbl (Nat.le_refl _) (by omega) hsame rfl rfl rfl⟩
 have:w'.heap[w.heap.size]? =some ob:=by show(w.heap.push _)[w.heap.size]? =_;simp
 rw[this]
 exact hB
theorem PF(H:RelW ty φ E h w)(hE:∀ b,¬ E b){x:O}{x':Value}{t kt el:TypeId}{ti:TI}(T:TyOk P t ti)(hk:ti.k=.map kt el)(hx:RelV φ (x e) x')(hr:Gn x F e h=.ok v h'):
  Av ty φ E h w v h' ((Instr.range t x').run P w):=by
 obtain⟨d,hd,hkd⟩:=T.desc
 rw[hk]at hkd;cases hkd
 unfold Gn at hr
 split at hr
 ·rename_i hxe
  rw[hxe]at hx
  cases hx
  have key:(Instr.range t (.map none)).run P w=.ok (.pointer (some ⟨w.heap.size,0,none⟩)) {w with heap:=w.heap.push (.mapIter none 0 #[] 0)}:=by
   simp only[Instr.range,Sem.run_bind,hd,Result.andThen_ok,Sem.run_pure,run_newObj]
  rw[key]
  exact Jk H hr (.iter0 rfl)
 ·rename_i r hxe
  rw[hxe]at hx
  cases hx with
  |@map _ p hp=>
   split at hr
   case h_2=>cases hr
   rename_i es c hes
   obtain⟨es',hw,hrel⟩:=H.entsAt hp (hE r) hes
   have key:(Instr.range t (.map (some p.blk))).run P w=.ok (.pointer (some ⟨w.heap.size,0,none⟩)) {w with heap:=w.heap.push (.mapIter (some p.blk) c #[] c)}:=by
    simp only[Instr.range,Sem.run_bind,hd,Result.andThen_ok,A2 hw rfl,Sem.run_pure,run_newObj]
   rw[key]
   exact Jk H hr (.iter rfl (Phi.put_le H.none_next _ _ hp))
 ·cases hr
theorem HZ(n:Nat):∀ l:List Nat,Ow n l=l.contains n
 |[]=>rfl
 |x::l=>by
  unfold Ow
  rw[HZ n l,List.contains_cons]
  cases hb:Nat.beq x n with
  |true=>
   have:x=n:=Ae.1 hb
   subst this;simp
  |false=>
   have:¬ n=x:=fun h=>by rw[h,Nat.beq_refl]at hb;cases hb
   simp[this]
theorem Im(n:Nat):∀ l:List Nat,Il n l=l++[n]
 |[]=>rfl
 |x::l=>congrArg (x:: ·) (Im n l)
theorem LM{since:Nat}{seen:List Nat}:∀ {es:List Ent} {es':List MapEntry} {l:List Ent},RelE φ es es'→Jh since seen es=some l→
  ∃ l',RelE φ l l'∧es'.filter (fun e=> !seen.contains e.born)=l'∧l'.filter (fun e=>decide (e.born<since))=l'∧l'.filter (fun e=>decide (e.born≥since))=[]
 |_,_,l,.nil,h=>by cases h;exact⟨[],.nil,rfl,rfl,rfl⟩
 |_,_,l,.cons (b:=b) hk hv t,h=>by
  unfold Jh at h
  split at h
  ·rename_i r hr
   obtain⟨l',h1,h2,h3,h4⟩:=LM t hr
   rw[HZ]at h
   cases hm:seen.contains b with
   |true=>
    simp only[hm,cond_true]at h
    cases h
    exact⟨l',h1,by rw[List.filter_cons];simp only[hm,Bool.not_true,Bool.false_eq_true,if_false];exact h2,h3,h4⟩
   |false=>
    simp only[hm,cond_false]at h
    obtain⟨hb,h⟩:Nat.blt b since=true∧_=some l:=by
     cases hb:Nat.blt b since with
     |true=>rw[hb]at h;exact⟨rfl,h⟩
     |false=>rw[hb]at h;cases h
    cases h
    have hlt:=Aq.1 hb
    refine⟨_,.cons hk hv h1,by rw[List.filter_cons];simp only[hm,Bool.not_false,if_true];rw[h2],?_,?_⟩
    ·rw[List.filter_cons];simp[hlt,h3]
    ·rw[List.filter_cons];simp[Nat.not_le.2 hlt,h4]
  ·cases h
theorem G1{last:Nat}:∀ {es:List Ent} {es':List MapEntry},RelE φ es es'→es'.all (fun e=>decide (e.born≥last))=Da last es
 |_,_,.nil=>rfl
 |_,_,.cons (b:=b) hk hv t=>by
  unfold Da
  rw[List.all_cons,G1 t]
  cases hb:Nat.ble last b with
  |true=>simp[Ar.1 hb]
  |false=>
   have:¬ last≤b:=fun h=>by rw[Ar.2 h]at hb;cases hb
   simp[this]
theorem D2{b:Nat}{m:Option Nat}{s:Nat}{l:List Nat}{t:Nat}(hr:Di (h.bl.get b)=.ok m s l t):h.bl.get b=.iter m s l t:=by
 unfold Di at hr
 split at hr<;>first|(cases hr;assumption)|cases hr
theorem Uo{b m s t:Nat}(hr:Di (h.bl.get b)=.cur m s t):h.bl.get b=.cur m s t:=by
 unfold Di at hr
 split at hr<;>first|(cases hr;assumption)|cases hr
theorem TH{b m s t:Nat}{sn:Option (List Nat)}(hr:Di (h.bl.get b)=.pick m s t sn):h.bl.get b=.pick m s t sn:=by
 unfold Di at hr
 split at hr<;>first|(cases hr;assumption)|cases hr
theorem Lo:RelV φ (.tuple ⟨[.bool false]⟩) (.tuple #[.bool false]):=.tuple (.cons (.bool _) .nil)
theorem Qs(H:RelW ty φ E h w)(hE:∀ b,¬ E b){x:O}{x':Value}{t:TypeId}(hx:RelV φ (x e) x')(hr:Eo x F e h=.ok v h'):Av ty φ E h w v h' ((Instr.next x' false t).run P w):=by
 unfold Eo at hr
 split at hr
 case h_2=>cases hr
 rename_i a ha
 obtain⟨hb,hr⟩:=Aw hr
 obtain⟨a',rfl,hra⟩:=DI hx ha
 obtain⟨p,hp,rfl⟩:=hra.eq
 have hoff:a.off=0:=Ae.1 hb
 unfold LV at hr
 split at hr
 ·rename_i s l tl hit
  cases hr
  have hrow:=H.row a.block p hp (hE _)
  rw[D2 hit]at hrow
  generalize hw:w.heap[p.blk]? =ob at hrow
  cases hrow with
  |iter0 hp0=>
   have key:(Instr.next (.pointer (some ⟨p.blk,p.off+a.off,none⟩)) false t).run P w=.ok (.tuple #[.bool false]) w:=by
    rw[hp0,hoff]
    simp only[Instr.next,Sem.run_bind,A2 hw rfl,Result.andThen_ok,Sem.run_pure]
   rw[key];exact .same H Lo
 ·rename_i m since seen last hit
  have hrow:=H.row a.block p hp (hE _)
  rw[D2 hit]at hrow
  generalize hw:w.heap[p.blk]? =ob at hrow
  cases hrow with
  |@iter _ q _ _ _ hp0 hq=>
   split at hr
   case h_2=>cases hr
   rename_i es c hes
   obtain⟨es',hwm,hrel⟩:=H.entsAt hq (hE m) hes
   rw[hp0,hoff]
   have hmatch:∃ k:R,k=.ok v h'∧(!(⟨seen⟩:Array Nat).isEmpty && !(⟨es'⟩:Array MapEntry).isEmpty && (⟨es'⟩:Array MapEntry).all (fun e=>decide (e.born≥last)))=false∧
     k=(match Jh since seen es with
      |some []=>Q3 h
      |some [x]=>Bv h a.block (.iter (some m) since (Il x.born seen) c) fun h=>.ok (.tuple ⟨[.bool true,x.key,x.val]⟩) h
      |_=>.no):=by
    have hall:(⟨es'⟩:Array MapEntry).all (fun e=>decide (e.born≥last))=Da last es:=by
     rw[← G1 hrel];simp
    cases seen with
    |nil=>exact⟨_,hr,by simp,rfl⟩
    |cons s0 sl=>
     cases hrel with
     |nil=>exact⟨_,hr,by simp,rfl⟩
     |cons hk hv tl=>
      simp only at hr
      rw[hall]
      generalize hy:Da last _=y at hr ⊢
      cases y with
      |true=>cases hr
      |false=>exact⟨_,hr,by simp,rfl⟩
   obtain⟨k,hk,hstop,rfl⟩:=hmatch
   cases hl:Jh since seen es with
   |none=>rw[hl]at hk;cases hk
   |some l=>
    rw[hl]at hk
    obtain⟨l',q1,q2,q3,q4⟩:=LM hrel hl
    have f1:(⟨es'⟩:Array MapEntry).filter (fun e=> !(⟨seen⟩:Array Nat).contains e.born)=⟨l'⟩:=by
     rw[← q2];apply Array.ext';simp
    have f2:(⟨l'⟩:Array MapEntry).filter (fun e=>decide (e.born<since))=⟨l'⟩:=by
     apply Array.ext';rw[Array.toList_filter];exact q3
    have f3:(⟨l'⟩:Array MapEntry).filter (fun e=>decide (e.born≥since))= #[]:=by
     apply Array.ext';rw[Array.toList_filter];exact q4
    cases q1 with
    |nil=>
     cases hk
     have key:(Instr.next (.pointer (some ⟨p.blk,0,none⟩)) false t).run P w=.ok (.tuple #[.bool false]) w:=by
      simp only[Instr.next,Sem.run_bind,A2 hw rfl,Result.andThen_ok,A2 hwm rfl,hstop,Bool.false_eq_true,if_false,f1,f2,f3]
      simp[run_choose,Question.forced]
     have:p.off+a.off=0:=by omega
     rw[show(0:Nat)+0=0 from rfl,key];exact .same H Lo
    |cons hkk hvv tl=>
     cases tl with
     |cons _ _ _=>cases hk
     |nil=>
      rename_i k0 k1 v0 v1 b0
      have hlive:Live h a.block:=by unfold Live;rw[D2 hit];intro hd;cases hd
      simp only at hk
      obtain⟨h1,hk2,H1,ev⟩:=Cw (ob:=.mapIter (some q.blk) since ⟨seen++[b0]⟩ c) H (hE _) hp hlive hk (by rw[D2 hit];exact .inr trivial) (by rw[Im];exact .iter hp0 hq)
      cases hk2
      have key:(Instr.next (.pointer (some ⟨p.blk,0,none⟩)) false t).run P w=.ok (.tuple #[.bool true,k1,v1]) {w with heap:=w.heap.setIfInBounds p.blk (.mapIter (some q.blk) since ⟨seen++[b0]⟩ c)}:=by
       have hset:=B5 (P:=P) (ob':=.mapIter (some q.blk) since ⟨seen++[b0]⟩ c) hw rfl
       simp only[Instr.next,Sem.run_bind,A2 hw rfl,Result.andThen_ok,A2 hwm rfl,hstop,Bool.false_eq_true,if_false,f1,f2,f3]
       simp[run_choose,Question.forced,hset]
      rw[key];exact⟨_,_,φ,rfl,.tuple (.cons (.bool _) (.cons hkk (.cons hvv .nil))),H1,ev⟩
 ·cases hr
 ·cases hr
 ·rename_i m s last hit
  have hrow:=H.row a.block p hp (hE _)
  rw[TH hit]at hrow
  cases hrow
theorem LI:∀ l:List Nat,N6 l=l.getLast?
 |[]=>rfl
 |[x]=>rfl
 |x::y::l=>by
  show N6 (y::l)=_
  rw[LI (y::l)];rfl
theorem IB{n:Nat}:∀ {es:List Ent} {es':List MapEntry} {x:Ent},RelE φ es es'→EL n es=some x→∃ x',es'.find? (fun e=>e.born == n)=some x'∧RelV φ x.key x'.key∧RelV φ x.val x'.val
 |_,_,x,.nil,h=>by cases h
 |_,_,x,.cons (k':=k') (v':=v') (b:=b) hk hv t,h=>by
  unfold EL at h
  rw[List.find?_cons]
  cases hb:Nat.beq b n with
  |true=>
   simp only[hb,cond_true]at h
   cases h
   have:b=n:=Ae.1 hb
   subst this
   refine⟨⟨k',v',b⟩,?_,hk,hv⟩
   simp only[beq_self_eq_true]
  |false=>
   simp only[hb,cond_false]at h
   have hne:(b == n)=false:=by
    rw[beq_eq_false_iff_ne];intro he;rw[he,Nat.beq_refl]at hb;cases hb
   obtain⟨x',q1,q2⟩:=IB t h
   exact⟨x',by simp only[hne];exact q1,q2⟩
theorem Me(H:RelW ty φ E h w)(hE:∀ b,¬ E b){m s last:Nat}{q:Pl}(hq:φ m=some q)(hr:Fw m s last h=.ok v h'):
  h'=h∧∃ (es':List MapEntry) (c:Nat) (en':MapEntry) (k0 v0:Value),w.heap[q.blk]? =some (.map ⟨es'⟩ c)∧c=last∧(⟨es'⟩:Array MapEntry).find? (fun e=>e.born == s)=some en'∧v=.tuple ⟨[k0,v0]⟩∧RelV φ k0 en'.key∧RelV φ v0 en'.val:=by
 unfold Fw at hr
 split at hr
 case h_2=>cases hr
 rename_i es c hes
 obtain⟨hc,hr⟩:=Aw hr
 split at hr
 case h_2=>cases hr
 rename_i en hen
 cases hr
 obtain⟨es',hwm,hrel⟩:=H.entsAt hq (hE m) hes
 obtain⟨en',q1,q2,q3⟩:=IB hrel hen
 exact⟨rfl,es',c,en',_,_,hwm,Ae.1 hc,by rw[← q1];simp,rfl,q2,q3⟩
theorem O6(H:RelW ty φ E h w)(hE:∀ b,¬ E b){x:O}{x':Value}(hx:RelV φ (x e) x')(hr:Gm x F e h=.ok v h'):Av ty φ E h w v h' ((Instr.entry x').run P w):=by
 unfold Gm at hr
 split at hr
 case h_2=>cases hr
 rename_i a ha
 obtain⟨hb,hr⟩:=Aw hr
 obtain⟨a',rfl,hra⟩:=DI hx ha
 obtain⟨p,hp,rfl⟩:=hra.eq
 have hoff:a.off=0:=Ae.1 hb
 have main:∀ {m s last:Nat} {q:Pl} {sn:Nat} {seen:List Nat},φ m=some q→p.off=0→w.heap[p.blk]? =some (.mapIter (some q.blk) sn ⟨seen⟩ last)→seen.getLast? =some s→Fw m s last h=.ok v h'→
   Av ty φ E h w v h' ((Instr.entry (.pointer (some ⟨p.blk,p.off+a.off,none⟩))).run P w):=by
  intro m s last q sn seen hq hp0 hw hl hr
  obtain⟨rfl,es',c,en',k0,v0,hwm,rfl,hfind,rfl,q2,q3⟩:=Me H hE hq hr
  have hback:(⟨seen⟩:Array Nat).back? =some s:=by
   rw[← hl];simp[Array.back?_eq_getElem?,List.getLast?_eq_getElem?]
  rw[hp0,hoff]
  have key:(Instr.entry (.pointer (some ⟨p.blk,0,none⟩))).run P w=.ok (.tuple #[en'.key,en'.val]) w:=by
   simp only[Instr.entry,Sem.run_bind,A2 hw rfl,Result.andThen_ok,hback,A2 hwm rfl,bne_self_eq_false,Bool.false_eq_true,if_false,hfind,Sem.run_pure]
  rw[key];exact .same H (.tuple (.cons q2 (.cons q3 .nil)))
 unfold Px at hr
 split at hr
 ·rename_i m since seen last hit
  have hrow:=H.row a.block p hp (hE _)
  rw[D2 hit]at hrow
  generalize hw:w.heap[p.blk]? =ob at hrow
  cases hrow with
  |@iter _ q _ _ _ hp0 hq=>
   split at hr
   case h_2=>cases hr
   rename_i st hst
   exact main hq hp0 hw (by rw[← LI];exact hst) hr
 ·rename_i m st last hit
  have hrow:=H.row a.block p hp (hE _)
  rw[Uo hit]at hrow
  generalize hw:w.heap[p.blk]? =ob at hrow
  cases hrow with
  |cur hp0 hq hl=>exact main hq hp0 hw hl hr
 ·cases hr
end
end
noncomputable section
open Go
section
variable {P:Program}{ty:TTy}{φ:Phi}{E:Nat→Prop}{h h':Hp}{w:World}{F:CallF}{e:Env}{v:Value}{f:Fr}
theorem Hm{t:Nat}{k:KS→OpF}(hr:wKey ty t k F e h=.ok v h'):∃ ti kt el K,ty.get t=some ti∧ti.k=.map kt el∧KeyOf P ty kt K∧k K F e h=.ok v h':=by
 unfold wKey at hr
 obtain⟨ti,hti,hr⟩:=Ay hr
 cases hk:ti.k with
 |map kt el=>
  simp only[hk]at hr
  obtain⟨ki,hki,hr⟩:=Ay hr
  cases hf:flatK ty 8 kt with
  |none=>rw[hf]at hr;cases hr
  |some ks=>
   rw[hf]at hr
   exact⟨ti,kt,el,⟨ki.k.agg,ks⟩,hti,hk,⟨⟨ki,hki,rfl⟩,hf⟩,hr⟩
 |_=>simp only[hk]at hr;cases hr
theorem KeyOf.und(hT:BN P ty){t:Nat}{K:KS}(hK:KeyOf P ty t K):∃ d,P.underlying t=some d:=by
 obtain⟨ti,hti,_⟩:=hK.ti
 obtain⟨d,hd,_⟩:=(hT t ti hti).und
 exact⟨d,hd⟩
theorem KL{t:Nat}{ti:TI}(T:TyOk P t ti){kt el:Nat}(hk:ti.k=.map kt el):P.underlying t=some (.map kt el):=by
 obtain⟨d,hd,hkd⟩:=T.und
 rw[hk]at hkd;cases hkd
 exact hd
theorem CW{ok:Bool}{u:Value}{b:Bool}(hr:B0 ok u b h=.ok v h'):h'=h∧v=(if ok then .tuple ⟨[u,.bool b]⟩else u):=by
 unfold B0 at hr
 cases ok<;>simp only[BB]at hr<;>cases hr<;>exact⟨rfl,rfl⟩
theorem B8{ok:Bool}{u u':Value}{b:Bool}(hu:RelV φ u u'):RelV φ (if ok then .tuple ⟨[u,.bool b]⟩else u) (if ok then .tuple #[u',.bool b]else u'):=by
 cases ok
 ·exact hu
 ·exact .tuple (.cons hu (.cons (.bool b) .nil))
theorem NF(hT:BN P ty)(H:RelW ty φ E h w){t kt el:Nat}{ti ei:TI}(T:TyOk P t ti)(hk:ti.k=.map kt el)(TE:TyOk P el ei)(hz:ei.zero.length=ei.size){z:Value}(hzv:zeroV ei=some z){K:KS}(hK:KeyOf P ty kt K)
  {ok:Bool}{x ix:O}{x' ix':Value}(hx:RelV φ (x e) x')(hix:RelV φ (ix e) ix')(hE:∀ r,x e=.map (some r)→¬ E r)(hr:A5 K z ok x ix F e h=.ok v h'):
  Av ty φ E h w v h' ((Instr.lookup t x' ix' ok).run P w):=by
 obtain⟨z0,hz0,hzr,_,hzp⟩:=TE.zeroOk hz
 rw[hzv]at hz0;cases hz0
 have hzrel:RelV φ z z:=by
  unfold zeroV at hzv
  split at hzv
  ·cases hzv;exact .agg (.plain hzp)
  ·split at hzv
   ·rename_i u hu
    cases hzv
    rw[hu]at hzp
    simp only[List.all_cons,List.all_nil,Bool.and_true]at hzp
    exact .plain hzp
   ·cases hzv
 obtain⟨kd,hkd⟩:=hK.und hT
 have hu:=KL T hk
 unfold A5 HY at hr
 split at hr
 case h_2=>cases hr
 rename_i hfit
 have he:=F1 hfit hix
 subst he
 split at hr
 ·rename_i hxe
  rw[hxe]at hx;cases hx
  obtain⟨rfl,rfl⟩:=CW hr
  have hf:(Instr.findKey kt (ix e) []).run P w=.ok none w:=B4 hkd (by simp[Instr.findAsking])
  have key:(Instr.lookup t (.map none) (ix e) ok).run P w=.ok (if ok then .tuple #[z,.bool false]else z) w:=by
   simp only[Instr.lookup,Sem.run_bind,run_underlying hu,Result.andThen_ok,Sem.run_pure,hK.check hT hfit,hf,hzr]
  rw[key];exact .same H (B8 hzrel)
 ·rename_i r hxe
  rw[hxe]at hx
  cases hx with
  |@map _ p hp=>
   split at hr
   case h_2=>cases hr
   rename_i es c hes
   obtain⟨es',hw,hrel⟩:=H.entsAt hp (hE r hxe) hes
   have hget:=A2 (P:=P) hw rfl
   split at hr
   ·rename_i en hfe
    obtain⟨rfl,rfl⟩:=CW hr
    obtain⟨j,u',hfa,hu'⟩:=ID hT hK hfit w 0 hrel hfe
    have hf:=B4 hkd hfa
    have key:(Instr.lookup t (.map (some p.blk)) (ix e) ok).run P w=.ok (if ok then .tuple #[u',.bool true]else u') w:=by
     simp only[Instr.lookup,Sem.run_bind,run_underlying hu,Result.andThen_ok,Sem.run_pure,hget,hK.check hT hfit,hf]
    rw[key];exact .same H (B8 hu')
   ·rename_i hfe
    obtain⟨rfl,rfl⟩:=CW hr
    have hfa:=ID hT hK hfit w 0 hrel hfe
    have hf:=B4 hkd hfa
    have key:(Instr.lookup t (.map (some p.blk)) (ix e) ok).run P w=.ok (if ok then .tuple #[z,.bool false]else z) w:=by
     simp only[Instr.lookup,Sem.run_bind,run_underlying hu,Result.andThen_ok,Sem.run_pure,hget,hK.check hT hfit,hf,hzr]
    rw[key];exact .same H (B8 hzrel)
   ·cases hr
 ·cases hr
theorem M3(H:RelW ty φ E h w){t xt:Nat}{ti:TI}(T:TyOk P t ti)(hk:ti.k≠.iface)(hz:ti.zero.length=ti.size){z:Value}(hzv:zeroV ti=some z){ok:Bool}{x:O}{x':Value}(hx:RelV φ (x e) x')(hr:FA t ok z x F e h=.ok v h'):
  Av ty φ E h w v h' ((Instr.typeAssert x' xt t ok).run P w):=by
 obtain⟨z0,hz0,hzr,_,hzp⟩:=T.zeroOk hz
 rw[hzv]at hz0;cases hz0
 have hzrel:RelV φ z z:=by
  unfold zeroV at hzv
  split at hzv
  ·cases hzv;exact .agg (.plain hzp)
  ·split at hzv
   ·rename_i u hu
    cases hzv
    rw[hu]at hzp
    simp only[List.all_cons,List.all_nil,Bool.and_true]at hzp
    exact .plain hzp
   ·cases hzv
 obtain⟨d,hd,hkd⟩:=T.und
 unfold FA at hr
 split at hr
 ·rename_i hxe
  rw[hxe]at hx
  cases hx with
  |nilIface=>
   cases ok with
   |false=>cases hr
   |true=>
    obtain⟨rfl,rfl⟩:=CW hr
    have key:(Instr.typeAssert .nilIface xt t true).run P w=.ok (if true then .tuple #[z,.bool false]else z) w:=by
     simp only[Instr.typeAssert,Sem.run_bind,run_underlying hd,Result.andThen_ok]
     cases d<;>first|(simp only[if_true,Sem.run_bind,hzr,Result.andThen_ok,Sem.run_pure];done)|exact absurd rfl (hkd.noIface hk _)
    rw[key];exact .same H (B8 hzrel)
 ·rename_i u q hxe
  rw[hxe]at hx
  cases hx with
  |@iface _ _ q' hq=>
   split at hr
   ·rename_i hb
    have hb:=Ae.1 hb
    subst hb
    obtain⟨rfl,rfl⟩:=CW hr
    have key:(Instr.typeAssert (.iface u q') xt u ok).run P w=.ok (if ok then .tuple #[q',.bool true]else q') w:=by
     simp only[Instr.typeAssert,Sem.run_bind,run_underlying hd,Result.andThen_ok]
     cases d<;>first|(simp only[if_true,Sem.run_pure];done)|exact absurd rfl (hkd.noIface hk _)
    rw[key];exact .same H (B8 hq)
   ·rename_i hb
    have hne:¬ u=t:=fun he=>by rw[Ae.2 he]at hb;cases hb
    cases ok with
    |false=>cases hr
    |true=>
     obtain⟨rfl,rfl⟩:=CW hr
     have key:(Instr.typeAssert (.iface u q') xt t true).run P w=.ok (if true then .tuple #[z,.bool false]else z) w:=by
      simp only[Instr.typeAssert,Sem.run_bind,run_underlying hd,Result.andThen_ok]
      cases d<;>first|(simp only[if_neg hne,if_true,Sem.run_bind,hzr,Result.andThen_ok,Sem.run_pure];done)|exact absurd rfl (hkd.noIface hk _)
     rw[key];exact .same H (B8 hzrel)
 ·cases hr
theorem Ih(hT:BN P ty)(H:RelW ty φ E h w)(hE:∀ b,¬ E b){t kt el:Nat}{ti:TI}(T:TyOk P t ti)(hk:ti.k=.map kt el){K:KS}(hK:KeyOf P ty kt K)
  {m key x:O}{m' key' x':Value}(hm:RelV φ (m e) m')(hkey:RelV φ (key e) key')(hx:RelV φ (x e) x')(hr:Au K m key x F e h=.ok v h'):
  Pb ty φ E h w v h' ((Instr.mapUpdate t m' key' x').run P w):=by
 obtain⟨kd,hkd⟩:=hK.und hT
 have hu:=KL T hk
 unfold Au at hr
 simp only[BB]at hr
 unfold OU at hr
 split at hr
 case h_2=>cases hr
 rename_i hfit
 obtain⟨he,hkk⟩:=IE hfit hkey
 subst he
 split at hr
 case h_2=>cases hr
 rename_i r hme
 rw[hme]at hm
 cases hm with
 |@map _ p hp=>
  split at hr
  case h_2=>cases hr
  rename_i es c hes
  obtain⟨es',hw,hrel⟩:=H.entsAt hp (hE r) hes
  have hget:=A2 (P:=P) hw rfl
  split at hr
  ·rename_i es2 hse
   obtain⟨j,u',en,hfa,hen,hek,hrel2⟩:=Hg hT hK hfit hx hkk w 0 hrel hse
   have hf:=B4 hkd hfa
   obtain⟨h1,hk1,H1,ev⟩:=Cw (ob:=.map ⟨es'.modify (0+j) fun en=>{en with key:=key e,val:=x'}⟩ c) H (hE _) hp (Dj hes) hr (by rw[CE hes];exact .inr trivial) (.map (by rw[Nat.zero_add];exact hrel2))
   cases hk1
   refine⟨rfl,_,?_,H1,ev⟩
   have hstay:(Instr.keyThatStays (((⟨es'⟩:Array MapEntry)[0+j]?.map (·.key)).getD (key e)) (key e)).run P w=.ok (key e) w:=by
    have:(⟨es'⟩:Array MapEntry)[0+j]? =some en:=by rw[Nat.zero_add];simpa using hen
    rw[this]
    simp only[Option.map_some,Option.getD_some,hek]
    unfold Instr.keyThatStays
    rw[Oi hfit 9999]
    simp
   have hset:=B5 (P:=P) (ob':=.map ⟨es'.modify (0+j) fun en=>{en with key:=key e,val:=x'}⟩ c) hw rfl
   simp only[Instr.mapUpdate,Sem.run_bind,run_underlying hu,Result.andThen_ok,hget,hK.check hT hfit,hf,hstay]
   rw[← hset];congr 3
   apply Array.ext'
   simp
  ·rename_i hse
   have hfa:=Hg hT hK hfit hx hkk w 0 hrel hse
   have hf:=B4 hkd hfa
   obtain⟨h1,hk1,H1,ev⟩:=Cw (ob:=.map ⟨es'++[{key:=key e,val:=x',born:=c}]⟩ (c+1)) H (hE _) hp (Dj hes) hr (by rw[CE hes];exact .inr trivial) (.map (by rw[Nc];exact RelE.append (.cons hkk hx .nil) hrel))
   cases hk1
   refine⟨rfl,_,?_,H1,ev⟩
   have hset:=B5 (P:=P) (ob':=.map ⟨es'++[{key:=key e,val:=x',born:=c}]⟩ (c+1)) hw rfl
   simp only[Instr.mapUpdate,Sem.run_bind,run_underlying hu,Result.andThen_ok,hget,hK.check hT hfit,hf]
   rw[← hset];congr 2
   simp
  ·cases hr
theorem NA(hT:BN P ty)(H:RelW ty φ E h w)(hE:∀ b,¬ E b){ats:Array TypeId}{t' t kt el:Nat}{ti:TI}(h0:ats[0]? =some t)(T:TyOk P t ti)(hk:ti.k=.map kt el){K:KS}(hK:KeyOf P ty kt K)
  {m key:O}{m' key':Value}(hm:RelV φ (m e) m')(hkey:RelV φ (key e) key')(hr:oDelete K m key F e h=.ok v h'):
  Av ty φ E h w v h' ((Builtin.delete_ ats t' #[m',key']).run P w):=by
 obtain⟨kd,hkd⟩:=hK.und hT
 have hu:=KL T hk
 unfold oDelete HV at hr
 split at hr
 case h_2=>cases hr
 rename_i hfit
 obtain⟨he,hkk⟩:=IE hfit hkey
 subst he
 split at hr
 case h_2=>cases hr
 rename_i r hme
 rw[hme]at hm
 cases hm with
 |@map _ p hp=>
  split at hr
  case h_2=>cases hr
  rename_i es c hes
  obtain⟨es',hw,hrel⟩:=H.entsAt hp (hE r) hes
  have hget:=A2 (P:=P) hw rfl
  split at hr
  case h_2=>cases hr
  rename_i es2 hde
  rcases Nl hT hK hfit w 0 hrel hde with ⟨hfa,rfl⟩|⟨j,u',hfa,hrel2⟩
  ·have hf:=B4 hkd hfa
   obtain⟨h1,hk1,H1,ev⟩:=Cw (ob:=.map ⟨es'⟩ c) H (hE _) hp (Dj hes) hr (by rw[CE hes];exact .inr trivial) (.map hrel)
   cases hk1
   have key:(Builtin.delete_ ats t' #[.map (some p.blk),key e]).run P w=.ok noRes {w with heap:=w.heap.setIfInBounds p.blk (.map ⟨es'⟩ c)}:=by
    simp only[Builtin.delete_,h0,List.getElem?_toArray,List.getElem?_cons_zero,List.getElem?_cons_succ,Sem.run_bind,run_underlying hu,Result.andThen_ok,Sem.run_pure,hget,hK.check hT hfit,hf,B5 hw rfl];rfl
   rw[key];exact⟨_,_,φ,rfl,.tuple .nil,H1,ev⟩
  ·have hf:=B4 hkd hfa
   obtain⟨h1,hk1,H1,ev⟩:=Cw (ob:=.map ⟨es'.eraseIdx j⟩ c) H (hE _) hp (Dj hes) hr (by rw[CE hes];exact .inr trivial) (.map hrel2)
   cases hk1
   have herase:(⟨es'⟩:Array MapEntry).eraseIdxIfInBounds (0+j)=⟨es'.eraseIdx j⟩:=by
    apply Array.ext'
    rw[Nat.zero_add]
    unfold Array.eraseIdxIfInBounds
    split
    ·simp
    ·rename_i hj
     simp only
     rw[List.eraseIdx_of_length_le (by simpa using hj)]
   have key:(Builtin.delete_ ats t' #[.map (some p.blk),key e]).run P w=.ok noRes {w with heap:=w.heap.setIfInBounds p.blk (.map ⟨es'.eraseIdx j⟩ c)}:=by
    simp only[Builtin.delete_,h0,List.getElem?_toArray,List.getElem?_cons_zero,List.getElem?_cons_succ,Sem.run_bind,run_underlying hu,Result.andThen_ok,Sem.run_pure,hget,hK.check hT hfit,hf,herase,B5 hw rfl];rfl
   rw[key];exact⟨_,_,φ,rfl,.tuple .nil,H1,ev⟩
end
end
noncomputable section
open Go
section
variable {P:Program}{ty:TTy}{φ:Phi}{E:Nat→Prop}{h h':Hp}{w:World}{F:CallF}{e:Env}{v:Value}{f:Fr}
theorem OO{op:Op}{x:Operand}(hk:kd ty op=.r x)(hE:ET ty f e E op){y:O}(hy:cO f x=some y):∀ a,y e=.pointer (some a)→¬ E a.block:=by
 intro a ha
 unfold ET at hE
 rw[hk]at hE
 exact hE y hy a.block (by rw[ha];rfl)
theorem Hj{op:Op}{x:Operand}(hk:kd ty op=.w x)(hE:ET ty f e E op):∀ b,¬ E b:=by
 unfold ET at hE;rw[hk]at hE;exact hE
theorem DQ{op:Op}(hk:kd ty op=.q)(hE:ET ty f e E op):∀ b,¬ E b:=by
 unfold ET at hE;rw[hk]at hE;exact hE
theorem Pf{args:List O}{x:O}(hs:args=[x]){l:List Operand}{ρ:Operand→Value}(ha:RelL φ (vals e args) (l.map ρ)):∃ x',l.map ρ=[x']∧RelV φ (x e) x':=by
 subst hs
 generalize l.map ρ=r at ha
 cases ha with|cons h t=>cases t;exact⟨_,rfl,h⟩
theorem Kl{args:List O}{x y:O}(hs:args=[x,y]){l:List Operand}{ρ:Operand→Value}(ha:RelL φ (vals e args) (l.map ρ)):∃ x' y',l.map ρ=[x',y']∧RelV φ (x e) x'∧RelV φ (y e) y':=by
 subst hs
 generalize l.map ρ=r at ha
 cases ha with|cons h t=>cases t with|cons h2 t=>cases t;exact⟨_,_,rfl,h,h2⟩
theorem Pn(hT:BN P ty)(H:RelW ty φ E h w){b:Builtin}{c:Call}(hc:c.callee=.builtin b){o:Oper}{a:Act}(ho:o.op=.call c){args:List O}
  (ha:RelL φ (vals e args) (c.args.toList.map a.eval))(hE:(∀ b,¬ E b)∨b=.min∨b=.max∨(b=.len∧∀ x,args=[x]→∀ t ti,c.argTypes[0]? =some t→ty.get t=some ti→(∃ k q,ti.k=.map k q)→∀ r,x e=.map (some r)→¬ E r))
  (hr:GX ty b c.argTypes.toList args F e h=.ok v h'):CR P ty φ E h v h' o a w:=by
 have earr:c.args.map a.eval=⟨c.args.toList.map a.eval⟩:=by apply Array.ext';simp
 have hat0:∀ t l,c.argTypes.toList=t::l→c.argTypes[0]? =some t:=fun t l hl=>by rw[← Array.getElem?_toList,hl];rfl
 have hat1:∀ t t2 l,c.argTypes.toList=t::t2::l→c.argTypes[1]? =some t2:=fun t t2 l hl=>by rw[← Array.getElem?_toList,hl];rfl
 have hex:∀ s:Sem Value,(∀ cs,builtin b c.argTypes o.type cs ⟨c.args.toList.map a.eval⟩=(do pure (.value (← s))))→∀ {vv:Value} {hh:Hp},Av ty φ E h w vv hh (s.run P w)→CR P ty φ E h vv hh o a w:=by
  intro s hs vv hh hg
  refine .of_gives (s:=s) ?_ hg
  unfold execOp
  rw[ho]
  simp only[resolve,hc,earr]
  exact hs _
 cases b with
 |len=>
  match args,ha,hE,hr with
  |[x],ha,hE,hr=>
   obtain⟨x',he,hx⟩:=Pf rfl ha
   cases hl:c.argTypes.toList with
   |nil=>rw[hl]at hr;cases hr
   |cons t l=>
    rw[hl]at hr
    obtain⟨ti,hti,hr⟩:=Ay hr
    have h0:=hat0 t l hl
    cases hk:ti.k with
    |slice el=>simp only[hk]at hr;exact hex _ (fun cs=>by rw[he];rfl) (Qk H h0 (hT t ti hti) hk hx hr)
    |string=>simp only[hk]at hr;exact hex _ (fun cs=>by rw[he];rfl) (Qn H h0 (hT t ti hti) hk hx hr)
    |map k q=>
     simp only[hk]at hr
     refine hex _ (fun cs=>by rw[he];rfl) (Qi H h0 (hT t ti hti) hk hx (fun r hxr=>?_) hr)
     rcases hE with hE|hE|hE|⟨_,hE⟩
     ·exact hE r
     ·cases hE
     ·cases hE
     ·exact hE x rfl t ti h0 hti ⟨k,q,hk⟩ r hxr
    |arr n el=>
     simp only[hk]at hr
     refine hex (Builtin.len_ c.argTypes o.type #[x']) (fun cs=>by rw[he];rfl) ?_
     rw[SJ h0 (hT t ti hti) hk]
     have:v=.int .i64 (.ofNat n)∧h'=h:=by
      unfold oMove kV at hr;rw[C1]at hr;cases hr;exact⟨rfl,rfl⟩
     obtain⟨rfl,rfl⟩:=this
     exact .same H (.int _ _)
    |_=>simp only[hk]at hr;cases hr
  |[],_,_,hr=>cases hr
  |_::_::_,_,_,hr=>cases hr
 |cap=>
  match args,ha,hr with
  |[x],ha,hr=>
   obtain⟨x',he,hx⟩:=Pf rfl ha
   cases hl:c.argTypes.toList with
   |nil=>rw[hl]at hr;cases hr
   |cons t l=>
    rw[hl]at hr
    obtain⟨ti,hti,hr⟩:=Ay hr
    have h0:=hat0 t l hl
    cases hk:ti.k with
    |slice el=>simp only[hk]at hr;exact hex (Builtin.cap_ c.argTypes o.type #[x']) (fun cs=>by rw[he];rfl) (QZ H h0 (hT t ti hti) hk hx hr)
    |_=>simp only[hk]at hr;cases hr
  |[],_,hr=>cases hr
  |_::_::_,_,hr=>cases hr
 |min=>
  match args,ha,hr with
  |[x,y],ha,hr=>
   obtain⟨x',y',he,hx,hy⟩:=Kl rfl ha
   exact hex _ (fun cs=>by rw[he];rfl) (St (F:=F) H hx hy hr)
  |[],_,hr=>cases hr
  |[_],_,hr=>cases hr
  |_::_::_::_,_,hr=>cases hr
 |max=>
  match args,ha,hr with
  |[x,y],ha,hr=>
   obtain⟨x',y',he,hx,hy⟩:=Kl rfl ha
   exact hex _ (fun cs=>by rw[he];rfl) (Sr (F:=F) H hx hy hr)
  |[],_,hr=>cases hr
  |[_],_,hr=>cases hr
  |_::_::_::_,_,hr=>cases hr
 |copy=>
  have hE':∀ b,¬ E b:=by
   rcases hE with h|h|h|⟨h,_⟩
   ·exact h
   all_goals cases h
  match args,ha,hr with
  |[d,x],ha,hr=>
   obtain⟨d',x',he,hd,hx⟩:=Kl rfl ha
   cases hl:c.argTypes.toList with
   |nil=>rw[hl]at hr;cases hr
   |cons t l=>
    rw[hl]at hr
    obtain⟨ti,hti,hr⟩:=Ay hr
    cases hk:ti.k with
    |slice el=>
     simp only[hk]at hr
     obtain⟨ei,hei,hr⟩:=Ay hr
     exact hex _ (fun cs=>by rw[he];rfl) (Qc H hE' (hat0 t l hl) (hT t ti hti) hk (hT el ei hei) hd hx hr)
    |_=>simp only[hk]at hr;cases hr
  |[],_,hr=>cases hr
  |[_],_,hr=>cases hr
  |_::_::_::_,_,hr=>cases hr
 |clear=>
  have hE':∀ b,¬ E b:=by
   rcases hE with h|h|h|⟨h,_⟩
   ·exact h
   all_goals cases h
  match args,ha,hr with
  |[x],ha,hr=>
   obtain⟨x',he,hx⟩:=Pf rfl ha
   cases hl:c.argTypes.toList with
   |nil=>rw[hl]at hr;cases hr
   |cons t l=>
    rw[hl]at hr
    obtain⟨ti,hti,hr⟩:=Ay hr
    cases hk:ti.k with
    |slice el=>
     simp only[hk]at hr
     obtain⟨ei,hei,hr⟩:=Ay hr
     obtain⟨hz,hr⟩:=FR hr
     exact hex _ (fun cs=>by rw[he];rfl) (O5 H hE' (hat0 t l hl) (hT t ti hti) hk (hT el ei hei) hz hx hr)
    |map k q=>
     simp only[hk]at hr
     exact hex _ (fun cs=>by rw[he];rfl) (KP H hE' (hat0 t l hl) (hT t ti hti) hx hr)
    |_=>simp only[hk]at hr;cases hr
  |[],_,hr=>cases hr
  |_::_::_,_,hr=>cases hr
 |append=>
  have hE':∀ b,¬ E b:=by
   rcases hE with h|h|h|⟨h,_⟩
   ·exact h
   all_goals cases h
  match args,ha,hr with
  |[s,x],ha,hr=>
   obtain⟨s',x',he,hs,hx⟩:=Kl rfl ha
   cases hl:c.argTypes.toList with
   |nil=>rw[hl]at hr;cases hr
   |cons t l=>
    cases l with
    |nil=>rw[hl]at hr;cases hr
    |cons t2 l=>
     rw[hl]at hr
     obtain⟨ti,hti,hr⟩:=Ay hr
     obtain⟨xi,hxi,hr⟩:=Ay hr
     have h0:=hat0 t _ hl
     have h1:=hat1 t t2 l hl
     cases hk:ti.k with
     |slice en=>
      cases hk2:xi.k with
      |slice q=>
       simp only[hk,hk2]at hr
       obtain⟨ei,hei,hr⟩:=Ay hr
       cases hsz:ei.size with
       |zero=>simp only[hsz]at hr;cases hr
       |succ n=>
        simp only[hsz]at hr
        obtain⟨hz,hr⟩:=FR hr
        have hs2:n.succ=ei.size:=hsz.symm
        rw[hs2]at hr
        exact hex _ (fun cs=>by rw[he];rfl) (Ia H hE' h0 h1 (hT t ti hti) hk (hT t2 xi hxi) (.inl ⟨q,hk2⟩) hei (hT en ei hei) (by omega) hz hs hx hr)
      |string=>
       simp only[hk,hk2]at hr
       obtain⟨ei,hei,hr⟩:=Ay hr
       cases hsz:ei.size with
       |zero=>simp only[hsz]at hr;cases hr
       |succ n=>
        simp only[hsz]at hr
        obtain⟨hz,hr⟩:=FR hr
        have hs2:n.succ=ei.size:=hsz.symm
        rw[hs2]at hr
        exact hex _ (fun cs=>by rw[he];rfl) (Ia H hE' h0 h1 (hT t ti hti) hk (hT t2 xi hxi) (.inr hk2) hei (hT en ei hei) (by omega) hz hs hx hr)
      |int q=>
       simp only[hk,hk2]at hr
       obtain⟨ei,hei,hr⟩:=Ay hr
       cases hsz:ei.size with
       |zero=>simp only[hsz]at hr;cases hr
       |succ n=>
        simp only[hsz]at hr
        obtain⟨hz,hr⟩:=FR hr
        have hs2:n.succ=ei.size:=hsz.symm
        rw[hs2]at hr
        exact hex _ (fun cs=>by rw[he];rfl) (LY H hE' h0 h1 (hT t ti hti) hk (hT t2 xi hxi) hk2 hei (hT en ei hei) (by omega) hz hs hx hr)
      |_=>simp only[hk,hk2]at hr;cases hr
     |_=>simp only[hk]at hr;cases hr
  |[],_,hr=>cases hr
  |[_],_,hr=>cases hr
  |_::_::_::_,_,hr=>cases hr
 |delete=>
  have hE':∀ b,¬ E b:=by
   rcases hE with h|h|h|⟨h,_⟩
   ·exact h
   all_goals cases h
  match args,ha,hr with
  |[m,key],ha,hr=>
   obtain⟨m',key',he,hm,hkey⟩:=Kl rfl ha
   cases hl:c.argTypes.toList with
   |nil=>rw[hl]at hr;cases hr
   |cons t l=>
    rw[hl]at hr
    obtain⟨ti,kt,el,K,hti,hk,hK,hr⟩:=Hm (k:=fun ks=>oDelete ks m key) hr
    exact hex _ (fun cs=>by rw[he];rfl) (NA hT H hE' (hat0 t l hl) (hT t ti hti) hk hK hm hkey hr)
  |[],_,hr=>cases hr
  |[_],_,hr=>cases hr
  |_::_::_::_,_,hr=>cases hr
 |_=>cases hr
theorem VX(hT:BN P ty)(hF:BM P ty F)(H:RelW ty φ E h w){o:Oper}{a:Act}(hst:Tg φ f e a.eval o.op)(hE:ET ty f e E o.op)(hr:opC ty f o.op F e h=.ok v h'):
  CR P ty φ E h v h' o a w:=by
 cases ho:o.op with
 |move x=>
  rw[ho]at hr hst
  obtain⟨x',hx',hr⟩:=Bb hr
  exact .of_gives (s:=pure (a.eval x)) (by unfold execOp;rw[ho];rfl) (Lc H (hst x (by simp[Op.operands]) x' hx') hr)
 |assign x=>
  rw[ho]at hr hst
  obtain⟨x',hx',hr⟩:=Bb hr
  exact .of_gives (s:=pure (a.eval x)) (by unfold execOp;rw[ho];rfl) (Lc H (hst x (by simp[Op.operands]) x' hx') hr)
 |pick c x y=>
  rw[ho]at hr hst
  obtain⟨c',hc',hr⟩:=Bb hr
  obtain⟨x',y',hx',hy',hr⟩:=GO hr
  refine .of_gives (s:=(do pure (if ← asBool (a.eval c)then a.eval x else a.eval y))) ?_ (Qv H (hst c (by simp[Op.operands]) c' hc') (hst x (by simp[Op.operands]) x' hx') (hst y (by simp[Op.operands]) y' hy') hr)
  unfold execOp;rw[ho];simp
 |alloc t=>
  rw[ho]at hr hst
  obtain⟨ti,hti,hr⟩:=Ay hr
  obtain⟨hz,hr⟩:=FR hr
  cases hc:BX .mt 0 ti.zero with
  |none=>rw[hc]at hr;cases hr
  |some c=>
   rw[hc]at hr
   exact .of_gives (by unfold execOp;rw[ho]) (O0 H (hT t ti hti) hz hc hr)
 |box t x=>
  rw[ho]at hr hst
  obtain⟨x',hx',hr⟩:=Bb hr
  exact .of_gives (by unfold execOp;rw[ho]) (Sb H (hst x (by simp[Op.operands]) x' hx') hr)
 |build t parts=>
  rw[ho]at hr hst
  obtain⟨ti,hti,hr⟩:=Ay hr
  obtain⟨hz,hr⟩:=FR hr
  have hps:∀ p∈parts.toList,∀ y,cO f p.2=some y→RelV φ (y e) (a.eval p.2):=fun p hp=>hst p.2 (by simp only[Op.operands,List.mem_map];exact⟨p,hp,rfl⟩)
  cases hk:ti.k with
  |struct fs=>
   simp only[hk]at hr
   cases hp:D8 f (Ij fs) parts.toList with
   |none=>rw[hp]at hr;cases hr
   |some ps=>
    rw[hp]at hr
    exact .of_gives (by unfold execOp;rw[ho]) (M5 H (hT t ti hti) hk hz (ps':=parts.map fun (i,x)=>(i,a.eval x)) (by simpa using GE (ρ:=a.eval) hp hps) hr)
  |arr n el=>
   simp only[hk]at hr
   obtain⟨ei,hei,hr⟩:=Ay hr
   cases hp:D8 f (fun i=>some (Nat.mul i ei.size,ei.size)) parts.toList with
   |none=>rw[hp]at hr;cases hr
   |some ps=>
    rw[hp]at hr
    exact .of_gives (by unfold execOp;rw[ho]) (M4 H (hT t ti hti) hk (hT el ei hei) hz (ps':=parts.map fun (i,x)=>(i,a.eval x)) (by simpa using GE (ρ:=a.eval) hp hps) hr)
  |_=>simp only[hk]at hr;cases hr
 |buildSlice t len parts=>
  rw[ho]at hr hst
  obtain⟨ti,hti,hr⟩:=Ay hr
  have hps:∀ p∈parts.toList,∀ y,cO f p.2=some y→RelV φ (y e) (a.eval p.2):=fun p hp=>hst p.2 (by simp only[Op.operands,List.mem_map];exact⟨p,hp,rfl⟩)
  cases hk:ti.k with
  |slice el=>
   simp only[hk]at hr
   obtain⟨ei,hei,hr⟩:=Ay hr
   obtain⟨hz,hr⟩:=FR hr
   cases hp:D8 f (fun i=>some (Nat.mul i ei.size,ei.size)) parts.toList with
   |none=>rw[hp]at hr;cases hr
   |some ps=>
    rw[hp]at hr
    simp only at hr
    cases hb:Nat.ble (Nat.mul len ei.size) 16777216 with
    |false=>rw[hb]at hr;cases hr
    |true=>
     rw[hb]at hr
     exact .of_gives (by unfold execOp;rw[ho]) (Ic H (hT t ti hti) hk (hT el ei hei) hz (Ar.1 hb) (ps':=parts.map fun (i,x)=>(i,a.eval x)) (by simpa using GE (ρ:=a.eval) hp hps) hr)
  |_=>simp only[hk]at hr;cases hr
 |load t x=>
  rw[ho]at hr hst hE
  obtain⟨ti,hti,hr⟩:=Ay hr
  obtain⟨x',hx',hr⟩:=Bb hr
  have hx:=hst x (by simp[Op.operands]) x' hx'
  cases hk:ti.k.agg with
  |true=>rw[hk]at hr;exact .of_gives (by unfold execOp;rw[ho]) (PE H (hT t ti hti) hk hx (OO rfl hE hx') hr)
  |false=>rw[hk]at hr;exact .of_gives (by unfold execOp;rw[ho]) (PC H (hT t ti hti) hk hx (OO rfl hE hx') hr)
 |store t x y=>
  rw[ho]at hr hst hE
  obtain⟨ti,hti,hr⟩:=Ay hr
  obtain⟨x',y',hx',hy',hr⟩:=GO hr
  exact .of_skips (by unfold execOp;rw[ho]) (PG H (hT t ti hti) (hst x (by simp[Op.operands]) x' hx') (hst y (by simp[Op.operands]) y' hy') (fun a _=>Hj (x:=x) rfl hE _) hr)
 |nilCheck x=>
  rw[ho]at hr hst
  obtain⟨x',hx',hr⟩:=Bb hr
  obtain⟨hv,rfl,hne⟩:=Sx H (hst x (by simp[Op.operands]) x' hx') hr
  refine .of_gives (s:=pure (a.eval x)) ?_ (.same H hv)
  unfold execOp;rw[ho]
  obtain⟨h1,h2,h3,h4⟩:=hne
  simp only
  generalize a.eval x=z at h1 h2 h3 h4 ⊢
  cases z<;>first|rfl|(exact absurd rfl h2)|(exact absurd rfl h3)|skip
 |binOp op t x y yt=>rw[ho]at hr hst;exact Uj hT H ho (by rw[ho];exact hst) hr
 |unOp op t x=>
  rw[ho]at hr hst
  obtain⟨ti,hti,hr⟩:=Ay hr
  obtain⟨x',hx',hr⟩:=Bb hr
  have hx:=hst x (by simp[Op.operands]) x' hx'
  have hex:execOp a.eval o=(do pure (.value (← Op.unary op (a.eval x)))):=by unfold execOp;rw[ho]
  cases op with
  |not=>exact .of_gives hex (Sz H hx (by revert hr;cases ti.k<;>exact id))
  |neg=>
   cases hk:ti.k with
   |int k=>simp only[hk]at hr;exact .of_gives hex (Sv H hx hr)
   |flt=>simp only[hk]at hr;exact .of_gives hex (Qr H hx hr)
   |_=>simp only[hk]at hr;cases hr
  |plus=>revert hr;cases ti.k<;>intro hr<;>cases hr
  |xor=>
   cases hk:ti.k with
   |int k=>cases k<;>simp only[hk]at hr<;>first|cases hr;done|exact .of_gives hex (Si H hx hr)
   |_=>simp only[hk]at hr;cases hr
 |fieldAddr t x i=>
  rw[ho]at hr hst
  obtain⟨ti,hti,hr⟩:=Ay hr
  obtain⟨x',hx',hr⟩:=Bb hr
  have hx:=hst x (by simp[Op.operands]) x' hx'
  cases hk:ti.k with
  |struct fs=>
   simp only[hk]at hr
   cases hn:nth fs i with
   |none=>rw[hn]at hr;cases hr
   |some q=>
    obtain⟨off,s,ft⟩:=q
    rw[hn]at hr
    cases s with
    |zero=>cases hr
    |succ s=>exact .of_gives (by unfold execOp;rw[ho]) (JA H (hT t ti hti) hk hn hx hr)
  |_=>simp only[hk]at hr;cases hr
 |field t x i=>
  rw[ho]at hr hst
  obtain⟨ti,hti,hr⟩:=Ay hr
  obtain⟨x',hx',hr⟩:=Bb hr
  have hx:=hst x (by simp[Op.operands]) x' hx'
  cases hk:ti.k with
  |struct fs=>
   simp only[hk]at hr
   cases hn:nth fs i with
   |none=>rw[hn]at hr;cases hr
   |some q=>
    obtain⟨off,s,ft⟩:=q
    rw[hn]at hr
    obtain⟨fi,hfi,hr⟩:=Ay hr
    exact .of_gives (by unfold execOp;rw[ho]) (O8 H (hT t ti hti) hk hn (hT ft fi hfi) hx hr)
  |_=>simp only[hk]at hr;cases hr
 |indexAddr t x ix=>
  rw[ho]at hr hst
  obtain⟨ti,hti,hr⟩:=Ay hr
  obtain⟨x',y',hx',hy',hr⟩:=GO hr
  have hx:=hst x (by simp[Op.operands]) x' hx'
  have hy:=hst ix (by simp[Op.operands]) y' hy'
  cases hk:ti.k with
  |arr n el=>
   simp only[hk]at hr
   obtain⟨ei,hei,hr⟩:=Ay hr
   exact .of_gives (by unfold execOp;rw[ho]) (NC H (hT t ti hti) hk (hT el ei hei) hx hy hr)
  |slice el=>
   simp only[hk]at hr
   obtain⟨ei,hei,hr⟩:=Ay hr
   exact .of_gives (by unfold execOp;rw[ho]) (So H (hT t ti hti) hk (hT el ei hei) hx hy hr)
  |_=>simp only[hk]at hr;cases hr
 |index t x ix=>
  rw[ho]at hr hst
  obtain⟨ti,hti,hr⟩:=Ay hr
  obtain⟨x',y',hx',hy',hr⟩:=GO hr
  have hx:=hst x (by simp[Op.operands]) x' hx'
  have hy:=hst ix (by simp[Op.operands]) y' hy'
  cases hk:ti.k with
  |arr n el=>
   simp only[hk]at hr
   obtain⟨ei,hei,hr⟩:=Ay hr
   exact .of_gives (by unfold execOp;rw[ho]) (VU H (hT t ti hti) hk (hT el ei hei) hx hy hr)
  |string=>
   simp only[hk]at hr
   exact .of_gives (by unfold execOp;rw[ho]) (O3 H (hT t ti hti) hk hx hy hr)
  |_=>simp only[hk]at hr;cases hr
 |extract x i=>
  rw[ho]at hr hst
  obtain⟨x',hx',hr⟩:=Bb hr
  exact .of_gives (by unfold execOp;rw[ho]) (La H (hst x (by simp[Op.operands]) x' hx') hr)
 |makeInterface t x=>
  rw[ho]at hr hst
  obtain⟨ti,hti,hr⟩:=Ay hr
  obtain⟨x',hx',hr⟩:=Bb hr
  have hx:=hst x (by simp[Op.operands]) x' hx'
  have hne:ti.k≠.iface:=by intro hk;rw[hk]at hr;cases hr
  have hr':DV t x' F e h=.ok v h':=by revert hr hne;cases ti.k<;>intro hr hne<;>first|exact hr|exact absurd rfl hne
  exact .of_gives (by unfold execOp;rw[ho]) (PA H (hT t ti hti) hne hx hr')
 |makeFunc fn first cap=>
  rw[ho]at hr hst
  simp only[opC]at hr
  cases h1:cOs f first.toList with
  |none=>simp only[h1]at hr;cases hr
  |some fs=>
   cases h2:cOs f cap.toList with
   |none=>simp only[h1,h2]at hr;cases hr
   |some cs=>
    simp only[h1,h2]at hr
    refine .of_gives (s:=Instr.makeFunc fn (first.map a.eval) (cap.map a.eval)) (by unfold execOp;rw[ho]) ?_
    have e1:first.map a.eval=⟨first.toList.map a.eval⟩:=by apply Array.ext';simp
    have e2:cap.map a.eval=⟨cap.toList.map a.eval⟩:=by apply Array.ext';simp
    rw[e1,e2]
    exact Qg H (J3 h1 fun x hx=>hst x (by simp[Op.operands]at hx ⊢;exact .inl hx)) (J3 h2 fun x hx=>hst x (by simp[Op.operands]at hx ⊢;exact .inr hx)) hr
 |makeMap t r=>
  rw[ho]at hr hst
  cases r with
  |some _=>cases hr
  |none=>exact .of_gives (by unfold execOp;rw[ho];rfl) (Sp (F:=F) (e:=e) H (t:=t) hr)
 |makeSlice t l c=>
  rw[ho]at hr hst
  obtain⟨ti,hti,hr⟩:=Ay hr
  cases hk:ti.k with
  |slice el=>
   simp only[hk]at hr
   obtain⟨ei,hei,hr⟩:=Ay hr
   obtain⟨hz,hr⟩:=FR hr
   obtain⟨l',c',hl',hc',hr⟩:=GO hr
   exact .of_gives (by unfold execOp;rw[ho]) (Qo H (hT t ti hti) hk (hT el ei hei) hz (hst l (by simp[Op.operands]) l' hl') (hst c (by simp[Op.operands]) c' hc') hr)
  |_=>simp only[hk]at hr;cases hr
 |sliceToArrayPointer t x=>
  rw[ho]at hr hst
  obtain⟨ti,hti,hr⟩:=Ay hr
  cases hk:ti.k with
  |arr n el=>
   simp only[hk]at hr
   cases n with
   |zero=>cases hr
   |succ n=>
    obtain⟨x',hx',hr⟩:=Bb hr
    exact .of_gives (by unfold execOp;rw[ho]) (SZ H (hT t ti hti) hk (Nat.succ_pos _) (hst x (by simp[Op.operands]) x' hx') hr)
  |_=>simp only[hk]at hr;cases hr
 |slice t x lo hi mx=>
  rw[ho]at hr hst
  obtain⟨ti,hti,hr⟩:=Ay hr
  obtain⟨x',hx',hr⟩:=Bb hr
  have hx:=hst x (by simp[Op.operands]) x' hx'
  cases h1:cOo f lo with
  |none=>simp only[h1]at hr;cases hr
  |some lo'=>
   cases h2:cOo f hi with
   |none=>simp only[h1,h2]at hr;cases hr
   |some hi'=>
    cases h3:cOo f mx with
    |none=>simp only[h1,h2,h3]at hr;cases hr
    |some mx'=>
     simp only[h1,h2,h3]at hr
     have r1:RelO φ e lo' (lo.map a.eval):=Mb h1 fun z hz=>hst z (by rw[hz];simp[Op.operands])
     have r2:RelO φ e hi' (hi.map a.eval):=Mb h2 fun z hz=>hst z (by rw[hz];simp[Op.operands])
     have r3:RelO φ e mx' (mx.map a.eval):=Mb h3 fun z hz=>hst z (by rw[hz];simp[Op.operands])
     cases hk:ti.k with
     |string=>
      simp only[hk]at hr
      cases mx' with
      |some _=>cases hr
      |none=>
       have hcut:FD x' lo' hi' F e h=.ok v h':=hr
       have hmx:mx=none:=by
        cases mx with
        |none=>rfl
        |some z=>cases r3
       subst hmx
       exact .of_gives (by unfold execOp;rw[ho];rfl) (M9 H (hT t ti hti) hk hx r1 r2 hcut)
     |slice el=>
      simp only[hk]at hr
      obtain⟨ei,hei,hr⟩:=Ay hr
      exact .of_gives (by unfold execOp;rw[ho]) (Sk H (hT t ti hti) hk hei (hT el ei hei) hx r1 r2 r3 hr)
     |arr n el=>
      simp only[hk]at hr
      obtain⟨ei,hei,hr⟩:=Ay hr
      exact .of_gives (by unfold execOp;rw[ho]) (M7 H (hT t ti hti) hk (hT el ei hei) hx r1 r2 r3 hr)
     |_=>simp only[hk]at hr;cases hr
 |convert src dst x=>
  rw[ho]at hr hst hE
  obtain⟨si,hsi,hr⟩:=Ay hr
  obtain⟨di,hdi,hr⟩:=Ay hr
  obtain⟨x',hx',hr⟩:=Bb hr
  have hx:=hst x (by simp[Op.operands]) x' hx'
  have hex:execOp a.eval o=(do pure (.value (← convert src dst (a.eval x)))):=by unfold execOp;rw[ho]
  obtain⟨ds,hds,ks⟩:=(hT src si hsi).und
  obtain⟨dd,hdd,kd⟩:=(hT dst di hdi).und
  cases hk:di.k with
  |int k=>
   cases hk2:si.k with
   |int k2=>
    simp only[hk,hk2]at hr
    obtain⟨q,n,hxe,hg⟩:=Qb (P:=P) H hx hr
    rw[hk]at kd;cases kd
    rw[hk2]at ks;cases ks
    refine .of_gives hex ?_
    rw[hxe]
    have:(convert src dst (.int q n)).run P w=(Conv.intToInt k n).run P w:=by
     simp only[convert,Sem.run_bind,run_underlying hds,run_underlying hdd,Result.andThen_ok]
    rw[this];exact hg
   |_=>simp only[hk,hk2]at hr;cases hr
  |flt=>
   cases hk2:si.k with
   |int k2=>
    simp only[hk,hk2]at hr
    obtain⟨q,n,hxe,hg⟩:=TB (P:=P) H hx hr
    rw[hk]at kd;cases kd
    rw[hk2]at ks;cases ks
    refine .of_gives hex ?_
    rw[hxe]
    have:(convert src dst (.int q n)).run P w=(Conv.intToFloat .f64 n).run P w:=by
     simp only[convert,Sem.run_bind,run_underlying hds,run_underlying hdd,Result.andThen_ok]
    rw[this];exact hg
   |_=>simp only[hk,hk2]at hr;cases hr
  |string=>
   cases hk2:si.k with
   |string=>
    simp only[hk,hk2]at hr
    obtain⟨s,hxe,hg⟩:=Qx H hx hr
    rw[hk]at kd;cases kd
    rw[hk2]at ks;cases ks
    refine .of_gives hex ?_
    rw[hxe]at hg ⊢
    have:(convert src dst (.string s)).run P w=.ok (.string s) w:=by
     simp only[convert,Sem.run_bind,run_underlying hds,run_underlying hdd,Result.andThen_ok,Sem.run_pure]
    rw[this];exact hg
   |slice el=>
    simp only[hk,hk2]at hr
    obtain⟨ei,hei,hr⟩:=Ay hr
    cases hk3:ei.k with
    |int k3=>
     cases k3<;>simp only[hk3]at hr<;>first|(cases hr;done)|skip
     refine .of_gives hex (PI H (fun a l c hxe=>?_) (hT src si hsi) hk2 (hT dst di hdi) hk (hT el ei hei) hk3 hx hr)
     cases hb:Nat.beq src dst with
     |true=>exact DQ (by simp only[Go.Proofs.YtglkncnkbofgfaaGreat.kd,hb]) hE _
     |false=>
      have hi:IL ty src=false:=by unfold IL;rw[hsi];simp only[hk2]
      have hi2:Eg ty dst=false:=by unfold Eg;rw[hdi];simp only[hk]
      have hkd:Go.Proofs.YtglkncnkbofgfaaGreat.kd ty (.convert src dst x)=.r x:=by simp only[Go.Proofs.YtglkncnkbofgfaaGreat.kd,hb,hi,hi2]
      unfold ET at hE
      rw[hkd]at hE
      exact hE x' hx' _ (by rw[hxe];rfl)
    |_=>simp only[hk3]at hr;cases hr
   |_=>simp only[hk,hk2]at hr;cases hr
  |slice el=>
   cases hk2:si.k with
   |string=>
    simp only[hk,hk2]at hr
    obtain⟨ei,hei,hr⟩:=Ay hr
    cases hk3:ei.k with
    |int k3=>
     cases k3<;>simp only[hk3]at hr<;>first|(cases hr;done)|skip
     cases hb:Nat.beq ei.size 1 with
     |false=>rw[hb]at hr;cases hr
     |true=>
      rw[hb]at hr
      exact .of_gives hex (Lh H (hT src si hsi) hk2 (hT dst di hdi) hk (hT el ei hei) hk3 hei (Ae.1 hb) hx hr)
    |_=>simp only[hk3]at hr;cases hr
   |slice el2=>
    simp only[hk,hk2]at hr
    cases hb:Nat.beq src dst with
    |false=>rw[hb]at hr;cases hr
    |true=>
     rw[hb]at hr
     have heq:src=dst:=Ae.1 hb
     have hE':=DQ (by simp only[Go.Proofs.YtglkncnkbofgfaaGreat.kd,hb]) hE
     obtain⟨ei,hei,hr⟩:=Ay hr
     cases hk3:ei.k with
     |int k3=>
      cases k3<;>simp only[hk3]at hr<;>first|(cases hr;done)|skip
      have hg:=O4 (P:=P) H hE' (hT dst di hdi) hk (hT el ei hei) hk3 hx hr
      rw[heq]at hex
      exact .of_gives hex hg
     |_=>simp only[hk3]at hr;cases hr
   |_=>simp only[hk,hk2]at hr;cases hr
  |_=>simp only[hk]at hr;cases hr
 |call c=>
  rw[ho]at hr hst hE
  simp only[opC]at hr
  cases h1:cOs f c.args.toList with
  |none=>simp only[h1]at hr;cases hr
  |some args=>
   simp only[h1]at hr
   have ha:RelL φ (vals e args) (c.args.toList.map a.eval):=J3 h1 fun x hx=>hst x (by
    unfold Op.operands Call.operands
    cases hc:c.callee<;>simp[hc]<;>first|exact Or.inr (by simpa using hx)|exact(by simpa using hx))
   cases hc:c.callee with
   |builtin b=>
    simp only[hc]at hr
    refine Pn hT H hc ho ha ?_ hr
    cases b with
    |len=>
     refine .inr (.inr (.inr ⟨rfl,fun x hx t ti ht hti hm r hxr=>?_⟩))
     subst hx
     cases hl:c.args.toList with
     |nil=>rw[hl]at h1;cases h1
     |cons x0 l=>
      cases l with
      |cons x1 l=>
       rw[hl]at h1
       unfold cOs at h1
       cases hx0:cO f x0 with
       |none=>rw[hx0]at h1;cases h1
       |some y0=>
        rw[hx0]at h1
        cases hx1:cOs f (x1::l)with
        |none=>rw[hx1]at h1;cases h1
        |some ys=>
         rw[hx1]at h1
         cases h1
         unfold cOs at hx1
         cases hq:cO f x1 with
         |none=>rw[hq]at hx1;cases hx1
         |some y1=>
          rw[hq]at hx1
          cases hq2:cOs f l with
          |none=>rw[hq2]at hx1;cases hx1
          |some ys=>rw[hq2]at hx1;cases hx1
      |nil=>
       rw[hl]at h1
       have hx0:cO f x0=some x:=by
        unfold cOs at h1
        cases hx0:cO f x0 with
        |none=>rw[hx0]at h1;cases h1
        |some y0=>rw[hx0]at h1;cases h1;rfl
       obtain⟨k,q,hm⟩:=hm
       have hmap:Mp ty (c.argTypes.getD 0 0)=true:=by
        have:c.argTypes.getD 0 0=t:=by rw[Array.getD_eq_getD_getElem?,ht];rfl
        rw[this];unfold Mp;rw[hti];simp only[hm]
       have hk:kd ty (.call c)=.r x0:=by simp only[kd,hc,hl,hmap]
       unfold ET at hE
       rw[hk]at hE
       exact hE x hx0 r (by rw[hxr];rfl)
    |min=>exact .inr (.inl rfl)
    |max=>exact .inr (.inr (.inl rfl))
    |_=>
     refine .inl ?_
     cases hl:c.args.toList with
     |nil=>exact DQ (by simp only[kd,hc,hl]) hE
     |cons x l=>exact Hj (x:=x) (by simp only[kd,hc,hl]) hE
   |value g=>
    simp only[hc]at hr
    have hE':∀ b,¬ E b:=DQ (by simp only[kd,hc]) hE
    cases g with
    |func g=>exact QY hF H hE' hc ho ha hr
    |tmp t=>
     obtain⟨g',hg',hr⟩:=Bb hr
     exact Gl hF H hE' hc ho (hst (.tmp t) (by unfold Op.operands Call.operands;simp[hc]) g' hg') ha hr
    |const t=>
     obtain⟨g',hg',hr⟩:=Bb hr
     exact Gl hF H hE' hc ho (hst (.const t) (by unfold Op.operands Call.operands;simp[hc]) g' hg') ha hr
    |global t=>
     obtain⟨g',hg',hr⟩:=Bb hr
     exact Gl hF H hE' hc ho (hst (.global t) (by unfold Op.operands Call.operands;simp[hc]) g' hg') ha hr
   |invoke recv name=>
    simp only[hc]at hr
    have hE':∀ b,¬ E b:=DQ (by simp only[kd,hc]) hE
    obtain⟨x',hx',hr⟩:=Bb hr
    exact ND hT hF H hE' hc ho (hst recv (by unfold Op.operands Call.operands;simp[hc]) x' hx') ha hr
 |lookup t x ix ok=>
  rw[ho]at hr hst hE
  obtain⟨ti,hti,hr⟩:=Ay hr
  obtain⟨x',ix',hx',hix',hr⟩:=GO hr
  cases hk:ti.k with
  |map kt el=>
   simp only[hk]at hr
   obtain⟨ei,hei,hr⟩:=Ay hr
   obtain⟨hz,hr⟩:=FR hr
   unfold wZero at hr
   cases hzv:zeroV ei with
   |none=>rw[hzv]at hr;cases hr
   |some z=>
    rw[hzv]at hr
    obtain⟨ti2,kt2,el2,K,hti2,hk2,hK,hr⟩:=Hm hr
    rw[hti]at hti2;cases hti2
    rw[hk]at hk2;cases hk2
    refine .of_gives (by unfold execOp;rw[ho]) (NF hT H (hT t ti hti) hk (hT el ei hei) hz hzv hK (hst x (by simp[Op.operands]) x' hx') (hst ix (by simp[Op.operands]) ix' hix') (fun r hxr=>?_) hr)
    have hkd:kd ty (.lookup t x ix ok)=.r x:=rfl
    unfold ET at hE
    rw[hkd]at hE
    exact hE x' hx' r (by rw[hxr];rfl)
  |_=>simp only[hk]at hr;cases hr
 |mapUpdate t m k x=>
  rw[ho]at hr hst hE
  obtain⟨ti,kt,el,K,hti,hk,hK,hr⟩:=Hm (k:=fun ks=>w1 f m fun m=>w2 f k x fun key x=>Au ks m key x) hr
  obtain⟨m',hm',hr⟩:=Bb hr
  obtain⟨k',x',hk',hx',hr⟩:=GO hr
  exact .of_skips (by unfold execOp;rw[ho]) (Ih hT H (Hj (x:=m) rfl hE) (hT t ti hti) hk hK (hst m (by simp[Op.operands]) m' hm') (hst k (by simp[Op.operands]) k' hk') (hst x (by simp[Op.operands]) x' hx') hr)
 |insert t m k x=>
  rw[ho]at hr hst hE
  obtain⟨ti,kt,el,K,hti,hk,hK,hr⟩:=Hm (k:=fun ks=>w1 f m fun m=>w2 f k x fun key x=>Au ks m key x) hr
  obtain⟨m',hm',hr⟩:=Bb hr
  obtain⟨k',x',hk',hx',hr⟩:=GO hr
  exact .of_skips (by unfold execOp;rw[ho]) (Ih hT H (Hj (x:=m) rfl hE) (hT t ti hti) hk hK (hst m (by simp[Op.operands]) m' hm') (hst k (by simp[Op.operands]) k' hk') (hst x (by simp[Op.operands]) x' hx') hr)
 |range t x=>
  rw[ho]at hr hst hE
  obtain⟨ti,hti,hr⟩:=Ay hr
  cases hk:ti.k with
  |map k q=>
   simp only[hk]at hr
   obtain⟨x',hx',hr⟩:=Bb hr
   exact .of_gives (by unfold execOp;rw[ho]) (PF H (DQ rfl hE) (hT t ti hti) hk (hst x (by simp[Op.operands]) x' hx') hr)
  |_=>simp only[hk]at hr;cases hr
 |next x s=>
  rw[ho]at hr hst hE
  cases s with
  |true=>cases hr
  |false=>
   obtain⟨x',hx',hr⟩:=Bb hr
   exact .of_gives (by unfold execOp;rw[ho]) (Qs (t:=o.type) H (DQ rfl hE) (hst x (by simp[Op.operands]) x' hx') hr)
 |entry x=>
  rw[ho]at hr hst hE
  obtain⟨x',hx',hr⟩:=Bb hr
  exact .of_gives (by unfold execOp;rw[ho]) (O6 H (DQ rfl hE) (hst x (by simp[Op.operands]) x' hx') hr)
 |typeAssert x xt t ok=>
  rw[ho]at hr hst hE
  obtain⟨ti,hti,hr⟩:=Ay hr
  obtain⟨x',hx',hr⟩:=Bb hr
  have hr2:ti.k≠.iface∧wZ ti (wZero ti fun z=>FA t ok z x') F e h=.ok v h':=by
   cases hk:ti.k with
   |iface=>simp only[hk]at hr;cases hr
   |_=>simp only[hk]at hr;exact⟨nofun,hr⟩
  obtain⟨hki,hr⟩:=hr2
  obtain⟨hz,hr⟩:=FR hr
  unfold wZero at hr
  cases hzv:zeroV ti with
  |none=>rw[hzv]at hr;cases hr
  |some z=>
   rw[hzv]at hr
   exact .of_gives (by unfold execOp;rw[ho]) (M3 H (hT t ti hti) hki hz hzv (hst x (by simp[Op.operands]) x' hx') hr)
 |_=>rw[ho]at hr;cases hr
end
end
noncomputable section
open Go
def er(h:Hp):R→R
 |.ok v _=>.ok v h
 |.no=>.no
def Kr(g:Hp→R):Prop:=∀ h h2:Hp,h2.bl=h.bl→g h2=er h2 (g h)
def Kp(g:OpF):Prop:=∀ F e,Kr (g F e)
theorem Kr.same{g:Hp→R}(k:Kr g){h h':Hp}{v:Value}(hr:g h=.ok v h'):h'=h:=by
 have:=k h h rfl
 rw[hr]at this
 have:(R.ok v h')=.ok v h:=this
 cases this;rfl
theorem Kr.at{g:Hp→R}(k:Kr g){h h':Hp}{v:Value}(hr:g h=.ok v h')(h2:Hp)(hb:h2.bl=h.bl):g h2=.ok v h2:=by
 rw[k h h2 hb,hr];rfl
theorem Kr.no:Kr fun _=>.no:=fun _ _ _=>rfl
theorem Kr.ok(v:Value):Kr fun h=>.ok v h:=fun _ _ _=>rfl
theorem Kr.bif{c:Bool}{a b:Hp→R}(ka:Kr a)(kb:Kr b):Kr fun h=>bif c then a h else b h:=by
 cases c
 ·exact kb
 ·exact ka
theorem Kr.forceV{v:Value}{k:Value→Hp→R}(hk:∀ v,Kr (k v)):Kr fun h=>forceV v fun v=>k v h:=by
 intro h h2 hb;simp only[BB];exact hk v h h2 hb
theorem Kr.forceL{v:List Value}{k:List Value→Hp→R}(hk:∀ v,Kr (k v)):Kr fun h=>forceL v fun v=>k v h:=by
 intro h h2 hb;simp only[Br];exact hk v h h2 hb
theorem Kr.forceN{v:Nat}{k:Nat→Hp→R}(hk:∀ v,Kr (k v)):Kr fun h=>forceN v fun v=>k v h:=by
 intro h h2 hb;simp only[As];exact hk v h h2 hb
theorem Kr.okI(k:IntKind)(n:Int):Kr fun h=>okI k n h:=fun h h2 _=>by simp only[Q1];rfl
theorem Kr.moveR(v:Value):Kr fun h=>moveR v h:=fun h h2 _=>by simp only[C1];rfl
theorem Kr.okB(b:Bool):Kr fun h=>okB b h:=by cases b<;>exact .ok _
theorem Kr.row{b:Nat}{k:VT→Nat→Nat→Hp→R}{z:Hp→R}(hk:∀ c s e,Kr (k c s e))(hz:Kr z):Kr fun h=>match rowOf h b with
  |.ok c s e=>k c s e h
  |.no=>z h:=by
 intro h h2 hb
 have:rowOf h2 b=rowOf h b:=by unfold rowOf;rw[hb]
 simp only[this]
 cases rowOf h b with
 |ok c s e=>exact hk c s e h h2 hb
 |no=>exact hz h h2 hb
theorem Kr.ents{b:Nat}{k:List Ent→Nat→Hp→R}{z:Hp→R}(hk:∀ c s,Kr (k c s))(hz:Kr z):Kr fun h=>match BG h b with
  |.ok c s=>k c s h
  |.no=>z h:=by
 intro h h2 hb
 have:BG h2 b=BG h b:=by unfold BG;rw[hb]
 simp only[this]
 cases BG h b with
 |ok c s=>exact hk c s h h2 hb
 |no=>exact hz h h2 hb
theorem Nw{c:VT}{off:Nat}{k:List Value→Hp→R}(hk:∀ l,Kr (k l))(n:Nat)(acc:List Value):Kr fun h=>Mk c off (fun l=>k l h) n acc:=by
 intro h h2 hb;simp only[D1];exact hk _ h h2 hb
theorem EW{e:Env}{x:Option O}{d y:Nat}{k:Nat→Hp→R}(hk:∀ n,Kr (k n)):Kr fun h=>EH e x d y fun n=>k n h:=by
 unfold EH
 cases x with
 |none=>exact hk d
 |some o=>
  simp only
  cases Ch (o e)with
  |no=>exact .no
  |ok n=>exact .bif (hk n) .no
theorem GW{e:Env}{l c:Nat}{lo hi mx:Option O}{k:Nat→Nat→Nat→Hp→R}(hk:∀ a b c,Kr (k a b c)):Kr fun h=>FW e l c lo hi mx fun a b c=>k a b c h:=by
 unfold FW
 cases mx with
 |none=>exact EW (k:=fun hh h=>EH e lo 0 hh fun l=>k l hh c h) fun hh=>EW (k:=fun l h=>k l hh c h) fun l=>hk l hh c
 |some m=>
  refine EW (k:=fun m h=>_) fun m=>?_
  cases hi with
  |none=>exact .no
  |some hh=>exact EW (k:=fun hh h=>EH e lo 0 hh fun l=>k l hh m h) fun hh=>EW (k:=fun l h=>k l hh m h) fun l=>hk l hh m
theorem EE{a:Option Addr}{s l hh m:Nat}:Kr fun h=>CN a s l hh m h:=by
 unfold CN
 refine .forceN (k:=fun n h=>_) fun n=>.forceN (k:=fun c h=>_) fun c=>?_
 cases Nat.beq m l with
 |true=>exact .ok _
 |false=>
  cases a with
  |none=>exact .ok _
  |some a=>
   simp only
   cases Nat.mul l s with
   |zero=>exact .ok _
   |succ m=>exact .forceN (k:=fun o h=>_) fun o=>.ok _
theorem Lp{g:Bool}{s:Nat}{cs:List Value}{off:Nat}:Kr fun h=>Jo g s cs off h:=by
 unfold Jo
 cases g with
 |true=>exact .forceL (k:=fun l h=>_) fun l=>.ok _
 |false=>
  simp only
  cases nth cs off with
  |none=>exact .no
  |some v=>exact .forceV (k:=fun l h=>_) fun l=>.ok _
theorem Kw{e:Env}{k:List Value→Hp→R}(hk:∀ l,Kr (k l)):∀ (ps:List (Nat×Nat×O)) (cs:List Value),Kr fun h=>Fx cs e (fun l=>k l h) ps
 |[],cs=>by
  unfold Fx;exact .forceL (k:=k) hk
 |(off,size,x)::ps,cs=>by
  unfold Fx
  exact .forceV (k:=fun v h=>_) fun v=>.bif (.bif (.bif (Kw hk ps _) .no) .no) .no
theorem IV{ok:Bool}{v:Value}{b:Bool}:Kr fun h=>B0 ok v b h:=by
 unfold B0
 cases ok
 ·exact .forceV (k:=fun v h=>_) fun v=>.ok _
 ·exact .forceV (k:=fun v h=>_) fun v=>.ok _
theorem Ls{a:Addr}{n:Nat}:Kr fun h=>GF a n h:=.forceN (k:=fun o h=>_) fun o=>.ok _
theorem L5{size:Nat}{v:Value}{n:Nat}{k:List Value→Hp→R}(hk:∀ l,Kr (k l)):Kr fun h=>BE h size v n fun l=>k l h:=by
 unfold BE
 cases v with
 |slice a l c=>
  cases a with
  |none=>exact hk []
  |some a=>exact .row (k:=fun c s _ h=>bif Nat.ble (Nat.add a.off (Nat.mul n size)) s then Mk c a.off (fun l=>k l h) (Nat.mul n size) []else .no) (z:=fun _=>.no) (fun c s _=>.bif (Nw hk _ _) .no) .no
 |string s=>exact .bif (hk _) .no
 |chan c=>
  cases c with
  |none=>exact .no
  |some r=>exact hk []
 |_=>exact .no
end
noncomputable section
open Go
theorem Kp.oNo:Kp oNo:=fun _ _=>.no
theorem Kp.w1{f:Fr}{x:Operand}{k:O→OpF}(hk:∀ y,Kp (k y)):Kp (w1 f x k):=by
 unfold Go.Proofs.YtglkncnkbofgfaaGreat.w1;split
 ·exact hk _
 ·exact .oNo
theorem Kp.w2{f:Fr}{x y:Operand}{k:O→O→OpF}(hk:∀ x y,Kp (k x y)):Kp (w2 f x y k):=.w1 fun x=>.w1 fun y=>hk x y
theorem Kp.wTy{ty:TTy}{t:Nat}{k:TI→OpF}(hk:∀ ti,ty.get t=some ti→Kp (k ti)):Kp (wTy ty t k):=by
 unfold Go.Proofs.YtglkncnkbofgfaaGreat.wTy;split
 ·rename_i ti h;exact hk ti h
 ·exact .oNo
theorem Kp.wZ{ti:TI}{k:OpF}(hk:Kp k):Kp (wZ ti k):=by
 unfold Go.Proofs.YtglkncnkbofgfaaGreat.wZ;split
 ·exact hk
 ·exact .oNo
theorem Kp.wZero{ti:TI}{k:Value→OpF}(hk:∀ z,Kp (k z)):Kp (wZero ti k):=by
 unfold Go.Proofs.YtglkncnkbofgfaaGreat.wZero;split
 ·exact hk _
 ·exact .oNo
theorem Kp.wKey{ty:TTy}{t:Nat}{k:KS→OpF}(hk:∀ z,Kp (k z)):Kp (wKey ty t k):=by
 unfold Go.Proofs.YtglkncnkbofgfaaGreat.wKey
 refine .wTy fun ti _=>?_
 split
 ·refine .wTy fun ki _=>?_
  split
  ·exact hk _
  ·exact .oNo
 ·exact .oNo
section
variable {x y z:O}
theorem Ig:Kp (oMove x):=fun F e=>.moveR _
theorem Qu:Kp (AK x y z):=fun F e=>by
 show Kr fun h=>Tz (x e) (y e) (z e) h
 cases x e with
 |bool t=>cases t<;>exact .moveR _
 |_=>exact .no
theorem Jm{zs:List Value}{ps:List (Nat×Nat×O)}:Kp (AZ zs ps):=fun F e=>Kw (k:=fun cs h=>.ok (.agg ⟨cs⟩) h) (fun l=>.ok _) ps zs
theorem Sw:Kp (AO x):=fun F e=>by
 show Kr fun h=>SS (x e) h
 unfold SS
 cases x e with
 |pointer a=>cases a;exact .no;exact .ok _
 |func f a b=>cases f<;>first|exact .ok _|exact .no
 |slice a n c=>exact .ok _
 |map m=>exact .ok _
 |iface t v=>exact .forceV (k:=fun v h=>.ok (.iface t v) h) fun v=>.ok _
 |_=>exact .no
theorem Sf{f:Int→Int→Bool}{k:IntKind}:Kp (AH f k x y):=fun F e=>by
 show Kr fun h=>Um f (Bg k (x e)) (Bg k (y e)) h
 cases Bg k (x e)with
 |no=>exact .no
 |ok a=>cases Bg k (y e)with
  |no=>exact .no
  |ok b=>exact .okB _
theorem SX{f:Int→Int→Int}{k:IntKind}:Kp (At f k x y):=fun F e=>by
 show Kr fun h=>V2 f k (Bg k (x e)) (Bg k (y e)) h
 cases Bg k (x e)with
 |no=>exact .no
 |ok a=>cases Bg k (y e)with
  |no=>exact .no
  |ok b=>exact .okI _ _
theorem SV{k:IntKind}{top:Nat}:Kp (Ad k top x y):=fun F e=>by
 show Kr fun h=>Uf k top (Bg k (x e)) (Bg k (y e)) h
 cases Bg k (x e)with
 |no=>exact .no
 |ok a=>cases Bg k (y e)with
  |no=>exact .no
  |ok b=>
   cases a with
   |negSucc _=>exact .okI _ _
   |ofNat a=>cases b with
    |negSucc _=>exact .okI _ _
    |ofNat b=>
     unfold Uf
     simp only
     cases Nat.ble (Nat.add a b) top with
     |true=>exact .forceN (k:=fun n h=>.ok (.int k (.ofNat n)) h) fun n=>.ok _
     |false=>exact .okI _ _
theorem Sl{k:IntKind}:Kp (D6 k x y):=fun F e=>by
 show Kr fun h=>Ru k (Bg k (x e)) (Bg k (y e)) h
 unfold Ru
 cases Bg k (x e)with
 |no=>exact .no
 |ok a=>cases Bg k (y e)with
  |no=>exact .no
  |ok b=>exact .bif .no (.okI _ _)
theorem S3{k:IntKind}:Kp (HM k x y):=fun F e=>by
 show Kr fun h=>TJ k (Bg k (x e)) (Bg k (y e)) h
 unfold TJ
 cases Bg k (x e)with
 |no=>exact .no
 |ok a=>cases Bg k (y e)with
  |no=>exact .no
  |ok b=>exact .bif .no (.okI _ _)
theorem Sa{f:Nat→Nat→Nat}{k:IntKind}:Kp (FJ f k x y):=fun F e=>by
 show Kr fun h=>Ro f k (FI k (x e)) (FI k (y e)) h
 unfold Ro
 cases FI k (x e)with
 |no=>exact .no
 |ok a=>cases FI k (y e)with
  |no=>exact .no
  |ok b=>exact .bif (.bif (.okI _ _) .no) .no
theorem S5{k:IntKind}:Kp (JB k x y):=fun F e=>by
 show Kr fun h=>TO k (FI k (x e)) (Ch (y e)) h
 unfold TO
 cases FI k (x e)with
 |no=>exact .no
 |ok a=>cases Ch (y e)with
  |no=>exact .no
  |ok b=>exact .okI _ _
theorem S7{k:IntKind}:Kp (Fd k x y):=fun F e=>by
 show Kr fun h=>TP k (FI k (x e)) (Ch (y e)) h
 unfold TP
 cases FI k (x e)with
 |no=>exact .no
 |ok a=>cases Ch (y e)with
  |no=>exact .no
  |ok b=>exact .okI _ _
theorem S9{f:List UInt8→List UInt8→Bool}:Kp (EQ f x y):=fun F e=>by
 show Kr fun h=>TQ f (x e) (y e) h
 unfold TQ
 cases x e with
 |string a=>cases y e with
  |string b=>exact .okB _
  |_=>exact .no
 |_=>exact .no
theorem Sd:Kp (Sc x y):=fun F e=>by
 show Kr fun h=>Rr (x e) (y e) h
 unfold Rr
 cases x e with
 |string a=>cases y e with
  |string b=>exact .bif (.ok _) .no
  |_=>exact .no
 |_=>exact .no
theorem VV{k:TK}{n:Bool}:Kp (oEq k n x y):=fun F e=>by
 unfold oEq
 cases eqV k (x e) (y e)with
 |some r=>exact .okB _
 |none=>exact .no
theorem Qt{n:Bool}:Kp (G8 n x):=fun F e=>by
 show Kr fun h=>QW n (x e) h
 unfold QW
 cases x e<;>first|exact .okB _|exact .no
theorem OI{k:KS}{n:Bool}:Kp (Dl k n x y):=fun F e=>by
 unfold Dl
 cases eqC k (x e) (y e)with
 |some r=>exact .okB _
 |none=>exact .no
theorem Sy:Kp (Ak x):=fun F e=>by
 unfold Ak
 cases x e with
 |bool b=>exact .okB _
 |_=>exact .no
theorem Sh:Kp (Qd x):=fun F e=>by
 unfold Qd
 cases FI .u8 (x e)with
 |no=>exact .no
 |ok n=>exact .bif (.okI _ _) .no
theorem Su{k:IntKind}:Kp (Qp k x):=fun F e=>by
 unfold Qp
 cases Bg k (x e)with
 |no=>exact .no
 |ok n=>exact .okI _ _
theorem Qq:Kp (Ld x):=fun F e=>by
 unfold Ld
 split
 ·simp only[As];exact .ok _
 ·exact .no
theorem TA:Kp (Qy x):=fun F e=>by
 unfold Qy
 cases Mo (x e)with
 |no=>exact .no
 |ok n=>simp only[As];exact .ok _
theorem Qa{k:IntKind}:Kp (Az k x):=fun F e=>by
 unfold Az
 cases Mo (x e)with
 |no=>exact .no
 |ok n=>exact .okI _ _
theorem Qw:Kp (Lg x):=fun F e=>by
 unfold Lg
 cases x e with
 |string b=>exact .ok _
 |_=>exact .no
theorem PH:Kp (C3 x):=fun F e=>by
 unfold C3
 cases x e with
 |slice a n c=>
  refine L5 (k:=fun cs h=>match Cb cs with|some bs=>.ok (.string ⟨⟨bs⟩⟩) h|none=>.no) fun l=>?_
  cases Cb l with
  |some bs=>exact .ok _
  |none=>exact .no
 |chan r=>
  cases r with
  |some r=>exact .ok _
  |none=>exact .no
 |_=>exact .no
theorem O9{t:Nat}:Kp (DV t x):=fun F e=>.forceV (k:=fun v h=>.ok (.iface t v) h) fun v=>.ok _
theorem Qf{fn:Fn}{a b:List O}:Kp (Ax fn a b):=fun F e=>.forceL (k:=fun f h=>forceL (vals e b) fun c=>.ok (.func fn ⟨f⟩ ⟨c⟩) h) fun f=>.forceL (k:=fun c h=>.ok (.func fn ⟨f⟩ ⟨c⟩) h) fun c=>.ok _
theorem M8{lo hi:Option O}:Kp (FD x lo hi):=fun F e=>by
 unfold FD
 cases x e with
 |string s=>exact GW (k:=fun l hh _ h=>.ok (.string ⟨⟨GL (Nat.sub hh l) (FP l s.data.toList)⟩⟩) h) fun a b c=>.ok _
 |_=>exact .no
theorem Rs{el s:Nat}{a:Option Addr}{mx:Bool}{l hh m:Nat}:Kr fun h=>Of el s a mx l hh m h:=by
 unfold Of
 cases mx with
 |true=>exact EE
 |false=>
  cases l with
  |zero=>exact EE
  |succ l=>
   intro h h2 hb
   have:IF el a h2=IF el a h:=by
    unfold IF
    cases a with
    |none=>rfl
    |some a=>
     have:rowOf h2 a.block=rowOf h a.block:=by unfold rowOf;rw[hb]
     simp only[this]
   simp only[this]
   cases IF el a h with
   |true=>exact EE h h2 hb
   |false=>rfl
theorem Sj{el s:Nat}{lo hi mx:Option O}:Kp (A7 el s x lo hi mx):=fun F e=>by
 unfold A7
 cases x e with
 |slice a n c=>exact GW (k:=fun l hh m h=>Of el s a mx.isSome l hh m h) fun _ _ _=>Rs
 |_=>exact .no
theorem M6{n s:Nat}{lo hi mx:Option O}:Kp (D5 n s x lo hi mx):=fun F e=>by
 unfold D5
 cases Cn (x e)with
 |ok a=>exact GW (k:=fun l hh m h=>CN (some a) s l hh m h) fun _ _ _=>EE
 |no=>exact .no
theorem I9{o:Nat}:Kp (AB o x):=fun F e=>by
 unfold AB
 cases Cn (x e)with
 |ok a=>exact Ls
 |no=>exact .no
theorem O7{g:Bool}{s o:Nat}:Kp (C2 g s o x):=fun F e=>by
 unfold C2
 cases x e with
 |agg cs=>exact Lp
 |_=>exact .no
theorem Nz{n s:Nat}{a:AA}{i:NN}:Kr fun h=>I8 n s a i h:=by
 unfold I8
 cases i with
 |no=>exact .no
 |ok i=>
  simp only
  cases Nat.blt i n with
  |false=>exact .no
  |true=>
   cases a with
   |no=>exact .no
   |ok a=>exact Ls
theorem NB{n s:Nat}:Kp (A1 n s x y):=fun F e=>Nz
theorem Sn{s:Nat}:Kp (Ac s x y):=fun F e=>by
 unfold Ac
 cases x e with
 |slice a n c=>cases a;exact .no;exact Nz
 |_=>exact .no
theorem VS{g:Bool}{n s:Nat}:Kp (oAt g n s x y):=fun F e=>by
 show Kr fun h=>atF g n s (x e) (Ch (y e)) h
 unfold atF
 cases Ch (y e)with
 |no=>exact .no
 |ok i=>
  refine .bif ?_ .no
  cases x e with
  |agg cs=>exact Lp
  |_=>exact .no
theorem O2:Kp (Ib x y):=fun F e=>by
 show Kr fun h=>J0 (x e) (Ch (y e)) h
 unfold J0
 cases Ch (y e)with
 |no=>exact .no
 |ok i=>
  simp only
  cases x e with
  |string s=>
   simp only
   cases nth s.data.toList i with
   |some b=>exact .okI _ _
   |none=>exact .no
  |_=>exact .no
theorem LZ{i:Nat}:Kp (AG i x):=fun F e=>by
 unfold AG
 cases x e with
 |tuple vs=>
  simp only
  cases nth vs.toList i with
  |some v=>exact .forceV (k:=fun v h=>.ok v h) fun v=>.ok v
  |none=>exact .no
 |_=>exact .no
theorem SY{n:Nat}:Kp (O1 n x):=fun F e=>by
 unfold O1
 cases x e with
 |slice a l c=>cases a;exact .no;exact .bif (.ok _) .no
 |_=>exact .no
theorem Qj:Kp (AP x):=fun F e=>by
 unfold AP
 cases x e with
 |slice a n c=>exact .ok _
 |chan o=>cases o;exact .no;exact .ok _
 |_=>exact .no
theorem Ql:Kp (EN x):=fun F e=>by
 unfold EN
 cases x e with
 |string s=>exact .forceN (k:=fun n h=>.ok (.int .i64 (.ofNat n)) h) fun n=>.ok _
 |_=>exact .no
theorem Qh:Kp (Ie x):=fun F e=>by
 unfold Ie
 cases x e with
 |map r=>
  cases r with
  |none=>exact .ok _
  |some r=>exact .ents (k:=fun es _ h=>forceN (Bo es) fun n=>.ok (.int .i64 (.ofNat n)) h) (z:=fun _=>.no) (fun es _=>.forceN (k:=fun n h=>.ok (.int .i64 (.ofNat n)) h) fun n=>.ok _) .no
 |_=>exact .no
theorem Ji{l:Bool}{a b:Value}:Kr fun h=>Gk l a b h:=by
 unfold Gk
 cases a with
 |int k a=>
  simp only
  cases Mo b with
  |no=>exact .no
  |ok b=>exact .bif (.ok _) (.ok _)
 |_=>exact .no
theorem Ss:Kp (En x y):=fun F e=>Ji
theorem Sq:Kp (Lb x y):=fun F e=>Ji
theorem PB:Kp (AC x):=fun F e=>by
 unfold AC
 cases Cn (x e)with
 |no=>exact .no
 |ok a=>
  intro h h2 hb
  show load1 a h2=er h2 (load1 a h)
  have:rowOf h2 a.block=rowOf h a.block:=by unfold rowOf;rw[hb]
  unfold load1
  rw[this]
  cases rowOf h a.block with
  |no=>rfl
  |ok c s t=>
   simp only
   cases Nat.blt a.off s with
   |false=>rfl
   |true=>simp only[BB];rfl
theorem PD{n:Nat}:Kp (AJ n x):=fun F e=>by
 unfold AJ
 cases Cn (x e)with
 |no=>exact .no
 |ok a=>exact .row (k:=fun c s _ h=>bif Nat.ble (Nat.add a.off n) s then Mk c a.off (fun l=>.ok (.agg ⟨l⟩) h) n []else .no) (z:=fun _=>.no) (fun c s _=>.bif (Nw (k:=fun l h=>.ok (.agg ⟨l⟩) h) (fun l=>.ok _) _ _) .no) .no
theorem NE{K:KS}{zv:Value}{ok:Bool}:Kp (A5 K zv ok x y):=fun F e=>by
 show Kr fun h=>HY K zv (x e) (y e) ok h
 unfold HY
 cases Cy K (y e)with
 |false=>exact .no
 |true=>
  simp only
  cases x e with
  |map r=>
   cases r with
   |none=>exact IV
   |some r=>
    refine .ents (k:=fun es _ h=>match JT K (y e) es with
     |some (some en)=>B0 ok en.val true h
     |some none=>B0 ok zv false h
     |none=>.no) (z:=fun _=>.no) (fun es _=>?_) .no
    cases JT K (y e) es with
    |none=>exact .no
    |some o=>cases o<;>exact IV
  |_=>exact .no
end
section
variable {ty:TTy}{f:Fr}
theorem Rn{op:BinOp}{t:Nat}{x y:Operand}:Kp (Pj ty f op t x y):=by
 unfold Pj
 refine .wTy fun ti _=>.w2 fun x y=>?_
 split
 ·split
  ·cases op<;>first|exact Qt|exact .oNo
  ·exact .oNo
 ·cases op<;>first|exact SV|exact SX|exact Sl|exact S3|exact Sa|exact S5|exact S7|exact Sf|exact .oNo
 ·cases op<;>first|exact Sd|exact S9|exact .oNo
 ·split
  ·cases op<;>first|exact OI|exact .oNo
  ·exact .oNo
 ·split
  ·cases op<;>first|exact OI|exact .oNo
  ·exact .oNo
 ·cases op<;>first|exact VV|exact .oNo
theorem VW{op:Op}(hk:kd ty op=.p∨∃ x,kd ty op=.r x):Kp (opC ty f op):=by
 cases op with
 |move x=>exact .w1 fun x=>Ig
 |assign x=>exact .w1 fun x=>Ig
 |pick c a b=>exact .w1 fun c=>.w2 fun a b=>Qu
 |build t ps=>
  refine .wTy fun ti _=>.wZ ?_
  split
  ·split
   ·exact Jm
   ·exact .oNo
  ·refine .wTy fun ei _=>?_
   split
   ·exact Jm
   ·exact .oNo
  ·exact .oNo
 |load t x=>
  refine .wTy fun ti _=>.w1 fun x=>?_
  split
  ·exact PD
  ·exact PB
 |nilCheck x=>exact .w1 fun x=>Sw
 |binOp op t x y u=>exact Rn
 |unOp op t x=>
  refine .wTy fun ti _=>.w1 fun x=>?_
  split<;>first|exact Sy|exact Su|exact Qq|exact Sh|exact .oNo
 |convert src dst x=>
  refine .wTy fun si hsi=>.wTy fun di hdi=>.w1 fun x=>?_
  split
  ·exact Qa
  ·exact TA
  ·exact Qw
  ·refine .wTy fun ei _=>?_
   split
   ·exact PH
   ·exact .oNo
  ·rename_i hd hs
   exfalso
   simp only[kd]at hk
   cases hb:Nat.beq src dst with
   |true=>simp only[hb]at hk;rcases hk with hk|⟨_,hk⟩<;>cases hk
   |false=>
    have h1:IL ty src=false:=by unfold IL;rw[hsi];simp only[hs]
    have h2:Eg ty dst=true:=by unfold Eg;rw[hdi];simp only[hd]
    simp only[hb,h1,h2]at hk
    rcases hk with hk|⟨_,hk⟩<;>cases hk
  ·rename_i hs hd
   split
   ·rename_i hb
    exfalso
    simp only[kd,hb]at hk
    rcases hk with hk|⟨_,hk⟩<;>cases hk
   ·exact .oNo
  ·exact .oNo
 |makeInterface t x=>
  refine .wTy fun ti _=>.w1 fun x=>?_
  split
  ·exact .oNo
  ·exact O9
 |makeFunc fn a b=>
  show Kp (match cOs f a.toList,cOs f b.toList with
   |some fs,some c=>Ax fn fs c
   |_,_=>oNo)
  split
  ·exact Qf
  ·exact .oNo
 |slice t x lo hi mx=>
  refine .wTy fun ti _=>.w1 fun x=>?_
  split
  ·split
   ·split
    ·exact M8
    ·exact .oNo
   ·exact .wTy fun ei _=>Sj
   ·exact .wTy fun ei _=>M6
   ·exact .oNo
  ·exact .oNo
 |fieldAddr t x i=>
  refine .wTy fun ti _=>.w1 fun x=>?_
  split
  ·split<;>first|exact I9|exact .oNo
  ·exact .oNo
 |field t x i=>
  refine .wTy fun ti _=>.w1 fun x=>?_
  split
  ·split
   ·exact .wTy fun fi _=>O7
   ·exact .oNo
  ·exact .oNo
 |indexAddr t x i=>
  refine .wTy fun ti _=>.w2 fun x y=>?_
  split
  ·exact .wTy fun fi _=>NB
  ·exact .wTy fun fi _=>Sn
  ·exact .oNo
 |index t x i=>
  refine .wTy fun ti _=>.w2 fun x y=>?_
  split
  ·exact .wTy fun fi _=>VS
  ·exact O2
  ·exact .oNo
 |lookup t x i ok=>
  refine .wTy fun ti _=>.w2 fun x y=>?_
  split
  ·exact .wTy fun ei _=>.wZ (.wZero fun z=>.wKey fun ks=>NE)
  ·exact .oNo
 |extract t i=>exact .w1 fun t=>LZ
 |sliceToArrayPointer t x=>
  refine .wTy fun ti _=>?_
  split
  ·exact .w1 fun x=>SY
  ·exact .oNo
 |call c=>
  simp only[kd]at hk
  cases hc:c.callee with
  |builtin b=>
   show Kp (match cOs f c.args.toList with
    |some args=>match c.callee with
     |.builtin b=>GX ty b c.argTypes.toList args
     |.value g=>match g with
      |.func g=>AE g args
      |g=>w1 f g fun g=>Ap g args
     |.invoke recv name=>w1 f recv fun x=>B2 (ty.meths name fun k=>k) x args
    |none=>oNo)
   split
   ·rename_i args ha
    simp only[hc]
    cases b with
    |len=>
     unfold GX
     split<;>rename_i h1<;>first|(cases h1;done)|skip
     all_goals (try (exact .oNo))
     split
     ·refine .wTy fun ti _=>?_
      split
      ·exact Qj
      ·exact Ql
      ·exact Qh
      ·exact Ig
      ·exact .oNo
     ·exact .oNo
    |min=>
     unfold GX
     split<;>rename_i h1<;>first|(cases h1;done)|exact Ss|exact .oNo
    |max=>
     unfold GX
     split<;>rename_i h1<;>first|(cases h1;done)|exact Sq|exact .oNo
    |_=>
     exfalso
     simp only[hc]at hk
     cases hl:c.args.toList with
     |nil=>simp only[hl]at hk;rcases hk with hk|⟨_,hk⟩<;>cases hk
     |cons _ _=>simp only[hl]at hk;rcases hk with hk|⟨_,hk⟩<;>cases hk
   ·exact .oNo
  |_=>
   exfalso
   simp only[hc]at hk
   rcases hk with hk|⟨_,hk⟩<;>cases hk
 |_=>first|exact .oNo|(exfalso;rcases hk with hk|⟨_,hk⟩<;>cases hk)
end
end
end Go.Proofs.YtglkncnkbofgfaaGreat

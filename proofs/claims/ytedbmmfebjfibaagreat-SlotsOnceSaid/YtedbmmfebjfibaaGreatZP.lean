/-
  Part ZP of what Lawsn stands on: printed by program, names and spaces cut.
-/
import Derived.Test.YtedbmmfebjfibaaGreatZO
set_option linter.unusedVariables false
set_option linter.unusedSimpArgs false
namespace Go.Proofs.YtedbmmfebjfibaaGreat
noncomputable section
open Go
set_option maxRecDepth 100000
def Hd(ks:List Kt)(n:Nat)(a b c:Int)(l:List Nat):Option Int:=
 if B4 a b c 1 l.length=false∨100<l.length then some 2
 else match ks.find? (CG a b c)with
  |some k=>if k.l=l then some 0 else some 60
  |none=>if Cg a b c ks=true then some 61 else if n=0 then some 62 else none
section
variable {F:CallF}{e:Env}{h h':Hp}{A:At}{T M:List Nat}{c0 bad m k p:Nat}{arm:Int}{ks:List Kt}{fr:List Nat}{lv fv:Value}
theorem QO(W:h.Wf)(s:Sl h A T M c0 arm ks fr lv fv bad false){a b c:Int}{l:List Nat}{u:Value}(V:h.VE u (l.map bv))(hl:l.length≤1000){z:Int}(hz:Hd ks fr.length a b c l=some z):
  ∃ h',call AF (m+8) 11 [pt A.bs,.int .i64 a,.int .i64 b,.int .i64 c,u] h=.ok (.int .i64 z) h'∧h.Ext h':=by
 have hkl:=s.le.1
 have c00:iNe 0 0=false:=CT rfl
 have k0:=MJ (m:=m+6) s.row
 obtain⟨h1,vc,k1,x1,mk1⟩:=Mb (n:=m+6) W V (by omega)
 have oc:=mk1.one
 have bl:=fun (F:CallF) (e:Env) (e1:AB 1 e=.int .i64 a) (e2:AB 2 e=.int .i64 b) (e3:AB 3 e=.int .i64 c) (e4:AB 28 e=vc)=>Ol (F:=F) (h:=h1) (g1:=AB 1) (g2:=AB 2) (g3:=AB 3) (g5:=AB 28) e1 e2 e3 e4 oc.1 oc.2.2
 have al:=fun (F:CallF) (e:Env)=>B7 (F:=F) (e:=e) x1.wf (n:=5) (t:=DU)
 have Ra:=Hp.Row.alloc x1.wf HZ (show(A3 0 0 0 0 nilS).length=5 from rfl)
 have y2:h1.Ext (h1.push (.cells DU 5 0)):=(Hp.Ext.refl x1.wf).push _
 generalize h1.push (.cells DU 5 0)=h2 at al Ra y2
 obtain⟨st,_,y3,R12,n3⟩:=OO x1.wf y2 (Nat.le_refl _) Ra rfl (a:=a) (b:=b) (c:=c) (s:=1) (u:=vc) oc.2.1
 generalize h2.wr h1.next 0 (A3 a b c 1 vc)=h3 at st y3 R12 n3
 have x3:=x1.trans y3
 obtain⟨_,_,_,_,_,ld12⟩:=B9 R12
 have lnc:∀ g,lenSR vc g=.ok (.int .i64 (l.length:Int)) g:=fun g=>mk1.vals.bl g
 have k4:=Ir (n:=m+6) x3.wf (a:=a) (b:=b) (c:=c) (s:=1) (u:=vc) lnc
 have y4:=(Hp.Ext.refl x3.wf).pushRow 0 (A3 a b c 1 vc)
 generalize h3.pushRow 0 (A3 a b c 1 vc)=h4 at k4 y4
 have x4:=x3.trans y4
 have lnu:∀ g:Hp,lenSR u g=.ok (.int .i64 (l.length:Int)) g:=fun g=>V.bl g
 obtain⟨_,_,l2,_⟩:=BC (s.row.ext W x4)
 have s4:=s.ext W x4
 unfold Hd at hz
 by_cases hr:B4 a b c 1 l.length=false
 ·rw[if_pos (.inl hr)]at hz
  cases hz
  rw[hr]at k4
  refine⟨h4,?_,x4⟩
  rw[Hl rfl,Hq]
  unfold MM
  simp only[iN,Nat.reduceAdd,sT,Nat.reduceLT,Nat.reduceEqDiff,reduceIte,gD,cA0,k0,AO,AN,c00,k1,bl,al,Ao,st,Aw,Av,ld12,k4,Bt,Br,Bool.not_false,lV0]
 ·have hr':B4 a b c 1 l.length=true:=by
   cases hq:B4 a b c 1 l.length
   ·exact absurd hq hr
   ·rfl
  rw[hr']at k4
  by_cases h100:100<l.length
  ·rw[if_pos (.inr h100)]at hz
   cases hz
   have c1:iGt (l.length:Int) 100=true:=Fl (by omega)
   refine⟨h4,?_,x4⟩
   rw[Hl rfl,Hq]
   unfold MM
   simp only[iN,Nat.reduceAdd,sT,Nat.reduceLT,Nat.reduceEqDiff,reduceIte,gD,cA0,k0,AO,AN,c00,k1,bl,al,Ao,st,Aw,Av,ld12,k4,Bt,Br,Bool.not_true,Am,lnu,Ay,Aq,AJ,AQ,Nat.zero_add,AP,AU,l2,c1,lV0]
  ·rw[if_neg (by
    rintro (h|h)
    ·exact hr h
    ·exact h100 h)]at hz
   have c1:iGt (l.length:Int) 100=false:=Ei (by omega)
   obtain⟨h5,k5,x5⟩:=HI (m:=m+4) x4.wf s4.row s4.ls.ks (by omega) a b c
   have x45:=x4.trans x5
   have s5:=s.ext W x45
   rcases EE (CG a b c) ks 0 with ⟨e1,e2⟩|⟨j,kx,e1,e2,e3⟩
   ·rw[e2]at k5
    rw[e1]at hz
    simp only at hz
    have c2:iGe (-1) 0=false:=Ez (by omega)
    obtain⟨h6,k6,x6⟩:=Fw (m:=m+3) x45.wf s5.row s5.ls.ks (by omega) a b c
    have x46:=x45.trans x6
    have s6:=s.ext W x46
    cases hst:Cg a b c ks with
    |true=>
     rw[hst]at k6 hz
     cases hz
     refine⟨h6,?_,x46⟩
     rw[Hl rfl,Hq]
     unfold MM
     simp only[iN,Nat.reduceAdd,sT,Nat.reduceLT,Nat.reduceEqDiff,reduceIte,gD,cA0,k0,AO,AN,c00,k1,bl,al,Ao,st,Aw,Av,ld12,k4,Bt,Br,Bool.not_true,Am,lnu,Ay,Aq,AJ,AQ,Nat.zero_add,AP,AU,l2,c1,k5,c2,k6,BP,A1,CB,Co,lV0]
    |false=>
     rw[hst]at k6 hz
     rw[if_neg (by decide)]at hz
     by_cases hf:fr.length=0
     ·rw[if_pos hf]at hz
      cases hz
      obtain⟨_,_,_,_,l4,_⟩:=BC s6.row
      have lnf:=s6.fs.vals.len
      have hil:(ints .i64 (fr.map Int.ofNat)).length=fr.length:=by unfold ints;rw[List.length_map,List.length_map]
      rw[hil,hf]at lnf
      have c3:iEq ((0:Nat):Int) 0=true:=CM rfl
      refine⟨h6,?_,x46⟩
      rw[Hl rfl,Hq]
      unfold MM
      simp only[iN,Nat.reduceAdd,sT,Nat.reduceLT,Nat.reduceEqDiff,reduceIte,gD,cA0,k0,AO,AN,c00,k1,bl,al,Ao,st,Aw,Av,ld12,k4,Bt,Br,Bool.not_true,Am,lnu,Ay,Aq,AJ,AQ,Nat.zero_add,AP,AU,l2,c1,k5,c2,k6,l4,lnf,c3,BP,A1,CB,Co,lV0]
     ·rw[if_neg hf]at hz;cases hz
   ·rw[e3,Nat.zero_add]at k5
    rw[e1]at hz
    simp only at hz
    have c2:iGe (j:Int) 0=true:=Gg (by omega)
    obtain⟨_,_,_,l3,_⟩:=BC s5.row
    obtain⟨bb,_,ix,_,lde⟩:=s5.ls.ks.at e2
    have lu:=lde 4 kx.u rfl
    have hkm:=List.mem_of_getElem? e2
    obtain⟨h6,k6,x6⟩:=Up (m:=m+6) x45.wf ((s5.ko kx hkm).1.vs.vals) (V.ext W x45) (by have:=(s5.ko kx hkm).2.2.1;omega)
    have k6:call AF (m+7) 42 [kx.u,u] h5=.ok (.bool (decide (kx.l=l))) h6:=k6
    refine⟨h6,?_,x45.trans x6⟩
    by_cases hkl:kx.l=l
    ·rw[if_pos hkl]at hz
     cases hz
     rw[decide_eq_true hkl]at k6
     rw[Hl rfl,Hq]
     unfold MM
     simp only[iN,Nat.reduceAdd,sT,Nat.reduceLT,Nat.reduceEqDiff,reduceIte,gD,cA0,k0,AO,AN,c00,k1,bl,al,Ao,st,Aw,Av,ld12,k4,Bt,Br,Bool.not_true,Am,lnu,Ay,Aq,AJ,AQ,Nat.zero_add,AP,AU,l2,c1,k5,c2,l3,A8,ix,lu,Nat.add_zero,k6,lV0]
    ·rw[if_neg hkl]at hz
     cases hz
     rw[decide_eq_false hkl]at k6
     rw[Hl rfl,Hq]
     unfold MM
     simp only[iN,Nat.reduceAdd,sT,Nat.reduceLT,Nat.reduceEqDiff,reduceIte,gD,cA0,k0,AO,AN,c00,k1,bl,al,Ao,st,Aw,Av,ld12,k4,Bt,Br,Bool.not_true,Am,lnu,Ay,Aq,AJ,AQ,Nat.zero_add,AP,AU,l2,c1,k5,c2,l3,A8,ix,lu,Nat.add_zero,k6,lV0]
theorem Yf(W:h.Wf)(s:Sl h A T M c0 arm ks fr lv fv bad false){a b c:Int}{l:List Nat}{u:Value}(V:h.VE u (l.map bv))(hb:∀ x∈l,x<256)(hl:l.length≤1000)(hkl:ks.length≤10)(ha:Bu arm (k+10)):
  (∃ z h',Hd ks fr.length a b c l=some z∧call AF (m+8) 11 [pt A.bs,.int .i64 a,.int .i64 b,.int .i64 c,u] h=.ok (.int .i64 z) h'∧h.Ext h')∨
  (Hd ks fr.length a b c l=none∧∃ p fr2 h' c1 arm' lv' fv' k',fr=p::fr2∧call AF (m+8) 11 [pt A.bs,.int .i64 a,.int .i64 b,.int .i64 c,u] h=.ok (.int .i64 0) h'∧Fx A.D h h'∧
   Sl h' A T (LE T M p l (Cn T a b c 1 l)) c1 arm' (GU (ks++[k'])) fr2 lv' fv' bad false∧k'.core=⟨a,b,c,1,l,p⟩∧Bu arm' k):=by
 cases hz:Hd ks fr.length a b c l with
 |some z=>
  obtain⟨h',k1,x1⟩:=QO (m:=m) W s V hl hz
  exact .inl ⟨z,h',rfl,k1,x1⟩
 |none=>
  right
  unfold Hd at hz
  split at hz
  ·cases hz
  rename_i hn
  have hr:B4 a b c 1 l.length=true:=by
   cases hq:B4 a b c 1 l.length
   ·exact absurd (.inl hq) hn
   ·rfl
  have h100:l.length≤100:=Nat.le_of_not_lt fun h=>hn (.inr h)
  split at hz
  ·split at hz<;>cases hz
  rename_i hfd
  split at hz
  ·cases hz
  rename_i hst
  split at hz
  ·cases hz
  rename_i hf0
  cases fr with
  |nil=>exact absurd rfl hf0
  |cons p fr2=>
   have hany:ks.any (CG a b c)=false:=by
    rw[List.any_eq_false]
    intro x hx
    exact List.find?_eq_none.1 hfd x hx
   have hst':Cg a b c ks=false:=by
    cases hq:Cg a b c ks
    ·rfl
    ·exact absurd hq hst
   obtain⟨h',c1,arm',lv',fv',k',q1,q2,q3,q4,q5⟩:=Yg (m:=m) W s V hb h100 hr hany hst' hkl ha
   exact⟨rfl,p,fr2,h',c1,arm',lv',fv',k',rfl,q1,q2,q3,q4,q5⟩
end
end
noncomputable section
open Go
set_option maxRecDepth 100000
theorem hU{n:Nat}{args:List Value}{h:Hp}(hl:Nat.ble (BB args) 160=true):call AF (Nat.succ n) 28 args h=A4 [.t (AB 2)] (d28 (call AF n) (AV e0 0 args) h):=by
 have hb:AF.get 28=some b28:=by kernel_rfl
 rw[An hb]
 have hd:b28=⟨[.t (AB 2)],d28⟩:=by kernel_rfl
 rw[hd,Ae hl]
theorem iZ{n:Nat}{args:List Value}{h:Hp}(hl:Nat.ble (BB args) 160=true):call AF (Nat.succ n) 67 args h=A4 [.t (AB 2)] (d67 (call AF n) (AV e0 0 args) h):=by
 have hb:AF.get 67=some b67:=by kernel_rfl
 rw[An hb]
 have hd:b67=⟨[.t (AB 2)],d67⟩:=by kernel_rfl
 rw[hd,Ae hl]
theorem iq{n:Nat}{args:List Value}{h:Hp}(hl:Nat.ble (BB args) 160=true):call AF (Nat.succ n) 82 args h=A4 [] (d82 (call AF n) (AV e0 0 args) h):=by
 have hb:AF.get 82=some b82:=by kernel_rfl
 rw[An hb]
 have hd:b82=⟨[],d82⟩:=by kernel_rfl
 rw[hd,Ae hl]
theorem Zo{n:Nat}{args:List Value}{h:Hp}(hl:Nat.ble (BB args) 160=true):call AF (Nat.succ n) 108 args h=A4 [] (Z4 (call AF n) (AV e0 0 args) h):=by
 have hb:AF.get 108=some UU:=by kernel_rfl
 rw[An hb]
 have hd:UU=⟨[],Z4⟩:=by kernel_rfl
 rw[hd,Ae hl]
theorem Zq{n:Nat}{args:List Value}{h:Hp}(hl:Nat.ble (BB args) 160=true):call AF (Nat.succ n) 119 args h=A4 [] (Z9 (call AF n) (AV e0 0 args) h):=by
 have hb:AF.get 119=some UZ:=by kernel_rfl
 rw[An hb]
 have hd:UZ=⟨[],Z9⟩:=by kernel_rfl
 rw[hd,Ae hl]
theorem Zr{n:Nat}{args:List Value}{h:Hp}(hl:Nat.ble (BB args) 160=true):call AF (Nat.succ n) 125 args h=A4 [.t (AB 4)] (aB (call AF n) (AV e0 0 args) h):=by
 have hb:AF.get 125=some Ua:=by kernel_rfl
 rw[An hb]
 have hd:Ua=⟨[.t (AB 4)],aB⟩:=by kernel_rfl
 rw[hd,Ae hl]
end
noncomputable section
open Go
set_option maxRecDepth 100000
def Nu(x:Nat):List Nat→List Nat
 |[]=>[x]
 |y::r=>if x<y then y::Nu x r else x::y::r
def MP(A:List Nat)(x:Nat):List Nat:=(Nu x A.reverse).reverse
def Y3:List Nat→List Nat→List Nat
 |A,[]=>A
 |A,x::B=>Y3 (MP A x) B
def D6(l:List Nat):List Nat:=Y3 (l.take 1) (l.drop 1)
theorem JV(x y:Nat)(r:List Nat):Nu x (y::r)=if x<y then y::Nu x r else x::y::r:=rfl
theorem M0(x:Nat):∀ l:List Nat,(Nu x l).Perm (x::l)
 |[]=>.refl _
 |y::r=>by
  rw[JV]
  split
  ·exact((M0 x r).cons y).trans (.swap x y r)
  ·exact .refl _
theorem Mw(A:List Nat)(x:Nat):(MP A x).Perm (x::A):=by
 unfold MP
 exact(List.reverse_perm _).trans ((M0 x _).trans ((List.reverse_perm A).cons x))
theorem NP:∀ (B A:List Nat),(Y3 A B).Perm (A++B)
 |[],A=>by
  rw[List.append_nil];exact .refl _
 |x::B,A=>by
  show(Y3 (MP A x) B).Perm _
  exact(NP B _).trans (((Mw A x).append_right B).trans List.perm_middle.symm)
theorem IB(l:List Nat):(D6 l).Perm l:=by
 unfold D6
 have:=NP (l.drop 1) (l.take 1)
 rwa [List.take_append_drop]at this
theorem Mz{x:Nat}:∀ {R Q:List Nat},(∀ y∈R,x<y)→Nu x (R++Q)=R++Nu x Q
 |[],Q,_=>rfl
 |y::R,Q,h=>by
  rw[List.cons_append,JV,if_pos (h y List.mem_cons_self),Mz fun z hz=>h z (List.mem_cons_of_mem _ hz)]
  rfl
theorem TR{x:Nat}{P Q:List Nat}(hQ:∀ y∈Q,x<y)(hP:P=[]∨∃ P' y,P=P'++[y]∧¬ x<y):MP (P++Q) x=P++x::Q:=by
 unfold MP
 rw[List.reverse_append,Mz fun y hy=>hQ y (List.mem_reverse.1 hy)]
 have e:Nu x P.reverse=x::P.reverse:=by
  rcases hP with rfl|⟨P',y,rfl,hy⟩
  ·rfl
  ·rw[List.reverse_append]
   show Nu x (y::P'.reverse)=_
   rw[JV,if_neg hy];rfl
 rw[e,List.reverse_append,List.reverse_cons,List.reverse_reverse,List.reverse_reverse,List.append_assoc];rfl
def iv(l:List Nat):List Value:=ints .i64 (l.map Int.ofNat)
theorem Dt(l:List Nat):(iv l).length=l.length:=by unfold iv ints;rw[List.length_map,List.length_map]
theorem nt{l:List Nat}{j x:Nat}(h:l[j]? =some x):(iv l)[j]? =some (.int .i64 (x:Int)):=by
 unfold iv ints
 rw[List.getElem?_map,List.getElem?_map,h];rfl
theorem dD{L:List Value}{j:Nat}{v:Value}(hj:j<L.length):over L j [v]=L.set j v:=by
 unfold over
 rw[List.set_eq_take_append_cons_drop,if_pos hj,List.append_assoc];rfl
theorem j7{l:List Nat}{j x:Nat}:(iv l).set j (.int .i64 (x:Int))=iv (l.set j x):=by
 unfold iv ints
 rw[List.map_set,List.map_set];rfl
section
variable {F:CallF}{e:Env}{h h':Hp}{S:Nat→Prop}{bl el n c m:Nat}{l:List Nat}{Z:List Value}
theorem KP(R:h.Row bl el (iv l++Z)){j x:Nat}(hj:l[j]? =some x):load1 ⟨bl,j,none⟩ h=.ok (.int .i64 (x:Int)) h:=by
 have hl:=(List.getElem?_eq_some_iff.1 hj).1
 rw[R.load1 (off:=j) (by rw[List.length_append,Dt];omega),List.getD_eq_getElem?_getD,List.getElem?_append_left (by rw[Dt];exact hl),nt hj];rfl
theorem Nz{j:Nat}(hj:j<n):idxSR 1 (.slice (some ⟨bl,0,none⟩) n c) (.int .i64 (j:Int)) h=.ok (.pointer (some ⟨bl,j,none⟩)) h:=by
 have:=DJ (h:=h) (n:=n) (c:=c) (es:=1) (b:=bl) (off:=0) (i:=j) (k:=.i64) hj
 rwa [Nat.zero_add,Nat.mul_one]at this
theorem XX(W:h.Wf)(R:h.Row bl el (iv l++Z))(h256:256≤bl){j:Nat}(hj:j<l.length)(x:Nat):
  ∃ h',(∀ (F:CallF) (e:Env) (g g':O),g e=.pointer (some ⟨bl,j,none⟩)→g' e=.int .i64 (x:Int)→Ac .free (Af 1 g g') F e h=.ok noRes h')∧Fx (fun b=>b=bl) h h'∧h'.Row bl el (iv (l.set j x)++Z)∧h'.next=h.next∧h'.mark=h.mark:=by
 have Rq:h.quiet.Row bl el (iv l++Z):=R.same rfl
 have hoo1:j+[Value.int .i64 (x:Int)].length≤(iv l).length:=by rw[Dt];exact hj
 have hoo:j+[Value.int .i64 (x:Int)].length≤(iv l++Z).length:=by rw[List.length_append];omega
 have st:=Rq.storeR (n:=1) (off:=j) (v:=.int .i64 (x:Int)) W.quiet h256 rfl (by rw[DN];exact hoo) rfl
 rw[DN]at st
 have wr:=Rq.wr_self W.quiet hoo
 rw[NF hoo1,dD (by rw[Dt];exact hj),j7]at wr
 have fx:=Fx.wr (S:=fun b=>b=bl) W.quiet Rq hoo rfl
 have wn:=Rq.wr_next hoo
 generalize h.quiet.wr bl j [Value.int .i64 (x:Int)]=q at st wr fx wn
 exact⟨h.back q,fun F e g g' e1 e2=>Bb (by rw[Ao,e1,e2];exact st),(fx.from (h:=h) rfl rfl).same rfl rfl,wr.same rfl,wn,rfl⟩
theorem bP{x y:Nat}:call AF (m+2) 125 [.int .i64 (x:Int),.int .i64 (y:Int)] h=.ok (.bool (decide (x<y))) h:=by
 have n1:∀ z:Int,call AF (m+1) 107 [.int .i64 z] h=.ok (.bool false) h:=fun z=>by
  have c1:iNe z z=false:=CT rfl
  rw[Sq rfl]
  unfold Wr
  simp only[iN,Nat.reduceAdd,sT,Nat.reduceLT,Nat.reduceEqDiff,reduceIte,AO,AN,c1,lV0]
 have c2:iLt (x:Int) (y:Int)=decide (x<y):=by
  rw[Cs]
  by_cases hxy:x<y
  ·rw[decide_eq_true hxy,decide_eq_true (by omega)]
  ·rw[decide_eq_false hxy,decide_eq_false (by omega)]
 rw[Zr rfl]
 unfold aB
 simp only[iN,Nat.reduceAdd,sT,Nat.reduceLT,Nat.reduceEqDiff,reduceIte,gD,cA0,n1,AO,AN,c2,lV0]
def nwB:C:=(BW (AE (AC 37) (Bf Int.sub .i64 (AB 7) (kV (.int .i64 1)))
(AE (AC 40) (Bf Int.sub .i64 (AB 7) (kV (.int .i64 1)))
(AE (AC 41) (BF 1 (AB 0) (AB 40))
(AE (AC 42) (AK (AB 41))
(AE (AC 45) (BF 1 (AB 0) (AB 7))
(AE (AC 46) (AK (AB 45))
(AE (AC 47) (BF 1 (AB 0) (AB 7))
(cDo (Ac .free (Af 1 (AB 47) (AB 42)))
(AE (AC 48) (BF 1 (AB 0) (AB 37))
(cDo (Ac .free (Af 1 (AB 48) (AB 46)))
AX)))))))))))
def nnB:C:=(BW (AE (AC 18) (AW iGt .i64 (AB 7) (AB 1))
(cG (AB 18) true (AC 20) (AD (AB 0))
(cG (AB 18) true (AC 21) (AD (AB 7))
(cG (AB 18) true (AC 22) (BF 1 (AB 20) (AB 21))
(cG (AB 18) true (AC 23) (AK (AB 22))
(cG (AB 18) true (AC 24) (AD (AB 0))
(cG (AB 18) true (AC 25) (AD (AB 7))
(cG (AB 18) true (AC 26) (Bf Int.sub .i64 (AB 25) (kV (.int .i64 1)))
(cG (AB 18) true (AC 27) (BF 1 (AB 24) (AB 26))
(cG (AB 18) true (AC 28) (AK (AB 27))
(cG (AB 18) true (AC 29) (Ac .free (AM 125 [(AB 23),(AB 28)]))
(AE (AC 30) (Aj (AB 18) (AB 29) (kV (.bool false)))
(AS (AB 30)
(A2 (AY 3 (BW (AE (AC 37) (Bf Int.sub .i64 (AB 7) (kV (.int .i64 1)))
(AE (AC 40) (Bf Int.sub .i64 (AB 7) (kV (.int .i64 1)))
(AE (AC 41) (BF 1 (AB 0) (AB 40))
(AE (AC 42) (AK (AB 41))
(AE (AC 45) (BF 1 (AB 0) (AB 7))
(AE (AC 46) (AK (AB 45))
(AE (AC 47) (BF 1 (AB 0) (AB 7))
(cDo (Ac .free (Af 1 (AB 47) (AB 42)))
(AE (AC 48) (BF 1 (AB 0) (AB 37))
(cDo (Ac .free (Af 1 (AB 48) (AB 46)))
AX))))))))))))
(AE (AC 32) (Bf Int.sub .i64 (AB 7) (kV (.int .i64 1)))
(AE (AC 7) (AD (AB 32))
AX)))
(BK 2)))))))))))))))
def be:C:=(BW (AE (AC 18) (AW iGt .i64 (AB 7) (AB 1))
(cG (AB 18) true (AC 20) (AD (AB 0))
(cG (AB 18) true (AC 21) (AD (AB 7))
(cG (AB 18) true (AC 22) (BF 1 (AB 20) (AB 21))
(cG (AB 18) true (AC 23) (AK (AB 22))
(cG (AB 18) true (AC 24) (AD (AB 0))
(cG (AB 18) true (AC 25) (AD (AB 7))
(cG (AB 18) true (AC 26) (Bf Int.sub .i64 (AB 25) (kV (.int .i64 1)))
(cG (AB 18) true (AC 27) (BF 1 (AB 24) (AB 26))
(cG (AB 18) true (AC 28) (AK (AB 27))
(cG (AB 18) true (AC 29) (Ac .free (AM 125 [(AB 23),(AB 28)]))
(AE (AC 30) (Aj (AB 18) (AB 29) (kV (.bool false)))
(AS (AB 30)
(A2 (AY 3 nwB)
(AE (AC 32) (Bf Int.sub .i64 (AB 7) (kV (.int .i64 1)))
(AE (AC 7) (AD (AB 32))
AX)))
(BK 2)))))))))))))))
theorem Rj:nnB=be:=rfl
def kE:C:=(AE (AC 12) (AW iLt .i64 (AB 6) (AB 2))
(AS (AB 12)
(A2 (AY 1 (AE (AC 7) (AD (AB 6))
(AY 2 (Az nnB))))
(AE (AC 14) (BZ .i64 (Ar .i64) (AB 6) (kV (.int .i64 1)))
(AE (AC 6) (AD (AB 14))
AX)))
(BK 0)))
theorem Xs:noB=kE:=rfl
theorem aA:Z9=Wt:=rfl
theorem SU{i:Nat}{g:Hp}(hi:i≤1000000):FE Int.sub .i64 (.int .i64 ((i+1:Nat):Int)) (.int .i64 1) g=.ok (.int .i64 (i:Int)) g:=by
 have:Int.sub ((i+1:Nat):Int) 1=(i:Int):=by
  show((i+1:Nat):Int) - 1=_
  omega
 rw[CO,this,Bg (by omega)]
theorem Y7(W:h.Wf){P R:List Nat}{x y:Nat}(hl0:l=P++y::x::R)(Rw:h.Row bl el (iv l++Z))(h256:256≤bl)(hn:n=l.length)(hl:l.length≤100000)
  (s0:AB 0 e=.slice (some ⟨bl,0,none⟩) n c)(s7:AB 7 e=.int .i64 ((P.length+1:Nat):Int)):
  ∃ e' h',nwB F e h=.norm e' h'∧Fx (fun b=>b=bl) h h'∧h'.Row bl el (iv (P++x::y::R)++Z)∧∀ j,j=0∨j=1∨j=2∨j=6∨j=7→AB j e'=AB j e:=by
 have lk:l.length=P.length+1+1+R.length:=by rw[hl0,List.length_append,List.length_cons,List.length_cons];omega
 have Rm:h.marked.Row bl el (iv l++Z):=Rw.same rfl
 have ld:=KP Rm (j:=P.length+1) (x:=x) (by rw[hl0];exact Ih)
 have ldy:=KP Rm (j:=P.length) (x:=y) (by rw[hl0];exact FS)
 have ix:=fun g:Hp=>Nz (h:=g) (bl:=bl) (n:=n) (c:=c) (j:=P.length+1) (by omega)
 have iy:=fun g:Hp=>Nz (h:=g) (bl:=bl) (n:=n) (c:=c) (j:=P.length) (by omega)
 have a1:=fun g:Hp=>SU (g:=g) (i:=P.length) (by omega)
 obtain⟨h1,q1,f1,R1,n1,mk1⟩:=XX (j:=P.length+1) W.marked Rm h256 (by omega) y
 have e1:l.set (P.length+1) y=P++y::y::R:=by
  rw[hl0,show P++y::x::R=(P++[y])++x::R by simp,show P.length+1=(P++[y]).length by simp,Iv];simp
 rw[e1]at R1
 obtain⟨h2,q2,f2,R2,n2,mk2⟩:=XX (j:=P.length) f1.wf R1 h256 (by rw[List.length_append];simp) x
 rw[Iv]at R2
 have fm:Fx (fun b=>b=bl) h h1:=f1.from (h:=h) rfl rfl
 have q1':∀ (F:CallF) (e:Env),AB 47 e=.pointer (some ⟨bl,P.length+1,none⟩)→AB 42 e=.int .i64 (y:Int)→Ac .free (Af 1 (AB 47) (AB 42)) F e h.marked=.ok noRes h1:=fun F e a b=>q1 F e _ _ a b
 have q2':∀ (F:CallF) (e:Env),AB 48 e=.pointer (some ⟨bl,P.length,none⟩)→AB 46 e=.int .i64 (x:Int)→Ac .free (Af 1 (AB 48) (AB 46)) F e h1=.ok noRes h2:=fun F e a b=>q2 F e _ _ a b
 have hrun:∃ e',nwB F e h=.norm e' h2∧∀ j,j=0∨j=1∨j=2∨j=6∨j=7→AB j e'=AB j e:=by
  unfold nwB
  simp only[sT,Nat.reduceLT,Nat.reduceEqDiff,reduceIte,BA,Bz,s7,a1,A8,s0,iy,AP,AU,ldy,ix,ld,q1',q2']
  refine⟨_,rfl,fun j hj=>?_⟩
  rcases hj with rfl|rfl|rfl|rfl|rfl<;>simp only[AH,Nat.reduceLT,Nat.reduceEqDiff,reduceIte]
 obtain⟨e',r1,r2⟩:=hrun
 exact⟨e',h2,r1,fm.trans f2,R2,r2⟩
theorem Uy(W:h.Wf){A B:List Nat}{x:Nat}(Rw:h.Row bl el (iv (A++x::B)++Z))(h256:256≤bl)(hn:n=(A++x::B).length)(hl:n≤1000)
  (s0:AB 0 e=.slice (some ⟨bl,0,none⟩) n c)(s1:AB 1 e=.int .i64 0)(s7:AB 7 e=.int .i64 (A.length:Int)):
  ∃ e' h',Az nnB (call AF (m+3)) e h=.exit 2 e' h'∧Fx (fun b=>b=bl) h h'∧h'.Row bl el (iv (MP A x++B)++Z)∧∀ j,j=0∨j=1∨j=2∨j=6→AB j e'=AB j e:=by
 have hln:(A++x::B).length=A.length+1+B.length:=by rw[List.length_append,List.length_cons];omega
 refine Be (I:=fun i e' g=>∃ P Q,A=P++Q∧P.length+i=A.length∧Fx (fun b=>b=bl) h g∧g.Row bl el (iv (P++x::(Q++B))++Z)∧(∀ y∈Q,x<y)∧AB 7 e'=.int .i64 (P.length:Int)∧∀ j,j=0∨j=1∨j=2∨j=6→AB j e'=AB j e)
  (Q:=fun r=>∃ e' h',r=.exit 2 e' h'∧Fx (fun b=>b=bl) h h'∧h'.Row bl el (iv (MP A x++B)++Z)∧∀ j,j=0∨j=1∨j=2∨j=6→AB j e'=AB j e) (A.length+1) (by omega) (fun i e' g ⟨P,Q,hA,hP,fx,R,hQ,t7,ts⟩=>?_) ⟨A,[],by rw[List.append_nil],rfl,.refl W,Rw,fun y hy=>(by cases hy),s7,fun _ _=>rfl⟩
 have W':=fx.wf
 have t0:=(ts 0 (by omega)).trans s0
 have t1:=(ts 1 (by omega)).trans s1
 rcases UC P with rfl|⟨P',y,rfl⟩
 ·right
  have c1:iGt ((([]:List Nat).length:Nat):Int) 0=false:=Ei (by decide)
  have hrun:∃ e2,nnB (call AF (m+3)) e' g=.exit 2 e2 g.marked∧∀ j,j=0∨j=1∨j=2∨j=6→AB j e2=AB j e':=by
   rw[Rj]
   unfold be
   simp only[sT,Nat.reduceLT,Nat.reduceEqDiff,reduceIte,gD,BA,AO,AN,t7,t1,c1]
   refine⟨_,rfl,fun j hj=>?_⟩
   rcases hj with rfl|rfl|rfl|rfl<;>simp only[AH,Nat.reduceLT,Nat.reduceEqDiff,reduceIte]
  obtain⟨e2,r1,r2⟩:=hrun
  rw[r1]
  refine⟨rfl,e2,_,rfl,fx.same rfl rfl,?_,fun j hj=>(r2 j hj).trans (ts j hj)⟩
  have:=TR (x:=x) (P:=[]) (Q:=Q) hQ (.inl rfl)
  rw[hA,this]
  have e5:([]++x::Q)++B=[]++x::(Q++B):=rfl
  rw[e5]
  exact R.same rfl
 ·have lP:(P'++[y]).length=P'.length+1:=by simp
  rw[lP]at hP t7
  have lA:A.length=P'.length+1+Q.length:=by rw[hA,List.length_append,lP]
  have eR:(P'++[y])++x::(Q++B)=P'++y::x::(Q++B):=by simp
  rw[eR]at R
  have lL:(P'++y::x::(Q++B)).length=n:=by
   rw[hn,hln,lA]
   simp only[List.length_append,List.length_cons];omega
  have Rm:g.marked.Row bl el (iv (P'++y::x::(Q++B))++Z):=R.same rfl
  have ld:=KP Rm (j:=P'.length+1) (x:=x) Ih
  have ldy:=KP Rm (j:=P'.length) (x:=y) FS
  have ix:=fun g:Hp=>Nz (h:=g) (bl:=bl) (n:=n) (c:=c) (j:=P'.length+1) (by omega)
  have iy:=fun g:Hp=>Nz (h:=g) (bl:=bl) (n:=n) (c:=c) (j:=P'.length) (by omega)
  have c1:iGt ((P'.length+1:Nat):Int) 0=true:=Fl (by omega)
  have a1:=fun g:Hp=>SU (g:=g) (i:=P'.length) (by omega)
  have k2:=bP (m:=m+1) (h:=g.marked.quiet) (x:=x) (y:=y)
  have q2:∀ e:Env,AB 23 e=.int .i64 (x:Int)→AB 28 e=.int .i64 (y:Int)→Ac .free (AM 125 [AB 23,AB 28]) (call AF (m+3)) e g.marked=.ok (.bool (decide (x<y))) (g.marked.back g.marked.quiet):=fun e e1 e2=>by
   refine Bb ?_
   rw[Bk,Ah,Ah,A7,e1,e2];exact k2
  have y2:g.Ext (g.marked.back g.marked.quiet):=(Hp.Ext.refl W').marked.trans (.back (.refl W'.marked.quiet))
  generalize g.marked.back g.marked.quiet=h3 at q2 y2
  have R3:=R.ext W' y2
  by_cases hc:x<y
  ·left
   rw[decide_eq_true hc]at q2
   have sw:∀ e2:Env,AB 0 e2=.slice (some ⟨bl,0,none⟩) n c→AB 7 e2=.int .i64 ((P'.length+1:Nat):Int)→∃ e3 h4,nwB (call AF (m+3)) e2 h3=.norm e3 h4∧Fx (fun b=>b=bl) h3 h4∧h4.Row bl el (iv (P'++x::y::(Q++B))++Z)∧∀ j,j=0∨j=1∨j=2∨j=6∨j=7→AB j e3=AB j e2:=fun e2 a b=>Y7 y2.wf rfl R3 h256 lL.symm (by omega) a b
   have hrun:∃ e3 h4,nnB (call AF (m+3)) e' g=.norm e3 h4∧Fx (fun b=>b=bl) h3 h4∧h4.Row bl el (iv (P'++x::y::(Q++B))++Z)∧AB 7 e3=.int .i64 (P'.length:Int)∧∀ j,j=0∨j=1∨j=2∨j=6→AB j e3=AB j e':=by
    rw[Rj]
    unfold be
    simp only[sT,Nat.reduceLT,Nat.reduceEqDiff,reduceIte,gD,BA,AO,AN,t7,t1,c1,t0,A8,ix,AP,AU,ld,Bz,a1,iy,ldy,q2,BP,A1]
    obtain⟨e3,h4,r1,f4,R4,r2⟩:=sw (Env.set 30 (.bool true) (Env.set 29 (.bool true) (Env.set 28 (.int .i64 (y:Int)) (Env.set 27 (.pointer (some ⟨bl,P'.length,none⟩)) (Env.set 26 (.int .i64 (P'.length:Int)) (Env.set 25 (.int .i64 ((P'.length+1:Nat):Int)) (Env.set 24 (.slice (some ⟨bl,0,none⟩) n c) (Env.set 23 (.int .i64 (x:Int)) (Env.set 22 (.pointer (some ⟨bl,P'.length+1,none⟩)) (Env.set 21 (.int .i64 ((P'.length+1:Nat):Int)) (Env.set 20 (.slice (some ⟨bl,0,none⟩) n c) (Env.set 18 (.bool true) e')))))))))))) (by simp[AH,t0]) (by simp[AH,t7])
    have u7:AB 7 e3=.int .i64 ((P'.length+1:Nat):Int):=(r2 7 (by omega)).trans (by simp[AH,t7])
    rw[r1]
    simp only[Df,BJ,sT,Nat.reduceLT,Nat.reduceEqDiff,reduceIte,Bz,u7,a1]
    refine⟨_,_,rfl,f4,R4,by simp[AH],fun j hj=>?_⟩
    have:=r2 j (by omega)
    rcases hj with rfl|rfl|rfl|rfl<;>simp only[AH,Nat.reduceLT,Nat.reduceEqDiff,reduceIte]at this ⊢<;>exact this
   obtain⟨e3,h4,r1,f4,R4,r7,r2⟩:=hrun
   refine⟨by omega,e3,h4,r1,P',y::Q,by rw[hA];simp,by omega,(fx.trans (.of y2)).trans f4,R4,fun z hz=>?_,r7,fun j hj=>(r2 j hj).trans (ts j hj)⟩
   rcases List.mem_cons.1 hz with rfl|hz
   ·exact hc
   ·exact hQ z hz
  ·right
   rw[decide_eq_false hc]at q2
   have hrun:∃ e3,nnB (call AF (m+3)) e' g=.exit 2 e3 h3∧∀ j,j=0∨j=1∨j=2∨j=6→AB j e3=AB j e':=by
    rw[Rj]
    unfold be
    simp only[sT,Nat.reduceLT,Nat.reduceEqDiff,reduceIte,gD,BA,AO,AN,t7,t1,c1,t0,A8,ix,AP,AU,ld,Bz,a1,iy,ldy,q2]
    refine⟨_,rfl,fun j hj=>?_⟩
    rcases hj with rfl|rfl|rfl|rfl<;>simp only[AH,Nat.reduceLT,Nat.reduceEqDiff,reduceIte]
   obtain⟨e3,r1,r2⟩:=hrun
   rw[r1]
   refine⟨rfl,e3,h3,rfl,fx.trans (.of y2),?_,fun j hj=>(r2 j hj).trans (ts j hj)⟩
   rw[hA,TR hQ (.inr ⟨P',y,rfl,hc⟩),List.append_assoc,List.append_assoc]
   exact R3
theorem VX(W:h.Wf){l:List Nat}(Rw:h.Row bl el (iv l++Z))(h256:256≤bl)(hn:n=l.length)(hl:n≤1000):
  ∃ h',call AF (m+4) 119 [.slice (some ⟨bl,0,none⟩) n c,.int .i64 0,.int .i64 (n:Int)] h=.ok noRes h'∧Fx (fun b=>b=bl) h h'∧h'.Row bl el (iv (D6 l)++Z):=by
 have run:∀ e1:Env,AB 0 e1=.slice (some ⟨bl,0,none⟩) n c→AB 1 e1=.int .i64 0→AB 2 e1=.int .i64 (n:Int)→AB 6 e1=.int .i64 ((1:Nat):Int)→∃ e' h',Az noB (call AF (m+3)) e1 h=.exit 0 e' h'∧Fx (fun b=>b=bl) h h'∧h'.Row bl el (iv (D6 l)++Z):=fun e1 s0 s1 s2 s6=>by
  refine Be (I:=fun i e' g=>∃ A B,A.length+B.length=l.length∧(A.length=i+1∨(B=[]∧A.length≤i+1))∧Y3 A B=D6 l∧Fx (fun b=>b=bl) h g∧g.Row bl el (iv (A++B)++Z)∧AB 0 e'=.slice (some ⟨bl,0,none⟩) n c∧AB 1 e'=.int .i64 0∧AB 2 e'=.int .i64 (n:Int)∧AB 6 e'=.int .i64 ((i+1:Nat):Int))
   (Q:=fun x=>∃ e' h',x=.exit 0 e' h'∧Fx (fun b=>b=bl) h h'∧h'.Row bl el (iv (D6 l)++Z)) n (by omega) (fun i e' g ⟨A,B,hAB,hAi,hsr,fx,R,t0,t1,t2,t6⟩=>?_) ⟨l.take 1,l.drop 1,by rw[List.length_take,List.length_drop];omega,?_,rfl,.refl W,by rw[List.take_append_drop];exact Rw,s0,s1,s2,s6⟩
  ·have W':=fx.wf
   cases B with
   |nil=>
    right
    have hA:A.length=n:=by simp only[List.length_nil]at hAB;omega
    have c1:iLt ((i+1:Nat):Int) (n:Int)=false:=DD (by omega)
    have hrun:∃ e3,noB (call AF (m+3)) e' g=.exit 0 e3 g:=by
     rw[Xs]
     unfold kE
     simp only[sT,Nat.reduceLT,Nat.reduceEqDiff,reduceIte,AO,AN,t6,t2,c1]
     exact⟨_,rfl⟩
    obtain⟨e3,r1⟩:=hrun
    rw[r1]
    refine⟨rfl,e3,g,rfl,fx,?_⟩
    rw[← hsr]
    rw[List.append_nil]at R
    exact R
   |cons x B=>
    left
    rw[List.length_cons]at hAB
    have hA:A.length=i+1:=by
     rcases hAi with h1|⟨h1,_⟩
     ·exact h1
     ·cases h1
    have c1:iLt ((i+1:Nat):Int) (n:Int)=true:=Eo (by omega)
    obtain⟨e2,h2,i1,f2,R2,i2⟩:=Uy (m:=m) (e:=Env.set 7 (.int .i64 ((i+1:Nat):Int)) (Env.set 12 (.bool true) e')) W' R h256 (by rw[List.length_append,List.length_cons];omega) hl (by simp only[AH,Nat.reduceLT,Nat.reduceEqDiff,reduceIte];exact t0) (by simp only[AH,Nat.reduceLT,Nat.reduceEqDiff,reduceIte];exact t1) (by simp only[AH,Nat.reduceLT,Nat.reduceEqDiff,reduceIte,hA])
    have g0:=i2 0 (by omega)
    have g1:=i2 1 (by omega)
    have g2:=i2 2 (by omega)
    have g6:=i2 6 (by omega)
    simp only[AH,Nat.reduceLT,Nat.reduceEqDiff,reduceIte,t0]at g0
    simp only[AH,Nat.reduceLT,Nat.reduceEqDiff,reduceIte,t1]at g1
    simp only[AH,Nat.reduceLT,Nat.reduceEqDiff,reduceIte,t2]at g2
    simp only[AH,Nat.reduceLT,Nat.reduceEqDiff,reduceIte,t6]at g6
    have a3:FD .i64 (.int .i64 ((i+1:Nat):Int)) (.int .i64 1) h2=.ok (.int .i64 ((i+1+1:Nat):Int)) h2:=CR (by omega)
    have hrun:∃ e3,noB (call AF (m+3)) e' g=.norm e3 h2∧AB 0 e3=.slice (some ⟨bl,0,none⟩) n c∧AB 1 e3=.int .i64 0∧AB 2 e3=.int .i64 (n:Int)∧AB 6 e3=.int .i64 ((i+1+1:Nat):Int):=by
     rw[Xs]
     unfold kE
     simp only[sT,Nat.reduceLT,Nat.reduceEqDiff,reduceIte,AO,AN,t6,t2,c1,i1,g6,BR,a3]
     exact⟨_,rfl,by simp only[AH,Nat.reduceLT,Nat.reduceEqDiff,reduceIte];exact g0,by simp only[AH,Nat.reduceLT,Nat.reduceEqDiff,reduceIte];exact g1,by simp only[AH,Nat.reduceLT,Nat.reduceEqDiff,reduceIte];exact g2,by simp[AH]⟩
    obtain⟨e3,r1,r2,r3,r4,r5⟩:=hrun
    have il:(MP A x).length=A.length+1:=(Mw A x).length_eq
    exact⟨by omega,e3,h2,r1,MP A x,B,by omega,.inl (by omega),hsr,fx.trans f2,R2,r2,r3,r4,r5⟩
  ·cases l with
   |nil=>exact .inr ⟨rfl,Nat.zero_le _⟩
   |cons k l=>exact .inl rfl
 have a1:FD .i64 (.int .i64 0) (.int .i64 1) h=.ok (.int .i64 ((1:Nat):Int)) h:=CR (i:=0) (by omega)
 obtain⟨e2,h2,r1,x2⟩:=run (Env.set 6 (.int .i64 ((1:Nat):Int)) (Env.set 9 (.int .i64 ((1:Nat):Int)) (AV e0 0 [.slice (some ⟨bl,0,none⟩) n c,.int .i64 0,.int .i64 (n:Int)]))) (by simp only[iN,Nat.reduceAdd,AH,Nat.reduceLT,Nat.reduceEqDiff,reduceIte]) (by simp only[iN,Nat.reduceAdd,AH,Nat.reduceLT,Nat.reduceEqDiff,reduceIte]) (by simp only[iN,Nat.reduceAdd,AH,Nat.reduceLT,Nat.reduceEqDiff,reduceIte]) (by simp[AH])
 simp only[iN,Nat.reduceAdd]at r1
 refine⟨h2,?_,x2⟩
 rw[Zq rfl,aA]
 unfold Wt
 simp only[iN,Nat.reduceAdd,sT,Nat.reduceLT,Nat.reduceEqDiff,reduceIte,BR,a1,r1,Dc,DW]
theorem Z5:Z4=Ws:=rfl
def npT:C:=(AE (AC 29) (AW iEq .i64 (AB 3) (kV (.int .i64 0)))
(AS (AB 29)
(AE (AC 33) (AM 120 [(AB 0),(AB 1),(AB 2)])
Ad)
(AE (AC 35) (CI (AB 8))
(A2 (AS (AB 35)
(AE (AC 39) (AM 121 [(AB 0),(AB 1),(AB 2)])
(AE (AC 41) (Bf Int.sub .i64 (AB 3) (kV (.int .i64 1)))
(AE (AC 3) (AD (AB 41))
AX)))
AX)
(AE (AC 46) (AM 122 [(AB 0),(AB 1),(AB 2)])
(AE (AC 47) (Aa 0 (AB 46))
(AE (AC 48) (Aa 1 (AB 46))
(AE (AC 11) (AD (AB 47))
(AE (AC 12) (AD (AB 48))
(AE (AC 50) (AW iEq .i64 (AB 12) (kV (.int .i64 2)))
(A2 (AS (AB 50)
(AE (AC 54) (AM 123 [(AB 0),(AB 1),(AB 2)])
(AE (AC 56) (Bf Int.sub .i64 (AB 2) (kV (.int .i64 1)))
(AE (AC 59) (Bf Int.sub .i64 (AB 11) (AB 1))
(AE (AC 60) (Bf Int.sub .i64 (AB 56) (AB 59))
(AE (AC 11) (AD (AB 60))
(AE (AC 12) (AD (kV (.int .i64 1)))
AX))))))
AX)
(cG (AB 8) true (AC 63) (AD (AB 9))
(AE (AC 64) (Aj (AB 8) (AB 63) (kV (.bool false)))
(cG (AB 64) true (AC 66) (AD (AB 12))
(cG (AB 64) true (AC 67) (AW iEq .i64 (AB 66) (kV (.int .i64 1)))
(AE (AC 68) (Aj (AB 64) (AB 67) (kV (.bool false)))
(A2 (AS (AB 68)
(AE (AC 72) (AM 124 [(AB 0),(AB 1),(AB 2)])
(AS (AB 72)
Ad
AX))
AX)
(BW (AE (AC 74) (AW iGt .i64 (AB 1) (kV (.int .i64 0)))
(cG (AB 74) true (AC 76) (AD (AB 0))
(cG (AB 74) true (AC 77) (AD (AB 1))
(cG (AB 74) true (AC 78) (Bf Int.sub .i64 (AB 77) (kV (.int .i64 1)))
(cG (AB 74) true (AC 79) (BF 1 (AB 76) (AB 78))
(cG (AB 74) true (AC 80) (AK (AB 79))
(cG (AB 74) true (AC 81) (AD (AB 0))
(cG (AB 74) true (AC 82) (AD (AB 11))
(cG (AB 74) true (AC 83) (BF 1 (AB 81) (AB 82))
(cG (AB 74) true (AC 84) (AK (AB 83))
(cG (AB 74) true (AC 85) (Ac .free (AM 125 [(AB 80),(AB 84)]))
(cG (AB 74) true (AC 86) (CI (AB 85))
(AE (AC 87) (Aj (AB 74) (AB 86) (kV (.bool false)))
(AS (AB 87)
(AE (AC 92) (AM 126 [(AB 0),(AB 1),(AB 2),(AB 11)])
(AE (AC 13) (AD (AB 92))
(AE (AC 1) (AD (AB 13))
(BK 1))))
(AE (AC 99) (AM 127 [(AB 0),(AB 1),(AB 2),(AB 11)])
(AE (AC 100) (Aa 0 (AB 99))
(AE (AC 101) (Aa 1 (AB 99))
(AE (AC 14) (AD (AB 100))
(AE (AC 15) (AD (AB 101))
(AE (AC 9) (AD (AB 15))
(AE (AC 105) (Bf Int.sub .i64 (AB 14) (AB 1))
(AE (AC 108) (Bf Int.sub .i64 (AB 2) (AB 14))
(AE (AC 16) (AD (AB 105))
(AE (AC 17) (AD (AB 108))
(AE (AC 110) (Gv .i64 (AB 10) (kV (.int .i64 8)))
(AE (AC 18) (AD (AB 110))
(AE (AC 113) (AW iLt .i64 (AB 16) (AB 17))
(AS (AB 113)
(AE (AC 116) (AW iGe .i64 (AB 16) (AB 18))
(AE (AC 8) (AD (AB 116))
(AE (AC 121) (AM 108 [(AB 0),(AB 1),(AB 14),(AB 3)])
(AE (AC 123) (BZ .i64 (Ar .i64) (AB 14) (kV (.int .i64 1)))
(AE (AC 1) (AD (AB 123))
AX)))))
(AE (AC 126) (AW iGe .i64 (AB 17) (AB 18))
(AE (AC 8) (AD (AB 126))
(AE (AC 129) (BZ .i64 (Ar .i64) (AB 14) (kV (.int .i64 1)))
(AE (AC 132) (AM 108 [(AB 0),(AB 129),(AB 2),(AB 3)])
(AE (AC 2) (AD (AB 14))
AX)))))))))))))))))))))))))))))))))))))))))))))))))))
def oD:C:=(AY 1 (AE (AC 21) (Bf Int.sub .i64 (AB 2) (AB 1))
(AE (AC 10) (AD (AB 21))
(AE (AC 23) (AW iLe .i64 (AB 10) (kV (.int .i64 12)))
(AS (AB 23)
(AE (AC 27) (AM 119 [(AB 0),(AB 1),(AB 2)])
Ad)
npT)))))
theorem kG:npB=oD:=rfl
theorem Y0(W:h.Wf){l:List Nat}(Rw:h.Row bl el (iv l++Z))(h256:256≤bl)(hn:n=l.length)(hl:n≤12):
  ∃ h',call AF (m+6) 82 [.slice (some ⟨bl,0,none⟩) n c] h=.ok noRes h'∧Fx (fun b=>b=bl) h h'∧h'.Row bl el (iv (D6 l)++Z):=by
 obtain⟨h2,k2,x2,R2⟩:=VX (m:=m) (c:=c) W Rw h256 hn (by omega)
 obtain⟨k,kb⟩:=NZ (m:=m+3) (h:=h) (n:=n) (by omega)
 have cv:DQ .u64 (.int .i64 (n:Int)) h=.ok (.int .u64 (n:Int)) h:=by rw[Ck,D4 (by omega)]
 have a1:FE Int.sub .i64 (.int .i64 (n:Int)) (.int .i64 0) h=.ok (.int .i64 (n:Int)) h:=by
  have:Int.sub (n:Int) 0=(n:Int):=Int.sub_zero _
  rw[CO,this,Bg (by omega)]
 have c1:iLe (n:Int) 12=true:=Jx (by omega)
 have pd:call AF (m+5) 108 [.slice (some ⟨bl,0,none⟩) n c,.int .i64 0,.int .i64 (n:Int),.int .i64 (k:Int)] h=.ok noRes h2:=by
  have hb:∃ e2,npB (call AF (m+4)) (Env.set 9 (.bool true) (Env.set 8 (.bool true) (AV e0 0 [.slice (some ⟨bl,0,none⟩) n c,.int .i64 0,.int .i64 (n:Int),.int .i64 (k:Int)]))) h=.ret e2 h2:=by
   rw[kG]
   unfold oD
   simp only[iN,Nat.reduceAdd,sT,Nat.reduceLT,Nat.reduceEqDiff,reduceIte,Bz,a1,AO,AN,c1,cA0,k2]
   exact⟨_,rfl⟩
  obtain⟨e2,r1⟩:=hb
  have r1:=Ld r1
  simp only[iN,Nat.reduceAdd]at r1
  rw[Zo rfl,Z5]
  unfold Ws
  simp only[iN,Nat.reduceAdd,sT,Nat.reduceLT,Nat.reduceEqDiff,reduceIte,r1,Bp,DW]
 refine⟨h2,?_,x2,R2⟩
 rw[iq rfl]
 unfold d82
 simp only[iN,Nat.reduceAdd,sT,Nat.reduceLT,Nat.reduceEqDiff,reduceIte,Am,Ea,CN,cv,cA0,kb,pd,Dc,DW]
end
end
noncomputable section
open Go
set_option maxRecDepth 100000
theorem V9{b n:Nat}:Eg ⟨b,0,none⟩ n=⟨b,n,none⟩:=by
 cases n with
 |zero=>rfl
 |succ m=>
  show(⟨b,0+(m+1),none⟩:Addr)=_
  rw[Nat.zero_add]
theorem RC(x:Kt):(Ab x).length=6:=rfl
theorem ai{ks:List Kt}(hu:∀ k∈ks,A0 k.u=true):Bh (flK ks)=true:=by
 induction ks with
 |nil=>rfl
 |cons k l ih=>
  refine OJ fun x hx=>?_
  obtain⟨y,hy,hxy⟩:=List.mem_flatMap.1 hx
  have huy:=hu y hy
  have hxy:x∈[Value.int .i64 y.a,.int .i64 y.b,.int .i64 y.c,.int .u8 (y.s:Int),y.u,.int .i64 (y.p:Int)]:=hxy
  simp only[List.mem_cons,List.mem_nil_iff,or_false]at hxy
  rcases hxy with rfl|rfl|rfl|rfl|rfl|rfl
  all_goals first|exact huy|rfl
section
variable {F:CallF}{e:Env}{h h':Hp}{S:Nat→Prop}{m k n bl:Nat}{v:Value}
theorem Ex{x:O}{d N i:Nat}{K:Nat→R}(hx:x e=.int .i64 (i:Int))(hi:i≤N):CZ e (some x) d N K=K i:=by
 show(match Cy (x e)with|.ok n=>(bif Nat.ble n N then K n else .no)|.no=>.no)=_
 rw[hx,Cu]
 simp only
 rw[Al.2 hi];rfl
theorem G6{b lo hi c:Nat}(hc:lo<c):Bn (some ⟨b,0,none⟩) 6 lo hi c h=.ok (.slice (some ⟨b,6 * lo,none⟩) (hi - lo) (c - lo)) h:=by
 unfold Bn
 simp only[Ai]
 have e1:Nat.beq c lo=false:=by
  cases hb:Nat.beq c lo
  ·rfl
  ·have:=Nat.eq_of_beq_eq_true hb;omega
 rw[e1]
 simp only
 cases lo with
 |zero=>rfl
 |succ i=>
  have e2:Nat.mul (i+1) 6=Nat.succ (6 * i+5):=by
   show(i+1) * 6=_
   omega
  rw[e2]
  have e3:Nat.add 0 (Nat.succ (6 * i+5))=6 * (i+1):=by
   show 0+(6 * i+5+1)=_
   omega
  simp only[e3]
  rfl
theorem S4{L:List Value}(R:h.Row bl 84 L):EX 83 (some ⟨bl,0,none⟩) h=true:=by
 obtain⟨cc,hcc,_⟩:=R.rowOf
 unfold EX
 simp only[hcc]
 rfl
theorem Z2{lo hi c:Nat}{L:List Value}(R:h.Row bl 84 L)(hc:lo<c):Dq 83 6 (some ⟨bl,0,none⟩) false lo hi c h=.ok (.slice (some ⟨bl,6 * lo,none⟩) (hi - lo) (c - lo)) h:=by
 cases lo with
 |zero=>exact G6 hc
 |succ l=>
  show(bif EX 83 (some ⟨bl,0,none⟩) h then Bn (some ⟨bl,0,none⟩) 6 (l+1) hi c h else .no)=_
  rw[S4 R]
  exact G6 hc
theorem Um{P Q:List Kt}{x:Kt}(W:h.Wf)(R:h.Row bl 84 (flK (P++x::Q)))(h256:256≤bl)(hn:n=(P++x::Q).length)(hl:n≤100000)(hu:∀ k∈P++x::Q,A0 k.u=true):
  ∃ h',call AF (m+1) 81 [.slice (some ⟨bl,0,none⟩) n n,.int .i64 (P.length:Int),.int .i64 ((P.length+1:Nat):Int)] h=.ok (.slice (some ⟨bl,0,none⟩) (n - 1) n) h'∧Fx (fun b=>b=bl) h h'∧h'.Row bl 84 (flK (P++Q)++Ab K0):=by
 have hn':n=P.length+1+Q.length:=by rw[hn,List.length_append,List.length_cons];omega
 have lf:(flK (P++x::Q)).length=6 * n:=by rw[CJ,hn]
 have cut1:∀ (F:CallF) (e:Env),AB 0 e=.slice (some ⟨bl,0,none⟩) n n→AB 1 e=.int .i64 (P.length:Int)→AB 2 e=.int .i64 ((P.length+1:Nat):Int)→AB 12 e=.int .i64 (n:Int)→∃ v,DE 83 6 (AB 0) (some (AB 1)) (some (AB 2)) (some (AB 12)) F e h=.ok v h:=fun F e e0 e1 e2 e3=>by
  show ∃ v,(match AB 0 e with|.slice a n c=>DB e n c (some (AB 1)) (some (AB 2)) (some (AB 12)) (fun l hh m=>Dq 83 6 a true l hh m h)|_=>.no)=.ok v h
  rw[e0]
  show ∃ v,CZ e (some (AB 12)) n n (fun m=>CZ e (some (AB 2)) n m fun hh=>CZ e (some (AB 1)) 0 hh fun l=>Dq 83 6 (some ⟨bl,0,none⟩) true l hh m h)=.ok v h
  rw[Ex e3 (Nat.le_refl _),Ex e2 (by omega),Ex e1 (by omega)]
  exact⟨_,G6 (by omega)⟩
 have cut2:∀ (F:CallF) (e:Env) (h:Hp),AB 0 e=.slice (some ⟨bl,0,none⟩) n n→AB 1 e=.int .i64 (P.length:Int)→DE 83 6 (AB 0) none (some (AB 1)) none F e h=.ok (.slice (some ⟨bl,0,none⟩) P.length n) h:=fun F e h e0 e1=>by
  show(match AB 0 e with|.slice a n c=>DB e n c none (some (AB 1)) none (fun l hh m=>Dq 83 6 a false l hh m h)|_=>.no)=_
  rw[e0]
  show CZ e (some (AB 1)) n n (fun hh=>Dq 83 6 (some ⟨bl,0,none⟩) false 0 hh n h)=_
  rw[Ex e1 (by omega)]
  exact G6 (lo:=0) (by omega)
 have xm:=(Hp.Ext.refl W).marked
 have Rm:h.marked.Row bl 84 (flK (P++x::Q)):=R.same rfl
 have Rq:h.marked.quiet.Row bl 84 (flK (P++x::Q)):=R.same rfl
 have hdrop:((flK (P++x::Q)).drop (6 * (P.length+1))).take (Q.length * 6)=flK Q:=by
  have e1:flK (P++x::Q)=flK (P++[x])++flK Q:=by rw[← IU];simp
  have e2:6 * (P.length+1)=(flK (P++[x])).length:=by rw[CJ,List.length_append];rfl
  rw[e1,e2,List.drop_left,List.take_of_length_le (by rw[CJ];omega)]
 obtain⟨src,cut3,hsrc,hlen⟩:∃ src,(∀ (F:CallF) (e:Env),AB 0 e=.slice (some ⟨bl,0,none⟩) n n→AB 2 e=.int .i64 ((P.length+1:Nat):Int)→DE 83 6 (AB 0) (some (AB 2)) none none F e h.marked=.ok src h.marked)∧(∀ K:List Value→Go.Proofs.YtedbmmfebjfibaaGreat.R,BN h.marked.quiet 6 src Q.length K=K (flK Q))∧lenV src=.ok Q.length:=by
  have key:∀ (F:CallF) (e:Env),AB 0 e=.slice (some ⟨bl,0,none⟩) n n→AB 2 e=.int .i64 ((P.length+1:Nat):Int)→DE 83 6 (AB 0) (some (AB 2)) none none F e h.marked=Bn (some ⟨bl,0,none⟩) 6 (P.length+1) n n h.marked:=fun F e e0 e2=>by
   show(match AB 0 e with|.slice a n c=>DB e n c (some (AB 2)) none none (fun l hh m=>Dq 83 6 a false l hh m h.marked)|_=>.no)=_
   rw[e0]
   show CZ e (some (AB 2)) 0 n (fun l=>Dq 83 6 (some ⟨bl,0,none⟩) false l n n h.marked)=_
   rw[Ex e2 (by omega)]
   show(bif EX 83 (some ⟨bl,0,none⟩) h.marked then Bn (some ⟨bl,0,none⟩) 6 (P.length+1) n n h.marked else .no)=_
   rw[S4 Rm];rfl
  rcases Nat.eq_zero_or_pos Q.length with hq|hq
  ·obtain rfl:Q=[]:=List.eq_nil_of_length_eq_zero hq
   have hnp:n=P.length+1:=by rw[hn'];rfl
   refine⟨.slice (some ⟨bl,0,none⟩) 0 0,fun F e e0 e2=>?_,fun K=>?_,rfl⟩
   ·rw[key F e e0 e2,hnp]
    unfold Bn
    simp only[Ai,Nat.beq_refl]
    have:Nat.sub (P.length+1) (P.length+1)=0:=Nat.sub_self _
    rw[this]
   ·have:=Rq.srcE (es:=6) (off:=0) (n:=0) (sl:=0) (c:=0) (k:=K) (by omega)
    exact this
  ·refine⟨.slice (some ⟨bl,6 * (P.length+1),none⟩) Q.length Q.length,fun F e e0 e2=>?_,fun K=>?_,rfl⟩
   ·rw[key F e e0 e2,G6 (by omega),show n - (P.length+1)=Q.length by omega]
   ·have:=Rq.srcE (es:=6) (off:=6 * (P.length+1)) (n:=Q.length) (sl:=Q.length) (c:=Q.length) (k:=K) (by rw[lf];omega)
    rw[this,hdrop]
 have hoQ:Bh (flK Q)=true:=ai fun k hk=>hu k (List.mem_append_right _ (List.mem_cons_of_mem _ hk))
 have hoo:6 * P.length+(flK Q).length≤(flK (P++x::Q)).length:=by rw[lf,CJ];omega
 have ap:DF 6 64 83 (.slice (some ⟨bl,0,none⟩) P.length n) src h.marked.quiet=.ok (.slice (some ⟨bl,0,none⟩) (n - 1) n) (h.marked.quiet.wr bl (6 * P.length) (flK Q)):=by
  unfold DF DM
  simp only[hlen,hsrc,Ai,Nat.add_eq]
  rw[Al.2 (show P.length+Q.length≤n by omega)]
  simp only
  have e2:Eg ⟨bl,0,none⟩ (Nat.mul P.length 6)=⟨bl,6 * P.length,none⟩:=by
   have:Nat.mul P.length 6=6 * P.length:=Nat.mul_comm _ _
   rw[this,V9]
  rw[e2,Rq.store xm.wf.quiet h256 hoo hoQ,show P.length+Q.length=n - 1 by omega]
 have wr:=Rq.wr_self xm.wf.quiet hoo
 have fx:=Fx.wr (S:=fun b=>b=bl) xm.wf.quiet Rq hoo rfl
 generalize h.marked.quiet.wr bl (6 * P.length) (flK Q)=q at ap wr fx
 obtain⟨Z,hZ,hov⟩:∃ Z:List Value,Z.length=6∧over (flK (P++x::Q)) (6 * P.length) (flK Q)=flK (P++Q)++Z:=by
  refine⟨(flK (x::Q)).drop (6 * Q.length),by rw[List.length_drop,CJ,List.length_cons];omega,?_⟩
  unfold over
  have e1:flK (P++x::Q)=flK P++flK (x::Q):=IU _ _
  have e2:6 * P.length=(flK P).length:=(CJ P).symm
  have e3:(flK Q).length=6 * Q.length:=CJ Q
  rw[e3,e1,e2,List.take_left,List.drop_length_add_append,IU]
 rw[hov]at wr
 have q1:∀ (F:CallF) (e:Env),AB 22 e=.slice (some ⟨bl,0,none⟩) P.length n→AB 25 e=src→Ac .free (A9 6 64 83 (AB 22) (AB 25)) F e h.marked=.ok (.slice (some ⟨bl,0,none⟩) (n - 1) n) (h.marked.back q):=fun F e e1 e2=>by
  refine Bb ?_
  rw[BL,e1,e2];exact ap
 have f1:Fx (fun b=>b=bl) h (h.marked.back q):=((fx.from (h:=h.marked) rfl rfl).same (h2:=h.marked.back q) rfl rfl).from (h:=h) rfl rfl
 have R1:(h.marked.back q).Row bl 84 (flK (P++Q)++Z):=wr.same rfl
 generalize h.marked.back q=h1 at q1 f1 R1
 have lPQ:(flK (P++Q)).length=6 * (n - 1):=by rw[CJ,List.length_append];omega
 have cut4:∀ (F:CallF) (e:Env),AB 0 e=.slice (some ⟨bl,0,none⟩) (n - 1) n→AB 29 e=.int .i64 ((n - 1:Nat):Int)→AB 7 e=.int .i64 (n:Int)→DE 83 6 (AB 0) (some (AB 29)) (some (AB 7)) none F e h1=.ok (.slice (some ⟨bl,6 * (n - 1),none⟩) 1 1) h1:=fun F e e0 e1 e2=>by
  show(match AB 0 e with|.slice a n c=>DB e n c (some (AB 29)) (some (AB 7)) none (fun l hh m=>Dq 83 6 a false l hh m h1)|_=>.no)=_
  rw[e0]
  show CZ e (some (AB 7)) (n - 1) n (fun hh=>CZ e (some (AB 29)) 0 hh fun l=>Dq 83 6 (some ⟨bl,0,none⟩) false l hh n h1)=_
  rw[Ex e2 (Nat.le_refl _),Ex e1 (by omega),Z2 R1 (by omega),show n - (n - 1)=1 by omega]
 have hoo2:6 * (n - 1)+(Ab K0).length≤(flK (P++Q)++Z).length:=by rw[List.length_append,lPQ,hZ];exact Nat.le_refl _
 have cl:∀ (F:CallF) (e:Env),AB 31 e=.slice (some ⟨bl,6 * (n - 1),none⟩) 1 1→Lm De.zero (AB 31) F e h1=.ok noRes (h1.wr bl (6 * (n - 1)) (Ab K0)):=fun F e e1=>by
  show(match AB 31 e with|.slice none _ _=>DT h1|.slice (some a) n _=>(match n with| 0=>DT h1|Nat.succ k=>Cb a (BI De.zero (Nat.succ k)) h1 DT)|_=>.no)=_
  rw[e1]
  show Cb ⟨bl,6 * (n - 1),none⟩ (BI De.zero 1) h1 DT=_
  rw[UN,R1.store f1.wf h256 hoo2 rfl];rfl
 have wr2:=R1.wr_self f1.wf hoo2
 have fx2:=Fx.wr (S:=fun b=>b=bl) f1.wf R1 hoo2 rfl
 have hov2:over (flK (P++Q)++Z) (6 * (n - 1)) (Ab K0)=flK (P++Q)++Ab K0:=by
  unfold over
  rw[← lPQ,List.take_left,List.drop_length_add_append,RC,List.drop_of_length_le (by omega),List.append_nil]
 rw[hov2]at wr2
 generalize h1.wr bl (6 * (n - 1)) (Ab K0)=h2 at cl wr2 fx2
 refine⟨h2,?_,f1.trans fx2,wr2⟩
 have c1:iEq (P.length:Int) ((P.length+1:Nat):Int)=false:=Bd (by omega)
 rw[ip rfl]
 unfold d81
 simp only[iN,Nat.reduceAdd,sT,Nat.reduceLT,Nat.reduceEqDiff,reduceIte,Am,Ea]
 obtain⟨v,hv⟩:=cut1 (call AF m) (Env.set 12 (.int .i64 (n:Int)) (Env.set 6 (.slice none 0 0) (Env.set 2 (.int .i64 ((P.length+1:Nat):Int)) (Env.set 1 (.int .i64 (P.length:Int)) (Env.set 0 (.slice (some ⟨bl,0,none⟩) n n) e0))))) (by simp[AH]) (by simp[AH]) (by simp[AH]) (by simp[AH])
 rw[hv]
 simp only[sT,Nat.reduceLT,Nat.reduceEqDiff,reduceIte,AO,AN,c1,Am,Ea,BA,cut2,cut3,q1,cut4,cl,lV0]
end
end
noncomputable section
open Go
set_option maxRecDepth 100000
theorem Fx.xt{S:Nat→Prop}{h h':Hp}(x:Fx S h h')(hs:∀ b,S b→h.next≤b):h.Ext h':=⟨x.next,fun i hi=>x.get i hi fun s=>by have:=hs i s;omega,x.low _ (Nat.min_le_left _ _) (Nat.min_le_right _ _) fun b hb=>Nat.le_trans (Nat.min_le_right _ _) (hs b hb),x.wf⟩
theorem Fx.xtF{S:Nat→Prop}{h0 h h':Hp}(x0:h0.Ext h)(x:Fx S h h')(hs:∀ b,S b→h0.next≤b):h0.Ext h':=Fx.xt (S:=S) ((Fx.of x0).trans x) hs
theorem XW(a b:List Nat):iv (a++b)=iv a++iv b:=by unfold iv ints;rw[List.map_append,List.map_append]
section
variable {F:CallF}{e:Env}{h h':Hp}{A:At}{T M:List Nat}{c0 bad m k p n bl:Nat}{arm:Int}{fr:List Nat}{v lv fv:Value}
theorem jE{n z:Nat}(W:h.Wf){u:Value}{xs:List Nat}(V:h.Vals u (iv xs))(hl:xs.length≤1000):
  ∃ h1 w h2 b,call AF (n+1) 48 [u] h=.ok w h1∧h.Ext h1∧DF 1 8 3 w (.slice (some ⟨h1.next,0,none⟩) 1 1) (h1.pushRow 0 [.int .i64 (z:Int)])=.ok (.slice (some ⟨b,0,none⟩) (xs.length+1) (xs.length+1)) h2∧h.Ext h2∧h2.Row b 4 (iv (xs++[z]))∧h.next≤b:=by
 have ha:Bh (iv xs)=true:=GY .i64 _
 have fin:∀ (h1:Hp) (w:Value),h.Ext h1→(h1.Own h.next 3 w (iv xs)∨(xs=[]∧∃ b,w=.slice (some ⟨b,0,none⟩) 0 0∧h1.Row b 0 []))→∃ h2 b,DF 1 8 3 w (.slice (some ⟨h1.next,0,none⟩) 1 1) (h1.pushRow 0 [.int .i64 (z:Int)])=.ok (.slice (some ⟨b,0,none⟩) (xs.length+1) (xs.length+1)) h2∧h.Ext h2∧h2.Row b 4 (iv (xs++[z]))∧h.next≤b:=fun h1 w x1 o=>by
  have y2:=(Hp.Ext.refl x1.wf).pushRow 0 [Value.int .i64 (z:Int)]
  have Rw:=Hp.Row.new x1.wf 0 [Value.int .i64 (z:Int)]
  have hlt:h1.next<(h1.pushRow 0 [Value.int .i64 (z:Int)]).next:=Nat.lt_succ_self _
  generalize h1.pushRow 0 [Value.int .i64 (z:Int)]=g at y2 Rw hlt
  have x2:=x1.trans y2
  have Vz:g.Vals (.slice (some ⟨h1.next,0,none⟩) 1 1) [.int .i64 (z:Int)]:=.inr ⟨h1.next,0,1,0,_,rfl,Rw,Nat.le_refl _,rfl⟩
  rcases o with o|⟨rfl,b,rfl,r⟩
  ·obtain⟨h2,v',a1,a2,a3,a4,_⟩:=EL (eb:=8) (en:=3) (k:=h.next) x2 (Nat.le_refl _) (by have:=x1.next;omega) (o.ext x1.wf y2) Vz (Nat.one_pos) rfl (by rw[Dt];show(xs.length+1+1) * 9≤_;omega)
   rcases a3 with ⟨_,h2'⟩|⟨b,h1',h2',h3',h4'⟩
   ·have:=congrArg List.length h2'
    simp at this
   ·have e1:(iv xs++[Value.int .i64 (z:Int)]).length=xs.length+1:=by rw[List.length_append,Dt];rfl
    rw[e1]at h1'
    subst h1'
    exact⟨h2,b,a1,a2,by rw[XW];exact h2',h3'⟩
  ·have hs:∀ K:List Value→Go.Proofs.YtedbmmfebjfibaaGreat.R,BN g 1 (.slice (some ⟨h1.next,0,none⟩) 1 1) 1 K=K [.int .i64 (z:Int)]:=fun K=>Rw.srcE (es:=1) (off:=0) (n:=1) (Nat.le_refl _)
   obtain⟨h2,a1,a2,a3,a4,_⟩:=ED (eb:=8) (en:=3) x2 (r.ext x1.wf y2) hs rfl rfl (by omega) rfl (by omega)
   exact⟨h2,g.next,a1,a2,a3,by have:=x2.next;omega⟩
 rcases V with ⟨rfl,hx⟩|⟨b,off,c,el,L,h1,h2,h3,h4⟩
 ·have hx0:xs=[]:=by
   have:=congrArg List.length hx
   rw[Dt]at this
   exact List.eq_nil_of_length_eq_zero this
  have ne:∀ e:Env,AB 0 e=.slice none 0 0→oEq SY.k false (AB 0) (kV (.slice none 0 0)) (call AF n) e h=.ok (.bool true) h:=fun e he=>Ie (t:=0) UI he
  have k1:call AF (n+1) 48 [.slice none 0 0] h=.ok nilS h:=by
   rw[JH rfl]
   unfold d48
   simp only[iN,Nat.reduceAdd,sT,Nat.reduceLT,Nat.reduceEqDiff,reduceIte,ne,lV0]
  obtain⟨h2,b,q1,q2,q3,q4⟩:=fin h nilS (.refl W) (.inl (.inl ⟨rfl,hx⟩))
  exact⟨h,nilS,h2,b,k1,.refl W,q1,q2,q3,q4⟩
 ·have V:h.Vals u (iv xs):=.inr ⟨b,off,c,el,L,h1,h2,h3,h4⟩
  have x1:=(Hp.Ext.refl W).pushRow 0 []
  have R:=Hp.Row.new W 0 []
  have es:=fun (e:Env) (t:List Value)=>JO (F:=call AF n) (e:=e) (t:=t) W
  have n1:(h.pushRow 0 []).next=h.next+1:=rfl
  generalize h.pushRow 0 []=g at x1 R es n1
  have ne:∀ e:Env,AB 0 e=u→oEq SY.k false (AB 0) (kV (.slice none 0 0)) (call AF n) e h=.ok (.bool false) h:=fun e he=>Id (t:=0) UI (he.trans h1)
  have V1:=V.ext W x1
  have big:=W.big
  rcases Nat.eq_zero_or_pos xs.length with hz|hz
  ·obtain rfl:xs=[]:=List.eq_nil_of_length_eq_zero hz
   have ap:DF 1 8 3 (.slice (some ⟨h.next,0,none⟩) 0 0) u g=.ok (.slice (some ⟨h.next,0,none⟩) 0 0) (g.wr h.next 0 []):=Gt x1.wf big R (fun k=>V1.src rfl k) V1.lenV
   have R2:=R.wr_self x1.wf (off:=0) (vs:=[]) (Nat.le_refl _)
   have x2:=R.wr_ext x1 (Nat.le_refl _) (off:=0) (vs:=[]) (Nat.le_refl _)
   have k1:call AF (n+1) 48 [u] h=.ok (.slice (some ⟨h.next,0,none⟩) 0 0) (g.wr h.next 0 []):=by
    rw[JH rfl]
    unfold d48
    simp only[iN,Nat.reduceAdd,sT,Nat.reduceLT,Nat.reduceEqDiff,reduceIte,ne,es,BL,ap,lV0]
   obtain⟨h2,b,q1,q2,q3,q4⟩:=fin _ (.slice (some ⟨h.next,0,none⟩) 0 0) x2 (.inr ⟨rfl,h.next,rfl,R2⟩)
   exact⟨_,_,h2,b,k1,x2,q1,q2,q3,q4⟩
  ·have hlv:=V1.lenV
   rw[Dt]at hlv
   obtain⟨h2,a1,a2,a3,a4,a5⟩:=ED (eb:=8) (en:=3) (n:=xs.length) x1 R (es:=1) (fun k=>by have:=V1.src rfl k;rwa [Dt]at this) hlv (by rw[Dt];omega) hz ha (by omega)
   have k1:call AF (n+1) 48 [u] h=.ok (.slice (some ⟨g.next,0,none⟩) xs.length xs.length) h2:=by
    rw[JH rfl]
    unfold d48
    simp only[iN,Nat.reduceAdd,sT,Nat.reduceLT,Nat.reduceEqDiff,reduceIte,ne,es,BL,a1,lV0]
   obtain⟨h3,b,q1,q2,q3,q4⟩:=fin h2 (.slice (some ⟨g.next,0,none⟩) xs.length xs.length) a2 (.inl (.inr ⟨g.next,by rw[Dt],a3,by omega,by omega⟩))
   exact⟨h2,_,h3,b,k1,a2,q1,q2,q3,q4⟩
theorem TC{P Q:List Kt}{x:Kt}(W:h.Wf)(s:Sl h A T M c0 arm (P++x::Q) fr lv fv bad false)(hkl:(P++x::Q).length≤100)(hfl:fr.length≤11)(hp3:3 * x.p+3≤A.n):
  ∃ h' lv' fv',call AF (m+7) 52 [pt A.bs,.int .i64 (P.length:Int)] h=.ok (.int .i64 (x.p:Int)) h'∧Fx (fun b=>b=A.bs) h h'∧Sl h' A T M c0 arm (P++Q) (D6 (fr++[x.p])) lv' fv' bad false∧∀ b,blkV fv' b→h.next≤b:=by
 have hD:=s.D_lt W
 have hu:∀ k∈P++x::Q,A0 k.u=true:=fun k hk=>(s.ko k hk).1.vs.one.2.1
 obtain⟨_,_,_,l3,_⟩:=BC s.row
 obtain⟨b0,_,ix,_,lde⟩:=s.ls.at (i:=P.length) (k:=x) FS
 have lp:=lde 5 (.int .i64 (x.p:Int)) rfl
 obtain⟨h1,w,k1,x1,ko⟩:=Ss (m:=m+5) W s.ls hu (by omega)
 obtain⟨bl,hw,Rb,hbl,h256⟩:∃ bl,w=.slice (some ⟨bl,0,none⟩) (P++x::Q).length (P++x::Q).length∧h1.Row bl 84 (flK (P++x::Q))∧h.next≤bl∧256≤bl:=by
  rcases ko with (⟨_,h2⟩|h2)|⟨h2,_⟩
  ·have:=congrArg List.length h2
   simp at this
  ·exact h2
  ·have:=congrArg List.length h2
   simp at this
 subst hw
 obtain⟨h2,k2,f2,R2⟩:=Um (m:=m+5) x1.wf Rb h256 rfl (by omega) hu
 have x2:h.Ext h2:=Fx.xtF x1 f2 fun b hb=>by rw[hb];exact hbl
 have s2:=s.ext W x2
 have nD:∀ b,h.next≤b→¬ A.D b:=fun b hb hd=>by have:=hD b hd;omega
 have nbs:∀ b,¬ A.D b→b≠A.bs:=fun b hb h=>hb (.inl h)
 have lPQ:(P++x::Q).length=(P++Q).length+1:=by simp only[List.length_append,List.length_cons];omega
 generalize hlv':(Value.slice (some ⟨bl,0,none⟩) ((P++x::Q).length - 1) (P++x::Q).length)=lv' at k2
 obtain⟨h3,st3,row3,n3,f3,_⟩:=F8 (v:=lv') x2.wf s2.row (off:=3) (show 3<7 by omega) s.ne.2.2.2.2 (by rw[← hlv'];rfl) (by rw[← hlv'];rfl)
 have row3:h3.Row A.bs 0 (slL A.bd A.tb lv' fv bad false):=row3
 have s3:Sl h3 A T M c0 arm (P++Q) fr lv' fv bad false:=s2.bsx x2.wf f3 row3 (by
   rw[← hlv']
   exact(OS (n:=(P++x::Q).length - 1) (c:=(P++x::Q).length) (f3.row x2.wf R2 (nbs _ (nD _ hbl))) (by omega) (by omega)).mono fun b hb=>by rw[show b=bl from hb];exact nD _ hbl)
  (fun k hk=>by
   have hk':k∈P++x::Q:=by
    rcases List.mem_append.1 hk with h1|h1
    ·exact List.mem_append_left _ h1
    ·exact List.mem_append_right _ (List.mem_cons_of_mem _ h1)
   exact⟨(s2.ko k hk').1.keep fun b el L hb _ r=>f3.row x2.wf r (nbs b hb),(s2.ko k hk').2⟩)
  (s2.fs.keep fun b el L hb r=>f3.row x2.wf r (nbs b hb)) ⟨by have:=s.le.1;omega,s.le.2⟩
 obtain⟨_,_,_,_,l4,_⟩:=BC s3.row
 obtain⟨h4,w4,h5,b5,k4,x4,a5,x5,R5,hb5⟩:=jE (n:=m+5) (z:=x.p) f3.wf (xs:=fr) s3.fs.vals (by omega)
 have bs:=fun (F:CallF) (e:Env) (he:AB 5 e=.int .i64 (x.p:Int))=>EF (F:=F) x4.wf he
 have s5:=s3.ext f3.wf x5
 generalize hfv':(Value.slice (some ⟨b5,0,none⟩) (fr.length+1) (fr.length+1))=fv' at a5
 obtain⟨h6,st6,row6,n6,f6,_⟩:=F8 (v:=fv') x5.wf s5.row (off:=4) (show 4<7 by omega) s.ne.2.2.2.2 (by rw[← hfv'];rfl) (by rw[← hfv'];rfl)
 have row6:h6.Row A.bs 0 (slL A.bd A.tb lv' fv' bad false):=row6
 have hb5':h.next≤b5:=by have:=x2.next;have:=f3.next;omega
 have nb5:=nD _ hb5'
 have R6:=f6.row x5.wf R5 (nbs _ nb5)
 have h256':256≤b5:=by have:=W.big;omega
 have lfa:(iv (fr++[x.p])).length=fr.length+1:=by rw[Dt,List.length_append];rfl
 have hfree:∀ q∈fr++[x.p],3 * q+3≤A.n:=fun q hq=>by
  rcases List.mem_append.1 hq with h1|h1
  ·exact s.le.2.2.2 q h1
  ·rw[List.mem_singleton.1 h1];exact hp3
 have s6:Sl h6 A T M c0 arm (P++Q) (fr++[x.p]) lv' fv' bad false:=s5.bsx x5.wf f6 row6 (s5.ls.keep fun b el L hb r=>f6.row x5.wf r (nbs b hb)) (fun k hk=>⟨(s5.ko k hk).1.keep fun b el L hb _ r=>f6.row x5.wf r (nbs b hb),(s5.ko k hk).2⟩)
  (by
   rw[← hfv']
   refine .inr ⟨b5,4,?_,R6,.inl rfl,nb5⟩
   show _=Value.slice _ (iv (fr++[x.p])).length (iv (fr++[x.p])).length
   rw[lfa]) ⟨s5.le.1,by rw[List.length_append];show fr.length+1≤1000;omega,s5.le.2.2.1,hfree⟩
 obtain⟨_,_,_,_,l46,_⟩:=BC s6.row
 obtain⟨h7,k7,f7,R7⟩:=Y0 (m:=m) (Z:=[]) (n:=fr.length+1) (c:=fr.length+1) f6.wf (by rw[List.append_nil];exact R6) h256' (by rw[List.length_append];rfl) (by omega)
 rw[List.append_nil]at R7
 rw[hfv']at k7
 have pm:=IB (fr++[x.p])
 have kp:∀ b el L,b≠b5→h6.Row b el L→h7.Row b el L:=fun b el L hb r=>f7.row f6.wf r hb
 have nbb:∀ b el L,(el=0∨el=6∨el=84)→h6.Row b el L→b≠b5:=fun b el L he r=>ES r R6 (by omega)
 have s7:Sl h7 A T M c0 arm (P++Q) (D6 (fr++[x.p])) lv' fv' bad false:=by
  refine⟨kp _ _ _ (nbb _ _ _ (.inl rfl) s6.row) s6.row,s6.dk.fr f6.wf f7 (nbb _ _ _ (.inl rfl) s6.dk.disk) (nbb _ _ _ (.inl rfl) s6.dk.med) (fun h=>(It R6 s6.dk.map) h.symm),kp _ _ _ (nbb _ _ _ (.inl rfl) s6.tab) s6.tab,s.tok,?_,fun y hy=>⟨(s6.ko y hy).1.keep fun b el L hb he r=>kp b el L (nbb b el L (by omega) r) r,(s6.ko y hy).2⟩,?_,s.ne,?_⟩
  ·rcases s6.ls with h1|⟨b,c,el,L,q1,q2,q3,q4,q5,q6,q7⟩
   ·exact .inl h1
   ·exact .inr ⟨b,c,el,L,q1,q2,kp _ _ _ (nbb b el _ (by omega) q3) q3,q4,q5,q6,q7⟩
  ·rw[← hfv']
   refine .inr ⟨b5,4,?_,R7,.inl rfl,nb5⟩
   show _=Value.slice _ (iv (D6 (fr++[x.p]))).length (iv (D6 (fr++[x.p]))).length
   rw[Dt,pm.length_eq,List.length_append];rfl
  ·exact⟨s6.le.1,by rw[pm.length_eq];exact s6.le.2.1,s6.le.2.2.1,fun q hq=>hfree q (pm.mem_iff.1 hq)⟩
 have fx:Fx (fun b=>b=A.bs) h h7:=by
  have e1:Fx (fun b=>b=A.bs) h h2:=.of x2
  have e2:=((e1.trans f3).trans (.of x5)).trans f6
  exact e2.fresh f7 hb5'
 refine⟨h7,lv',fv',?_,fx,s7,fun b hb=>by
  obtain⟨off,n,c,e1⟩:=hb
  rw[← hfv']at e1
  injection e1 with e1 _ _
  injection e1 with e1
  injection e1 with e1 _ _
  omega⟩
 have a1:=CR (i:=P.length) (h:=h1) (by have:=lPQ;simp only[List.length_append]at hkl;omega)
 have k1':call AF (m+6) 49 [lv] h=.ok (.slice (some ⟨bl,0,none⟩) (P++x::Q).length (P++x::Q).length) h1:=k1
 have k2':call AF (m+6) 81 [.slice (some ⟨bl,0,none⟩) (P++x::Q).length (P++x::Q).length,.int .i64 (P.length:Int),.int .i64 ((P.length+1:Nat):Int)] h1=.ok lv' h2:=k2
 have k4':call AF (m+6) 48 [fv] h3=.ok w4 h4:=k4
 have k7':call AF (m+6) 82 [fv'] h6=.ok noRes h7:=k7
 rw[iL rfl]
 unfold d52
 simp only[iN,Nat.reduceAdd,sT,Nat.reduceLT,Nat.reduceEqDiff,reduceIte,Ay,Aq,AJ,AQ,Nat.zero_add,AP,AU,l3,A8,ix,lp,cA0,k1',BR,a1,k2',Ao,st3,l4,k4',bs,BL,a5,st6,l46,k7',lV0]
theorem YV{P Q:List Kt}{x:Kt}(W:h.Wf)(s:Sl h A T M c0 arm (P++x::Q) fr lv fv bad false)(hkl:(P++x::Q).length≤100)(hfl:fr.length≤11)(hp3:3 * x.p+3≤A.n)(ha:Bu arm (k+2)):
  ∃ h' c1 arm' lv' fv',call AF (m+8) 68 [pt A.bs,.int .i64 (P.length:Int)] h=.ok (.int .i64 0) h'∧Fx A.D h h'∧Sl h' A T (Qp M [x.p]) c1 arm' (P++Q) (D6 (fr++[x.p])) lv' fv' bad false∧Bu arm' k:=by
 obtain⟨_,_,_,l3,_⟩:=BC s.row
 obtain⟨b0,_,ix,_,lde⟩:=s.ls.at (i:=P.length) (k:=x) FS
 have lp:=lde 5 (.int .i64 (x.p:Int)) rfl
 have bs:=fun (F:CallF) (e:Env) (he:AB 14 e=.int .i64 (x.p:Int))=>EF (F:=F) W he
 have y1:=(Hp.Ext.refl W).pushRow 0 [Value.int .i64 (x.p:Int)]
 have Rw:=Hp.Row.new W 0 [Value.int .i64 (x.p:Int)]
 generalize h.pushRow 0 [Value.int .i64 (x.p:Int)]=h1 at bs y1 Rw
 have s1:=s.ext W y1
 obtain⟨h2,c1,arm1,k2,f2,s2,a2⟩:=Jj (m:=m+1) (k:=k) y1.wf s1 (ps:=[x.p]) (pv:=.slice (some ⟨h.next,0,none⟩) 1 1) (.inr ⟨h.next,0,1,0,_,rfl,Rw,Nat.le_refl _,rfl⟩) (fun p hp=>by rw[List.mem_singleton.1 hp];exact hp3) (by simp) (by show 1≤50;omega) (ha.le (by show 1+1+k≤k+2;omega))
 obtain⟨h3,lv',fv',k3,f3,s3,_⟩:=TC (m:=m) f2.wf s2 hkl hfl hp3
 have c00:iNe 0 0=false:=CT rfl
 have k2':call AF (m+7) 53 [pt A.bs,.slice (some ⟨h.next,0,none⟩) 1 1] h1=.ok (.int .i64 0) h2:=k2
 refine⟨h3,c1,arm1,lv',fv',?_,((Fx.of y1).trans (f2.mono fun b hb=>.inr hb)).trans (f3.mono fun b hb=>.inl hb),s3,a2⟩
 rw[ia rfl]
 unfold d68
 simp only[iN,Nat.reduceAdd,sT,Nat.reduceLT,Nat.reduceEqDiff,reduceIte,Ay,Aq,AJ,AQ,Nat.zero_add,AP,AU,l3,A8,ix,lp,bs,cA0,k2',AO,AN,c00,k3,lV0]
end
end
noncomputable section
open Go
set_option maxRecDepth 100000
def Js(ks:List Kt)(a b c:Int):Option Int:=match ks.find? (CG a b c)with
 |some k=>if k.s=2 then some 0 else if Cg a b c ks=true then some 61 else none
 |none=>if Cg a b c ks=true then some 61 else some 60
def elB(a b c:Int)(k:Kt):Bool:=decide (k.a=a) && decide (k.b=b) && decide (k.c<c)
def frE(fr:List Nat)(out:List Kt):List Nat:=out.foldl (fun f x=>D6 (f++[x.p])) fr
theorem PK(fr:List Nat)(out:List Kt)(x:Kt):frE fr (out++[x])=D6 (frE fr out++[x.p]):=by unfold frE;rw[List.foldl_append];rfl
theorem LQ:∀ (out:List Kt) (fr:List Nat),(frE fr out).Perm (fr++out.map (·.p))
 |[],fr=>by rw[List.map_nil,List.append_nil];exact .refl _
 |x::out,fr=>by
  show(frE (D6 (fr++[x.p])) out).Perm _
  have:=LQ out (D6 (fr++[x.p]))
  refine this.trans (((IB _).append_right _).trans ?_)
  rw[List.append_assoc];exact .refl _
theorem S8(fr:List Nat)(out:List Kt):(frE fr out).length=fr.length+out.length:=by rw[(LQ out fr).length_eq,List.length_append,List.length_map]
theorem LL{α:Type}(P:α→Bool)(l:List α)(x:α):(l++[x]).filter P=if P x=true then l.filter P++[x]else l.filter P:=by
 rw[List.filter_append]
 cases h:P x
 ·rw[if_neg (by decide),List.filter_cons_of_neg (by rw[h];decide),List.filter_nil,List.append_nil]
 ·rw[if_pos rfl,List.filter_cons_of_pos h,List.filter_nil]
theorem Fx.drop{S:Nat→Prop}{h h':Hp}(x:Fx (fun b=>S b∨h.next≤b) h h'):Fx S h h':=⟨x.next,fun i hi hs=>x.get i hi (fun h1=>h1.elim hs (fun h2=>by omega)),x.wf,fun L q1 q2 q3=>x.low L q1 q2 fun b hb=>hb.elim (q3 b) (fun h2=>by omega)⟩
theorem Hp.WI.blk{h:Hp}{S:Nat→Prop}{v:Value}{xs:List Value}(o:h.WI S v xs){b:Nat}(hb:blkV v b):∃ el L,h.Row b el L:=by
 obtain⟨_,_,_,e⟩:=hb
 rcases o with ⟨h1,_⟩|⟨b',el,h1,h2,_⟩
 ·rw[h1]at e;cases e
 ·rw[h1]at e
  injection e with e _ _
  injection e with e
  injection e with e _ _
  exact⟨el,_,e ▸ h2⟩
section
variable {F:CallF}{e:Env}{h h':Hp}{S:Nat→Prop}{A:At}{T M:List Nat}{c0 bad m k p n bl:Nat}{arm:Int}{ks:List Kt}{fr:List Nat}{v lv fv:Value}{ov:Bool}
theorem Hp.Own.fx{en:Nat}{xs:List Value}(o:h.Own k en v xs)(W:h.Wf)(x:Fx S h h')(hs:∀ b,k≤b→¬ S b):h'.Own k en v xs:=by
 rcases o with h1|⟨b,h1,h2,h3,h4⟩
 ·exact .inl h1
 ·exact .inr ⟨b,h1,x.row W h2 (hs b h3),h3,h4⟩
theorem Hp.Own.blkL{en:Nat}{xs:List Value}(o:h.Own k en v xs)(W:h.Wf){b:Nat}(hb:blkV v b):b<h.next:=by
 obtain⟨_,_,_,e⟩:=hb
 rcases o with ⟨h1,_⟩|⟨b',h1,h2,_⟩
 ·rw[h1]at e;cases e
 ·rw[h1]at e
  injection e with e _ _
  injection e with e
  injection e with e _ _
  exact e ▸ h2.lt W
theorem Sl.app{w:Value}{xs:List Value}(s:Sl h A T M c0 arm ks fr lv fv bad ov)(o:h.Own k 3 w xs)(hr:∀ b el L,¬ blkV w b→h.Row b el L→h'.Row b el L)(hm:h'.bl.get A.bc=h.bl.get A.bc)(hf:∀ b,blkV fv b→¬ blkV w b):Sl h' A T M c0 arm ks fr lv fv bad ov:=by
 have nb:∀ b el L,(el=0∨el=6∨el=84)→h.Row b el L→¬ blkV w b:=fun b el L he r hb=>by
  obtain⟨_,_,_,e⟩:=hb
  rcases o with ⟨h1,_⟩|⟨b',h1,h2,_⟩
  ·rw[h1]at e;cases e
  ·rw[h1]at e
   injection e with e _ _
   injection e with e
   injection e with e _ _
   exact ES r h2 (by omega) e.symm
 refine⟨hr _ _ _ (nb _ _ _ (.inl rfl) s.row) s.row,⟨hr _ _ _ (nb _ _ _ (.inl rfl) s.dk.disk) s.dk.disk,hr _ _ _ (nb _ _ _ (.inl rfl) s.dk.med) s.dk.med,s.dk.len,s.dk.byt,hm.trans s.dk.map,s.dk.big,s.dk.n1⟩,hr _ _ _ (nb _ _ _ (.inl rfl) s.tab) s.tab,s.tok,?_,fun y hy=>⟨(s.ko y hy).1.keep fun b el L hb he r=>hr b el L (nb b el L (by omega) r) r,(s.ko y hy).2⟩,?_,s.ne,s.le⟩
 ·rcases s.ls with h1|⟨b,c,el,L,q1,q2,q3,q4,q5,q6,q7⟩
  ·exact .inl h1
  ·exact .inr ⟨b,c,el,L,q1,q2,hr _ _ _ (nb b el _ (by omega) q3) q3,q4,q5,q6,q7⟩
 ·rcases s.fs with h1|⟨b,el,h1,h2,h3,h4⟩
  ·exact .inl h1
  ·exact .inr ⟨b,el,h1,hr _ _ _ (hf b ⟨_,_,_,h1⟩) h2,h3,h4⟩
theorem dG(W:h.Wf){z:Nat}{xs:List Nat}(hk:k≤h.next)(o:h.Own k 3 v (iv xs))(hl:xs.length≤1000):
  ∃ h2 v',DF 1 8 3 v (.slice (some ⟨h.next,0,none⟩) 1 1) (h.pushRow 0 [.int .i64 (z:Int)])=.ok v' h2∧Fx (fun b=>k≤b) h h2∧h2.Own k 3 v' (iv (xs++[z]))∧∀ b el L,¬ blkV v b→h.Row b el L→h2.Row b el L∧¬ blkV v' b:=by
 have y2:=(Hp.Ext.refl W).pushRow 0 [Value.int .i64 (z:Int)]
 have Rw:=Hp.Row.new W 0 [Value.int .i64 (z:Int)]
 have n2:(h.pushRow 0 [Value.int .i64 (z:Int)]).next=h.next+1:=rfl
 generalize h.pushRow 0 [Value.int .i64 (z:Int)]=g at y2 Rw n2
 have Vz:g.Vals (.slice (some ⟨h.next,0,none⟩) 1 1) [.int .i64 (z:Int)]:=.inr ⟨h.next,0,1,0,_,rfl,Rw,Nat.le_refl _,rfl⟩
 have x0:Hp.Ext {g with next:=k,low:=min g.low k} g:=⟨by show k≤g.next;omega,fun _ _=>rfl,by show min (min g.low k) k≤g.low;omega,y2.wf⟩
 obtain⟨h2,v',a1,a2,a3,a4,a5⟩:=EL (eb:=8) (en:=3) (k:=k) x0 (Nat.le_refl _) (by omega) (o.ext W y2) Vz Nat.one_pos rfl (by rw[Dt];show(xs.length+1+1) * 9≤_;omega)
 have f2:Fx (fun b=>k≤b) g h2:=⟨by omega,fun i hi hs=>a2.get i (by show i<k;omega),a2.wf,fun L q1 q2 q3=>Nat.le_trans (Nat.le_min.2 ⟨Nat.le_min.2 ⟨q1,q3 k (Nat.le_refl _)⟩,q3 k (Nat.le_refl _)⟩) a2.low⟩
 refine⟨h2,v',a1,(Fx.of y2).trans f2,by rw[XW];exact a3,fun b el L hb r=>?_⟩
 exact a5 b el L hb (r.ext W y2)
theorem Wk{a b c:Int}(W:h.Wf)(s:Sl h A T M c0 arm ks fr lv fv bad false)(hkl:fr.length+ks.length≤11)(hp3:∀ k∈ks,3 * k.p+3≤A.n)(s0:AB 0 e=pt A.bs)(s1:AB 1 e=.int .i64 a)(s2:AB 2 e=.int .i64 b)(s3:AB 3 e=.int .i64 c)(s15:AB 15 e=nilS)(s16:AB 16 e=.int .i64 ((0:Nat):Int)):
  ∃ e' h' lv' fv' w,Az cmL (call AF (m+7)) e h=.exit 1 e' h'∧Fx (fun b=>b=A.bs) h h'∧AB 0 e'=pt A.bs∧AB 15 e'=w∧h'.Own h.next 3 w (iv ((ks.filter (elB a b c)).map (·.p)))∧
   Sl h' A T M c0 arm (ks.filter fun k=> !elB a b c k) (frE fr (ks.filter (elB a b c))) lv' fv' bad false:=by
 have hD:=s.D_lt W
 have hbs:=hD A.bs (.inl rfl)
 refine Be (I:=fun i e' h'=>∃ lv' fv' w,Fx (fun b=>b=A.bs∨h.next≤b) h h'∧AB 0 e'=pt A.bs∧AB 1 e'=.int .i64 a∧AB 2 e'=.int .i64 b∧AB 3 e'=.int .i64 c∧AB 15 e'=w∧AB 16 e'=.int .i64 ((((ks.take i).filter fun k=> !elB a b c k).length:Nat):Int)∧i≤ks.length∧h'.Own h.next 3 w (iv (((ks.take i).filter (elB a b c)).map (·.p)))∧
   Sl h' A T M c0 arm ((ks.take i).filter (fun k=> !elB a b c k)++ks.drop i) (frE fr ((ks.take i).filter (elB a b c))) lv' fv' bad false∧∀ b,blkV fv' b→¬ blkV w b)
  (Q:=fun x=>∃ e' h' lv' fv' w,x=.exit 1 e' h'∧Fx (fun b=>b=A.bs) h h'∧AB 0 e'=pt A.bs∧AB 15 e'=w∧h'.Own h.next 3 w (iv ((ks.filter (elB a b c)).map (·.p)))∧
   Sl h' A T M c0 arm (ks.filter fun k=> !elB a b c k) (frE fr (ks.filter (elB a b c))) lv' fv' bad false) ks.length (by omega) (fun i e' h' ⟨lv',fv',w,fx,t0,t1,t2,t3,t15,t16,hi,ow,sl,hf⟩=>?_) ⟨lv,fv,nilS,.refl W,s0,s1,s2,s3,s15,s16,Nat.zero_le _,.inl ⟨rfl,rfl⟩,s,fun b _ h=>Fe h⟩
 have W':=fx.wf
 obtain⟨_,_,_,l3,_⟩:=BC sl.row
 have ln:=sl.ls.len h'
 have hfl:=S8 fr ((ks.take i).filter (elB a b c))
 have hf1:((ks.take i).filter (elB a b c)).length≤(ks.take i).length:=List.length_filter_le _ _
 have hf2:((ks.take i).filter (fun k=> !elB a b c k)).length≤(ks.take i).length:=List.length_filter_le _ _
 rw[List.length_take,Nat.min_eq_left hi]at hf1 hf2
 by_cases hlt:i<ks.length
 ·left
  obtain⟨x,hx⟩:∃ x,ks[i]? =some x:=⟨_,List.getElem?_eq_getElem hlt⟩
  have hxm:=List.mem_of_getElem? hx
  have htk:ks.take (i+1)=ks.take i++[x]:=by rw[List.take_add_one,hx];rfl
  have hdr:ks.drop i=x::ks.drop (i+1):=by
   rw[List.drop_eq_getElem_cons hlt]
   rw[List.getElem?_eq_getElem hlt]at hx
   injection hx with hx
   rw[hx]
  have hfN:=LL (fun k=> !elB a b c k) (ks.take i) x
  have hfY:=LL (elB a b c) (ks.take i) x
  rw[← htk]at hfN hfY
  generalize hP:(ks.take i).filter (fun k=> !elB a b c k)=P at *
  generalize hO:(ks.take i).filter (elB a b c)=O at *
  rw[hdr]at sl ln
  have hPl:(P++x::ks.drop (i+1)).length=P.length+1+(ks.length - (i+1)):=by rw[List.length_append,List.length_cons,List.length_drop];omega
  have c1:iLt (P.length:Int) ((P++x::ks.drop (i+1)).length:Int)=true:=Eo (by omega)
  obtain⟨b',_,ix,ld,_⟩:=sl.ls.at (i:=P.length) (k:=x) FS
  have al:=fun (F:CallF) (e:Env)=>B7 (F:=F) (e:=e) W' (n:=6) (t:=C5)
  have Ra:=Hp.Row.alloc W' GO (show(Ab K0).length=6 from rfl)
  have y1:h'.Ext (h'.push (.cells C5 6 0)):=(Hp.Ext.refl W').push _
  generalize h'.push (.cells C5 6 0)=h1 at al Ra y1
  have hu:=(sl.ko x (List.mem_append_right _ List.mem_cons_self)).1.vs.one.2.1
  obtain⟨st,_,y2,R5,n2⟩:=L8 W' y1 (Nat.le_refl _) Ra rfl (k:=x) hu
  generalize h1.wr h'.next 0 (Ab x)=h2 at st y2 R5 n2
  obtain⟨m0,m1,m2,_⟩:=Bx R5
  have sl2:=sl.ext W' y2
  cases hel:elB a b c x with
  |false=>
   have a3:=CR (i:=P.length) (h:=h2) (by omega)
   rw[if_pos (by rw[hel];rfl)]at hfN
   rw[if_neg (by rw[hel];decide)]at hfY
   have hrun:∃ e2,cmL (call AF (m+7)) e' h'=.norm e2 h2∧AB 0 e2=pt A.bs∧AB 1 e2=.int .i64 a∧AB 2 e2=.int .i64 b∧AB 3 e2=.int .i64 c∧AB 15 e2=w∧AB 16 e2=.int .i64 ((P.length+1:Nat):Int):=by
    unfold cmL
    by_cases h1:x.a=a
    ·have d1:iEq x.a a=true:=CM h1
     by_cases h2:x.b=b
     ·have d2:iEq x.b b=true:=CM h2
      have d3:iLt x.c c=false:=GT (fun h3=>by
       unfold elB at hel
       rw[decide_eq_true h1,decide_eq_true h2,decide_eq_true h3]at hel
       cases hel)
      simp only[sT,Nat.reduceLT,Nat.reduceEqDiff,reduceIte,gD,Ay,t0,Aq,AJ,AQ,Nat.zero_add,AP,AU,l3,Am,ln,AO,AN,t16,c1,A8,ix,Aw,Av,ld,al,Ao,st,m0,m1,m2,t1,t2,t3,d1,d2,d3,BR,a3]
      exact⟨_,rfl,by simp[AH,t0,t1,t2,t3,t15]⟩
     ·have d2:iEq x.b b=false:=Bd h2
      simp only[sT,Nat.reduceLT,Nat.reduceEqDiff,reduceIte,gD,Ay,t0,Aq,AJ,AQ,Nat.zero_add,AP,AU,l3,Am,ln,AO,AN,t16,c1,A8,ix,Aw,Av,ld,al,Ao,st,m0,m1,m2,t1,t2,t3,d1,d2,BR,a3]
      exact⟨_,rfl,by simp[AH,t0,t1,t2,t3,t15]⟩
    ·have d1:iEq x.a a=false:=Bd h1
     simp only[sT,Nat.reduceLT,Nat.reduceEqDiff,reduceIte,gD,Ay,t0,Aq,AJ,AQ,Nat.zero_add,AP,AU,l3,Am,ln,AO,AN,t16,c1,A8,ix,Aw,Av,ld,al,Ao,st,m0,m1,m2,t1,t2,t3,d1,BR,a3]
     exact⟨_,rfl,by simp[AH,t0,t1,t2,t3,t15]⟩
   obtain⟨e2,r1,r2,r3,r4,r5,r6,r7⟩:=hrun
   refine⟨hlt,e2,h2,r1,lv',fv',w,fx.trans (.of y2),r2,r3,r4,r5,r6,?_,hlt,?_,?_,hf⟩
   ·rw[hfN,r7,List.length_append];rfl
   ·rw[hfY];exact ow.ext W' y2
   ·rw[hfN,hfY,List.append_assoc];exact sl2
  |true=>
   rw[if_neg (by rw[hel];decide)]at hfN
   rw[if_pos hel]at hfY
   have hxx:x.a=a∧x.b=b∧x.c<c:=by
    unfold elB at hel
    rw[Bool.and_eq_true,Bool.and_eq_true]at hel
    exact⟨of_decide_eq_true hel.1.1,of_decide_eq_true hel.1.2,of_decide_eq_true hel.2⟩
   have d1:iEq x.a a=true:=CM hxx.1
   have d2:iEq x.b b=true:=CM hxx.2.1
   have d3:iLt x.c c=true:=Jy hxx.2.2
   obtain⟨h3,lv3,fv3,k3,f3,s3',hfr⟩:=TC (m:=m) y2.wf sl2 (by omega) (by omega) (hp3 x hxm)
   have ow3:h3.Own h.next 3 w (iv (O.map (·.p))):=(ow.ext W' y2).fx y2.wf f3 fun b hb h1=>by omega
   have n3:h.next≤h3.next:=by have:=fx.next;have:=y2.next;have:=f3.next;omega
   obtain⟨h5,w',k5,f5,ow5,kp5⟩:=dG (z:=x.p) f3.wf n3 ow3 (by rw[List.length_map];omega)
   have bs:=fun (F:CallF) (e:Env) (he:AB 134 e=.int .i64 (x.p:Int))=>EF (F:=F) f3.wf he
   have hm5:h5.bl.get A.bc=h3.bl.get A.bc:=f5.get _ ((s3'.dk.lt f3.wf).2.2) (fun h1=>by
    have:=hD A.bc (.inr (.inr (.inr rfl)))
    omega)
   have hf3:∀ b,blkV fv3 b→¬ blkV w b:=fun b hb h1=>by
    have:=hfr b hb
    have:=ow.blkL W' h1
    have:=y2.next
    omega
   have s5:=s3'.app ow3 (fun b el L hb r=>(kp5 b el L hb r).1) hm5 hf3
   have hf5:∀ b,blkV fv3 b→¬ blkV w' b:=fun b hb=>by
    obtain⟨el,L,r⟩:=s3'.fs.blk hb
    exact(kp5 b el L (hf3 b hb) r).2
   have a3:=fun (g:Hp)=>CR (i:=P.length) (h:=g) (by omega)
   have k3':call AF (m+7) 52 [pt A.bs,.int .i64 (P.length:Int)] h2=.ok (.int .i64 (x.p:Int)) h3:=k3
   have hrun:∃ e2,cmL (call AF (m+7)) e' h'=.norm e2 h5∧AB 0 e2=pt A.bs∧AB 1 e2=.int .i64 a∧AB 2 e2=.int .i64 b∧AB 3 e2=.int .i64 c∧AB 15 e2=w'∧AB 16 e2=.int .i64 (P.length:Int):=by
    unfold cmL
    simp only[sT,Nat.reduceLT,Nat.reduceEqDiff,reduceIte,gD,Ay,t0,Aq,AJ,AQ,Nat.zero_add,AP,AU,l3,Am,ln,AO,AN,t16,c1,A8,ix,Aw,Av,ld,al,Ao,st,m0,m1,m2,t1,t2,t3,d1,d2,d3,cA0,k3',bs,BL,t15,k5]
    exact⟨_,rfl,by simp[AH,t0,t1,t2,t3,t16]⟩
   obtain⟨e2,r1,r2,r3,r4,r5,r6,r7⟩:=hrun
   refine⟨hlt,e2,h5,r1,lv3,fv3,w',?_,r2,r3,r4,r5,r6,?_,hlt,?_,?_,hf5⟩
   ·exact((fx.trans (.of y2)).trans (f3.mono fun b hb=>.inl hb)).trans (f5.mono fun b hb=>.inr hb)
   ·rw[hfN];exact r7
   ·rw[hfY,List.map_append];exact ow5
   ·rw[hfN,hfY,PK];exact s5
 ·right
  have hie:i=ks.length:=by omega
  subst hie
  rw[List.take_length]at *
  rw[List.drop_length,List.append_nil]at sl ln
  have c1:iLt (((ks.filter fun k=> !elB a b c k).length:Nat):Int) (((ks.filter fun k=> !elB a b c k).length:Nat):Int)=false:=DD (Nat.le_refl _)
  have hrun:∃ e2,cmL (call AF (m+7)) e' h'=.exit 1 e2 h'∧AB 0 e2=pt A.bs∧AB 15 e2=w:=by
   unfold cmL
   simp only[sT,Nat.reduceLT,Nat.reduceEqDiff,reduceIte,Ay,t0,Aq,AJ,AQ,Nat.zero_add,AP,AU,l3,Am,ln,AO,AN,t16,c1]
   exact⟨_,rfl,by simp[AH,t0,t15]⟩
  obtain⟨e2,r1,r2,r3⟩:=hrun
  rw[r1]
  exact⟨rfl,e2,h',lv',fv',w,rfl,fx.drop,r2,r3,ow,sl⟩
end
end
noncomputable section
open Go
set_option maxRecDepth 100000
theorem MD{α:Type}{l:List α}{j:Nat}{x:α}(h:l[j]? =some x):l.set j x=l:=by
 obtain⟨hj,rfl⟩:=List.getElem?_eq_some_iff.1 h
 exact List.set_getElem_self hj
theorem Tg{α:Type}{l:List α}{j:Nat}{x:α}(h:l[j]? =some x):l=l.take j++x::l.drop (j+1)∧(l.take j).length=j:=by
 obtain⟨hj,rfl⟩:=List.getElem?_eq_some_iff.1 h
 refine⟨?_,by rw[List.length_take];omega⟩
 rw[← List.drop_eq_getElem_cons hj,List.take_append_drop]
theorem JR{a b c:Int}{k:Kt}(h:CG a b c k=true):k.a=a∧k.b=b∧k.c=c:=by
 unfold CG at h
 rw[Bool.and_eq_true,Bool.and_eq_true]at h
 exact⟨of_decide_eq_true h.1.1,of_decide_eq_true h.1.2,of_decide_eq_true h.2⟩
theorem oe{i:Nat}{g:Hp}(hi:i≤1000000):FE Int.sub .i64 (.int .i64 (i:Int)) (.int .i64 1) g=.ok (.int .i64 ((i:Int) - 1)) g:=by
 cases i with
 |zero=>rw[CO];rfl
 |succ n=>rw[SU (by omega),show((n+1:Nat):Int) - 1=(n:Int)by omega]
def dpL:C:=(AE (AC 25) (AW iGe .i64 (AB 10) (kV (.int .i64 0)))
(AS (AB 25)
(A2 (AY 1 (AE (AC 29) (BM (AB 0))
(AE (AC 30) (AG 3 (AB 29))
(AE (AC 31) (AK (AB 30))
(AE (AC 33) (BF 6 (AB 31) (AB 10))
(AE (AC 34) (Ax 6 (AB 33))
(AE (AC 11) (Bl 6 C5)
(cDo (Af 6 (AB 11) (AB 34))
(AE (AC 35) (AG 0 (AB 11))
(AE (AC 36) (AG 0 (AB 35))
(AE (AC 37) (AK (AB 36))
(AE (AC 39) (AW iEq .i64 (AB 37) (AB 1))
(cG (AB 39) true (AC 41) (AG 0 (AB 11))
(cG (AB 39) true (AC 42) (AG 1 (AB 41))
(cG (AB 39) true (AC 43) (AK (AB 42))
(cG (AB 39) true (AC 44) (AD (AB 2))
(cG (AB 39) true (AC 45) (AW iEq .i64 (AB 43) (AB 44))
(AE (AC 46) (Aj (AB 39) (AB 45) (kV (.bool false)))
(cG (AB 46) true (AC 48) (AG 0 (AB 11))
(cG (AB 46) true (AC 49) (AG 2 (AB 48))
(cG (AB 46) true (AC 50) (AK (AB 49))
(cG (AB 46) true (AC 51) (AD (AB 3))
(cG (AB 46) true (AC 52) (AW iLe .i64 (AB 50) (AB 51))
(AE (AC 53) (Aj (AB 46) (AB 52) (kV (.bool false)))
(AS (AB 53)
(AE (AC 56) (AM 68 [(AB 0),(AB 10)])
(AE (AC 12) (AD (AB 56))
(AE (AC 58) (AW iNe .i64 (AB 12) (kV (.int .i64 0)))
(AS (AB 58)
(AE (AC 8) (AD (AB 12))
Ad)
AX))))
AX)))))))))))))))))))))))))
(AE (AC 27) (Bf Int.sub .i64 (AB 10) (kV (.int .i64 1)))
(AE (AC 10) (AD (AB 27))
AX)))
(BK 0)))
def dpE:C:=(AE (AC 8) (AD (kV (.int .i64 0)))
Ad)
theorem jb:dpS=A2 (AY 0 (Az dpL)) dpE:=rfl
theorem jR:d30=aF:=rfl
section
variable {F:CallF}{e:Env}{h h':Hp}{A:At}{T M:List Nat}{c0 bad m k p n:Nat}{arm:Int}{ks:List Kt}{fr:List Nat}{lv fv:Value}
theorem Oq(W:h.Wf)(s:Sl h A T M c0 arm ks fr lv fv bad false){a b c z:Int}(hz:Js ks a b c=some z):
  ∃ h',call AF (m+8) 12 [pt A.bs,.int .i64 a,.int .i64 b,.int .i64 c] h=.ok (.int .i64 z) h'∧h.Ext h':=by
 have hkl:=s.le.1
 have c00:iNe 0 0=false:=CT rfl
 have k0:=MJ (m:=m+6) s.row
 obtain⟨h1,k1,x1⟩:=HI (m:=m+4) W s.row s.ls.ks (by omega) a b c
 have s1:=s.ext W x1
 obtain⟨_,_,_,l3,_⟩:=BC s1.row
 obtain⟨h2,k2,x2⟩:=Fw (m:=m+3) x1.wf s1.row s1.ls.ks (by omega) a b c
 have x12:=x1.trans x2
 unfold Js at hz
 rcases EE (CG a b c) ks 0 with ⟨e1,e2⟩|⟨j,kx,e1,e2,e3⟩
 ·rw[e1]at hz
  rw[e2]at k1
  have c1:iGe (-1) 0=false:=Ez (by omega)
  have c2:iLt (-1) 0=true:=Jy (by omega)
  simp only at hz
  cases hst:Cg a b c ks with
  |true=>
   rw[hst]at hz k2
   rw[if_pos rfl]at hz
   cases hz
   refine⟨h2,?_,x12⟩
   rw[Ky rfl,K9]
   unfold Nf
   simp only[iN,Nat.reduceAdd,sT,Nat.reduceLT,Nat.reduceEqDiff,reduceIte,gD,cA0,k0,AO,AN,c00,k1,c1,k2,lV0]
  |false=>
   rw[hst]at hz k2
   rw[if_neg (by decide)]at hz
   cases hz
   refine⟨h2,?_,x12⟩
   rw[Ky rfl,K9]
   unfold Nf
   simp only[iN,Nat.reduceAdd,sT,Nat.reduceLT,Nat.reduceEqDiff,reduceIte,gD,cA0,k0,AO,AN,c00,k1,c1,k2,c2,lV0]
 ·rw[e1]at hz
  rw[e3,Nat.zero_add]at k1
  have hjl:=(List.getElem?_eq_some_iff.1 e2).1
  have hkm:=List.mem_of_getElem? e2
  have c1:iGe (j:Int) 0=true:=Gg (by omega)
  have c3:iLt (j:Int) 0=false:=GT (by omega)
  obtain⟨bb,_,ix,ld,lde⟩:=s1.ls.ks.at e2
  have lst:=lde 3 (.int .u8 (kx.s:Int)) rfl
  simp only at hz
  by_cases hs2:kx.s=2
  ·rw[if_pos hs2]at hz
   cases hz
   have c2:iEq (kx.s:Int) 2=true:=CM (by omega)
   refine⟨h1,?_,x1⟩
   rw[Ky rfl,K9]
   unfold Nf
   simp only[iN,Nat.reduceAdd,sT,Nat.reduceLT,Nat.reduceEqDiff,reduceIte,gD,cA0,k0,AO,AN,c00,k1,c1,Ay,Aq,AJ,AQ,Nat.zero_add,Nat.add_zero,AP,AU,l3,A8,ix,lst,c2,lV0]
  ·rw[if_neg hs2]at hz
   have c2:iEq (kx.s:Int) 2=false:=Bd (by omega)
   cases hst:Cg a b c ks with
   |true=>
    rw[hst]at hz k2
    rw[if_pos rfl]at hz
    cases hz
    refine⟨h2,?_,x12⟩
    rw[Ky rfl,K9]
    unfold Nf
    simp only[iN,Nat.reduceAdd,sT,Nat.reduceLT,Nat.reduceEqDiff,reduceIte,gD,cA0,k0,AO,AN,c00,k1,c1,Ay,Aq,AJ,AQ,Nat.zero_add,Nat.add_zero,AP,AU,l3,A8,ix,lst,c2,k2,lV0]
   |false=>
    rw[hst]at hz
    rw[if_neg (by decide)]at hz
    cases hz
theorem Wl(W:h.Wf)(s:Sl h A T M c0 arm ks fr lv fv bad false){a b c:Int}(hkl:fr.length+ks.length≤11)(hp3:∀ k∈ks,3 * k.p+3≤A.n)(hnd:(ks.map (·.p)).Nodup)(ha:Bu arm (k+20)):
  (∃ z h',Js ks a b c=some z∧call AF (m+8) 12 [pt A.bs,.int .i64 a,.int .i64 b,.int .i64 c] h=.ok (.int .i64 z) h'∧h.Ext h')∨
  (Js ks a b c=none∧∃ j kx h' c1 arm' lv' fv',ks[j]? =some kx∧(kx.a=a∧kx.b=b∧kx.c=c)∧kx.s=1∧ks.find? (CG a b c)=some kx∧Cg a b c ks=false∧call AF (m+8) 12 [pt A.bs,.int .i64 a,.int .i64 b,.int .i64 c] h=.ok (.int .i64 0) h'∧Fx A.D h h'∧
   Sl h' A T (Qp (Mc M kx.p (Cn T a b c 2 kx.l)) (((ks.set j {kx with s:=2}).filter (elB a b c)).map (·.p))) c1 arm' ((ks.set j {kx with s:=2}).filter fun k=> !elB a b c k) (frE fr ((ks.set j {kx with s:=2}).filter (elB a b c))) lv' fv' bad false∧Bu arm' k):=by
 cases hz:Js ks a b c with
 |some z=>
  obtain⟨h',k1,x1⟩:=Oq (m:=m) W s hz
  exact .inl ⟨z,h',rfl,k1,x1⟩
 |none=>
  right
  unfold Js at hz
  rcases EE (CG a b c) ks 0 with ⟨e1,e2⟩|⟨j,kx,e1,e2,e3⟩
  ·rw[e1]at hz
   simp only at hz
   split at hz<;>cases hz
  rw[e1]at hz
  simp only at hz
  split at hz
  ·cases hz
  rename_i hs2
  split at hz
  ·cases hz
  rename_i hst
  have hst':Cg a b c ks=false:=by
   cases hq:Cg a b c ks
   ·rfl
   ·exact absurd hq hst
  have hkm:=List.mem_of_getElem? e2
  have hs1:kx.s=1:=(s.ko kx hkm).2.2.2.1.resolve_right hs2
  have habc:=JR (List.find?_some e1)
  rw[Nat.zero_add]at e3
  obtain⟨h12,c9,arm9,w10,e2',r1,u0,u1,u2,u3,u15,u16,fx12,s12,a9⟩:=Wn (m:=m) (k:=k+15) W s e2 hs1 e3 habc hst' (hp3 kx hkm) s.le.1 (ha.le (by omega))
  have sm:(ks.set j {kx with s:=2}).map (·.p)=ks.map (·.p):=by
   rw[List.map_set];exact MD (by rw[List.getElem?_map,e2];rfl)
  have hp3':∀ x∈ks.set j {kx with s:=2},3 * x.p+3≤A.n:=fun x hx=>by
   rcases List.mem_or_eq_of_mem_set hx with h1|h1
   ·exact hp3 x h1
   ·rw[h1];exact hp3 kx hkm
  have hsl:(ks.set j {kx with s:=2}).length=ks.length:=List.length_set
  generalize hX:ks.set j {kx with s:=2}=ksX at *
  obtain⟨e3',h13,lv3,fv3,w,r2,f13,v0,v15,ow,s13⟩:=Wk (m:=m) (a:=a) (b:=b) (c:=c) fx12.wf s12 (by omega) hp3' u0 u1 u2 u3 u15 u16
  have hfl:(ksX.filter (elB a b c)).length≤ksX.length:=List.length_filter_le _ _
  have hos:((ksX.filter (elB a b c)).map (·.p)).Nodup:=List.Pairwise.sublist (List.filter_sublist.map _) (sm ▸ hnd)
  have hol:((ksX.filter (elB a b c)).map (·.p)).length≤11:=by rw[List.length_map];omega
  obtain⟨h14,c14,arm14,k14,f14,s14,a14⟩:=Jj (m:=m+1) (k:=k) f13.wf s13 (ps:=(ksX.filter (elB a b c)).map fun x:Kt=>x.p) (pv:=w) ow.vals (fun p hp=>by
   obtain⟨x,hx,rfl⟩:=List.mem_map.1 hp
   exact hp3' x ((List.mem_filter.1 hx).1)) hos (by omega) (a9.le (by omega))
  have k14':call AF (m+7) 53 [pt A.bs,w] h13=.ok (.int .i64 0) h14:=k14
  refine⟨rfl,j,kx,h14,c14,arm14,lv3,fv3,e2,habc,hs1,e1,hst',?_,(fx12.trans (f13.mono fun b hb=>.inl hb)).trans (f14.mono fun b hb=>.inr hb),by rw[hX];exact s14,a14⟩
  rw[Ky rfl,K9,r1,jI]
  simp only[BP,A1,r2,A5,BJ]
  unfold cmE
  simp only[sT,Nat.reduceLT,Nat.reduceEqDiff,reduceIte,cA0,v0,v15,k14',lV0]
def abE(ks:List Kt)(a b c:Int):Option Int:=if Cg a b c ks=true then some 61 else match ks.find? (CG a b c)with
 |some _=>none
 |none=>some 0
theorem V8(W:h.Wf)(s:Sl h A T M c0 arm ks fr lv fv bad false){a b c z:Int}(hz:abE ks a b c=some z):
  ∃ h',call AF (m+9) 29 [pt A.bs,.int .i64 a,.int .i64 b,.int .i64 c] h=.ok (.int .i64 z) h'∧h.Ext h':=by
 have hkl':=s.le.1
 have c00:iNe 0 0=false:=CT rfl
 have k0:=MJ (m:=m+7) s.row
 obtain⟨h1,k1,x1⟩:=HI (m:=m+5) W s.row s.ls.ks (by omega) a b c
 have s1:=s.ext W x1
 obtain⟨h2,k2,x2⟩:=Fw (m:=m+4) x1.wf s1.row s1.ls.ks (by omega) a b c
 have x12:=x1.trans x2
 unfold abE at hz
 cases hst:Cg a b c ks with
 |true=>
  rw[hst]at k2 hz
  rw[if_pos rfl]at hz
  cases hz
  refine⟨h2,?_,x12⟩
  rw[Q8 rfl]
  unfold d29
  simp only[iN,Nat.reduceAdd,sT,Nat.reduceLT,Nat.reduceEqDiff,reduceIte,gD,cA0,k0,AO,AN,c00,k1,k2,lV0]
 |false=>
  rw[hst]at k2 hz
  rw[if_neg (by decide)]at hz
  rcases EE (CG a b c) ks 0 with ⟨e1,e2⟩|⟨j,kx,e1,e2,e3⟩
  ·rw[e2]at k1
   rw[e1]at hz
   cases hz
   have c2:iLt (-1) 0=true:=Jy (by omega)
   refine⟨h2,?_,x12⟩
   rw[Q8 rfl]
   unfold d29
   simp only[iN,Nat.reduceAdd,sT,Nat.reduceLT,Nat.reduceEqDiff,reduceIte,gD,cA0,k0,AO,AN,c00,k1,k2,c2,lV0]
  ·rw[e1]at hz
   cases hz
theorem UO(W:h.Wf)(s:Sl h A T M c0 arm ks fr lv fv bad false){a b c:Int}(hkl:fr.length+ks.length≤11)(hp3:∀ k∈ks,3 * k.p+3≤A.n)(ha:Bu arm (k+2)):
  (∃ z h',abE ks a b c=some z∧call AF (m+9) 29 [pt A.bs,.int .i64 a,.int .i64 b,.int .i64 c] h=.ok (.int .i64 z) h'∧h.Ext h')∨
  (abE ks a b c=none∧∃ j kx h' c1 arm' lv' fv',ks[j]? =some kx∧(kx.a=a∧kx.b=b∧kx.c=c)∧ks.find? (CG a b c)=some kx∧Cg a b c ks=false∧call AF (m+9) 29 [pt A.bs,.int .i64 a,.int .i64 b,.int .i64 c] h=.ok (.int .i64 0) h'∧Fx A.D h h'∧
   Sl h' A T (Qp M [kx.p]) c1 arm' (ks.take j++ks.drop (j+1)) (D6 (fr++[kx.p])) lv' fv' bad false∧Bu arm' k):=by
 cases hz:abE ks a b c with
 |some z=>
  obtain⟨h',k1,x1⟩:=V8 (m:=m) W s hz
  exact .inl ⟨z,h',rfl,k1,x1⟩
 |none=>
  have hkl':=s.le.1
  have c00:iNe 0 0=false:=CT rfl
  have k0:=MJ (m:=m+7) s.row
  obtain⟨h1,k1,x1⟩:=HI (m:=m+5) W s.row s.ls.ks (by omega) a b c
  have s1:=s.ext W x1
  obtain⟨h2,k2,x2⟩:=Fw (m:=m+4) x1.wf s1.row s1.ls.ks (by omega) a b c
  have x12:=x1.trans x2
  unfold abE at hz
  cases hst:Cg a b c ks with
  |true=>
   rw[hst]at hz
   rw[if_pos rfl]at hz
   cases hz
  |false=>
   rw[hst]at k2 hz
   rw[if_neg (by decide)]at hz
   rcases EE (CG a b c) ks 0 with ⟨e1,e2⟩|⟨j,kx,e1,e2,e3⟩
   ·rw[e1]at hz
    cases hz
   ·rw[e3,Nat.zero_add]at k1
    have c2:iLt (j:Int) 0=false:=GT (by omega)
    have hkm:=List.mem_of_getElem? e2
    have habc:=JR (List.find?_some e1)
    obtain⟨q1,q2⟩:=Tg e2
    have s2:=s.ext W x12
    have s2':Sl h2 A T M c0 arm (ks.take j++kx::ks.drop (j+1)) fr lv fv bad false:=by rw[← q1];exact s2
    obtain⟨h3,c1,arm',lv',fv',k3,f3,s3,a3⟩:=YV (m:=m) (k:=k) x12.wf s2' (by rw[← q1];omega) (by omega) (hp3 kx hkm) ha
    rw[q2]at k3
    have k3':call AF (m+8) 68 [pt A.bs,.int .i64 (j:Int)] h2=.ok (.int .i64 0) h3:=k3
    refine .inr ⟨rfl,j,kx,h3,c1,arm',lv',fv',e2,habc,e1,rfl,?_,(Fx.of x12).trans f3,s3,a3⟩
    rw[Q8 rfl]
    unfold d29
    simp only[iN,Nat.reduceAdd,sT,Nat.reduceLT,Nat.reduceEqDiff,reduceIte,gD,cA0,k0,AO,AN,c00,k1,k2,c2,k3',lV0]
def drB(a b c:Int)(k:Kt):Bool:=decide (k.a=a) && decide (k.b=b) && decide (k.c≤c)
def Jt(M:List Nat)(out:List Kt):List Nat:=out.foldl (fun M x=>Qp M [x.p]) M
theorem RJ(M:List Nat)(out:List Kt)(x:Kt):Jt M (out++[x])=Qp (Jt M out) [x.p]:=by unfold Jt;rw[List.foldl_append];rfl
def drO(a b c:Int)(ks:List Kt):List Kt:=(ks.filter (drB a b c)).reverse
theorem XE(a b c:Int)(x:Kt)(ks:List Kt):drO a b c (x::ks)=if drB a b c x=true then drO a b c ks++[x]else drO a b c ks:=by
 unfold drO
 cases h:drB a b c x
 ·rw[if_neg (by decide),List.filter_cons_of_neg (by rw[h];decide)]
 ·rw[if_pos rfl,List.filter_cons_of_pos h,List.reverse_cons]
theorem aX(a b c:Int)(x:Kt)(ks:List Kt):(drO a b c (ks++[x])).length=(drO a b c ks).length+if drB a b c x=true then 1 else 0:=by
 unfold drO
 rw[List.length_reverse,List.length_reverse,LL]
 split
 ·rw[List.length_append];rfl
 ·rfl
theorem Un{a b c:Int}(W:h.Wf)(s:Sl h A T M c0 arm ks fr lv fv bad false)(hkl:fr.length+ks.length≤11)(hp3:∀ k∈ks,3 * k.p+3≤A.n)(ha:Bu arm (k+2 * (drO a b c ks).length))(s0:AB 0 e=pt A.bs)(s1:AB 1 e=.int .i64 a)(s2:AB 2 e=.int .i64 b)(s3:AB 3 e=.int .i64 c)(s10:AB 10 e=.int .i64 ((ks.length:Int) - 1)):
  ∃ e' h' c1 arm' lv' fv',Az dpL (call AF (m+8)) e h=.exit 0 e' h'∧Fx A.D h h'∧Sl h' A T (Jt M (drO a b c ks)) c1 arm' (ks.filter fun k=> !drB a b c k) (frE fr (drO a b c ks)) lv' fv' bad false∧Bu arm' k:=by
 refine Be (I:=fun t e' h'=>∃ i c1 arm' lv' fv',i+t=ks.length∧Fx A.D h h'∧AB 0 e'=pt A.bs∧AB 1 e'=.int .i64 a∧AB 2 e'=.int .i64 b∧AB 3 e'=.int .i64 c∧AB 10 e'=.int .i64 ((i:Int) - 1)∧
   Sl h' A T (Jt M (drO a b c (ks.drop i))) c1 arm' (ks.take i++(ks.drop i).filter fun k=> !drB a b c k) (frE fr (drO a b c (ks.drop i))) lv' fv' bad false∧Bu arm' (k+2 * (drO a b c (ks.take i)).length))
  (Q:=fun x=>∃ e' h' c1 arm' lv' fv',x=.exit 0 e' h'∧Fx A.D h h'∧Sl h' A T (Jt M (drO a b c ks)) c1 arm' (ks.filter fun k=> !drB a b c k) (frE fr (drO a b c ks)) lv' fv' bad false∧Bu arm' k) ks.length (by omega) (fun t e' h' ⟨i,c1,arm1,lv',fv',hit,fx,t0,t1,t2,t3,t10,sl,am⟩=>?_) ⟨ks.length,c0,arm,lv,fv,rfl,.refl W,s0,s1,s2,s3,s10,by rw[List.take_length,List.drop_length,List.filter_nil,List.append_nil];exact s,by rw[List.take_length];exact ha⟩
 have W':=fx.wf
 cases i with
 |zero=>
  right
  rw[List.take_zero,List.nil_append,List.drop_zero]at sl
  have c2:iGe (((0:Nat):Int) - 1) 0=false:=Ez (by omega)
  obtain⟨e2,r1⟩:∃ e2,dpL (call AF (m+8)) e' h'=.exit 0 e2 h':=by
   unfold dpL
   simp only[sT,Nat.reduceLT,Nat.reduceEqDiff,reduceIte,AO,AN,t10,c2]
   exact⟨_,rfl⟩
  rw[r1]
  exact⟨rfl,e2,h',c1,arm1,lv',fv',rfl,fx,sl,am.le (Nat.le_add_right _ _)⟩
 |succ i=>
  left
  have hlt:i<ks.length:=by omega
  obtain⟨x,hx⟩:∃ x,ks[i]? =some x:=⟨_,List.getElem?_eq_getElem hlt⟩
  have hxm:=List.mem_of_getElem? hx
  have htk:ks.take (i+1)=ks.take i++[x]:=by rw[List.take_add_one,hx];rfl
  have hdr:ks.drop i=x::ks.drop (i+1):=by
   rw[List.drop_eq_getElem_cons hlt]
   rw[List.getElem?_eq_getElem hlt]at hx
   injection hx with hx
   rw[hx]
  have hdl:=aX a b c x (ks.take i)
  rw[← htk]at hdl
  have hPl:(ks.take i).length=i:=by rw[List.length_take];omega
  have hdo:=XE a b c x (ks.drop (i+1))
  rw[← hdr]at hdo
  have hol:(drO a b c (ks.drop (i+1))).length≤ks.length - (i+1):=by
   unfold drO
   rw[List.length_reverse,← List.length_drop]
   exact List.length_filter_le _ _
  have hRl:((ks.drop (i+1)).filter fun k=> !drB a b c k).length≤ks.length - (i+1):=by
   rw[← List.length_drop];exact List.length_filter_le _ _
  have hfi:(ks.drop i).filter (fun k=> !drB a b c k)=if drB a b c x=true then(ks.drop (i+1)).filter (fun k=> !drB a b c k)else x::(ks.drop (i+1)).filter (fun k=> !drB a b c k):=by
   rw[hdr]
   cases h:drB a b c x
   ·rw[if_neg (by decide),List.filter_cons_of_pos (by rw[h];rfl)]
   ·rw[if_pos rfl,List.filter_cons_of_neg (by rw[h];decide)]
  generalize hP:ks.take i=P at *
  generalize hR:(ks.drop (i+1)).filter (fun k=> !drB a b c k)=R at *
  generalize hO:drO a b c (ks.drop (i+1))=O at *
  rw[htk,List.append_assoc]at sl
  have sl:Sl h' A T (Jt M O) c1 arm1 (P++x::R) (frE fr O) lv' fv' bad false:=sl
  have hle:(P++x::R).length=i+1+R.length:=by rw[List.length_append,List.length_cons,hPl];omega
  obtain⟨_,_,_,l3,_⟩:=BC sl.row
  have t10:AB 10 e'=.int .i64 (i:Int):=by rw[t10,show((i+1:Nat):Int) - 1=(i:Int)by omega]
  have c2:iGe (i:Int) 0=true:=Gg (by omega)
  obtain⟨b',_,ix,ld,_⟩:=sl.ls.at (i:=P.length) (k:=x) FS
  rw[hPl]at ix ld
  have al:=fun (F:CallF) (e:Env)=>B7 (F:=F) (e:=e) W' (n:=6) (t:=C5)
  have Ra:=Hp.Row.alloc W' GO (show(Ab K0).length=6 from rfl)
  have y1:h'.Ext (h'.push (.cells C5 6 0)):=(Hp.Ext.refl W').push _
  generalize h'.push (.cells C5 6 0)=h1 at al Ra y1
  have hu:=(sl.ko x (List.mem_append_right _ List.mem_cons_self)).1.vs.one.2.1
  obtain⟨st,_,y2,R5,n2⟩:=L8 W' y1 (Nat.le_refl _) Ra rfl (k:=x) hu
  generalize h1.wr h'.next 0 (Ab x)=h2 at st y2 R5 n2
  obtain⟨m0,m1,m2,_⟩:=Bx R5
  have sl2:=sl.ext W' y2
  have sb:=fun (g:Hp)=>oe (i:=i) (g:=g) (by omega)
  cases hel:drB a b c x with
  |false=>
   rw[if_neg (by rw[hel];decide)]at hdo hfi
   have hrun:∃ e2,dpL (call AF (m+8)) e' h'=.norm e2 h2∧AB 0 e2=pt A.bs∧AB 1 e2=.int .i64 a∧AB 2 e2=.int .i64 b∧AB 3 e2=.int .i64 c∧AB 10 e2=.int .i64 ((i:Int) - 1):=by
    unfold dpL
    by_cases h1:x.a=a
    ·have d1:iEq x.a a=true:=CM h1
     by_cases h2:x.b=b
     ·have d2:iEq x.b b=true:=CM h2
      have d3:iLe x.c c=false:=PP (fun h3=>by
       unfold drB at hel
       rw[decide_eq_true h1,decide_eq_true h2,decide_eq_true h3]at hel
       cases hel)
      simp only[sT,Nat.reduceLT,Nat.reduceEqDiff,reduceIte,gD,Ay,t0,Aq,AJ,AQ,Nat.zero_add,AP,AU,l3,AO,AN,t10,c2,A8,ix,Aw,Av,ld,al,Ao,st,m0,m1,m2,t1,t2,t3,d1,d2,d3,Bz,sb]
      exact⟨_,rfl,by simp[AH,t0,t1,t2,t3]⟩
     ·have d2:iEq x.b b=false:=Bd h2
      simp only[sT,Nat.reduceLT,Nat.reduceEqDiff,reduceIte,gD,Ay,t0,Aq,AJ,AQ,Nat.zero_add,AP,AU,l3,AO,AN,t10,c2,A8,ix,Aw,Av,ld,al,Ao,st,m0,m1,m2,t1,t2,t3,d1,d2,Bz,sb]
      exact⟨_,rfl,by simp[AH,t0,t1,t2,t3]⟩
    ·have d1:iEq x.a a=false:=Bd h1
     simp only[sT,Nat.reduceLT,Nat.reduceEqDiff,reduceIte,gD,Ay,t0,Aq,AJ,AQ,Nat.zero_add,AP,AU,l3,AO,AN,t10,c2,A8,ix,Aw,Av,ld,al,Ao,st,m0,m1,m2,t1,t2,t3,d1,Bz,sb]
     exact⟨_,rfl,by simp[AH,t0,t1,t2,t3]⟩
   obtain⟨e2,r1,r2,r3,r4,r5,r6⟩:=hrun
   refine⟨by omega,e2,h2,r1,i,c1,arm1,lv',fv',by omega,fx.trans (.of y2),r2,r3,r4,r5,r6,?_,am.le (by rw[hdl,hP];omega)⟩
   rw[hdo,hfi,hP];exact sl2
  |true=>
   rw[if_pos hel]at hdo hfi
   have hxx:x.a=a∧x.b=b∧x.c≤c:=by
    unfold drB at hel
    rw[Bool.and_eq_true,Bool.and_eq_true]at hel
    exact⟨of_decide_eq_true hel.1.1,of_decide_eq_true hel.1.2,of_decide_eq_true hel.2⟩
   have d1:iEq x.a a=true:=CM hxx.1
   have d2:iEq x.b b=true:=CM hxx.2.1
   have d3:iLe x.c c=true:=Jx hxx.2.2
   have c00:iNe 0 0=false:=CT rfl
   have hfl:=S8 fr O
   obtain⟨h3,c3,arm3,lv3,fv3,k3,f3,s3',a3⟩:=YV (m:=m) (k:=k+2 * (drO a b c P).length) y2.wf sl2 (by omega) (by omega) (hp3 x hxm) (am.le (by rw[hdl,if_pos hel];omega))
   rw[hPl]at k3
   have k3':call AF (m+8) 68 [pt A.bs,.int .i64 (i:Int)] h2=.ok (.int .i64 0) h3:=k3
   have hrun:∃ e2,dpL (call AF (m+8)) e' h'=.norm e2 h3∧AB 0 e2=pt A.bs∧AB 1 e2=.int .i64 a∧AB 2 e2=.int .i64 b∧AB 3 e2=.int .i64 c∧AB 10 e2=.int .i64 ((i:Int) - 1):=by
    unfold dpL
    simp only[sT,Nat.reduceLT,Nat.reduceEqDiff,reduceIte,gD,Ay,t0,Aq,AJ,AQ,Nat.zero_add,AP,AU,l3,AO,AN,t10,c2,A8,ix,Aw,Av,ld,al,Ao,st,m0,m1,m2,t1,t2,t3,d1,d2,d3,cA0,k3',c00,Bz,sb]
    exact⟨_,rfl,by simp[AH,t0,t1,t2,t3]⟩
   obtain⟨e2,r1,r2,r3,r4,r5,r6⟩:=hrun
   refine⟨by omega,e2,h3,r1,i,c3,arm3,lv3,fv3,by omega,(fx.trans (.of y2)).trans f3,r2,r3,r4,r5,r6,?_,by rw[hP];exact a3⟩
   rw[hdo,hfi,hP,RJ,PK];exact s3'
theorem O0(W:h.Wf)(s:Sl h A T M c0 arm ks fr lv fv bad false)(a b c:Int)(hkl:fr.length+ks.length≤11)(hp3:∀ k∈ks,3 * k.p+3≤A.n)(ha:Bu arm (k+2 * (drO a b c ks).length)):
  ∃ h' c1 arm' lv' fv',call AF (m+9) 30 [pt A.bs,.int .i64 a,.int .i64 b,.int .i64 c] h=.ok (.int .i64 0) h'∧Fx A.D h h'∧Sl h' A T (Jt M (drO a b c ks)) c1 arm' (ks.filter fun k=> !drB a b c k) (frE fr (drO a b c ks)) lv' fv' bad false∧Bu arm' k:=by
 have c00:iNe 0 0=false:=CT rfl
 have k0:=MJ (m:=m+7) s.row
 obtain⟨_,_,_,l3,_⟩:=BC s.row
 have ln:=s.ls.len h
 have sb:=oe (i:=ks.length) (g:=h) (by omega)
 have pre:∃ e1,aF (call AF (m+8)) (AV e0 0 [pt A.bs,.int .i64 a,.int .i64 b,.int .i64 c]) h=dpS (call AF (m+8)) e1 h∧AB 0 e1=pt A.bs∧AB 1 e1=.int .i64 a∧AB 2 e1=.int .i64 b∧AB 3 e1=.int .i64 c∧AB 10 e1=.int .i64 ((ks.length:Int) - 1):=by
  unfold aF
  simp only[iN,Nat.reduceAdd,sT,Nat.reduceLT,Nat.reduceEqDiff,reduceIte,gD,cA0,k0,AO,AN,c00,Ay,Aq,AJ,AQ,Nat.zero_add,AP,AU,l3,Am,ln,Bz,sb]
  exact⟨_,rfl,by simp[AH]⟩
 obtain⟨e1,p1,t0,t1,t2,t3,t10⟩:=pre
 obtain⟨e2,h2,c1,arm',lv',fv',r2,f2,s2,a2⟩:=Un (m:=m) (k:=k) W s hkl hp3 ha t0 t1 t2 t3 t10
 refine⟨h2,c1,arm',lv',fv',?_,f2,s2,a2⟩
 rw[iA rfl,jR,p1,jb]
 simp only[BP,A1,r2,A5,BJ]
 unfold dpE
 simp only[sT,Nat.reduceLT,Nat.reduceEqDiff,reduceIte,lV0]
end
end
end Go.Proofs.YtedbmmfebjfibaaGreat
